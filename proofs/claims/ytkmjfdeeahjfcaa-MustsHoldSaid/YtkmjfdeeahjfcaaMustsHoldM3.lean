/- Texts on the way to MustsHold, part 3: one behind another. -/
import Derived.Test.YtkmjfdeeahjfcaaMustsHoldM2
import Derived.Laws.RangeString
import Derived.Laws.Runes
import Derived.Scope
set_option linter.unusedVariables false
set_option linter.unusedSimpArgs false
/- Plain laws of trees: sorted lists, balance. -/
namespace Go.V
structure Ordr {K : Type} (c : K → K → Int) : Prop where
  anti : ∀ a b, c a b < 0 ↔ 0 < c b a
  trans : ∀ {a b d}, c a b < 0 → c b d < 0 → c a d < 0
  eql : ∀ {a b} (d), c a b = 0 → (c a d < 0 ↔ c b d < 0)
namespace Ordr
variable {K : Type} {c : K → K → Int}
theorem refl (h : Ordr c) (a : K) : c a a = 0 := by
  have := h.anti a a
  omega
theorem symm (h : Ordr c) {a b : K} (e : c a b = 0) : c b a = 0 := by
  have := h.anti a b
  have := h.anti b a
  omega
end Ordr
namespace Tr
variable {K V : Type} (c : K → K → Int)
def Srt (l : List (K × V)) : Prop := l.Pairwise fun x y => c x.1 y.1 < 0
def putS (k : K) (v : V) : List (K × V) → List (K × V)
  | [] => [(k, v)]
  | y :: l => if c k y.1 < 0 then (k, v) :: y :: l else if c k y.1 > 0 then y :: putS k v l else (y.1, v) :: l
def dropS (k : K) : List (K × V) → List (K × V)
  | [] => []
  | y :: l => if c k y.1 < 0 then y :: l else if c k y.1 > 0 then y :: dropS k l else l
def getS (k : K) : List (K × V) → Option V
  | [] => none
  | y :: l => if c k y.1 = 0 then some y.2 else getS k l
variable {c} (h : Ordr c)
include h
theorem putS_append {k : K} {v : V} : ∀ {l1 l2 : List (K × V)} {y : K × V}, (∀ x ∈ l1, c x.1 y.1 < 0) →
    putS c k v (l1 ++ y :: l2) = if c k y.1 < 0 then putS c k v l1 ++ y :: l2 else if c k y.1 > 0 then l1 ++ y :: putS c k v l2 else l1 ++ (y.1, v) :: l2
  | [], l2, y, _ => by simp only [List.nil_append, putS]; split <;> simp
  | x :: l1, l2, y, hl => by
    have ih := putS_append (k := k) (v := v) (l1 := l1) (l2 := l2) (y := y) fun z hz => hl z (List.mem_cons_of_mem _ hz)
    have hx := hl x (List.mem_cons_self ..)
    simp only [List.cons_append, putS]
    by_cases h1 : c k x.1 < 0
    · have : c k y.1 < 0 := h.trans h1 hx
      rw [if_pos h1, if_pos this, if_pos h1]; rfl
    · rw [if_neg h1]
      by_cases h2 : c k x.1 > 0
      · rw [if_pos h2, ih, if_neg h1, if_pos h2]
        split
        · rfl
        · split <;> rfl
      · have h0 : c k x.1 = 0 := by omega
        have : c k y.1 < 0 := (h.eql _ h0).2 hx
        rw [if_neg h2, if_pos this, if_neg h1, if_neg h2]; rfl
theorem dropS_append {k : K} : ∀ {l1 l2 : List (K × V)} {y : K × V}, (∀ x ∈ l1, c x.1 y.1 < 0) →
    dropS c k (l1 ++ y :: l2) = if c k y.1 < 0 then dropS c k l1 ++ y :: l2 else if c k y.1 > 0 then l1 ++ y :: dropS c k l2 else l1 ++ l2
  | [], l2, y, _ => by simp only [List.nil_append, dropS]
  | x :: l1, l2, y, hl => by
    have ih := dropS_append (k := k) (l1 := l1) (l2 := l2) (y := y) fun z hz => hl z (List.mem_cons_of_mem _ hz)
    have hx := hl x (List.mem_cons_self ..)
    simp only [List.cons_append, dropS]
    by_cases h1 : c k x.1 < 0
    · have : c k y.1 < 0 := h.trans h1 hx
      rw [if_pos h1, if_pos this, if_pos h1]; rfl
    · rw [if_neg h1]
      by_cases h2 : c k x.1 > 0
      · rw [if_pos h2, ih, if_neg h1, if_pos h2]
        split
        · rfl
        · split <;> rfl
      · have h0 : c k x.1 = 0 := by omega
        have : c k y.1 < 0 := (h.eql _ h0).2 hx
        rw [if_neg h2, if_pos this, if_neg h1, if_neg h2]
omit h in
theorem srt_split {l1 l2 : List (K × V)} {y : K × V} (hs : Srt c (l1 ++ y :: l2)) : Srt c l1 ∧ Srt c l2 ∧ (∀ x ∈ l1, c x.1 y.1 < 0) ∧ (∀ x ∈ l2, c y.1 x.1 < 0) := by
  have h1 := List.pairwise_append.1 hs
  have h2 := List.pairwise_cons.1 h1.2.1
  exact ⟨h1.1, h2.2, fun x hx => h1.2.2 x hx y (List.mem_cons_self ..), h2.1⟩
theorem list_put (k : K) (v : V) : ∀ {t : Tr K V}, Srt c (list t) → list (put c k v t) = putS c k v (list t)
  | nil, _ => rfl
  | node nk nv l r, hs => by
    obtain ⟨hl, hr, hx, _⟩ := srt_split (y := (nk, nv)) hs
    simp only [list, put]
    rw [putS_append h hx]
    split
    · rw [list_bal, list_put k v hl]
    · split
      · rw [list_bal, list_put k v hr]
      · rfl
theorem list_drop (k : K) : ∀ {t : Tr K V}, Srt c (list t) → list (if (drop c k t).2 = true then (drop c k t).1 else t) = dropS c k (list t) ∧ ((drop c k t).2 = false → (drop c k t).1 = t ∨ list (drop c k t).1 = list t) ∧ ((drop c k t).2 = true → list (drop c k t).1 = dropS c k (list t)) ∧ ((drop c k t).2 = false → dropS c k (list t) = list t)
  | nil, _ => ⟨rfl, fun _ => .inl rfl, fun h => (by cases h), fun _ => rfl⟩
  | node nk nv l r, hs => by
    obtain ⟨hl, hr, hx, _⟩ := srt_split (y := (nk, nv)) hs
    have il := list_drop k hl
    have ir := list_drop k hr
    have key : ((drop c k (node nk nv l r)).2 = true → list (drop c k (node nk nv l r)).1 = dropS c k (list (node nk nv l r))) ∧ ((drop c k (node nk nv l r)).2 = false → dropS c k (list (node nk nv l r)) = list (node nk nv l r) ∧ list (drop c k (node nk nv l r)).1 = list (node nk nv l r)) := by
      simp only [list, drop]
      rw [dropS_append h hx]
      split
      · refine ⟨fun ht => ?_, fun hf => ?_⟩
        · dsimp only at ht ⊢; rw [list_bal, il.2.2.1 ht]
        · dsimp only at hf ⊢
          have e := il.2.2.2 hf
          refine ⟨by rw [e], ?_⟩
          rw [list_bal]
          rcases il.2.1 hf with e1 | e1 <;> rw [e1]
      · split
        · refine ⟨fun ht => ?_, fun hf => ?_⟩
          · dsimp only at ht ⊢; rw [list_bal, ir.2.2.1 ht]
          · dsimp only at hf ⊢
            have e := ir.2.2.2 hf
            refine ⟨by rw [e], ?_⟩
            rw [list_bal]
            rcases ir.2.1 hf with e1 | e1 <;> rw [e1]
        · cases r with
          | nil => exact ⟨fun _ => by simp [list], fun hf => by cases hf⟩
          | node rk rv rl rr =>
            refine ⟨fun _ => ?_, fun hf => by cases hf⟩
            dsimp only
            rw [list_bal]
            have := list_first rk rv rl rr
            rw [show ((first rk rv rl rr).1.1, (first rk rv rl rr).1.2) = (first rk rv rl rr).1 from rfl, this]
            rfl
    refine ⟨?_, fun hf => .inr (key.2 hf).2, key.1, fun hf => (key.2 hf).1⟩
    split
    · rename_i ht; exact key.1 ht
    · rename_i ht
      have hf : (drop c k (node nk nv l r)).2 = false := by simpa using ht
      exact (key.2 hf).1.symm
theorem getS_append {k : K} : ∀ {l1 l2 : List (K × V)} {y : K × V}, (∀ x ∈ l1, c x.1 y.1 < 0) → (∀ x ∈ l2, c y.1 x.1 < 0) →
    getS c k (l1 ++ y :: l2) = if c k y.1 = 0 then some y.2 else if c k y.1 < 0 then getS c k l1 else getS c k l2
  | [], l2, y, _, h2 => by
    simp only [List.nil_append, getS]
    split
    · rfl
    · split
      · rename_i h1
        have : ∀ (l : List (K × V)), (∀ x ∈ l, c y.1 x.1 < 0) → getS c k l = none := by
          intro l
          induction l with
          | nil => intro _; rfl
          | cons z l ih =>
            intro hz
            have := h.trans h1 (hz z (List.mem_cons_self ..))
            simp only [getS]
            rw [if_neg (by omega)]
            exact ih fun x hx => hz x (List.mem_cons_of_mem _ hx)
        exact this l2 h2
      · rfl
  | x :: l1, l2, y, hl, h2 => by
    have ih := getS_append (k := k) (l1 := l1) (l2 := l2) (y := y) (fun z hz => hl z (List.mem_cons_of_mem _ hz)) h2
    have hx := hl x (List.mem_cons_self ..)
    simp only [List.cons_append, getS]
    by_cases h0 : c k x.1 = 0
    · have : c k y.1 < 0 := (h.eql _ h0).2 hx
      rw [if_pos h0, if_neg (by omega), if_pos this, if_pos h0]
    · rw [if_neg h0, ih, if_neg h0]
theorem get_list (k : K) : ∀ {t : Tr K V}, Srt c (list t) → get c k t = getS c k (list t)
  | nil, _ => rfl
  | node nk nv l r, hs => by
    obtain ⟨hl, hr, hx, hy⟩ := srt_split (y := (nk, nv)) hs
    simp only [list, get]
    rw [getS_append h hx hy, get_list k hl, get_list k hr]
/-! ### balance -/
end Tr
end Go.V
/- Sets of tuples (chapter 6): plain laws. -/
namespace Go.V.L6
open Go.Proofs Go.RowKit Go.V Go.V.L2 Go.V.L3
theorem ordr_of {α : Type} {c : α → α → Int} (h : Ord3 c) : Ordr c := by
  refine ⟨fun a b => ?_, fun {a b d} h1 h2 => ?_, fun {a b} d e => ?_⟩
  · have := h.anti a b; omega
  · exact h.tr h1 h2
  · rw [h.eq _ _ e]
/-- The order by subjects, and then by goals. -/
def cmpS (a b : U) : Int := cmpT (a.2, a.1) (b.2, b.1)
theorem cmpS_ord : Ord3 cmpS where
  refl a := cmpT_ord.refl _
  eq a b h := by
    have := cmpT_ord.eq _ _ h
    exact Prod.ext (congrArg Prod.snd this) (congrArg Prod.fst this)
  anti a b := cmpT_ord.anti _ _
  trans a b d := cmpT_ord.trans _ _ _
/-! ### keys of sorted lists of pairs -/
set_option linter.unusedSectionVars false
section keys
variable {α : Type} [DecidableEq α] {c : α → α → Int}
abbrev kS (L : List (α × Unit)) : List α := L.map (·.1)
theorem k_srt {L : List (α × Unit)} : Tr.Srt c L ↔ Sst c (kS L) := by unfold Tr.Srt Sst kS; rw [List.pairwise_map]
theorem k_put (h : Ord3 c) {k : α} : ∀ {L : List (α × Unit)}, k ∉ kS L → kS (Tr.putS c k () L) = insS c k (kS L)
  | [], _ => rfl
  | y :: L, hk => by
    simp only [kS, List.map_cons, List.mem_cons, not_or] at hk
    simp only [Tr.putS]
    by_cases h1 : c k y.1 < 0
    · rw [if_pos h1]
      simp [kS, insS, h1]
    · have h2 := h.tri h1 hk.1
      have h3 := h.anti k y.1
      rw [if_neg h1, if_pos (by omega)]
      have ih := k_put h (L := L) hk.2
      simp only [kS, List.map_cons, insS] at ih ⊢
      rw [if_neg h1, ih]
theorem k_drop (h : Ord3 c) {k : α} : ∀ {L : List (α × Unit)}, Sst c (kS L) → kS (Tr.dropS c k L) = (kS L).filter fun z => decide (z ≠ k)
  | [], _ => rfl
  | y :: L, hs => by
    simp only [kS, List.map_cons] at hs
    obtain ⟨hy, hs'⟩ := List.pairwise_cons.1 hs
    simp only [Tr.dropS]
    have all : ∀ {d : α}, (c k d < 0 ∨ k = d) → (∀ z ∈ kS L, c d z < 0) → (kS L).filter (fun z => decide (z ≠ k)) = kS L := fun {d} hd hz => List.filter_eq_self.2 fun z hm => by
      have h4 := hz z hm
      simp only [decide_eq_true_eq]
      intro e
      subst e
      rcases hd with hd | hd
      · exact h.asym hd h4
      · subst hd; exact h.irr _ h4
    by_cases h1 : c k y.1 < 0
    · rw [if_pos h1]
      simp only [kS, List.map_cons, List.filter_cons]
      rw [if_pos (by simpa using (h.ne h1).symm)]
      have := all (.inl h1) hy
      unfold kS at this
      rw [this]
    · rw [if_neg h1]
      by_cases h2 : c k y.1 > 0
      · rw [if_pos h2]
        have ih := k_drop h (k := k) (L := L) hs'
        simp only [kS, List.map_cons, List.filter_cons] at ih ⊢
        have hne : y.1 ≠ k := fun e => by rw [e, h.refl] at h2; omega
        rw [if_pos (by simpa using hne), ih]
      · rw [if_neg h2]
        have e := h.eq _ _ (show c k y.1 = 0 by omega)
        simp only [kS, List.map_cons, List.filter_cons]
        rw [if_neg (by simpa using e.symm)]
        have := all (.inr e) hy
        unfold kS at this
        rw [this]
theorem k_get (h : Ord3 c) {k : α} : ∀ {L : List (α × Unit)}, (k ∈ kS L → Tr.getS c k L = some ()) ∧ (k ∉ kS L → Tr.getS c k L = none)
  | [] => ⟨fun h => (by cases h), fun _ => rfl⟩
  | y :: L => by
    have ih := k_get h (k := k) (L := L)
    simp only [Tr.getS, kS, List.map_cons, List.mem_cons]
    by_cases e : k = y.1
    · subst e; rw [if_pos (h.refl _)]; exact ⟨fun _ => rfl, fun hn => absurd (.inl rfl) hn⟩
    · have : ¬ c k y.1 = 0 := fun h0 => e (h.eq _ _ h0)
      rw [if_neg this]
      exact ⟨fun hm => ih.1 (hm.resolve_left e), fun hn => ih.2 fun hm => hn (.inr hm)⟩
theorem len_drop : ∀ {l : List α} {x : α}, l.Nodup → x ∈ l → (l.filter fun z => decide (z ≠ x)).length + 1 = l.length
  | [], _, _, h => by cases h
  | y :: l, x, hn, h => by
    obtain ⟨h1, h2⟩ := List.nodup_cons.1 hn
    rw [List.filter_cons]
    by_cases e : y = x
    · subst e
      rw [if_neg (by simp)]
      have : (l.filter fun z => decide (z ≠ y)) = l := List.filter_eq_self.2 fun z hz => by
        simp only [decide_eq_true_eq]
        exact fun e => h1 (e ▸ hz)
      rw [this, List.length_cons]
    · rw [if_pos (by simpa using e), List.length_cons, List.length_cons, len_drop h2 (by
        rcases List.mem_cons.1 h with h | h
        · exact absurd h.symm e
        · exact h)]
theorem filter_out {l : List α} {x : α} (h : x ∉ l) : (l.filter fun z => decide (z ≠ x)) = l := List.filter_eq_self.2 fun z hz => by
  simp only [decide_eq_true_eq]
  exact fun e => h (e ▸ hz)
end keys
/-! ### the two trees of a set -/
structure TS (l : List U) (t u : Tr U Unit) : Prop where
  kt : kS t.list = l
  st : Sst cmpT l
  su : Sst cmpS (kS u.list)
  mu : ∀ z, z ∈ kS u.list ↔ z ∈ l
  zu : u.size = l.length
theorem cmpT_ordr : Ordr cmpT := ordr_of cmpT_ord
theorem cmpS_ordr : Ordr cmpS := ordr_of cmpS_ord
theorem ts_nil : TS [] .nil .nil := ⟨rfl, Sst.nil, Sst.nil, fun _ => Iff.rfl, rfl⟩
section ts
variable {l : List U} {t u : Tr U Unit}
theorem TS.size (h : TS l t u) : t.size = l.length := by rw [← Tr.size_list, ← h.kt]; simp
theorem TS.srt (h : TS l t u) : Tr.Srt cmpT t.list := k_srt.2 (h.kt ▸ h.st)
theorem TS.srtu (h : TS l t u) : Tr.Srt cmpS u.list := k_srt.2 h.su
theorem TS.put (h : TS l t u) {x : U} (hx : x ∉ l) : TS (insS cmpT x l) (Tr.put cmpT x () t) (Tr.put cmpS x () u) := by
  have hxt : x ∉ kS t.list := by rw [h.kt]; exact hx
  have hxu : x ∉ kS u.list := fun hm => hx ((h.mu x).1 hm)
  have e1 : kS (Tr.put cmpT x () t).list = insS cmpT x l := by
    rw [Tr.list_put cmpT_ordr x () h.srt, k_put cmpT_ord hxt, h.kt]
  have e2 : kS (Tr.put cmpS x () u).list = insS cmpS x (kS u.list) := by
    rw [Tr.list_put cmpS_ordr x () h.srtu, k_put cmpS_ord hxu]
  refine ⟨e1, sst_insS cmpT_ord h.st hx, ?_, fun z => ?_, ?_⟩
  · rw [e2]; exact sst_insS cmpS_ord h.su hxu
  · rw [e2, mem_insS, mem_insS, h.mu]
  · have := congrArg List.length e2
    simp only [kS, List.length_map, insS_length, Tr.size_list] at this
    rw [this, insS_length, h.zu]
theorem TS.drop (h : TS l t u) {x : U} (hx : x ∈ l) : TS (l.filter fun z => decide (z ≠ x)) (if (Tr.drop cmpT x t).2 = true then (Tr.drop cmpT x t).1 else t) (if (Tr.drop cmpS x u).2 = true then (Tr.drop cmpS x u).1 else u) := by
  have e1 : kS (if (Tr.drop cmpT x t).2 = true then (Tr.drop cmpT x t).1 else t).list = l.filter fun z => decide (z ≠ x) := by
    rw [(Tr.list_drop cmpT_ordr x h.srt).1, k_drop cmpT_ord (by rw [h.kt]; exact h.st), h.kt]
  have e2 : kS (if (Tr.drop cmpS x u).2 = true then (Tr.drop cmpS x u).1 else u).list = (kS u.list).filter fun z => decide (z ≠ x) := by
    rw [(Tr.list_drop cmpS_ordr x h.srtu).1, k_drop cmpS_ord h.su]
  refine ⟨e1, h.st.sublist List.filter_sublist, ?_, fun z => ?_, ?_⟩
  · rw [e2]; exact h.su.sublist List.filter_sublist
  · rw [e2, List.mem_filter, List.mem_filter, h.mu]
  · have h1 := congrArg List.length e2
    have h2 := len_drop (h.su.nodup cmpS_ord) ((h.mu x).2 hx)
    have h3 := len_drop (h.st.nodup cmpT_ord) hx
    have h4 := h.zu
    simp only [kS, List.length_map, Tr.size_list] at h1 h2
    omega
theorem TS.get (h : TS l t u) (x : U) : Tr.get cmpT x t = if x ∈ l then some () else none := by
  have hk := k_get cmpT_ord (k := x) (L := t.list)
  rw [h.kt] at hk
  rw [Tr.get_list cmpT_ordr x h.srt]
  by_cases hx : x ∈ l
  · rw [if_pos hx]; exact hk.1 hx
  · rw [if_neg hx]; exact hk.2 hx
end ts
/-! ### what a set is asked -/
/-- A set after a change: the list, and the error. -/
def withU (l : List U) (x : U) (d : Bool) : List U × Int :=
  if tE x = 0 then (if d = true then (l.filter fun z => decide (z ≠ x), 0) else if x ∈ l then (l, 0) else if l.length ≥ 4096 then ([], 3) else (insS cmpT x l, 0)) else ([], tE x)
theorem withU_sst {l : List U} (hs : Sst cmpT l) (x : U) (d : Bool) : Sst cmpT (withU l x d).1 := by
  unfold withU
  split
  · split
    · exact hs.sublist List.filter_sublist
    · split
      · exact hs
      · split
        · exact Sst.nil
        · rename_i h _; exact sst_insS cmpT_ord hs h
  · exact Sst.nil
theorem withU_len {l : List U} (hl : l.length ≤ 4096) (x : U) (d : Bool) : (withU l x d).1.length ≤ 4096 := by
  unfold withU
  split
  · split
    · exact Nat.le_trans (List.length_filter_le _ _) hl
    · split
      · exact hl
      · split
        · exact Nat.zero_le _
        · rw [insS_length]; omega
  · exact Nat.zero_le _
/-- A set of tuples, one after the other. -/
def ofU : List U → List U → List U × Int
  | l, [] => (l, 0)
  | l, x :: r => if (withU l x false).2 = 0 then ofU (withU l x false).1 r else ([], (withU l x false).2)
end Go.V.L6
/- Musts (chapter 8): plain laws. -/
namespace Go.V.L8
open Go.Proofs Go.RowKit Go.V Go.V.L2 Go.V.L3 Go.V.L6
abbrev CH := U × Bool
/-- The error of a list of musts or changes. -/
def cE (n : Nat) (l : List CH) : Int := if n < l.length then 3 else if (l.any fun c => !decide (tE c.1 = 0)) = true then 6 else 0
def holdB (s : List U) (m : CH) : Bool := decide (m.1 ∈ s) != m.2
def firstI (s : List U) : List CH → Nat → Nat × Int
  | [], i => (i, 0)
  | m :: r, i => if holdB s m = true then firstI s r (i + 1) else (i, 13)
/-- The first must that does not hold. -/
def firstR (s : List U) (l : List CH) : Nat × Int := if cE 32 l = 0 then firstI s l 0 else (0, cE 32 l)
theorem firstI_add (s : List U) : ∀ (l : List CH) (i : Nat), firstI s l i = ((firstI s l 0).1 + i, (firstI s l 0).2)
  | [], i => by simp [firstI]
  | m :: r, i => by
    by_cases h : holdB s m = true
    · have e1 : firstI s (m :: r) i = firstI s r (i + 1) := by rw [firstI, if_pos h]
      have e2 : firstI s (m :: r) 0 = firstI s r (0 + 1) := by rw [firstI, if_pos h]
      rw [e1, e2, firstI_add s r (i + 1), firstI_add s r (0 + 1)]
      exact Prod.ext (by show (firstI s r 0).1 + (i + 1) = (firstI s r 0).1 + (0 + 1) + i; omega) rfl
    · rw [firstI, firstI, if_neg h, if_neg h]; simp
theorem firstI_hit {s : List U} {l : List CH} {i : Nat} {m : CH} (h : ∀ (j : Nat) x, j < i → l[j]? = some x → holdB s x = true) (hm : l[i]? = some m) (hh : holdB s m = false) : firstI s l 0 = (i, 13) := by
  induction l generalizing i with
  | nil => simp at hm
  | cons y r ih =>
    cases i with
    | zero =>
      simp at hm; subst hm
      unfold firstI
      rw [if_neg (by rw [hh]; decide)]
    | succ i =>
      have hy := h 0 y (Nat.succ_pos _) rfl
      unfold firstI
      rw [if_pos hy, firstI_add, ih (i := i) (fun j x hj hx => h (j + 1) x (by omega) hx) (by simpa using hm)]
theorem firstI_all {s : List U} {l : List CH} (h : ∀ x ∈ l, holdB s x = true) : firstI s l 0 = (l.length, 0) := by
  induction l with
  | nil => rfl
  | cons y r ih =>
    unfold firstI
    rw [if_pos (h y (by simp)), firstI_add, ih (fun x hx => h x (by simp [hx]))]
    rfl
/-- Changes made one after the other, those that made a difference told. -/
def writeL : List U → List CH → List CH → List U × List CH × Int
  | s, made, [] => (s, made, 0)
  | s, made, c :: r => if (withU s c.1 c.2).2 = 0 then writeL (withU s c.1 c.2).1 (if decide (c.1 ∈ s) = c.2 then made ++ [c] else made) r else ([], [], (withU s c.1 c.2).2)
def writeR (s : List U) (l cs : List CH) : List U × List CH × Int :=
  if cE 32 l = 0 then (if cE 32 cs = 0 then (if (firstR s l).2 = 0 then writeL s [] cs else ([], [], (firstR s l).2)) else ([], [], cE 32 cs)) else ([], [], cE 32 l)
/-- Is the must at place i possible, those ahead of it being so? -/
def posAt (l : List CH) (i : Nat) : Bool := match l[i]? with
  | none => true
  | some m => (m.2 || decide (tE m.1 = 0)) && (l.take i).all fun p => !decide (p.1 = m.1) || p.2 == m.2
def possB (l : List CH) : Bool := (List.range l.length).all (posAt l)
theorem possB_iff (l : List CH) : possB l = true ↔ ∀ i, posAt l i = true := by
  unfold possB
  rw [List.all_eq_true]
  constructor
  · intro h i
    by_cases hi : i < l.length
    · exact h i (List.mem_range.2 hi)
    · unfold posAt
      rw [List.getElem?_eq_none (by omega)]
  · exact fun h i _ => h i
theorem possB_no {l : List CH} {i : Nat} (h : posAt l i = false) : possB l = false := by
  cases hp : possB l
  · rfl
  · rw [(possB_iff l).1 hp i] at h; cases h
theorem posAt_some {l : List CH} {i : Nat} {m : CH} (hm : l[i]? = some m) : posAt l i = true ↔ (m.2 = false → tE m.1 = 0) ∧ ∀ p ∈ l.take i, p.1 = m.1 → p.2 = m.2 := by
  unfold posAt
  rw [hm]
  dsimp only
  rw [Bool.and_eq_true, List.all_eq_true]
  constructor
  · rintro ⟨h1, h2⟩
    refine ⟨fun hf => ?_, fun p hp he => ?_⟩
    · rw [hf] at h1; simpa using h1
    · have := h2 p hp
      rw [decide_eq_true he] at this
      simpa using this
  · rintro ⟨h1, h2⟩
    refine ⟨?_, fun p hp => ?_⟩
    · cases hm2 : m.2
      · simpa using h1 hm2
      · rfl
    · by_cases he : p.1 = m.1
      · rw [decide_eq_true he, h2 p hp he]; simp
      · rw [decide_eq_false he]; rfl
/-- Musts that agree are possible: they hold in the set of what they ask for. -/
theorem poss_asked {l : List CH} (hv : ∀ m ∈ l, tE m.1 = 0) {s : List U} (hs : ∀ t, t ∈ s ↔ ∃ m ∈ l, m.1 = t ∧ m.2 = false) : possB l = true ↔ ∀ m ∈ l, holdB s m = true := by
  rw [possB_iff]
  constructor
  · intro h m hm
    have agree : ∀ p ∈ l, ∀ q ∈ l, p.1 = q.1 → p.2 = q.2 := by
      intro p hp q hq he
      obtain ⟨i, hi⟩ := List.getElem?_of_mem hp
      obtain ⟨j, hj⟩ := List.getElem?_of_mem hq
      have key : ∀ (i j : Nat) (p q : CH), l[i]? = some p → l[j]? = some q → p.1 = q.1 → i ≤ j → p.2 = q.2 := fun i j p q hi hj he hij => by
        rcases Nat.lt_or_ge i j with h1 | h1
        · refine ((posAt_some hj).1 (h j)).2 p ?_ he
          exact List.mem_of_getElem? (i := i) (by rw [List.getElem?_take_of_lt h1]; exact hi)
        · have : i = j := by omega
          subst this
          rw [hi] at hj; cases hj; rfl
      rcases Nat.le_total i j with hij | hij
      · exact key i j p q hi hj he hij
      · exact (key j i q p hj hi he.symm hij).symm
    unfold holdB
    cases hm2 : m.2
    · have : m.1 ∈ s := (hs m.1).2 ⟨m, hm, rfl, hm2⟩
      rw [decide_eq_true this]; rfl
    · have : ¬ m.1 ∈ s := fun h1 => by
        obtain ⟨q, hq, he, hf⟩ := (hs m.1).1 h1
        have := agree q hq m hm he
        rw [hf, hm2] at this; cases this
      rw [decide_eq_false this]; rfl
  · intro h i
    cases hm : l[i]? with
    | none => unfold posAt; rw [hm]
    | some m =>
      rw [posAt_some hm]
      have hml := List.mem_of_getElem? hm
      refine ⟨fun _ => hv m hml, fun p hp he => ?_⟩
      have hpl := List.mem_of_mem_take hp
      have h1 := h m hml
      have h2 := h p hpl
      unfold holdB at h1 h2
      rw [he] at h2
      revert h1 h2
      cases p.2 <;> cases m.2 <;> cases decide (m.1 ∈ s) <;> decide
end Go.V.L8
/- The kit: fields of no size. -/
namespace Go.V
open Go.RowKit
/-- A field of no size can be pointed to. -/
def fzI (P : Program) (t' st : TypeId) (off i : Nat) : Bool :=
  match P.underlying st with
  | some (.struct fs) => match fs[i]? with
    | some f => (match P.info? f.type with | some j => j.size == 0 | none => false) && (!(P.cellsOf t' == 0) && ((byteOfCell P P.depth t' (off % P.cellsOf t')).isSome && (byteOfCell P P.depth t' ((off + f.offset) % P.cellsOf t')).isSome))
    | none => false
  | _ => false
def PtrS : Value → Heap → Prop := fun v _ => ∃ a, v = .pointer (some a)
theorem PtrS.mono : Kn.mono (.sat PtrS) := fun _ _ _ h _ => h
section
variable {P : Program} {F : Fr} {B : Heap} {O : Boxes} {n : Nat} {ops : Array Oper} {κ : Kap} {d : Nat} {ty : TypeId} {pos : String} {aft : Array Edge} {g : Option (Nat × Bool)}
theorem run_byteOf {u : World} {b off k : Nat} {cs : Array Value} {e : TypeId} {fr : Nat × Nat} (h : u.heap[b]? = some (.cells cs e fr)) (hs : P.cellsOf e ≠ 0) (hb : byteOfCell P P.depth e (off % P.cellsOf e) = some k) :
    (byteOf ⟨b, off, none⟩).run P u = .ok (off / P.cellsOf e * P.bytesOf e + k) u := by
  have hsh : u.shape? b = some (e, cs.size) := by unfold World.shape?; rw [h]
  simp only [byteOf, Sem.run_bind, run_program, Result.andThen_ok, noView, viewAt, shape, Sem.run, hsh, Option.isSome_some, if_true, Sem.run_pure, Option.isSome_none, Bool.false_eq_true, if_false, Option.isSome]
  simp [hs, hb, hsh]
theorem run_fieldZ {u : World} {st t' : TypeId} {b off i : Nat} {cs : Array Value} {fr : Nat × Nat} (hz : fzI P t' st off i = true) (hb : u.heap[b]? = some (.cells cs t' fr)) :
    ∃ a, (Instr.fieldAt st (.pointer (some ⟨b, off, none⟩)) i).run P u = .ok (.pointer (some a)) u := by
  unfold fzI at hz
  split at hz
  · rename_i fs hu
    split at hz
    · rename_i f hf
      split at hz
      · rename_i j hj
        simp only [Bool.and_eq_true, beq_iff_eq, Bool.not_eq_true', beq_eq_false_iff_ne, ne_eq, Option.isSome_iff_exists] at hz
        obtain ⟨hj0, hc, ⟨k1, h1⟩, k2, h2⟩ := hz
        have r1 := run_byteOf (P := P) hb hc h1
        have r2 := run_byteOf (P := P) hb hc h2
        have hsz : (sizeOf f.type).run P u = .ok 0 u := by simp [sizeOf, typeInfo, hj, hj0]
        have hun := run_underlying (P := P) (w := u) hu
        have hfp : ∃ a, (fieldPlace ⟨b, off, none⟩ f).run P u = .ok a u := by
          simp only [fieldPlace, Sem.run_bind, hsz, Result.andThen_ok, if_true, partAt, r1, r2, Sem.run_pure]
          exact ⟨_, rfl⟩
        obtain ⟨a, ha⟩ := hfp
        refine ⟨a, ?_⟩
        simp only [Instr.fieldAt, Sem.run_bind, hun, Result.andThen_ok, hf, Instr.sureAddr, Sem.run_pure, ha]
      · simp at hz
    · cases hz
  · cases hz
theorem built_of {t : TypeId} {places : List (Nat × Nat)} {z cs : List Value} {vs : List (Nat × Value)} (hp : PL P t places z) (hc : buildL places z vs = some cs) : P.built t vs = some cs.toArray := by
  obtain ⟨zv, hz1, hz2⟩ := hp.zr
  have hpl := hp.pl
  unfold plI at hpl
  unfold zrI at hz1
  split at hz1
  · rename_i it hit
    unfold Program.built
    split at hpl
    · rename_i fs hu
      simp only [hit, hu, hz1, hpl]
      rw [cellsL_eq, hz2]
      exact fill_buildL (fun i p h => by simpa using h) vs z cs hc
    · rename_i m el hu
      split at hpl
      · rename_i ie hie
        simp only [hit, hu, hz1, hie]
        cases hpl
        rw [cellsL_eq, hz2]
        exact fill_buildL (fun i p h => by
          rw [List.getElem?_map] at h
          cases hr : (List.range m)[i]? with
          | none => rw [hr] at h; cases h
          | some j =>
            rw [hr] at h
            have : j = i := by
              have := List.getElem?_eq_some_iff.1 hr
              obtain ⟨h1, h2⟩ := this
              simpa using h2.symm
            subst this
            simpa using h) vs z cs hc
      · cases hpl
    · cases hpl
  · cases hz1
/-- The address of a field of no size, of a block that is seen. -/
theorem ok_fieldZA {t : Nat} {t' st : TypeId} {i off : Nat} {cs : List Value} (hx : κ t = some (.sat (At cs t' off))) (hn : Nat.blt d n = true) (hg : gK ops κ ⟨some d, .fieldAddr st (.tmp t) i, ty, pos, aft, g⟩ = some true)
    (hz : fzI P t' st off i = true) : StepOK P F B n ops O κ ⟨some d, .fieldAddr st (.tmp t) i, ty, pos, aft, g⟩ d (.sat PtrS) :=
  ok_pure rfl (blt_lt hn) hg PtrS.mono fun a u H fp e => by
    obtain ⟨b, hv, hb⟩ := e.sat_ t _ (by simp [Op.operands]) hx
    obtain ⟨ad, hr⟩ := run_fieldZ hz (e.sub _ _ hb)
    refine ⟨_, ?_, ad, rfl⟩
    simp only [execOp, hv, Sem.run_bind, hr, Result.andThen_ok]
    rfl
/-- .. of a block of the base. -/
theorem ok_fieldZP {x : Operand} {t' st : TypeId} {i b off : Nat} {cs : Array Value} {fr : Nat × Nat} (hb : B b = some (.cells cs t' fr)) (hx : evK κ x = some (.pointer (some ⟨b, off, none⟩))) (hn : Nat.blt d n = true) (hg : gK ops κ ⟨some d, .fieldAddr st x i, ty, pos, aft, g⟩ = some true)
    (hz : fzI P t' st off i = true) : StepOK P F B n ops O κ ⟨some d, .fieldAddr st x i, ty, pos, aft, g⟩ d (.sat PtrS) :=
  ok_pure rfl (blt_lt hn) hg PtrS.mono fun a u H fp e => by
    have hv := e.is_ x _ (by simp [Op.operands]) hx
    obtain ⟨ad, hr⟩ := run_fieldZ hz (e.sub _ _ (e.base _ _ hb))
    refine ⟨_, ?_, ad, rfl⟩
    simp only [execOp, hv, Sem.run_bind, hr, Result.andThen_ok]
    rfl
/-- A load of no size. -/
theorem ok_loadZ (L : Tabs P) {q : Nat} {t : TypeId} (hx : κ q = some (.sat PtrS)) (hn : Nat.blt d n = true) (hg : gK ops κ ⟨some d, .load t (.tmp q), ty, pos, aft, g⟩ = some true) (ht : L.ld t = some (true, 0)) :
    StepOK P F B n ops O κ ⟨some d, .load t (.tmp q), ty, pos, aft, g⟩ d (.is (.agg #[])) :=
  ok_pure rfl (blt_lt hn) hg trivial fun a u H fp e => by
    obtain ⟨ad, hv⟩ := e.sat_ q _ (by simp [Op.operands]) hx
    refine ⟨.agg #[], ?_, rfl⟩
    simp only [execOp, hv, Instr.loadAt, Instr.sureAddr, Sem.run_bind, Sem.run_pure, Result.andThen_ok]
    rw [run_loadVar_agg (Tabs.ld_spec ht) u ad [] rfl (fun j v hj => by simp at hj)]
    rfl
/-- A struct is put together of parts that are known by what they satisfy. -/
theorem ok_buildS {t : TypeId} {parts : Array (Nat × Operand)} {places : List (Nat × Nat)} {z : List Value} {ψ : Value → Heap → Prop} (hn : Nat.blt d n = true) (hg : gK ops κ ⟨some d, .build t parts, ty, pos, aft, g⟩ = some true)
    (hp : PL P t places z) (hm : Kn.mono (.sat ψ)) (h : ∀ H, B.Le H → Args κ H (parts.toList.map (·.2)) [] (fun vs => ∃ cs, buildL places z ((parts.toList.map (·.1)).zip vs) = some cs ∧ ψ (.agg cs.toArray) H)) :
    StepOK P F B n ops O κ ⟨some d, .build t parts, ty, pos, aft, g⟩ d (.sat ψ) := by
  rintro κ' a u hl ⟨H, fp, hh⟩
  unfold After
  rw [if_pos (wanted_gK hh hl hg)]
  have e := hh.env (o := ⟨some d, .build t parts, ty, pos, aft, g⟩) hl
  have hc := Args.use e (parts.toList.map (·.2)) [] (fun x hx => by
    simp only [Op.operands]
    obtain ⟨q, hq, rfl⟩ := List.mem_map.1 hx
    simp
    exact ⟨q.1, by simpa using hq⟩) (h H e.base)
  obtain ⟨cs, hb, hψ⟩ := hc
  simp only [List.reverse_nil, List.nil_append, List.map_map] at hb
  have hz : (parts.toList.map (·.1)).zip (parts.toList.map (a.eval ∘ (·.2))) = parts.toList.map fun p => (p.1, a.eval p.2) := by
    generalize parts.toList = l
    induction l with
    | nil => rfl
    | cons x l ih => simp only [List.map_cons, List.zip_cons_cons, ih]; rfl
  rw [hz] at hb
  have hbt := built_of hp hb
  have hr := run_build (P := P) u t (parts.toList.map fun p => (p.1, a.eval p.2)).toArray cs.toArray (by simpa using hbt)
  have harr : (parts.map fun (p : Nat × Operand) => (p.1, a.eval p.2)) = (parts.toList.map fun p => (p.1, a.eval p.2)).toArray := by
    rw [← List.map_toArray, Array.toArray_toList]
  have hrun : (execOp a.eval ⟨some d, .build t parts, ty, pos, aft, g⟩).run P u = .ok (.value (.agg cs.toArray)) u := by
    simp only [execOp, Sem.run_bind]
    show Result.andThen ((Instr.build t (parts.map fun (p : Nat × Operand) => (p.1, a.eval p.2))).run P u) _ = _
    rw [harr, hr]
    rfl
  rw [hrun]
  simp only [Upon]
  exact ⟨H, fp, hh.put (blt_lt hn) hm hψ⟩
end
end Go.V
/- The walks of trees at countersign/api.Tuple, struct{}: nodes, their balance. -/
namespace Go.V.UT
open Go.Proofs Go.RowKit Go.V
abbrev KT := ((ByteArray × ByteArray) × ByteArray) × ((ByteArray × ByteArray) × ByteArray)
abbrev VT := Unit
abbrev kv (k : KT) : Value := .agg #[.string k.1.1.1, .string k.1.1.2, .string k.1.2, .string k.2.1.1, .string k.2.1.2, .string k.2.2]
abbrev vv (x : VT) : Value := .agg #[]
abbrev pl (k : KT) (x : VT) : List Value := [.string k.1.1.1, .string k.1.1.2, .string k.1.2, .string k.2.1.1, .string k.2.1.2, .string k.2.2]
abbrev nl (k : KT) (x : VT) (l r : Value) (s d : Int) : List Value := [.string k.1.1.1, .string k.1.1.2, .string k.1.2, .string k.2.1.1, .string k.2.1.2, .string k.2.2] ++ [l, r, .int .i64 s, .int .i64 d]
abbrev TA (t : Tr KT VT) : Value → Heap → Prop := Tr.TreeAt nl 147 t
theorem TA.mono {t : Tr KT VT} : Kn.mono (.sat (TA t)) := Tr.TreeAt.mono
theorem TA.le {t : Tr KT VT} {v : Value} {H H' : Heap} (h : TA t v H) (hle : H.Le H') : TA t v H' := Tr.TreeAt.le h hle
theorem TA.ptr {t : Tr KT VT} {v : Value} {H : Heap} (h : TA t v H) : ∃ p, v = .pointer p := by
  cases t with
  | nil => exact ⟨_, h⟩
  | node k x l r => obtain ⟨b, lv, rv, h, _⟩ := h; exact ⟨_, h⟩
attribute [local irreducible] V N X VO Par StepOK Has Ret RetL Src
theorem size_ret (t : Tr KT VT) {v : Value} {w : World} {B : Heap} (hB : B.Le (hp w)) (hv : TA t v B) : Ret Try.prog 87 [v] w B (fun v _ => v = .int .i64 t.size) := by
  cases t with
  | nil =>
    obtain rfl : v = .pointer none := hv
    refine V_enter Try.func87 rfl Try.ntmps87 (Nat.le_of_ble_eq_true rfl) hB ?_
    refine V_seq ?_; refine V_region (id := 0) ?_; refine vo_step (ok_assign rfl rfl rfl) rfl ?_; refine vo_nil ?_; refine N_seq ?_; refine V_seq ?_; refine V_seq ?_; refine V_region (id := 1) ?_; refine vo_step (ok_move rfl rfl rfl) rfl ?_; refine vo_step (ok_neql rfl rfl rfl rfl nk35 rfl) rfl ?_; refine vo_nil ?_; refine N_seq ?_; refine V_true rfl ?_; refine V_seq ?_; refine V_region (id := 2) ?_; refine vo_step (ok_assign rfl rfl rfl) rfl ?_; refine vo_nil ?_; refine N_seq ?_
    refine V_ret L (rs := [.tmp 2]) rfl (fun _ _ h => h) Since.refl fun u H hH hle => ?_
    rfl
  | node k x l r =>
    obtain ⟨b, lv, rv, rfl, hb, _, _⟩ := hv
    refine V_enter Try.func87 rfl Try.ntmps87 (Nat.le_of_ble_eq_true rfl) hB ?_
    refine V_seq ?_; refine V_region (id := 0) ?_; refine vo_step (ok_assign rfl rfl rfl) rfl ?_; refine vo_nil ?_; refine N_seq ?_; refine V_seq ?_; refine V_seq ?_; refine V_region (id := 1) ?_; refine vo_step (ok_move rfl rfl rfl) rfl ?_; refine vo_step (ok_neql rfl rfl rfl rfl nk35 rfl) rfl ?_; refine vo_nil ?_; refine N_seq ?_; refine V_false rfl ?_; refine V_skip ?_; refine N_seq ?_; refine V_seq ?_; refine V_region (id := 3) ?_; refine vo_step (ok_move rfl rfl rfl) rfl ?_; refine vo_step (ok_nil rfl rfl rfl) rfl ?_; refine vo_step (ok_fieldP L rfl rfl rfl rfl) rfl ?_; refine vo_step (ok_load1 L (src_base rfl (by assumption)) rfl rfl rfl rfl) rfl ?_; refine vo_step (ok_assign rfl rfl rfl) rfl ?_; refine vo_nil ?_; refine N_seq ?_
    refine V_ret L (rs := [.tmp 2]) rfl (fun _ _ h => h) Since.refl fun u H hH hle => ?_
    rfl
theorem deep_ret (t : Tr KT VT) {v : Value} {w : World} {B : Heap} (hB : B.Le (hp w)) (hv : TA t v B) : Ret Try.prog 130 [v] w B (fun v _ => v = .int .i64 t.deep) := by
  cases t with
  | nil =>
    obtain rfl : v = .pointer none := hv
    refine V_enter Try.func130 rfl Try.ntmps130 (Nat.le_of_ble_eq_true rfl) hB ?_
    refine V_seq ?_; refine V_region (id := 0) ?_; refine vo_step (ok_assign rfl rfl rfl) rfl ?_; refine vo_nil ?_; refine N_seq ?_; refine V_seq ?_; refine V_seq ?_; refine V_region (id := 1) ?_; refine vo_step (ok_move rfl rfl rfl) rfl ?_; refine vo_step (ok_neql rfl rfl rfl rfl nk35 rfl) rfl ?_; refine vo_nil ?_; refine N_seq ?_; refine V_true rfl ?_; refine V_seq ?_; refine V_region (id := 2) ?_; refine vo_step (ok_assign rfl rfl rfl) rfl ?_; refine vo_nil ?_; refine N_seq ?_
    refine V_ret L (rs := [.tmp 2]) rfl (fun _ _ h => h) Since.refl fun u H hH hle => ?_
    rfl
  | node k x l r =>
    obtain ⟨b, lv, rv, rfl, hb, _, _⟩ := hv
    refine V_enter Try.func130 rfl Try.ntmps130 (Nat.le_of_ble_eq_true rfl) hB ?_
    refine V_seq ?_; refine V_region (id := 0) ?_; refine vo_step (ok_assign rfl rfl rfl) rfl ?_; refine vo_nil ?_; refine N_seq ?_; refine V_seq ?_; refine V_seq ?_; refine V_region (id := 1) ?_; refine vo_step (ok_move rfl rfl rfl) rfl ?_; refine vo_step (ok_neql rfl rfl rfl rfl nk35 rfl) rfl ?_; refine vo_nil ?_; refine N_seq ?_; refine V_false rfl ?_; refine V_skip ?_; refine N_seq ?_; refine V_seq ?_; refine V_region (id := 3) ?_; refine vo_step (ok_move rfl rfl rfl) rfl ?_; refine vo_step (ok_nil rfl rfl rfl) rfl ?_; refine vo_step (ok_fieldP L rfl rfl rfl rfl) rfl ?_; refine vo_step (ok_load1 L (src_base rfl (by assumption)) rfl rfl rfl rfl) rfl ?_; refine vo_step (ok_assign rfl rfl rfl) rfl ?_; refine vo_nil ?_; refine N_seq ?_
    refine V_ret L (rs := [.tmp 2]) rfl (fun _ _ h => h) Since.refl fun u H hH hle => ?_
    rfl
theorem max_int (a b : Nat) : (if ((b : Nat) : Int) > (a : Int) then ((b : Nat) : Int) else (a : Int)) = ((max a b : Nat) : Int) := by
  split <;> omega
theorem join_ret (k : KT) (x : VT) (l r : Tr KT VT) {lv rv : Value} {w : World} {B : Heap} (hB : B.Le (hp w)) (hl : TA l lv B) (hr : TA r rv B) (hs : l.size + r.size < 1099511627776) :
    Ret Try.prog 127 [.agg (pl k x).toArray, lv, rv] w B (TA (.node k x l r)) := by
  obtain ⟨pl', rfl⟩ := hl.ptr
  obtain ⟨pr, rfl⟩ := hr.ptr
  have hdl := l.deep_le
  have hdr := r.deep_le
  refine V_enter Try.func127 rfl Try.ntmps127 (Nat.le_of_ble_eq_true rfl) hB ?_
  refine V_seq ?_; refine V_region (id := 0) ?_; refine vo_step (ok_box rfl rfl rfl rfl) rfl ?_; refine vo_step (ok_assign rfl rfl rfl) rfl ?_; refine vo_nil ?_; refine N_seq ?_; refine V_seq ?_; refine V_regionD (id := 1) [] mixed (by kernel_rfl) ?_; refine par_step (ok_loadA L (vs := [_, _, _, _, _, _]) (src_at rfl) rfl rfl rfl rfl ⟨_, rfl⟩) rfl ?_; refine par_step (ok_move rfl rfl rfl) rfl ?_; refine par_step (ok_move rfl rfl rfl) rfl ?_; refine par_step (ok_move rfl rfl rfl) rfl ?_; refine par_step (ok_callx L rfl rfl (blt_lt rfl) rfl rfl rfl (fun u H hH hle _ => UT.size_ret _ hH (UT.TA.le (by assumption) hle))) rfl ?_; refine par_step (ok_add rfl rfl rfl rfl (wrap_i64 (by omega) (by omega))) rfl ?_; refine par_step (ok_move rfl rfl rfl) rfl ?_; refine par_step (ok_callx L rfl rfl (blt_lt rfl) rfl rfl rfl (fun u H hH hle _ => UT.size_ret _ hH (UT.TA.le (by assumption) hle))) rfl ?_; refine par_step (ok_add rfl rfl rfl rfl (wrap_i64 (by omega) (by omega))) rfl ?_; refine par_step (ok_move rfl rfl rfl) rfl ?_; refine par_step (ok_callx L rfl rfl (blt_lt rfl) rfl rfl rfl (fun u H hH hle _ => UT.deep_ret _ hH (UT.TA.le (by assumption) hle))) rfl ?_; refine par_step (ok_move rfl rfl rfl) rfl ?_; refine par_step (ok_callx L rfl rfl (blt_lt rfl) rfl rfl rfl (fun u H hH hle _ => UT.deep_ret _ hH (UT.TA.le (by assumption) hle))) rfl ?_; refine par_step (ok_max rfl rfl rfl rfl rfl) rfl ?_; refine par_step (ok_add rfl rfl rfl rfl (wrap_i64 (by omega) (by omega))) rfl ?_; refine par_step (ok_build (cs := [_, _, _, _, _, _, _, _, _, _]) rfl rfl pl147 rfl rfl) rfl ?_; refine par_step (ok_box rfl rfl rfl rfl) rfl ?_; refine par_step (ok_assigns' rfl rfl rfl) rfl ?_; refine par_nil ?_; refine N_seq ?_
  refine V_ret L (rs := [.tmp 6]) rfl (fun _ _ h => h) Since.refl fun u H hH hle => ?_
  rintro _ ⟨b, rfl, hb⟩
  refine ⟨b, _, _, rfl, ?_, TA.le hl hle, TA.le hr hle⟩
  rw [max_int] at hb
  simpa [Tr.size_node, Tr.deep_node] using hb
theorem bal_ret (k : KT) (x : VT) (l r : Tr KT VT) {lv rv : Value} {w : World} {B : Heap} (hB : B.Le (hp w)) (hl : TA l lv B) (hr : TA r rv B) (hs : l.size + r.size < 1099511627776) :
    Ret Try.prog 125 [.agg (pl k x).toArray, lv, rv] w B (TA (Tr.bal k x l r)) := by
  have hdl := l.deep_le
  have hdr := r.deep_le
  refine V_enter Try.func125 rfl Try.ntmps125 (Nat.le_of_ble_eq_true rfl) hB ?_
  unfold Tr.bal
  by_cases h1 : l.deep > r.deep + 1
  · rw [if_pos h1]
    cases l with
    | nil => simp [Tr.deep] at h1
    | node lk lx ll lr =>
      have hl0 := hl; obtain ⟨b1, v1, v2, rfl, hb1, hll, hlr⟩ := hl
      have hd1 := ll.deep_le
      have hd2 := lr.deep_le
      simp only [Tr.size_node] at hs hdl
      dsimp only
      by_cases h2 : ll.deep ≥ lr.deep
      · rw [if_pos h2]
        refine V_seq ?_; refine V_region (id := 0) ?_; refine vo_step (ok_box rfl rfl rfl rfl) rfl ?_; refine vo_step (ok_assign rfl rfl rfl) rfl ?_; refine vo_nil ?_; refine N_seq ?_; refine V_seq ?_; refine V_seq ?_; refine V_region (id := 1) ?_; refine vo_step (ok_move rfl rfl rfl) rfl ?_; refine vo_step (ok_callx L rfl rfl (blt_lt rfl) rfl rfl rfl (fun u H hH hle _ => UT.deep_ret _ hH (UT.TA.le (by assumption) hle))) rfl ?_; refine vo_step (ok_move rfl rfl rfl) rfl ?_; refine vo_step (ok_callx L rfl rfl (blt_lt rfl) rfl rfl rfl (fun u H hH hle _ => UT.deep_ret _ hH (UT.TA.le (by assumption) hle))) rfl ?_; refine vo_step (ok_sub rfl rfl rfl rfl (wrap_i64 (by omega) (by omega))) rfl ?_; refine vo_step (ok_assign rfl rfl rfl) rfl ?_; refine vo_nil ?_; refine N_seq ?_; refine V_block ?_; refine V_seq ?_; refine V_regionD (id := 2) [] mixed (by kernel_rfl) ?_; refine par_step (ok_move rfl rfl rfl) rfl ?_; refine par_step (ok_gtr rfl rfl rfl rfl (decide_eq_true (by omega))) rfl ?_; refine par_step (ok_move rfl rfl rfl) rfl ?_; refine par_step (ok_move rfl rfl rfl) rfl ?_; refine par_step (ok_nil rfl rfl rfl) rfl ?_; refine par_step (ok_fieldP L rfl rfl rfl rfl) rfl ?_; refine par_step (ok_load1 L (src_base rfl (by assumption)) rfl rfl rfl rfl) rfl ?_; refine par_step (ok_callx L rfl rfl (blt_lt rfl) rfl rfl rfl (fun u H hH hle _ => UT.deep_ret _ hH (UT.TA.le (by assumption) hle))) rfl ?_; refine par_step (ok_move rfl rfl rfl) rfl ?_; refine par_step (ok_nil rfl rfl rfl) rfl ?_; refine par_step (ok_fieldP L rfl rfl rfl rfl) rfl ?_; refine par_step (ok_load1 L (src_base rfl (by assumption)) rfl rfl rfl rfl) rfl ?_; refine par_step (ok_callx L rfl rfl (blt_lt rfl) rfl rfl rfl (fun u H hH hle _ => UT.deep_ret _ hH (UT.TA.le (by assumption) hle))) rfl ?_; refine par_step (ok_geq rfl rfl rfl rfl (decide_eq_true (by omega))) rfl ?_; refine par_step (ok_pick rfl rfl rfl rfl) rfl ?_; refine par_step (ok_assign rfl rfl rfl) rfl ?_; refine par_nil ?_; refine N_seq ?_; refine V_true rfl ?_; refine V_seq ?_; refine V_regionD (id := 3) [] mixed (by kernel_rfl) ?_; refine par_step (ok_move rfl rfl rfl) rfl ?_; refine par_step (ok_nil rfl rfl rfl) rfl ?_; refine par_step (ok_fieldP L rfl rfl rfl rfl) rfl ?_; refine par_step (ok_loadA L (vs := [_, _, _, _, _, _]) (src_base rfl (by assumption)) rfl rfl rfl rfl ⟨_, rfl⟩) rfl ?_; refine par_step (ok_move rfl rfl rfl) rfl ?_; refine par_step (ok_nil rfl rfl rfl) rfl ?_; refine par_step (ok_fieldP L rfl rfl rfl rfl) rfl ?_; refine par_step (ok_load1 L (src_base rfl (by assumption)) rfl rfl rfl rfl) rfl ?_; refine par_step (ok_loadA L (vs := [_, _, _, _, _, _]) (src_at rfl) rfl rfl rfl rfl ⟨_, rfl⟩) rfl ?_; refine par_step (ok_move rfl rfl rfl) rfl ?_; refine par_step (ok_nil rfl rfl rfl) rfl ?_; refine par_step (ok_fieldP L rfl rfl rfl rfl) rfl ?_; refine par_step (ok_load1 L (src_base rfl (by assumption)) rfl rfl rfl rfl) rfl ?_; refine par_step (ok_move rfl rfl rfl) rfl ?_; refine par_step (ok_call L rfl rfl (blt_lt rfl) rfl rfl rfl UT.TA.mono (fun u H hH hle _ => UT.join_ret _ () _ _ hH (UT.TA.le (by assumption) hle) (UT.TA.le (by assumption) hle) (by first | omega | (simp only [Tr.size_node]; omega)))) rfl ?_; refine par_step (ok_call L rfl rfl (blt_lt rfl) rfl rfl rfl UT.TA.mono (fun u H hH hle _ v1 hv1 => UT.join_ret _ () _ _ hH (UT.TA.le (by assumption) hle) hv1 (by first | omega | (simp only [Tr.size_node]; omega)))) rfl ?_; refine par_step (ok_assigns' rfl rfl rfl) rfl ?_; refine par_nil ?_; refine N_seq ?_
        refine V_ret L (rs := [.tmp 6]) rfl (fun _ _ h => h) Since.refl fun u H hH hle => ?_
        exact fun v hv => hv
      · rw [if_neg h2]
        cases lr with
        | nil => simp [Tr.deep] at h2
        | node mk mx ml mr =>
          have hlr0 := hlr; obtain ⟨b2, v3, v4, rfl, hb2, hml, hmr⟩ := hlr
          simp only [Tr.size_node] at hs hdl hd2
          refine V_seq ?_; refine V_region (id := 0) ?_; refine vo_step (ok_box rfl rfl rfl rfl) rfl ?_; refine vo_step (ok_assign rfl rfl rfl) rfl ?_; refine vo_nil ?_; refine N_seq ?_; refine V_seq ?_; refine V_seq ?_; refine V_region (id := 1) ?_; refine vo_step (ok_move rfl rfl rfl) rfl ?_; refine vo_step (ok_callx L rfl rfl (blt_lt rfl) rfl rfl rfl (fun u H hH hle _ => UT.deep_ret _ hH (UT.TA.le (by assumption) hle))) rfl ?_; refine vo_step (ok_move rfl rfl rfl) rfl ?_; refine vo_step (ok_callx L rfl rfl (blt_lt rfl) rfl rfl rfl (fun u H hH hle _ => UT.deep_ret _ hH (UT.TA.le (by assumption) hle))) rfl ?_; refine vo_step (ok_sub rfl rfl rfl rfl (wrap_i64 (by omega) (by omega))) rfl ?_; refine vo_step (ok_assign rfl rfl rfl) rfl ?_; refine vo_nil ?_; refine N_seq ?_; refine V_block ?_; refine V_seq ?_; refine V_regionD (id := 2) [] mixed (by kernel_rfl) ?_; refine par_step (ok_move rfl rfl rfl) rfl ?_; refine par_step (ok_gtr rfl rfl rfl rfl (decide_eq_true (by omega))) rfl ?_; refine par_step (ok_move rfl rfl rfl) rfl ?_; refine par_step (ok_move rfl rfl rfl) rfl ?_; refine par_step (ok_nil rfl rfl rfl) rfl ?_; refine par_step (ok_fieldP L rfl rfl rfl rfl) rfl ?_; refine par_step (ok_load1 L (src_base rfl (by assumption)) rfl rfl rfl rfl) rfl ?_; refine par_step (ok_callx L rfl rfl (blt_lt rfl) rfl rfl rfl (fun u H hH hle _ => UT.deep_ret _ hH (UT.TA.le (by assumption) hle))) rfl ?_; refine par_step (ok_move rfl rfl rfl) rfl ?_; refine par_step (ok_nil rfl rfl rfl) rfl ?_; refine par_step (ok_fieldP L rfl rfl rfl rfl) rfl ?_; refine par_step (ok_load1 L (src_base rfl (by assumption)) rfl rfl rfl rfl) rfl ?_; refine par_step (ok_callx L rfl rfl (blt_lt rfl) rfl rfl rfl (fun u H hH hle _ => UT.deep_ret _ hH (UT.TA.le (by assumption) hle))) rfl ?_; refine par_step (ok_geq rfl rfl rfl rfl (decide_eq_false (by omega))) rfl ?_; refine par_step (ok_pick rfl rfl rfl rfl) rfl ?_; refine par_step (ok_assign rfl rfl rfl) rfl ?_; refine par_nil ?_; refine N_seq ?_; refine V_false rfl ?_; refine V_seq ?_; refine V_region (id := 4) ?_; refine vo_step (ok_move rfl rfl rfl) rfl ?_; refine vo_step (ok_gtr rfl rfl rfl rfl (decide_eq_true (by omega))) rfl ?_; refine vo_step (ok_assign rfl rfl rfl) rfl ?_; refine vo_nil ?_; refine N_seq ?_; refine V_true rfl ?_; refine V_seq ?_; refine V_region (id := 5) ?_; refine vo_step (ok_move rfl rfl rfl) rfl ?_; refine vo_step (ok_nil rfl rfl rfl) rfl ?_; refine vo_step (ok_fieldP L rfl rfl rfl rfl) rfl ?_; refine vo_step (ok_load1 L (src_base rfl (by assumption)) rfl rfl rfl rfl) rfl ?_; refine vo_step (ok_assign rfl rfl rfl) rfl ?_; refine vo_nil ?_; refine N_seq ?_; refine V_seq ?_; refine V_regionD (id := 6) [] mixed (by kernel_rfl) ?_; refine par_step (ok_move rfl rfl rfl) rfl ?_; refine par_step (ok_nil rfl rfl rfl) rfl ?_; refine par_step (ok_fieldP L rfl rfl rfl rfl) rfl ?_; refine par_step (ok_loadA L (vs := [_, _, _, _, _, _]) (src_base rfl (by assumption)) rfl rfl rfl rfl ⟨_, rfl⟩) rfl ?_; refine par_step (ok_move rfl rfl rfl) rfl ?_; refine par_step (ok_nil rfl rfl rfl) rfl ?_; refine par_step (ok_fieldP L rfl rfl rfl rfl) rfl ?_; refine par_step (ok_loadA L (vs := [_, _, _, _, _, _]) (src_base rfl (by assumption)) rfl rfl rfl rfl ⟨_, rfl⟩) rfl ?_; refine par_step (ok_move rfl rfl rfl) rfl ?_; refine par_step (ok_nil rfl rfl rfl) rfl ?_; refine par_step (ok_fieldP L rfl rfl rfl rfl) rfl ?_; refine par_step (ok_load1 L (src_base rfl (by assumption)) rfl rfl rfl rfl) rfl ?_; refine par_step (ok_move rfl rfl rfl) rfl ?_; refine par_step (ok_nil rfl rfl rfl) rfl ?_; refine par_step (ok_fieldP L rfl rfl rfl rfl) rfl ?_; refine par_step (ok_load1 L (src_base rfl (by assumption)) rfl rfl rfl rfl) rfl ?_; refine par_step (ok_call L rfl rfl (blt_lt rfl) rfl rfl rfl UT.TA.mono (fun u H hH hle _ => UT.join_ret _ () _ _ hH (UT.TA.le (by assumption) hle) (UT.TA.le (by assumption) hle) (by first | omega | (simp only [Tr.size_node]; omega)))) rfl ?_; refine par_step (ok_loadA L (vs := [_, _, _, _, _, _]) (src_at rfl) rfl rfl rfl rfl ⟨_, rfl⟩) rfl ?_; refine par_step (ok_move rfl rfl rfl) rfl ?_; refine par_step (ok_nil rfl rfl rfl) rfl ?_; refine par_step (ok_fieldP L rfl rfl rfl rfl) rfl ?_; refine par_step (ok_load1 L (src_base rfl (by assumption)) rfl rfl rfl rfl) rfl ?_; refine par_step (ok_move rfl rfl rfl) rfl ?_; refine par_step (ok_call L rfl rfl (blt_lt rfl) rfl rfl rfl UT.TA.mono (fun u H hH hle _ => UT.join_ret _ () _ _ hH (UT.TA.le (by assumption) hle) (UT.TA.le (by assumption) hle) (by first | omega | (simp only [Tr.size_node]; omega)))) rfl ?_; refine par_step (ok_call L rfl rfl (blt_lt rfl) rfl rfl rfl UT.TA.mono (fun u H hH hle _ v1 hv1 v2 hv2 => UT.join_ret _ () _ _ hH hv1 hv2 (by first | omega | (simp only [Tr.size_node]; omega)))) rfl ?_; refine par_step (ok_assigns' rfl rfl rfl) rfl ?_; refine par_nil ?_; refine N_seq ?_
          refine V_ret L (rs := [.tmp 6]) rfl (fun _ _ h => h) Since.refl fun u H hH hle => ?_
          exact fun v hv => hv
  · rw [if_neg h1]
    by_cases h3 : r.deep > l.deep + 1
    · rw [if_pos h3]
      cases r with
      | nil => simp [Tr.deep] at h3
      | node rk rx rl rr =>
        have hr0 := hr; obtain ⟨b1, v1, v2, rfl, hb1, hrl, hrr⟩ := hr
        have hd1 := rl.deep_le
        have hd2 := rr.deep_le
        simp only [Tr.size_node] at hs hdr
        dsimp only
        by_cases h2 : rr.deep ≥ rl.deep
        · rw [if_pos h2]
          refine V_seq ?_; refine V_region (id := 0) ?_; refine vo_step (ok_box rfl rfl rfl rfl) rfl ?_; refine vo_step (ok_assign rfl rfl rfl) rfl ?_; refine vo_nil ?_; refine N_seq ?_; refine V_seq ?_; refine V_seq ?_; refine V_region (id := 1) ?_; refine vo_step (ok_move rfl rfl rfl) rfl ?_; refine vo_step (ok_callx L rfl rfl (blt_lt rfl) rfl rfl rfl (fun u H hH hle _ => UT.deep_ret _ hH (UT.TA.le (by assumption) hle))) rfl ?_; refine vo_step (ok_move rfl rfl rfl) rfl ?_; refine vo_step (ok_callx L rfl rfl (blt_lt rfl) rfl rfl rfl (fun u H hH hle _ => UT.deep_ret _ hH (UT.TA.le (by assumption) hle))) rfl ?_; refine vo_step (ok_sub rfl rfl rfl rfl (wrap_i64 (by omega) (by omega))) rfl ?_; refine vo_step (ok_assign rfl rfl rfl) rfl ?_; refine vo_nil ?_; refine N_seq ?_; refine V_block ?_; refine V_seq ?_; refine V_regionD (id := 2) [] mixed (by kernel_rfl) ?_; refine par_step (ok_move rfl rfl rfl) rfl ?_; refine par_step (ok_gtr rfl rfl rfl rfl (decide_eq_false (by omega))) rfl ?_; refine par_step (ok_move rfl rfl rfl) rfl ?_; refine par_step (ok_skip rfl (blt_lt rfl) rfl) rfl ?_; refine par_step (ok_skip rfl (blt_lt rfl) rfl) rfl ?_; refine par_step (ok_skip rfl (blt_lt rfl) rfl) rfl ?_; refine par_step (ok_skip rfl (blt_lt rfl) rfl) rfl ?_; refine par_step (ok_skip rfl (blt_lt rfl) rfl) rfl ?_; refine par_step (ok_skip rfl (blt_lt rfl) rfl) rfl ?_; refine par_step (ok_skip rfl (blt_lt rfl) rfl) rfl ?_; refine par_step (ok_skip rfl (blt_lt rfl) rfl) rfl ?_; refine par_step (ok_skip rfl (blt_lt rfl) rfl) rfl ?_; refine par_step (ok_skip rfl (blt_lt rfl) rfl) rfl ?_; refine par_step (ok_skip rfl (blt_lt rfl) rfl) rfl ?_; refine par_step (ok_pick rfl rfl rfl rfl) rfl ?_; refine par_step (ok_assign rfl rfl rfl) rfl ?_; refine par_nil ?_; refine N_seq ?_; refine V_false rfl ?_; refine V_seq ?_; refine V_region (id := 4) ?_; refine vo_step (ok_move rfl rfl rfl) rfl ?_; refine vo_step (ok_gtr rfl rfl rfl rfl (decide_eq_false (by omega))) rfl ?_; refine vo_step (ok_assign rfl rfl rfl) rfl ?_; refine vo_nil ?_; refine N_seq ?_; refine V_false rfl ?_; refine V_seq ?_; refine V_regionD (id := 7) [] mixed (by kernel_rfl) ?_; refine par_step (ok_move rfl rfl rfl) rfl ?_; refine par_step (ok_lss rfl rfl rfl rfl (decide_eq_true (by omega))) rfl ?_; refine par_step (ok_move rfl rfl rfl) rfl ?_; refine par_step (ok_move rfl rfl rfl) rfl ?_; refine par_step (ok_nil rfl rfl rfl) rfl ?_; refine par_step (ok_fieldP L rfl rfl rfl rfl) rfl ?_; refine par_step (ok_load1 L (src_base rfl (by assumption)) rfl rfl rfl rfl) rfl ?_; refine par_step (ok_callx L rfl rfl (blt_lt rfl) rfl rfl rfl (fun u H hH hle _ => UT.deep_ret _ hH (UT.TA.le (by assumption) hle))) rfl ?_; refine par_step (ok_move rfl rfl rfl) rfl ?_; refine par_step (ok_nil rfl rfl rfl) rfl ?_; refine par_step (ok_fieldP L rfl rfl rfl rfl) rfl ?_; refine par_step (ok_load1 L (src_base rfl (by assumption)) rfl rfl rfl rfl) rfl ?_; refine par_step (ok_callx L rfl rfl (blt_lt rfl) rfl rfl rfl (fun u H hH hle _ => UT.deep_ret _ hH (UT.TA.le (by assumption) hle))) rfl ?_; refine par_step (ok_geq rfl rfl rfl rfl (decide_eq_true (by omega))) rfl ?_; refine par_step (ok_pick rfl rfl rfl rfl) rfl ?_; refine par_step (ok_assign rfl rfl rfl) rfl ?_; refine par_nil ?_; refine N_seq ?_; refine V_true rfl ?_; refine V_seq ?_; refine V_regionD (id := 8) [] mixed (by kernel_rfl) ?_; refine par_step (ok_move rfl rfl rfl) rfl ?_; refine par_step (ok_nil rfl rfl rfl) rfl ?_; refine par_step (ok_fieldP L rfl rfl rfl rfl) rfl ?_; refine par_step (ok_loadA L (vs := [_, _, _, _, _, _]) (src_base rfl (by assumption)) rfl rfl rfl rfl ⟨_, rfl⟩) rfl ?_; refine par_step (ok_loadA L (vs := [_, _, _, _, _, _]) (src_at rfl) rfl rfl rfl rfl ⟨_, rfl⟩) rfl ?_; refine par_step (ok_move rfl rfl rfl) rfl ?_; refine par_step (ok_move rfl rfl rfl) rfl ?_; refine par_step (ok_nil rfl rfl rfl) rfl ?_; refine par_step (ok_fieldP L rfl rfl rfl rfl) rfl ?_; refine par_step (ok_load1 L (src_base rfl (by assumption)) rfl rfl rfl rfl) rfl ?_; refine par_step (ok_call L rfl rfl (blt_lt rfl) rfl rfl rfl UT.TA.mono (fun u H hH hle _ => UT.join_ret _ () _ _ hH (UT.TA.le (by assumption) hle) (UT.TA.le (by assumption) hle) (by first | omega | (simp only [Tr.size_node]; omega)))) rfl ?_; refine par_step (ok_move rfl rfl rfl) rfl ?_; refine par_step (ok_nil rfl rfl rfl) rfl ?_; refine par_step (ok_fieldP L rfl rfl rfl rfl) rfl ?_; refine par_step (ok_load1 L (src_base rfl (by assumption)) rfl rfl rfl rfl) rfl ?_; refine par_step (ok_call L rfl rfl (blt_lt rfl) rfl rfl rfl UT.TA.mono (fun u H hH hle _ v1 hv1 => UT.join_ret _ () _ _ hH hv1 (UT.TA.le (by assumption) hle) (by first | omega | (simp only [Tr.size_node]; omega)))) rfl ?_; refine par_step (ok_assigns' rfl rfl rfl) rfl ?_; refine par_nil ?_; refine N_seq ?_
          refine V_ret L (rs := [.tmp 6]) rfl (fun _ _ h => h) Since.refl fun u H hH hle => ?_
          exact fun v hv => hv
        · rw [if_neg h2]
          cases rl with
          | nil => simp [Tr.deep] at h2
          | node mk mx ml mr =>
            have hrl0 := hrl; obtain ⟨b2, v3, v4, rfl, hb2, hml, hmr⟩ := hrl
            simp only [Tr.size_node] at hs hdr hd1
            refine V_seq ?_; refine V_region (id := 0) ?_; refine vo_step (ok_box rfl rfl rfl rfl) rfl ?_; refine vo_step (ok_assign rfl rfl rfl) rfl ?_; refine vo_nil ?_; refine N_seq ?_; refine V_seq ?_; refine V_seq ?_; refine V_region (id := 1) ?_; refine vo_step (ok_move rfl rfl rfl) rfl ?_; refine vo_step (ok_callx L rfl rfl (blt_lt rfl) rfl rfl rfl (fun u H hH hle _ => UT.deep_ret _ hH (UT.TA.le (by assumption) hle))) rfl ?_; refine vo_step (ok_move rfl rfl rfl) rfl ?_; refine vo_step (ok_callx L rfl rfl (blt_lt rfl) rfl rfl rfl (fun u H hH hle _ => UT.deep_ret _ hH (UT.TA.le (by assumption) hle))) rfl ?_; refine vo_step (ok_sub rfl rfl rfl rfl (wrap_i64 (by omega) (by omega))) rfl ?_; refine vo_step (ok_assign rfl rfl rfl) rfl ?_; refine vo_nil ?_; refine N_seq ?_; refine V_block ?_; refine V_seq ?_; refine V_regionD (id := 2) [] mixed (by kernel_rfl) ?_; refine par_step (ok_move rfl rfl rfl) rfl ?_; refine par_step (ok_gtr rfl rfl rfl rfl (decide_eq_false (by omega))) rfl ?_; refine par_step (ok_move rfl rfl rfl) rfl ?_; refine par_step (ok_skip rfl (blt_lt rfl) rfl) rfl ?_; refine par_step (ok_skip rfl (blt_lt rfl) rfl) rfl ?_; refine par_step (ok_skip rfl (blt_lt rfl) rfl) rfl ?_; refine par_step (ok_skip rfl (blt_lt rfl) rfl) rfl ?_; refine par_step (ok_skip rfl (blt_lt rfl) rfl) rfl ?_; refine par_step (ok_skip rfl (blt_lt rfl) rfl) rfl ?_; refine par_step (ok_skip rfl (blt_lt rfl) rfl) rfl ?_; refine par_step (ok_skip rfl (blt_lt rfl) rfl) rfl ?_; refine par_step (ok_skip rfl (blt_lt rfl) rfl) rfl ?_; refine par_step (ok_skip rfl (blt_lt rfl) rfl) rfl ?_; refine par_step (ok_skip rfl (blt_lt rfl) rfl) rfl ?_; refine par_step (ok_pick rfl rfl rfl rfl) rfl ?_; refine par_step (ok_assign rfl rfl rfl) rfl ?_; refine par_nil ?_; refine N_seq ?_; refine V_false rfl ?_; refine V_seq ?_; refine V_region (id := 4) ?_; refine vo_step (ok_move rfl rfl rfl) rfl ?_; refine vo_step (ok_gtr rfl rfl rfl rfl (decide_eq_false (by omega))) rfl ?_; refine vo_step (ok_assign rfl rfl rfl) rfl ?_; refine vo_nil ?_; refine N_seq ?_; refine V_false rfl ?_; refine V_seq ?_; refine V_regionD (id := 7) [] mixed (by kernel_rfl) ?_; refine par_step (ok_move rfl rfl rfl) rfl ?_; refine par_step (ok_lss rfl rfl rfl rfl (decide_eq_true (by omega))) rfl ?_; refine par_step (ok_move rfl rfl rfl) rfl ?_; refine par_step (ok_move rfl rfl rfl) rfl ?_; refine par_step (ok_nil rfl rfl rfl) rfl ?_; refine par_step (ok_fieldP L rfl rfl rfl rfl) rfl ?_; refine par_step (ok_load1 L (src_base rfl (by assumption)) rfl rfl rfl rfl) rfl ?_; refine par_step (ok_callx L rfl rfl (blt_lt rfl) rfl rfl rfl (fun u H hH hle _ => UT.deep_ret _ hH (UT.TA.le (by assumption) hle))) rfl ?_; refine par_step (ok_move rfl rfl rfl) rfl ?_; refine par_step (ok_nil rfl rfl rfl) rfl ?_; refine par_step (ok_fieldP L rfl rfl rfl rfl) rfl ?_; refine par_step (ok_load1 L (src_base rfl (by assumption)) rfl rfl rfl rfl) rfl ?_; refine par_step (ok_callx L rfl rfl (blt_lt rfl) rfl rfl rfl (fun u H hH hle _ => UT.deep_ret _ hH (UT.TA.le (by assumption) hle))) rfl ?_; refine par_step (ok_geq rfl rfl rfl rfl (decide_eq_false (by omega))) rfl ?_; refine par_step (ok_pick rfl rfl rfl rfl) rfl ?_; refine par_step (ok_assign rfl rfl rfl) rfl ?_; refine par_nil ?_; refine N_seq ?_; refine V_false rfl ?_; refine V_seq ?_; refine V_region (id := 9) ?_; refine vo_step (ok_move rfl rfl rfl) rfl ?_; refine vo_step (ok_lss rfl rfl rfl rfl (decide_eq_true (by omega))) rfl ?_; refine vo_step (ok_assign rfl rfl rfl) rfl ?_; refine vo_nil ?_; refine N_seq ?_; refine V_true rfl ?_; refine V_seq ?_; refine V_region (id := 10) ?_; refine vo_step (ok_move rfl rfl rfl) rfl ?_; refine vo_step (ok_nil rfl rfl rfl) rfl ?_; refine vo_step (ok_fieldP L rfl rfl rfl rfl) rfl ?_; refine vo_step (ok_load1 L (src_base rfl (by assumption)) rfl rfl rfl rfl) rfl ?_; refine vo_step (ok_assign rfl rfl rfl) rfl ?_; refine vo_nil ?_; refine N_seq ?_; refine V_seq ?_; refine V_regionD (id := 11) [] mixed (by kernel_rfl) ?_; refine par_step (ok_move rfl rfl rfl) rfl ?_; refine par_step (ok_nil rfl rfl rfl) rfl ?_; refine par_step (ok_fieldP L rfl rfl rfl rfl) rfl ?_; refine par_step (ok_loadA L (vs := [_, _, _, _, _, _]) (src_base rfl (by assumption)) rfl rfl rfl rfl ⟨_, rfl⟩) rfl ?_; refine par_step (ok_loadA L (vs := [_, _, _, _, _, _]) (src_at rfl) rfl rfl rfl rfl ⟨_, rfl⟩) rfl ?_; refine par_step (ok_move rfl rfl rfl) rfl ?_; refine par_step (ok_move rfl rfl rfl) rfl ?_; refine par_step (ok_nil rfl rfl rfl) rfl ?_; refine par_step (ok_fieldP L rfl rfl rfl rfl) rfl ?_; refine par_step (ok_load1 L (src_base rfl (by assumption)) rfl rfl rfl rfl) rfl ?_; refine par_step (ok_call L rfl rfl (blt_lt rfl) rfl rfl rfl UT.TA.mono (fun u H hH hle _ => UT.join_ret _ () _ _ hH (UT.TA.le (by assumption) hle) (UT.TA.le (by assumption) hle) (by first | omega | (simp only [Tr.size_node]; omega)))) rfl ?_; refine par_step (ok_move rfl rfl rfl) rfl ?_; refine par_step (ok_nil rfl rfl rfl) rfl ?_; refine par_step (ok_fieldP L rfl rfl rfl rfl) rfl ?_; refine par_step (ok_loadA L (vs := [_, _, _, _, _, _]) (src_base rfl (by assumption)) rfl rfl rfl rfl ⟨_, rfl⟩) rfl ?_; refine par_step (ok_move rfl rfl rfl) rfl ?_; refine par_step (ok_nil rfl rfl rfl) rfl ?_; refine par_step (ok_fieldP L rfl rfl rfl rfl) rfl ?_; refine par_step (ok_load1 L (src_base rfl (by assumption)) rfl rfl rfl rfl) rfl ?_; refine par_step (ok_move rfl rfl rfl) rfl ?_; refine par_step (ok_nil rfl rfl rfl) rfl ?_; refine par_step (ok_fieldP L rfl rfl rfl rfl) rfl ?_; refine par_step (ok_load1 L (src_base rfl (by assumption)) rfl rfl rfl rfl) rfl ?_; refine par_step (ok_call L rfl rfl (blt_lt rfl) rfl rfl rfl UT.TA.mono (fun u H hH hle _ => UT.join_ret _ () _ _ hH (UT.TA.le (by assumption) hle) (UT.TA.le (by assumption) hle) (by first | omega | (simp only [Tr.size_node]; omega)))) rfl ?_; refine par_step (ok_call L rfl rfl (blt_lt rfl) rfl rfl rfl UT.TA.mono (fun u H hH hle _ v1 hv1 v2 hv2 => UT.join_ret _ () _ _ hH hv1 hv2 (by first | omega | (simp only [Tr.size_node]; omega)))) rfl ?_; refine par_step (ok_assigns' rfl rfl rfl) rfl ?_; refine par_nil ?_; refine N_seq ?_
            refine V_ret L (rs := [.tmp 6]) rfl (fun _ _ h => h) Since.refl fun u H hH hle => ?_
            exact fun v hv => hv
    · rw [if_neg h3]
      refine V_seq ?_; refine V_region (id := 0) ?_; refine vo_step (ok_box rfl rfl rfl rfl) rfl ?_; refine vo_step (ok_assign rfl rfl rfl) rfl ?_; refine vo_nil ?_; refine N_seq ?_; refine V_seq ?_; refine V_seq ?_; refine V_region (id := 1) ?_; refine vo_step (ok_move rfl rfl rfl) rfl ?_; refine vo_step (ok_callx L rfl rfl (blt_lt rfl) rfl rfl rfl (fun u H hH hle _ => UT.deep_ret _ hH (UT.TA.le (by assumption) hle))) rfl ?_; refine vo_step (ok_move rfl rfl rfl) rfl ?_; refine vo_step (ok_callx L rfl rfl (blt_lt rfl) rfl rfl rfl (fun u H hH hle _ => UT.deep_ret _ hH (UT.TA.le (by assumption) hle))) rfl ?_; refine vo_step (ok_sub rfl rfl rfl rfl (wrap_i64 (by omega) (by omega))) rfl ?_; refine vo_step (ok_assign rfl rfl rfl) rfl ?_; refine vo_nil ?_; refine N_seq ?_; refine V_block ?_; refine V_seq ?_; refine V_regionD (id := 2) [] mixed (by kernel_rfl) ?_; refine par_step (ok_move rfl rfl rfl) rfl ?_; refine par_step (ok_gtr rfl rfl rfl rfl (decide_eq_false (by omega))) rfl ?_; refine par_step (ok_move rfl rfl rfl) rfl ?_; refine par_step (ok_skip rfl (blt_lt rfl) rfl) rfl ?_; refine par_step (ok_skip rfl (blt_lt rfl) rfl) rfl ?_; refine par_step (ok_skip rfl (blt_lt rfl) rfl) rfl ?_; refine par_step (ok_skip rfl (blt_lt rfl) rfl) rfl ?_; refine par_step (ok_skip rfl (blt_lt rfl) rfl) rfl ?_; refine par_step (ok_skip rfl (blt_lt rfl) rfl) rfl ?_; refine par_step (ok_skip rfl (blt_lt rfl) rfl) rfl ?_; refine par_step (ok_skip rfl (blt_lt rfl) rfl) rfl ?_; refine par_step (ok_skip rfl (blt_lt rfl) rfl) rfl ?_; refine par_step (ok_skip rfl (blt_lt rfl) rfl) rfl ?_; refine par_step (ok_skip rfl (blt_lt rfl) rfl) rfl ?_; refine par_step (ok_pick rfl rfl rfl rfl) rfl ?_; refine par_step (ok_assign rfl rfl rfl) rfl ?_; refine par_nil ?_; refine N_seq ?_; refine V_false rfl ?_; refine V_seq ?_; refine V_region (id := 4) ?_; refine vo_step (ok_move rfl rfl rfl) rfl ?_; refine vo_step (ok_gtr rfl rfl rfl rfl (decide_eq_false (by omega))) rfl ?_; refine vo_step (ok_assign rfl rfl rfl) rfl ?_; refine vo_nil ?_; refine N_seq ?_; refine V_false rfl ?_; refine V_seq ?_; refine V_regionD (id := 7) [] mixed (by kernel_rfl) ?_; refine par_step (ok_move rfl rfl rfl) rfl ?_; refine par_step (ok_lss rfl rfl rfl rfl (decide_eq_false (by omega))) rfl ?_; refine par_step (ok_move rfl rfl rfl) rfl ?_; refine par_step (ok_skip rfl (blt_lt rfl) rfl) rfl ?_; refine par_step (ok_skip rfl (blt_lt rfl) rfl) rfl ?_; refine par_step (ok_skip rfl (blt_lt rfl) rfl) rfl ?_; refine par_step (ok_skip rfl (blt_lt rfl) rfl) rfl ?_; refine par_step (ok_skip rfl (blt_lt rfl) rfl) rfl ?_; refine par_step (ok_skip rfl (blt_lt rfl) rfl) rfl ?_; refine par_step (ok_skip rfl (blt_lt rfl) rfl) rfl ?_; refine par_step (ok_skip rfl (blt_lt rfl) rfl) rfl ?_; refine par_step (ok_skip rfl (blt_lt rfl) rfl) rfl ?_; refine par_step (ok_skip rfl (blt_lt rfl) rfl) rfl ?_; refine par_step (ok_skip rfl (blt_lt rfl) rfl) rfl ?_; refine par_step (ok_pick rfl rfl rfl rfl) rfl ?_; refine par_step (ok_assign rfl rfl rfl) rfl ?_; refine par_nil ?_; refine N_seq ?_; refine V_false rfl ?_; refine V_seq ?_; refine V_region (id := 9) ?_; refine vo_step (ok_move rfl rfl rfl) rfl ?_; refine vo_step (ok_lss rfl rfl rfl rfl (decide_eq_false (by omega))) rfl ?_; refine vo_step (ok_assign rfl rfl rfl) rfl ?_; refine vo_nil ?_; refine N_seq ?_; refine V_false rfl ?_; refine V_skip ?_; refine N_block ?_; refine N_seq ?_; refine V_seq ?_; refine V_region (id := 12) ?_; refine vo_step (ok_loadA L (vs := [_, _, _, _, _, _]) (src_at rfl) rfl rfl rfl rfl ⟨_, rfl⟩) rfl ?_; refine vo_step (ok_move rfl rfl rfl) rfl ?_; refine vo_step (ok_move rfl rfl rfl) rfl ?_; refine vo_step (ok_call L rfl rfl (blt_lt rfl) rfl rfl rfl UT.TA.mono (fun u H hH hle _ => UT.join_ret _ () _ _ hH (UT.TA.le (by assumption) hle) (UT.TA.le (by assumption) hle) (by first | omega | (simp only [Tr.size_node]; omega)))) rfl ?_; refine vo_step (ok_assigns' rfl rfl rfl) rfl ?_; refine vo_nil ?_; refine N_seq ?_
      refine V_ret L (rs := [.tmp 6]) rfl (fun _ _ h => h) Since.refl fun u H hH hle => ?_
      exact fun v hv => hv
end Go.V.UT
/- The walks of trees at countersign/api.Tuple, struct{}: what is put in, what is dropped. -/
namespace Go.V.UT
open Go.Proofs Go.RowKit Go.V
structure Cmp (cf : Nat) (c : KT → KT → Int) : Prop where
  fn : L.fn cf = some ()
  ret : ∀ (a b : KT) (u : World) (H : Heap), H.Le (hp u) → Ret Try.prog cf [kv a, kv b] u H (fun v _ => v = .int .i64 (c a b))
abbrev mv (cf : Nat) (root : Value) : Value := .agg #[.func (.func cf) #[] #[], root]
attribute [local irreducible] V N X VO Par StepOK Has Ret RetL Src
theorem put_ret {cf : Nat} {c : KT → KT → Int} (hc : Cmp cf c) (root : Value) (k : KT) (x : VT) : ∀ (t : Tr KT VT) {rv : Value} {w : World} {B : Heap}, B.Le (hp w) → TA t rv B → t.size + 1 < 1099511627776 →
    Ret Try.prog 120 [mv cf root, rv, .agg (pl k x).toArray] w B (TA (Tr.put c k x t)) := by
  intro t
  induction t with
  | nil =>
    intro rv w B hB hv hs
    obtain rfl : rv = .pointer none := hv
    have hn : TA .nil (.pointer none) B := rfl
    have hz : (Tr.nil : Tr KT VT).size = 0 := rfl
    refine V_enter Try.func120 rfl Try.ntmps120 (Nat.le_of_ble_eq_true rfl) hB ?_
    refine V_seq ?_; refine V_region (id := 0) ?_; refine vo_step (ok_box rfl rfl rfl rfl) rfl ?_; refine vo_step (ok_box rfl rfl rfl rfl) rfl ?_; refine vo_step (ok_assign rfl rfl rfl) rfl ?_; refine vo_nil ?_; refine N_seq ?_; refine V_seq ?_; refine V_seq ?_; refine V_region (id := 1) ?_; refine vo_step (ok_move rfl rfl rfl) rfl ?_; refine vo_step (ok_neql rfl rfl rfl rfl nk35 rfl) rfl ?_; refine vo_nil ?_; refine N_seq ?_; refine V_true rfl ?_; refine V_seq ?_; refine V_region (id := 2) ?_; refine vo_step (ok_loadA L (vs := [_, _, _, _, _, _]) (src_at rfl) rfl rfl rfl rfl ⟨_, rfl⟩) rfl ?_; refine vo_step (ok_call L rfl rfl (blt_lt rfl) rfl rfl rfl UT.TA.mono (fun u H hH hle _ => UT.join_ret _ () _ _ hH (UT.TA.le (by assumption) hle) (UT.TA.le (by assumption) hle) (by first | omega | (simp only [Tr.size_node]; omega)))) rfl ?_; refine vo_step (ok_assigns' rfl rfl rfl) rfl ?_; refine vo_nil ?_; refine N_seq ?_
    refine V_ret L (rs := [.tmp 6]) rfl (fun _ _ h => h) Since.refl fun u H hH hle => ?_
    exact fun v hv => hv
  | node nk nx l r ihl ihr =>
    intro rv w B hB hv hs
    obtain ⟨b, lv, rv', rfl, hb, hl, hr⟩ := hv
    have hpl := Tr.size_put c k x l
    have hpr := Tr.size_put c k x r
    simp only [Tr.size_node] at hs
    refine V_enter Try.func120 rfl Try.ntmps120 (Nat.le_of_ble_eq_true rfl) hB ?_
    unfold Tr.put
    by_cases h1 : c k nk < 0
    · rw [if_pos h1]
      refine V_seq ?_; refine V_region (id := 0) ?_; refine vo_step (ok_box rfl rfl rfl rfl) rfl ?_; refine vo_step (ok_box rfl rfl rfl rfl) rfl ?_; refine vo_step (ok_assign rfl rfl rfl) rfl ?_; refine vo_nil ?_; refine N_seq ?_; refine V_seq ?_; refine V_seq ?_; refine V_region (id := 1) ?_; refine vo_step (ok_move rfl rfl rfl) rfl ?_; refine vo_step (ok_neql rfl rfl rfl rfl nk35 rfl) rfl ?_; refine vo_nil ?_; refine N_seq ?_; refine V_false rfl ?_; refine V_skip ?_; refine N_seq ?_; refine V_seq ?_; refine V_seq ?_; refine V_regionD (id := 3) [] mixed (by kernel_rfl) ?_; refine par_step (ok_fieldAt L rfl rfl rfl rfl) rfl ?_; refine par_step (ok_load1 L (src_at rfl) rfl rfl rfl rfl) rfl ?_; refine par_step (ok_fieldAt L rfl rfl rfl rfl) rfl ?_; refine par_step (ok_loadA L (vs := [_, _, _, _, _, _]) (src_at rfl) rfl rfl rfl rfl ⟨_, rfl⟩) rfl ?_; refine par_step (ok_move rfl rfl rfl) rfl ?_; refine par_step (ok_nil rfl rfl rfl) rfl ?_; refine par_step (ok_fieldP L rfl rfl rfl rfl) rfl ?_; refine par_step (ok_fieldP L rfl rfl rfl rfl) rfl ?_; refine par_step (ok_loadA L (vs := [_, _, _, _, _, _]) (src_base rfl (by assumption)) rfl rfl rfl rfl ⟨_, rfl⟩) rfl ?_; refine par_step (ok_callx L rfl rfl (blt_lt rfl) rfl rfl hc.fn (fun u H hH _ _ => hc.ret _ _ u H hH)) rfl ?_; refine par_step (ok_assign rfl rfl rfl) rfl ?_; refine par_nil ?_; refine N_seq ?_; refine V_block ?_; refine V_seq ?_; refine V_region (id := 4) ?_; refine vo_step (ok_move rfl rfl rfl) rfl ?_; refine vo_step (ok_lss rfl rfl rfl rfl (decide_eq_true (by omega))) rfl ?_; refine vo_step (ok_assign rfl rfl rfl) rfl ?_; refine vo_nil ?_; refine N_seq ?_; refine V_true rfl ?_; refine V_seq ?_; refine V_regionD (id := 5) [] mixed (by kernel_rfl) ?_; refine par_step (ok_move rfl rfl rfl) rfl ?_; refine par_step (ok_nil rfl rfl rfl) rfl ?_; refine par_step (ok_fieldP L rfl rfl rfl rfl) rfl ?_; refine par_step (ok_loadA L (vs := [_, _, _, _, _, _]) (src_base rfl (by assumption)) rfl rfl rfl rfl ⟨_, rfl⟩) rfl ?_; refine par_step (ok_loadA L (vs := [_, _]) (src_at rfl) rfl rfl rfl rfl ⟨_, rfl⟩) rfl ?_; refine par_step (ok_move rfl rfl rfl) rfl ?_; refine par_step (ok_nil rfl rfl rfl) rfl ?_; refine par_step (ok_fieldP L rfl rfl rfl rfl) rfl ?_; refine par_step (ok_load1 L (src_base rfl (by assumption)) rfl rfl rfl rfl) rfl ?_; refine par_step (ok_loadA L (vs := [_, _, _, _, _, _]) (src_at rfl) rfl rfl rfl rfl ⟨_, rfl⟩) rfl ?_; refine par_step (ok_call L rfl rfl (blt_lt rfl) rfl rfl rfl TA.mono (fun u H hH hle _ => ihl hH (hl.le hle) (by omega))) rfl ?_; refine par_step (ok_move rfl rfl rfl) rfl ?_; refine par_step (ok_nil rfl rfl rfl) rfl ?_; refine par_step (ok_fieldP L rfl rfl rfl rfl) rfl ?_; refine par_step (ok_load1 L (src_base rfl (by assumption)) rfl rfl rfl rfl) rfl ?_; refine par_step (ok_call L rfl rfl (blt_lt rfl) rfl rfl rfl UT.TA.mono (fun u H hH hle _ v1 hv1 => UT.bal_ret _ () _ _ hH hv1 (UT.TA.le (by assumption) hle) (by first | omega | (simp only [Tr.size_node]; omega)))) rfl ?_; refine par_step (ok_assigns' rfl rfl rfl) rfl ?_; refine par_nil ?_; refine N_seq ?_
      refine V_ret L (rs := [.tmp 6]) rfl (fun _ _ h => h) Since.refl fun u H hH hle => ?_
      exact fun v hv => hv
    · rw [if_neg h1]
      by_cases h2 : c k nk > 0
      · rw [if_pos h2]
        refine V_seq ?_; refine V_region (id := 0) ?_; refine vo_step (ok_box rfl rfl rfl rfl) rfl ?_; refine vo_step (ok_box rfl rfl rfl rfl) rfl ?_; refine vo_step (ok_assign rfl rfl rfl) rfl ?_; refine vo_nil ?_; refine N_seq ?_; refine V_seq ?_; refine V_seq ?_; refine V_region (id := 1) ?_; refine vo_step (ok_move rfl rfl rfl) rfl ?_; refine vo_step (ok_neql rfl rfl rfl rfl nk35 rfl) rfl ?_; refine vo_nil ?_; refine N_seq ?_; refine V_false rfl ?_; refine V_skip ?_; refine N_seq ?_; refine V_seq ?_; refine V_seq ?_; refine V_regionD (id := 3) [] mixed (by kernel_rfl) ?_; refine par_step (ok_fieldAt L rfl rfl rfl rfl) rfl ?_; refine par_step (ok_load1 L (src_at rfl) rfl rfl rfl rfl) rfl ?_; refine par_step (ok_fieldAt L rfl rfl rfl rfl) rfl ?_; refine par_step (ok_loadA L (vs := [_, _, _, _, _, _]) (src_at rfl) rfl rfl rfl rfl ⟨_, rfl⟩) rfl ?_; refine par_step (ok_move rfl rfl rfl) rfl ?_; refine par_step (ok_nil rfl rfl rfl) rfl ?_; refine par_step (ok_fieldP L rfl rfl rfl rfl) rfl ?_; refine par_step (ok_fieldP L rfl rfl rfl rfl) rfl ?_; refine par_step (ok_loadA L (vs := [_, _, _, _, _, _]) (src_base rfl (by assumption)) rfl rfl rfl rfl ⟨_, rfl⟩) rfl ?_; refine par_step (ok_callx L rfl rfl (blt_lt rfl) rfl rfl hc.fn (fun u H hH _ _ => hc.ret _ _ u H hH)) rfl ?_; refine par_step (ok_assign rfl rfl rfl) rfl ?_; refine par_nil ?_; refine N_seq ?_; refine V_block ?_; refine V_seq ?_; refine V_region (id := 4) ?_; refine vo_step (ok_move rfl rfl rfl) rfl ?_; refine vo_step (ok_lss rfl rfl rfl rfl (decide_eq_false (by omega))) rfl ?_; refine vo_step (ok_assign rfl rfl rfl) rfl ?_; refine vo_nil ?_; refine N_seq ?_; refine V_false rfl ?_; refine V_seq ?_; refine V_region (id := 6) ?_; refine vo_step (ok_move rfl rfl rfl) rfl ?_; refine vo_step (ok_gtr rfl rfl rfl rfl (decide_eq_true (by omega))) rfl ?_; refine vo_step (ok_assign rfl rfl rfl) rfl ?_; refine vo_nil ?_; refine N_seq ?_; refine V_true rfl ?_; refine V_seq ?_; refine V_regionD (id := 7) [] mixed (by kernel_rfl) ?_; refine par_step (ok_move rfl rfl rfl) rfl ?_; refine par_step (ok_nil rfl rfl rfl) rfl ?_; refine par_step (ok_fieldP L rfl rfl rfl rfl) rfl ?_; refine par_step (ok_loadA L (vs := [_, _, _, _, _, _]) (src_base rfl (by assumption)) rfl rfl rfl rfl ⟨_, rfl⟩) rfl ?_; refine par_step (ok_move rfl rfl rfl) rfl ?_; refine par_step (ok_nil rfl rfl rfl) rfl ?_; refine par_step (ok_fieldP L rfl rfl rfl rfl) rfl ?_; refine par_step (ok_load1 L (src_base rfl (by assumption)) rfl rfl rfl rfl) rfl ?_; refine par_step (ok_loadA L (vs := [_, _]) (src_at rfl) rfl rfl rfl rfl ⟨_, rfl⟩) rfl ?_; refine par_step (ok_move rfl rfl rfl) rfl ?_; refine par_step (ok_nil rfl rfl rfl) rfl ?_; refine par_step (ok_fieldP L rfl rfl rfl rfl) rfl ?_; refine par_step (ok_load1 L (src_base rfl (by assumption)) rfl rfl rfl rfl) rfl ?_; refine par_step (ok_loadA L (vs := [_, _, _, _, _, _]) (src_at rfl) rfl rfl rfl rfl ⟨_, rfl⟩) rfl ?_; refine par_step (ok_call L rfl rfl (blt_lt rfl) rfl rfl rfl TA.mono (fun u H hH hle _ => ihr hH (hr.le hle) (by omega))) rfl ?_; refine par_step (ok_call L rfl rfl (blt_lt rfl) rfl rfl rfl UT.TA.mono (fun u H hH hle _ v1 hv1 => UT.bal_ret _ () _ _ hH (UT.TA.le (by assumption) hle) hv1 (by first | omega | (simp only [Tr.size_node]; omega)))) rfl ?_; refine par_step (ok_assigns' rfl rfl rfl) rfl ?_; refine par_nil ?_; refine N_seq ?_
        refine V_ret L (rs := [.tmp 6]) rfl (fun _ _ h => h) Since.refl fun u H hH hle => ?_
        exact fun v hv => hv
      · rw [if_neg h2]
        refine V_seq ?_; refine V_region (id := 0) ?_; refine vo_step (ok_box rfl rfl rfl rfl) rfl ?_; refine vo_step (ok_box rfl rfl rfl rfl) rfl ?_; refine vo_step (ok_assign rfl rfl rfl) rfl ?_; refine vo_nil ?_; refine N_seq ?_; refine V_seq ?_; refine V_seq ?_; refine V_region (id := 1) ?_; refine vo_step (ok_move rfl rfl rfl) rfl ?_; refine vo_step (ok_neql rfl rfl rfl rfl nk35 rfl) rfl ?_; refine vo_nil ?_; refine N_seq ?_; refine V_false rfl ?_; refine V_skip ?_; refine N_seq ?_; refine V_seq ?_; refine V_seq ?_; refine V_regionD (id := 3) [] mixed (by kernel_rfl) ?_; refine par_step (ok_fieldAt L rfl rfl rfl rfl) rfl ?_; refine par_step (ok_load1 L (src_at rfl) rfl rfl rfl rfl) rfl ?_; refine par_step (ok_fieldAt L rfl rfl rfl rfl) rfl ?_; refine par_step (ok_loadA L (vs := [_, _, _, _, _, _]) (src_at rfl) rfl rfl rfl rfl ⟨_, rfl⟩) rfl ?_; refine par_step (ok_move rfl rfl rfl) rfl ?_; refine par_step (ok_nil rfl rfl rfl) rfl ?_; refine par_step (ok_fieldP L rfl rfl rfl rfl) rfl ?_; refine par_step (ok_fieldP L rfl rfl rfl rfl) rfl ?_; refine par_step (ok_loadA L (vs := [_, _, _, _, _, _]) (src_base rfl (by assumption)) rfl rfl rfl rfl ⟨_, rfl⟩) rfl ?_; refine par_step (ok_callx L rfl rfl (blt_lt rfl) rfl rfl hc.fn (fun u H hH _ _ => hc.ret _ _ u H hH)) rfl ?_; refine par_step (ok_assign rfl rfl rfl) rfl ?_; refine par_nil ?_; refine N_seq ?_; refine V_block ?_; refine V_seq ?_; refine V_region (id := 4) ?_; refine vo_step (ok_move rfl rfl rfl) rfl ?_; refine vo_step (ok_lss rfl rfl rfl rfl (decide_eq_false (by omega))) rfl ?_; refine vo_step (ok_assign rfl rfl rfl) rfl ?_; refine vo_nil ?_; refine N_seq ?_; refine V_false rfl ?_; refine V_seq ?_; refine V_region (id := 6) ?_; refine vo_step (ok_move rfl rfl rfl) rfl ?_; refine vo_step (ok_gtr rfl rfl rfl rfl (decide_eq_false (by omega))) rfl ?_; refine vo_step (ok_assign rfl rfl rfl) rfl ?_; refine vo_nil ?_; refine N_seq ?_; refine V_false rfl ?_; refine V_skip ?_; refine N_block ?_; refine N_seq ?_; refine V_seq ?_; refine V_regionD (id := 8) [] mixed (by kernel_rfl) ?_; refine par_step (ok_move rfl rfl rfl) rfl ?_; refine par_step (ok_nil rfl rfl rfl) rfl ?_; refine par_step (ok_fieldP L rfl rfl rfl rfl) rfl ?_; refine par_step (ok_fieldP L rfl rfl rfl rfl) rfl ?_; refine par_step (ok_loadA L (vs := [_, _, _, _, _, _]) (src_base rfl (by assumption)) rfl rfl rfl rfl ⟨_, rfl⟩) rfl ?_; refine par_step (ok_fieldZA rfl rfl rfl (by kernel_rfl)) rfl ?_; refine par_step (ok_loadZ L rfl rfl rfl rfl) rfl ?_; refine par_step (ok_build (cs := [_, _, _, _, _, _]) rfl rfl pl145 rfl rfl) rfl ?_; refine par_step (ok_move rfl rfl rfl) rfl ?_; refine par_step (ok_nil rfl rfl rfl) rfl ?_; refine par_step (ok_fieldP L rfl rfl rfl rfl) rfl ?_; refine par_step (ok_load1 L (src_base rfl (by assumption)) rfl rfl rfl rfl) rfl ?_; refine par_step (ok_move rfl rfl rfl) rfl ?_; refine par_step (ok_nil rfl rfl rfl) rfl ?_; refine par_step (ok_fieldP L rfl rfl rfl rfl) rfl ?_; refine par_step (ok_load1 L (src_base rfl (by assumption)) rfl rfl rfl rfl) rfl ?_; refine par_step (ok_call L rfl rfl (blt_lt rfl) rfl rfl rfl UT.TA.mono (fun u H hH hle _ => UT.join_ret _ () _ _ hH (UT.TA.le (by assumption) hle) (UT.TA.le (by assumption) hle) (by first | omega | (simp only [Tr.size_node]; omega)))) rfl ?_; refine par_step (ok_assigns' rfl rfl rfl) rfl ?_; refine par_nil ?_; refine N_seq ?_
        refine V_ret L (rs := [.tmp 6]) rfl (fun _ _ h => h) Since.refl fun u H hH hle => ?_
        exact fun v hv => hv
abbrev FirstS (y : (KT × VT) × Tr KT VT) : Value → Heap → Prop := TupS [fun v _ => v = .agg (pl y.1.1 y.1.2).toArray, TA y.2]
theorem FirstS.mono {y : (KT × VT) × Tr KT VT} : Kn.mono (.sat (FirstS y)) := TupS.mono fun φ hφ => by
  simp only [List.mem_cons, List.mem_nil_iff, or_false] at hφ
  rcases hφ with rfl | rfl
  · exact fun _ _ _ h _ => h
  · exact TA.mono
theorem tupS2 {φ ψ : Value → Heap → Prop} {v w : Value} {H : Heap} (h1 : φ v H) (h2 : ψ w H) : TupS [φ, ψ] (tup [v, w]) H := ⟨[v, w], rfl, rfl, fun i χ x hi hx => by
  match i with
  | 0 => cases hi; cases hx; exact h1
  | 1 => cases hi; cases hx; exact h2
  | _ + 2 => cases hi⟩
theorem first_ret : ∀ (k : KT) (x : VT) (l r : Tr KT VT) {v : Value} {w : World} {B : Heap}, B.Le (hp w) → TA (.node k x l r) v B → l.size + r.size < 1099511627776 →
    Ret Try.prog 126 [v] w B (FirstS (Tr.first k x l r)) := by
  intro k x l
  induction l generalizing k x with
  | nil =>
    intro r v w B hB hv hs
    obtain ⟨b, lv, rv, rfl, hb, hl, hr⟩ := hv
    obtain rfl : lv = .pointer none := hl
    refine V_enter Try.func126 rfl Try.ntmps126 (Nat.le_of_ble_eq_true rfl) hB ?_
    refine V_seq ?_; refine V_region (id := 0) ?_; refine vo_step (ok_alloc L rfl rfl rfl rfl) rfl ?_; refine vo_step (ok_assign rfl rfl rfl) rfl ?_; refine vo_nil ?_; refine N_seq ?_; refine V_seq ?_; refine V_seq ?_; refine V_region (id := 1) ?_; refine vo_step (ok_move rfl rfl rfl) rfl ?_; refine vo_step (ok_nil rfl rfl rfl) rfl ?_; refine vo_step (ok_fieldP L rfl rfl rfl rfl) rfl ?_; refine vo_step (ok_load1 L (src_base rfl (by assumption)) rfl rfl rfl rfl) rfl ?_; refine vo_step (ok_neql rfl rfl rfl rfl nk35 rfl) rfl ?_; refine vo_nil ?_; refine N_seq ?_; refine V_true rfl ?_; refine V_seq ?_; refine V_regionD (id := 2) [] mixed (by kernel_rfl) ?_; refine par_step (ok_move rfl rfl rfl) rfl ?_; refine par_step (ok_nil rfl rfl rfl) rfl ?_; refine par_step (ok_fieldP L rfl rfl rfl rfl) rfl ?_; refine par_step (ok_loadA L (vs := [_, _, _, _, _, _]) (src_base rfl (by assumption)) rfl rfl rfl rfl ⟨_, rfl⟩) rfl ?_; refine par_step (ok_move rfl rfl rfl) rfl ?_; refine par_step (ok_nil rfl rfl rfl) rfl ?_; refine par_step (ok_fieldP L rfl rfl rfl rfl) rfl ?_; refine par_step (ok_load1 L (src_base rfl (by assumption)) rfl rfl rfl rfl) rfl ?_; refine par_step (ok_store L rfl rfl rfl rfl rfl rfl rfl rfl) rfl ?_; refine par_step (ok_assign rfl rfl rfl) rfl ?_; refine par_nil ?_; refine N_seq ?_
    refine V_ret L (rs := [.cell 2 145, .tmp 3]) rfl (fun _ _ h => h) Since.refl fun u H hH hle => ?_
    refine resK_cellA (src_own rfl) rfl rfl ?_
    exact tupS2 rfl (TA.le hr hle)
  | node lk lx ll lr ih _ =>
    intro r v w B hB hv hs
    obtain ⟨b, lv, rv, rfl, hb, hl, hr⟩ := hv
    have hl0 := hl
    obtain ⟨b2, v3, v4, rfl, hb2, _, _⟩ := hl
    have hz := Tr.size_first lk lx ll lr
    simp only [Tr.size_node] at hs
    have hm := TA.mono (t := (Tr.first lk lx ll lr).2)
    refine V_enter Try.func126 rfl Try.ntmps126 (Nat.le_of_ble_eq_true rfl) hB ?_
    refine V_seq ?_; refine V_region (id := 0) ?_; refine vo_step (ok_alloc L rfl rfl rfl rfl) rfl ?_; refine vo_step (ok_assign rfl rfl rfl) rfl ?_; refine vo_nil ?_; refine N_seq ?_; refine V_seq ?_; refine V_seq ?_; refine V_region (id := 1) ?_; refine vo_step (ok_move rfl rfl rfl) rfl ?_; refine vo_step (ok_nil rfl rfl rfl) rfl ?_; refine vo_step (ok_fieldP L rfl rfl rfl rfl) rfl ?_; refine vo_step (ok_load1 L (src_base rfl (by assumption)) rfl rfl rfl rfl) rfl ?_; refine vo_step (ok_neql rfl rfl rfl rfl nk35 rfl) rfl ?_; refine vo_nil ?_; refine N_seq ?_; refine V_false rfl ?_; refine V_skip ?_; refine N_seq ?_; refine V_seq ?_; refine V_region (id := 3) ?_; refine vo_step (ok_move rfl rfl rfl) rfl ?_; refine vo_step (ok_nil rfl rfl rfl) rfl ?_; refine vo_step (ok_fieldP L rfl rfl rfl rfl) rfl ?_; refine vo_step (ok_load1 L (src_base rfl (by assumption)) rfl rfl rfl rfl) rfl ?_; refine vo_step (ok_call L rfl rfl (blt_lt rfl) rfl rfl rfl FirstS.mono (fun u H hH hle _ => ih lk lx lr hH (TA.le hl0 hle) (by omega))) rfl ?_; refine vo_step (ok_moves' rfl rfl rfl) rfl ?_; refine vo_step (ok_extractx rfl rfl rfl rfl) rfl ?_; refine vo_step (ok_extracts rfl rfl rfl rfl (by assumption)) rfl ?_; refine vo_step (ok_alloc L rfl rfl rfl rfl) rfl ?_; refine vo_step (ok_store L rfl rfl rfl rfl rfl rfl rfl rfl) rfl ?_; refine vo_step (ok_assigns' rfl rfl rfl) rfl ?_; refine vo_nil ?_; refine N_seq ?_; refine V_seq ?_; refine V_regionD (id := 4) [] mixed (by kernel_rfl) ?_; refine par_step (ok_loadA L (vs := [_, _, _, _, _, _]) (src_own rfl) rfl rfl rfl rfl ⟨_, rfl⟩) rfl ?_; refine par_step (ok_move rfl rfl rfl) rfl ?_; refine par_step (ok_nil rfl rfl rfl) rfl ?_; refine par_step (ok_fieldP L rfl rfl rfl rfl) rfl ?_; refine par_step (ok_loadA L (vs := [_, _, _, _, _, _]) (src_base rfl (by assumption)) rfl rfl rfl rfl ⟨_, rfl⟩) rfl ?_; refine par_step (ok_moves' rfl rfl rfl) rfl ?_; refine par_step (ok_move rfl rfl rfl) rfl ?_; refine par_step (ok_nil rfl rfl rfl) rfl ?_; refine par_step (ok_fieldP L rfl rfl rfl rfl) rfl ?_; refine par_step (ok_load1 L (src_base rfl (by assumption)) rfl rfl rfl rfl) rfl ?_; refine par_step (ok_call L rfl rfl (blt_lt rfl) rfl rfl rfl UT.TA.mono (fun u H hH hle _ v1 hv1 => UT.bal_ret _ () _ _ hH hv1 (UT.TA.le (by assumption) hle) (by first | omega | (simp only [Tr.size_node]; omega)))) rfl ?_; refine par_step (ok_store L rfl rfl rfl rfl rfl rfl rfl rfl) rfl ?_; refine par_step (ok_assigns' rfl rfl rfl) rfl ?_; refine par_nil ?_; refine N_seq ?_
    refine V_ret L (rs := [.cell 2 145, .tmp 3]) rfl (fun _ _ h => h) Since.refl fun u H hH hle => ?_
    refine resK_cellA (src_own rfl) rfl rfl ?_
    exact fun v hv => tupS2 rfl hv
abbrev DropS (y : Tr KT VT × Bool) : Value → Heap → Prop := TupS [TA y.1, fun v _ => v = .bool y.2]
theorem DropS.mono {y : Tr KT VT × Bool} : Kn.mono (.sat (DropS y)) := TupS.mono fun φ hφ => by
  simp only [List.mem_cons, List.mem_nil_iff, or_false] at hφ
  rcases hφ with rfl | rfl
  · exact TA.mono
  · exact fun _ _ _ h _ => h
theorem drop_ret {cf : Nat} {c : KT → KT → Int} (hc : Cmp cf c) (root : Value) (k : KT) : ∀ (t : Tr KT VT) {rv : Value} {w : World} {B : Heap}, B.Le (hp w) → TA t rv B → t.size < 1099511627776 →
    Ret Try.prog 119 [mv cf root, rv, kv k] w B (DropS (Tr.drop c k t)) := by
  intro t
  induction t with
  | nil =>
    intro rv w B hB hv hs
    obtain rfl : rv = .pointer none := hv
    have hn : TA .nil (.pointer none) B := rfl
    refine V_enter Try.func119 rfl Try.ntmps119 (Nat.le_of_ble_eq_true rfl) hB ?_
    refine V_seq ?_; refine V_region (id := 0) ?_; refine vo_step (ok_box rfl rfl rfl rfl) rfl ?_; refine vo_step (ok_box rfl rfl rfl rfl) rfl ?_; refine vo_step (ok_assign rfl rfl rfl) rfl ?_; refine vo_step (ok_assign rfl rfl rfl) rfl ?_; refine vo_nil ?_; refine N_seq ?_; refine V_seq ?_; refine V_seq ?_; refine V_region (id := 1) ?_; refine vo_step (ok_move rfl rfl rfl) rfl ?_; refine vo_step (ok_neql rfl rfl rfl rfl nk35 rfl) rfl ?_; refine vo_nil ?_; refine N_seq ?_; refine V_true rfl ?_; refine V_seq ?_; refine V_region (id := 2) ?_; refine vo_step (ok_assign rfl rfl rfl) rfl ?_; refine vo_step (ok_assign rfl rfl rfl) rfl ?_; refine vo_nil ?_; refine N_seq ?_
    refine V_ret L (rs := [.tmp 6, .tmp 7]) rfl (fun _ _ h => h) Since.refl fun u H hH hle => ?_
    exact tupS2 rfl rfl
  | node nk nx l r ihl ihr =>
    intro rv w B hB hv hs
    obtain ⟨b, lv, rv', rfl, hb, hl, hr⟩ := hv
    have hpl := Tr.size_drop c k l
    have hpr := Tr.size_drop c k r
    simp only [Tr.size_node] at hs
    refine V_enter Try.func119 rfl Try.ntmps119 (Nat.le_of_ble_eq_true rfl) hB ?_
    unfold Tr.drop
    by_cases h1 : c k nk < 0
    · rw [if_pos h1]
      have hm := TA.mono (t := (Tr.drop c k l).1)
      refine V_seq ?_; refine V_region (id := 0) ?_; refine vo_step (ok_box rfl rfl rfl rfl) rfl ?_; refine vo_step (ok_box rfl rfl rfl rfl) rfl ?_; refine vo_step (ok_assign rfl rfl rfl) rfl ?_; refine vo_step (ok_assign rfl rfl rfl) rfl ?_; refine vo_nil ?_; refine N_seq ?_; refine V_seq ?_; refine V_seq ?_; refine V_region (id := 1) ?_; refine vo_step (ok_move rfl rfl rfl) rfl ?_; refine vo_step (ok_neql rfl rfl rfl rfl nk35 rfl) rfl ?_; refine vo_nil ?_; refine N_seq ?_; refine V_false rfl ?_; refine V_skip ?_; refine N_seq ?_; refine V_seq ?_; refine V_seq ?_; refine V_regionD (id := 3) [] mixed (by kernel_rfl) ?_; refine par_step (ok_fieldAt L rfl rfl rfl rfl) rfl ?_; refine par_step (ok_load1 L (src_at rfl) rfl rfl rfl rfl) rfl ?_; refine par_step (ok_loadA L (vs := [_, _, _, _, _, _]) (src_at rfl) rfl rfl rfl rfl ⟨_, rfl⟩) rfl ?_; refine par_step (ok_move rfl rfl rfl) rfl ?_; refine par_step (ok_nil rfl rfl rfl) rfl ?_; refine par_step (ok_fieldP L rfl rfl rfl rfl) rfl ?_; refine par_step (ok_fieldP L rfl rfl rfl rfl) rfl ?_; refine par_step (ok_loadA L (vs := [_, _, _, _, _, _]) (src_base rfl (by assumption)) rfl rfl rfl rfl ⟨_, rfl⟩) rfl ?_; refine par_step (ok_callx L rfl rfl (blt_lt rfl) rfl rfl hc.fn (fun u H hH _ _ => hc.ret _ _ u H hH)) rfl ?_; refine par_step (ok_assign rfl rfl rfl) rfl ?_; refine par_nil ?_; refine N_seq ?_; refine V_block ?_; refine V_seq ?_; refine V_region (id := 4) ?_; refine vo_step (ok_move rfl rfl rfl) rfl ?_; refine vo_step (ok_lss rfl rfl rfl rfl (decide_eq_true (by omega))) rfl ?_; refine vo_step (ok_assign rfl rfl rfl) rfl ?_; refine vo_nil ?_; refine N_seq ?_; refine V_true rfl ?_; refine V_seq ?_; refine V_regionD (id := 5) [] mixed (by kernel_rfl) ?_; refine par_step (ok_loadA L (vs := [_, _]) (src_at rfl) rfl rfl rfl rfl ⟨_, rfl⟩) rfl ?_; refine par_step (ok_move rfl rfl rfl) rfl ?_; refine par_step (ok_nil rfl rfl rfl) rfl ?_; refine par_step (ok_fieldP L rfl rfl rfl rfl) rfl ?_; refine par_step (ok_load1 L (src_base rfl (by assumption)) rfl rfl rfl rfl) rfl ?_; refine par_step (ok_loadA L (vs := [_, _, _, _, _, _]) (src_at rfl) rfl rfl rfl rfl ⟨_, rfl⟩) rfl ?_; refine par_step (ok_call L rfl rfl (blt_lt rfl) rfl rfl rfl DropS.mono (fun u H hH hle _ => ihl hH (hl.le hle) (by omega))) rfl ?_; refine par_step (ok_moves' rfl rfl rfl) rfl ?_; refine par_step (ok_extracts rfl rfl rfl rfl (by assumption)) rfl ?_; refine par_step (ok_extractx rfl rfl rfl rfl) rfl ?_; refine par_step (ok_assigns' rfl rfl rfl) rfl ?_; refine par_step (ok_assign rfl rfl rfl) rfl ?_; refine par_nil ?_; refine N_seq ?_; refine V_seq ?_; refine V_regionD (id := 6) [] mixed (by kernel_rfl) ?_; refine par_step (ok_move rfl rfl rfl) rfl ?_; refine par_step (ok_nil rfl rfl rfl) rfl ?_; refine par_step (ok_fieldP L rfl rfl rfl rfl) rfl ?_; refine par_step (ok_loadA L (vs := [_, _, _, _, _, _]) (src_base rfl (by assumption)) rfl rfl rfl rfl ⟨_, rfl⟩) rfl ?_; refine par_step (ok_moves' rfl rfl rfl) rfl ?_; refine par_step (ok_move rfl rfl rfl) rfl ?_; refine par_step (ok_nil rfl rfl rfl) rfl ?_; refine par_step (ok_fieldP L rfl rfl rfl rfl) rfl ?_; refine par_step (ok_load1 L (src_base rfl (by assumption)) rfl rfl rfl rfl) rfl ?_; refine par_step (ok_call L rfl rfl (blt_lt rfl) rfl rfl rfl UT.TA.mono (fun u H hH hle _ v1 hv1 => UT.bal_ret _ () _ _ hH hv1 (UT.TA.le (by assumption) hle) (by first | omega | (simp only [Tr.size_node]; omega)))) rfl ?_; refine par_step (ok_move rfl rfl rfl) rfl ?_; refine par_step (ok_assigns' rfl rfl rfl) rfl ?_; refine par_step (ok_assign rfl rfl rfl) rfl ?_; refine par_nil ?_; refine N_seq ?_
      refine V_ret L (rs := [.tmp 6, .tmp 7]) rfl (fun _ _ h => h) Since.refl fun u H hH hle => ?_
      exact fun v hv => tupS2 hv rfl
    · rw [if_neg h1]
      by_cases h2 : c k nk > 0
      · rw [if_pos h2]
        have hm := TA.mono (t := (Tr.drop c k r).1)
        refine V_seq ?_; refine V_region (id := 0) ?_; refine vo_step (ok_box rfl rfl rfl rfl) rfl ?_; refine vo_step (ok_box rfl rfl rfl rfl) rfl ?_; refine vo_step (ok_assign rfl rfl rfl) rfl ?_; refine vo_step (ok_assign rfl rfl rfl) rfl ?_; refine vo_nil ?_; refine N_seq ?_; refine V_seq ?_; refine V_seq ?_; refine V_region (id := 1) ?_; refine vo_step (ok_move rfl rfl rfl) rfl ?_; refine vo_step (ok_neql rfl rfl rfl rfl nk35 rfl) rfl ?_; refine vo_nil ?_; refine N_seq ?_; refine V_false rfl ?_; refine V_skip ?_; refine N_seq ?_; refine V_seq ?_; refine V_seq ?_; refine V_regionD (id := 3) [] mixed (by kernel_rfl) ?_; refine par_step (ok_fieldAt L rfl rfl rfl rfl) rfl ?_; refine par_step (ok_load1 L (src_at rfl) rfl rfl rfl rfl) rfl ?_; refine par_step (ok_loadA L (vs := [_, _, _, _, _, _]) (src_at rfl) rfl rfl rfl rfl ⟨_, rfl⟩) rfl ?_; refine par_step (ok_move rfl rfl rfl) rfl ?_; refine par_step (ok_nil rfl rfl rfl) rfl ?_; refine par_step (ok_fieldP L rfl rfl rfl rfl) rfl ?_; refine par_step (ok_fieldP L rfl rfl rfl rfl) rfl ?_; refine par_step (ok_loadA L (vs := [_, _, _, _, _, _]) (src_base rfl (by assumption)) rfl rfl rfl rfl ⟨_, rfl⟩) rfl ?_; refine par_step (ok_callx L rfl rfl (blt_lt rfl) rfl rfl hc.fn (fun u H hH _ _ => hc.ret _ _ u H hH)) rfl ?_; refine par_step (ok_assign rfl rfl rfl) rfl ?_; refine par_nil ?_; refine N_seq ?_; refine V_block ?_; refine V_seq ?_; refine V_region (id := 4) ?_; refine vo_step (ok_move rfl rfl rfl) rfl ?_; refine vo_step (ok_lss rfl rfl rfl rfl (decide_eq_false (by omega))) rfl ?_; refine vo_step (ok_assign rfl rfl rfl) rfl ?_; refine vo_nil ?_; refine N_seq ?_; refine V_false rfl ?_; refine V_seq ?_; refine V_region (id := 7) ?_; refine vo_step (ok_move rfl rfl rfl) rfl ?_; refine vo_step (ok_gtr rfl rfl rfl rfl (decide_eq_true (by omega))) rfl ?_; refine vo_step (ok_assign rfl rfl rfl) rfl ?_; refine vo_nil ?_; refine N_seq ?_; refine V_true rfl ?_; refine V_seq ?_; refine V_regionD (id := 8) [] mixed (by kernel_rfl) ?_; refine par_step (ok_loadA L (vs := [_, _]) (src_at rfl) rfl rfl rfl rfl ⟨_, rfl⟩) rfl ?_; refine par_step (ok_move rfl rfl rfl) rfl ?_; refine par_step (ok_nil rfl rfl rfl) rfl ?_; refine par_step (ok_fieldP L rfl rfl rfl rfl) rfl ?_; refine par_step (ok_load1 L (src_base rfl (by assumption)) rfl rfl rfl rfl) rfl ?_; refine par_step (ok_loadA L (vs := [_, _, _, _, _, _]) (src_at rfl) rfl rfl rfl rfl ⟨_, rfl⟩) rfl ?_; refine par_step (ok_call L rfl rfl (blt_lt rfl) rfl rfl rfl DropS.mono (fun u H hH hle _ => ihr hH (hr.le hle) (by omega))) rfl ?_; refine par_step (ok_moves' rfl rfl rfl) rfl ?_; refine par_step (ok_extracts rfl rfl rfl rfl (by assumption)) rfl ?_; refine par_step (ok_extractx rfl rfl rfl rfl) rfl ?_; refine par_step (ok_assigns' rfl rfl rfl) rfl ?_; refine par_step (ok_assign rfl rfl rfl) rfl ?_; refine par_nil ?_; refine N_seq ?_; refine V_seq ?_; refine V_regionD (id := 9) [] mixed (by kernel_rfl) ?_; refine par_step (ok_move rfl rfl rfl) rfl ?_; refine par_step (ok_nil rfl rfl rfl) rfl ?_; refine par_step (ok_fieldP L rfl rfl rfl rfl) rfl ?_; refine par_step (ok_loadA L (vs := [_, _, _, _, _, _]) (src_base rfl (by assumption)) rfl rfl rfl rfl ⟨_, rfl⟩) rfl ?_; refine par_step (ok_move rfl rfl rfl) rfl ?_; refine par_step (ok_nil rfl rfl rfl) rfl ?_; refine par_step (ok_fieldP L rfl rfl rfl rfl) rfl ?_; refine par_step (ok_load1 L (src_base rfl (by assumption)) rfl rfl rfl rfl) rfl ?_; refine par_step (ok_moves' rfl rfl rfl) rfl ?_; refine par_step (ok_call L rfl rfl (blt_lt rfl) rfl rfl rfl UT.TA.mono (fun u H hH hle _ v1 hv1 => UT.bal_ret _ () _ _ hH (UT.TA.le (by assumption) hle) hv1 (by first | omega | (simp only [Tr.size_node]; omega)))) rfl ?_; refine par_step (ok_move rfl rfl rfl) rfl ?_; refine par_step (ok_assigns' rfl rfl rfl) rfl ?_; refine par_step (ok_assign rfl rfl rfl) rfl ?_; refine par_nil ?_; refine N_seq ?_
        refine V_ret L (rs := [.tmp 6, .tmp 7]) rfl (fun _ _ h => h) Since.refl fun u H hH hle => ?_
        exact fun v hv => tupS2 hv rfl
      · rw [if_neg h2]
        cases r with
        | nil =>
          obtain rfl : rv' = .pointer none := hr
          refine V_seq ?_; refine V_region (id := 0) ?_; refine vo_step (ok_box rfl rfl rfl rfl) rfl ?_; refine vo_step (ok_box rfl rfl rfl rfl) rfl ?_; refine vo_step (ok_assign rfl rfl rfl) rfl ?_; refine vo_step (ok_assign rfl rfl rfl) rfl ?_; refine vo_nil ?_; refine N_seq ?_; refine V_seq ?_; refine V_seq ?_; refine V_region (id := 1) ?_; refine vo_step (ok_move rfl rfl rfl) rfl ?_; refine vo_step (ok_neql rfl rfl rfl rfl nk35 rfl) rfl ?_; refine vo_nil ?_; refine N_seq ?_; refine V_false rfl ?_; refine V_skip ?_; refine N_seq ?_; refine V_seq ?_; refine V_seq ?_; refine V_regionD (id := 3) [] mixed (by kernel_rfl) ?_; refine par_step (ok_fieldAt L rfl rfl rfl rfl) rfl ?_; refine par_step (ok_load1 L (src_at rfl) rfl rfl rfl rfl) rfl ?_; refine par_step (ok_loadA L (vs := [_, _, _, _, _, _]) (src_at rfl) rfl rfl rfl rfl ⟨_, rfl⟩) rfl ?_; refine par_step (ok_move rfl rfl rfl) rfl ?_; refine par_step (ok_nil rfl rfl rfl) rfl ?_; refine par_step (ok_fieldP L rfl rfl rfl rfl) rfl ?_; refine par_step (ok_fieldP L rfl rfl rfl rfl) rfl ?_; refine par_step (ok_loadA L (vs := [_, _, _, _, _, _]) (src_base rfl (by assumption)) rfl rfl rfl rfl ⟨_, rfl⟩) rfl ?_; refine par_step (ok_callx L rfl rfl (blt_lt rfl) rfl rfl hc.fn (fun u H hH _ _ => hc.ret _ _ u H hH)) rfl ?_; refine par_step (ok_assign rfl rfl rfl) rfl ?_; refine par_nil ?_; refine N_seq ?_; refine V_block ?_; refine V_seq ?_; refine V_region (id := 4) ?_; refine vo_step (ok_move rfl rfl rfl) rfl ?_; refine vo_step (ok_lss rfl rfl rfl rfl (decide_eq_false (by omega))) rfl ?_; refine vo_step (ok_assign rfl rfl rfl) rfl ?_; refine vo_nil ?_; refine N_seq ?_; refine V_false rfl ?_; refine V_seq ?_; refine V_region (id := 7) ?_; refine vo_step (ok_move rfl rfl rfl) rfl ?_; refine vo_step (ok_gtr rfl rfl rfl rfl (decide_eq_false (by omega))) rfl ?_; refine vo_step (ok_assign rfl rfl rfl) rfl ?_; refine vo_nil ?_; refine N_seq ?_; refine V_false rfl ?_; refine V_seq ?_; refine V_region (id := 10) ?_; refine vo_step (ok_move rfl rfl rfl) rfl ?_; refine vo_step (ok_nil rfl rfl rfl) rfl ?_; refine vo_step (ok_fieldP L rfl rfl rfl rfl) rfl ?_; refine vo_step (ok_load1 L (src_base rfl (by assumption)) rfl rfl rfl rfl) rfl ?_; refine vo_step (ok_neql rfl rfl rfl rfl nk35 rfl) rfl ?_; refine vo_step (ok_assign rfl rfl rfl) rfl ?_; refine vo_nil ?_; refine N_seq ?_; refine V_true rfl ?_; refine V_seq ?_; refine V_region (id := 11) ?_; refine vo_step (ok_move rfl rfl rfl) rfl ?_; refine vo_step (ok_nil rfl rfl rfl) rfl ?_; refine vo_step (ok_fieldP L rfl rfl rfl rfl) rfl ?_; refine vo_step (ok_load1 L (src_base rfl (by assumption)) rfl rfl rfl rfl) rfl ?_; refine vo_step (ok_assign rfl rfl rfl) rfl ?_; refine vo_step (ok_assign rfl rfl rfl) rfl ?_; refine vo_nil ?_; refine N_seq ?_
          refine V_ret L (rs := [.tmp 6, .tmp 7]) rfl (fun _ _ h => h) Since.refl fun u H hH hle => ?_
          exact tupS2 (TA.le hl hle) rfl
        | node rk rx rl rr =>
          have hr0 := hr
          obtain ⟨b2, v3, v4, rfl, hb2, _, _⟩ := hr
          have hz := Tr.size_first rk rx rl rr
          simp only [Tr.size_node] at hs
          have hm := TA.mono (t := (Tr.first rk rx rl rr).2)
          refine V_seq ?_; refine V_region (id := 0) ?_; refine vo_step (ok_box rfl rfl rfl rfl) rfl ?_; refine vo_step (ok_box rfl rfl rfl rfl) rfl ?_; refine vo_step (ok_assign rfl rfl rfl) rfl ?_; refine vo_step (ok_assign rfl rfl rfl) rfl ?_; refine vo_nil ?_; refine N_seq ?_; refine V_seq ?_; refine V_seq ?_; refine V_region (id := 1) ?_; refine vo_step (ok_move rfl rfl rfl) rfl ?_; refine vo_step (ok_neql rfl rfl rfl rfl nk35 rfl) rfl ?_; refine vo_nil ?_; refine N_seq ?_; refine V_false rfl ?_; refine V_skip ?_; refine N_seq ?_; refine V_seq ?_; refine V_seq ?_; refine V_regionD (id := 3) [] mixed (by kernel_rfl) ?_; refine par_step (ok_fieldAt L rfl rfl rfl rfl) rfl ?_; refine par_step (ok_load1 L (src_at rfl) rfl rfl rfl rfl) rfl ?_; refine par_step (ok_loadA L (vs := [_, _, _, _, _, _]) (src_at rfl) rfl rfl rfl rfl ⟨_, rfl⟩) rfl ?_; refine par_step (ok_move rfl rfl rfl) rfl ?_; refine par_step (ok_nil rfl rfl rfl) rfl ?_; refine par_step (ok_fieldP L rfl rfl rfl rfl) rfl ?_; refine par_step (ok_fieldP L rfl rfl rfl rfl) rfl ?_; refine par_step (ok_loadA L (vs := [_, _, _, _, _, _]) (src_base rfl (by assumption)) rfl rfl rfl rfl ⟨_, rfl⟩) rfl ?_; refine par_step (ok_callx L rfl rfl (blt_lt rfl) rfl rfl hc.fn (fun u H hH _ _ => hc.ret _ _ u H hH)) rfl ?_; refine par_step (ok_assign rfl rfl rfl) rfl ?_; refine par_nil ?_; refine N_seq ?_; refine V_block ?_; refine V_seq ?_; refine V_region (id := 4) ?_; refine vo_step (ok_move rfl rfl rfl) rfl ?_; refine vo_step (ok_lss rfl rfl rfl rfl (decide_eq_false (by omega))) rfl ?_; refine vo_step (ok_assign rfl rfl rfl) rfl ?_; refine vo_nil ?_; refine N_seq ?_; refine V_false rfl ?_; refine V_seq ?_; refine V_region (id := 7) ?_; refine vo_step (ok_move rfl rfl rfl) rfl ?_; refine vo_step (ok_gtr rfl rfl rfl rfl (decide_eq_false (by omega))) rfl ?_; refine vo_step (ok_assign rfl rfl rfl) rfl ?_; refine vo_nil ?_; refine N_seq ?_; refine V_false rfl ?_; refine V_seq ?_; refine V_region (id := 10) ?_; refine vo_step (ok_move rfl rfl rfl) rfl ?_; refine vo_step (ok_nil rfl rfl rfl) rfl ?_; refine vo_step (ok_fieldP L rfl rfl rfl rfl) rfl ?_; refine vo_step (ok_load1 L (src_base rfl (by assumption)) rfl rfl rfl rfl) rfl ?_; refine vo_step (ok_neql rfl rfl rfl rfl nk35 rfl) rfl ?_; refine vo_step (ok_assign rfl rfl rfl) rfl ?_; refine vo_nil ?_; refine N_seq ?_; refine V_false rfl ?_; refine V_skip ?_; refine N_block ?_; refine N_seq ?_; refine V_seq ?_; refine V_region (id := 12) ?_; refine vo_step (ok_move rfl rfl rfl) rfl ?_; refine vo_step (ok_nil rfl rfl rfl) rfl ?_; refine vo_step (ok_fieldP L rfl rfl rfl rfl) rfl ?_; refine vo_step (ok_load1 L (src_base rfl (by assumption)) rfl rfl rfl rfl) rfl ?_; refine vo_step (ok_call L rfl rfl (blt_lt rfl) rfl rfl rfl FirstS.mono (fun u H hH hle _ => first_ret rk rx rl rr hH (TA.le hr0 hle) (by omega))) rfl ?_; refine vo_step (ok_moves' rfl rfl rfl) rfl ?_; refine vo_step (ok_extractx rfl rfl rfl rfl) rfl ?_; refine vo_step (ok_extracts rfl rfl rfl rfl (by assumption)) rfl ?_; refine vo_step (ok_alloc L rfl rfl rfl rfl) rfl ?_; refine vo_step (ok_store L rfl rfl rfl rfl rfl rfl rfl rfl) rfl ?_; refine vo_step (ok_assigns' rfl rfl rfl) rfl ?_; refine vo_nil ?_; refine N_seq ?_; refine V_seq ?_; refine V_regionD (id := 13) [] mixed (by kernel_rfl) ?_; refine par_step (ok_loadA L (vs := [_, _, _, _, _, _]) (src_own rfl) rfl rfl rfl rfl ⟨_, rfl⟩) rfl ?_; refine par_step (ok_move rfl rfl rfl) rfl ?_; refine par_step (ok_nil rfl rfl rfl) rfl ?_; refine par_step (ok_fieldP L rfl rfl rfl rfl) rfl ?_; refine par_step (ok_load1 L (src_base rfl (by assumption)) rfl rfl rfl rfl) rfl ?_; refine par_step (ok_moves' rfl rfl rfl) rfl ?_; refine par_step (ok_call L rfl rfl (blt_lt rfl) rfl rfl rfl UT.TA.mono (fun u H hH hle _ v1 hv1 => UT.bal_ret _ () _ _ hH (UT.TA.le (by assumption) hle) hv1 (by first | omega | (simp only [Tr.size_node]; omega)))) rfl ?_; refine par_step (ok_assigns' rfl rfl rfl) rfl ?_; refine par_step (ok_assign rfl rfl rfl) rfl ?_; refine par_nil ?_; refine N_seq ?_
          refine V_ret L (rs := [.tmp 6, .tmp 7]) rfl (fun _ _ h => h) Since.refl fun u H hH hle => ?_
          exact fun v hv => tupS2 hv rfl
end Go.V.UT
/- The walks of trees at countersign/api.Tuple, struct{}: maps, and what is seen of them. -/
namespace Go.V.UT
open Go.Proofs Go.RowKit Go.V
/-- A map. -/
def MA (fv : Value) (t : Tr KT VT) : Value → Heap → Prop := fun v H => ∃ p, v = .agg #[fv, .pointer p] ∧ TA t (.pointer p) H
theorem MA.mono {fv : Value} {t : Tr KT VT} : Kn.mono (.sat (MA fv t)) := fun _ _ _ ⟨p, hv, h⟩ hle => ⟨p, hv, h.le hle⟩
theorem MA.le {fv : Value} {t : Tr KT VT} {v : Value} {H H' : Heap} (h : MA fv t v H) (hle : H.Le H') : MA fv t v H' := MA.mono _ _ _ h hle
attribute [local irreducible] V N X VO Par StepOK Has Ret RetL Src
theorem new_ret (cf : Nat) {w : World} {B : Heap} (hB : B.Le (hp w)) : Ret Try.prog 108 [.func (.func cf) #[] #[]] w B (fun v _ => v = .agg #[.func (.func cf) #[] #[], .pointer none]) := by
  refine V_enter Try.func108 rfl Try.ntmps108 (Nat.le_of_ble_eq_true rfl) hB ?_
  refine V_seq ?_; refine V_region (id := 0) ?_; refine vo_step (ok_alloc L rfl rfl rfl rfl) rfl ?_; refine vo_nil ?_; refine N_seq ?_; refine V_seq ?_; refine V_region (id := 1) ?_; refine vo_step (ok_move rfl rfl rfl) rfl ?_; refine vo_step (ok_build (cs := [_, _]) rfl rfl pl37 rfl rfl) rfl ?_; refine vo_step (ok_store L rfl rfl rfl rfl rfl rfl rfl rfl) rfl ?_; refine vo_nil ?_; refine N_seq ?_
  refine V_ret L (rs := [.cell 2 37]) rfl (fun _ _ h => h) Since.refl fun u H hH hle => ?_
  refine resK_cellA (src_own rfl) rfl rfl ?_
  rfl
theorem len_ret {fv root : Value} {t : Tr KT VT} {w : World} {B : Heap} (hB : B.Le (hp w)) (hv : TA t root B) : Ret Try.prog 65 [.agg #[fv, root]] w B (fun v _ => v = .int .i64 t.size) := by
  refine V_enter Try.func65 rfl Try.ntmps65 (Nat.le_of_ble_eq_true rfl) hB ?_
  refine V_seq ?_; refine V_region (id := 0) ?_; refine vo_step (ok_box rfl rfl rfl rfl) rfl ?_; refine vo_step (ok_assign rfl rfl rfl) rfl ?_; refine vo_nil ?_; refine N_seq ?_; refine V_seq ?_; refine V_region (id := 1) ?_; refine vo_step (ok_fieldAt L rfl rfl rfl rfl) rfl ?_; refine vo_step (ok_load1 L (src_at rfl) rfl rfl rfl rfl) rfl ?_; refine vo_step (ok_callx L rfl rfl (blt_lt rfl) rfl rfl rfl (fun u H hH hle _ => UT.size_ret _ hH (UT.TA.le (by assumption) hle))) rfl ?_; refine vo_step (ok_assign rfl rfl rfl) rfl ?_; refine vo_nil ?_; refine N_seq ?_
  refine V_ret L (rs := [.tmp 2]) rfl (fun _ _ h => h) Since.refl fun u H hH hle => ?_
  rfl
theorem mput_ret {cf : Nat} {c : KT → KT → Int} (hc : Cmp cf c) {p : Option Addr} (k : KT) (x : VT) {t : Tr KT VT} {w : World} {B : Heap} (hB : B.Le (hp w)) (hv : TA t (.pointer p) B) (hs : t.size + 1 < 1099511627776) :
    Ret Try.prog 110 [mv cf (.pointer p), kv k, vv x] w B (MA (.func (.func cf) #[] #[]) (Tr.put c k x t)) := by
  refine V_enter Try.func110 rfl Try.ntmps110 (Nat.le_of_ble_eq_true rfl) hB ?_
  refine V_seq ?_; refine V_region (id := 0) ?_; refine vo_step (ok_boxR rfl rfl rfl rfl) rfl ?_; refine vo_step (ok_box rfl rfl rfl rfl) rfl ?_; refine vo_step (ok_box rfl rfl rfl rfl) rfl ?_; refine vo_step (ok_alloc L rfl rfl rfl rfl) rfl ?_; refine vo_nil ?_; refine N_seq ?_; refine V_seq ?_; refine V_seq ?_; (refine V_box 3 rfl ?_; intro b3 hb3); refine V_region (id := 1) ?_; refine vo_step (ok_fieldP L rfl rfl rfl rfl) rfl ?_; refine vo_step (ok_load1 L (src_box rfl (List.Mem.head _)) rfl rfl rfl rfl) rfl ?_; refine vo_step (ok_nneq rfl rfl rfl rfl nk34 rfl rfl) rfl ?_; refine vo_nil ?_; refine N_seq ?_; refine V_true rfl ?_; refine V_region (id := 2) ?_; refine vo_step (ok_loadA L (vs := [_, _]) (src_box rfl (List.Mem.head _)) rfl rfl rfl rfl ⟨_, rfl⟩) rfl ?_; refine vo_step (ok_fieldP L rfl rfl rfl rfl) rfl ?_; refine vo_step (ok_load1 L (src_box rfl (List.Mem.head _)) rfl rfl rfl rfl) rfl ?_; refine vo_step (ok_loadA L (vs := [_, _, _, _, _, _]) (src_at rfl) rfl rfl rfl rfl ⟨_, rfl⟩) rfl ?_; refine vo_step (ok_loadA L (vs := []) (src_at rfl) rfl rfl rfl rfl ⟨_, rfl⟩) rfl ?_; refine vo_step (ok_build (cs := [_, _, _, _, _, _]) rfl rfl pl145 rfl rfl) rfl ?_; refine vo_step (ok_call L rfl rfl (blt_lt rfl) rfl rfl rfl TA.mono (fun u H hH hle _ => put_ret hc _ k x t hH (hv.le hle) hs)) rfl ?_; refine vo_opn 16 rfl ?_; intro p16 H16 hs16 hp16; obtain ⟨q16, rfl⟩ := TA.ptr hp16; refine vo_step (ok_fieldP L rfl rfl rfl rfl) rfl ?_; refine box_store L (O1 := []) rfl rfl rfl rfl rfl rfl rfl rfl rfl ?_; refine vo_nil ?_; refine N_seq ?_; refine V_seq ?_; refine V_region (id := 3) ?_; refine vo_step (ok_loadA L (vs := [_, _]) (src_box rfl (List.Mem.head _)) rfl rfl rfl rfl ⟨_, rfl⟩) rfl ?_; refine vo_step (ok_store L rfl rfl rfl rfl rfl rfl rfl rfl) rfl ?_; refine vo_nil ?_; refine N_seq ?_
  refine V_ret L (rs := [.cell 6 37]) rfl (fun _ _ h => h) hs16 fun u H hH hle => ?_
  refine resK_cellA (src_own rfl) rfl rfl ?_
  exact ⟨q16, rfl, hp16.le hle⟩
theorem mdrop_ret {cf : Nat} {c : KT → KT → Int} (hc : Cmp cf c) {p : Option Addr} (k : KT) {t : Tr KT VT} {w : World} {B : Heap} (hB : B.Le (hp w)) (hv : TA t (.pointer p) B) (hs : t.size < 1099511627776) :
    Ret Try.prog 109 [mv cf (.pointer p), kv k] w B (MA (.func (.func cf) #[] #[]) (if (Tr.drop c k t).2 = true then (Tr.drop c k t).1 else t)) := by
  have hD := fun (u : World) (H : Heap) (hH : H.Le (hp u)) (hle : B.Le H) => drop_ret hc (.pointer p) k t hH (hv.le hle) hs
  rcases hq : Tr.drop c k t with ⟨t', was⟩
  rw [hq] at hD
  have hm := TA.mono (t := t')
  cases was
  · rw [if_neg (by simp)]
    refine V_enter Try.func109 rfl Try.ntmps109 (Nat.le_of_ble_eq_true rfl) hB ?_
    refine V_seq ?_; refine V_region (id := 0) ?_; refine vo_step (ok_boxR rfl rfl rfl rfl) rfl ?_; refine vo_step (ok_box rfl rfl rfl rfl) rfl ?_; refine vo_step (ok_alloc L rfl rfl rfl rfl) rfl ?_; refine vo_nil ?_; refine N_seq ?_; refine V_seq ?_; refine V_seq ?_; (refine V_box 2 rfl ?_; intro b2 hb2); refine V_region (id := 1) ?_; refine vo_step (ok_loadA L (vs := [_, _]) (src_box rfl (List.Mem.head _)) rfl rfl rfl rfl ⟨_, rfl⟩) rfl ?_; refine vo_step (ok_fieldP L rfl rfl rfl rfl) rfl ?_; refine vo_step (ok_load1 L (src_box rfl (List.Mem.head _)) rfl rfl rfl rfl) rfl ?_; refine vo_step (ok_loadA L (vs := [_, _, _, _, _, _]) (src_at rfl) rfl rfl rfl rfl ⟨_, rfl⟩) rfl ?_; refine vo_step (ok_call L rfl rfl (blt_lt rfl) rfl rfl rfl DropS.mono (fun u H hH hle _ => hD u H hH hle)) rfl ?_; refine vo_step (ok_moves' rfl rfl rfl) rfl ?_; refine vo_step (ok_extracts rfl rfl rfl rfl (by assumption)) rfl ?_; refine vo_step (ok_extractx rfl rfl rfl rfl) rfl ?_; refine vo_step (ok_assigns' rfl rfl rfl) rfl ?_; refine vo_step (ok_assign rfl rfl rfl) rfl ?_; refine vo_nil ?_; refine N_seq ?_; refine V_seq ?_; refine V_region (id := 2) ?_; refine vo_step (ok_move rfl rfl rfl) rfl ?_; refine vo_nil ?_; refine N_seq ?_; refine V_false rfl ?_; refine V_skip ?_; refine N_seq ?_; refine V_seq ?_; refine V_region (id := 4) ?_; refine vo_step (ok_loadA L (vs := [_, _]) (src_box rfl (List.Mem.head _)) rfl rfl rfl rfl ⟨_, rfl⟩) rfl ?_; refine vo_step (ok_store L rfl rfl rfl rfl rfl rfl rfl rfl) rfl ?_; refine vo_nil ?_; refine N_seq ?_
    refine V_ret L (rs := [.cell 4 37]) rfl (fun _ _ h => h) Since.refl fun u H hH hle => ?_
    refine resK_cellA (src_own rfl) rfl rfl ?_
    exact ⟨p, rfl, hv.le hle⟩
  · rw [if_pos rfl]
    refine V_enter Try.func109 rfl Try.ntmps109 (Nat.le_of_ble_eq_true rfl) hB ?_
    refine V_seq ?_; refine V_region (id := 0) ?_; refine vo_step (ok_boxR rfl rfl rfl rfl) rfl ?_; refine vo_step (ok_box rfl rfl rfl rfl) rfl ?_; refine vo_step (ok_alloc L rfl rfl rfl rfl) rfl ?_; refine vo_nil ?_; refine N_seq ?_; refine V_seq ?_; refine V_seq ?_; (refine V_box 2 rfl ?_; intro b2 hb2); refine V_region (id := 1) ?_; refine vo_step (ok_loadA L (vs := [_, _]) (src_box rfl (List.Mem.head _)) rfl rfl rfl rfl ⟨_, rfl⟩) rfl ?_; refine vo_step (ok_fieldP L rfl rfl rfl rfl) rfl ?_; refine vo_step (ok_load1 L (src_box rfl (List.Mem.head _)) rfl rfl rfl rfl) rfl ?_; refine vo_step (ok_loadA L (vs := [_, _, _, _, _, _]) (src_at rfl) rfl rfl rfl rfl ⟨_, rfl⟩) rfl ?_; refine vo_step (ok_call L rfl rfl (blt_lt rfl) rfl rfl rfl DropS.mono (fun u H hH hle _ => hD u H hH hle)) rfl ?_; refine vo_step (ok_moves' rfl rfl rfl) rfl ?_; refine vo_step (ok_extracts rfl rfl rfl rfl (by assumption)) rfl ?_; refine vo_step (ok_extractx rfl rfl rfl rfl) rfl ?_; refine vo_step (ok_assigns' rfl rfl rfl) rfl ?_; refine vo_step (ok_assign rfl rfl rfl) rfl ?_; refine vo_nil ?_; refine N_seq ?_; refine V_seq ?_; refine V_region (id := 2) ?_; refine vo_step (ok_move rfl rfl rfl) rfl ?_; refine vo_nil ?_; refine N_seq ?_; refine V_true rfl ?_; refine V_region (id := 3) ?_; refine vo_step (ok_moves' rfl rfl rfl) rfl ?_; refine vo_opn 16 rfl ?_; intro p16 H16 hs16 hp16; obtain ⟨q16, rfl⟩ := TA.ptr hp16; refine vo_step (ok_fieldP L rfl rfl rfl rfl) rfl ?_; refine box_store L (O1 := []) rfl rfl rfl rfl rfl rfl rfl rfl rfl ?_; refine vo_nil ?_; refine N_seq ?_; refine V_seq ?_; refine V_region (id := 4) ?_; refine vo_step (ok_loadA L (vs := [_, _]) (src_box rfl (List.Mem.head _)) rfl rfl rfl rfl ⟨_, rfl⟩) rfl ?_; refine vo_step (ok_store L rfl rfl rfl rfl rfl rfl rfl rfl) rfl ?_; refine vo_nil ?_; refine N_seq ?_
    refine V_ret L (rs := [.cell 4 37]) rfl (fun _ _ h => h) hs16 fun u H hH hle => ?_
    refine resK_cellA (src_own rfl) rfl rfl ?_
    exact ⟨q16, rfl, hp16.le hle⟩
def getV : Option VT → List Value
  | some x => [vv x, .bool true]
  | none => [.agg #[], .bool false]
theorem get_ret {cf : Nat} {c : KT → KT → Int} (hc : Cmp cf c) (k : KT) {root : Value} {t : Tr KT VT} {w : World} {B : Heap} (hB : B.Le (hp w)) (hv : TA t root B) :
    Ret Try.prog 71 [mv cf root, kv k] w B (fun v _ => v = tup (getV (Tr.get c k t))) := by
  refine V_enter Try.func71 rfl Try.ntmps71 (Nat.le_of_ble_eq_true rfl) hB ?_
  refine V_seq ?_; refine V_region (id := 0) ?_; refine vo_step (ok_box rfl rfl rfl rfl) rfl ?_; refine vo_step (ok_box rfl rfl rfl rfl) rfl ?_; refine vo_step (ok_alloc L rfl rfl rfl rfl) rfl ?_; refine vo_step (ok_assign rfl rfl rfl) rfl ?_; refine vo_nil ?_; refine N_seq ?_; refine V_seq ?_; refine V_region (id := 1) ?_; refine vo_step (ok_fieldAt L rfl rfl rfl rfl) rfl ?_; refine vo_step (ok_load1 L (src_at rfl) rfl rfl rfl rfl) rfl ?_; refine vo_step (ok_assign rfl rfl rfl) rfl ?_; refine vo_nil ?_; refine N_seq ?_; refine V_seq ?_; refine V_block ?_
  refine V_loop (fun s : Tr KT VT × Value => [(3, .sat (At [.string k.1.1.1, .string k.1.1.2, .string k.1.2, .string k.2.1.1, .string k.2.1.2, .string k.2.2] 52 0)), (4, .own (Cell [] 118)), (2, .sat (At [.func (.func cf) #[] #[], root] 37 0)), (6, .is s.2)])
    (fun s => TA s.1 s.2 B ∧ Tr.get c k s.1 = Tr.get c k t) (fun s => s.1.size) (t, root) ⟨hv, rfl⟩ (by repeat (first | exact trivial | refine ⟨rfl, ?_⟩)) ?_
  rintro ⟨s, v⟩ ⟨hs, hg⟩
  dsimp only at hs hg ⊢
  cases s with
  | nil =>
    obtain rfl : v = .pointer none := hs
    refine V_seq ?_; refine V_seq ?_; refine V_region (id := 2) ?_; refine vo_step (ok_move rfl rfl rfl) rfl ?_; refine vo_step (ok_nneq rfl rfl rfl rfl nk35 rfl rfl) rfl ?_; refine vo_nil ?_; refine N_seq ?_; refine V_false rfl ?_; refine V_exit ?_; refine X_then ?_; refine X_then ?_; refine X_here ?_; refine N_seq ?_; refine V_seq ?_; refine V_region (id := 9) ?_; refine vo_step (ok_alloc L rfl rfl rfl rfl) rfl ?_; refine vo_nil ?_; refine N_seq ?_; refine V_seq ?_; refine V_region (id := 10) ?_; refine vo_step (ok_loadA L (vs := []) (src_own rfl) rfl rfl rfl rfl ⟨_, rfl⟩) rfl ?_; refine vo_step (ok_store L rfl rfl rfl rfl rfl rfl rfl rfl) rfl ?_; refine vo_step (ok_assign rfl rfl rfl) rfl ?_; refine vo_nil ?_; refine N_seq ?_
    refine V_ret L (rs := [.cell 4 118, .tmp 5]) rfl (fun _ _ h => h) Since.refl fun u H hH hle => ?_
    first | (rw [← hg]; rfl) | (refine resK_cellA (src_own rfl) rfl rfl ?_; rw [← hg]; rfl)
  | node nk nx l r =>
    obtain ⟨b, lv, rv, rfl, hb, hl, hr⟩ := hs
    by_cases h0 : c k nk = 0
    · rw [Tr.get_eq h0] at hg
      refine V_seq ?_; refine V_seq ?_; refine V_region (id := 2) ?_; refine vo_step (ok_move rfl rfl rfl) rfl ?_; refine vo_step (ok_nneq rfl rfl rfl rfl nk35 rfl rfl) rfl ?_; refine vo_nil ?_; refine N_seq ?_; refine V_true rfl ?_; refine V_skip ?_; refine N_seq ?_; refine V_block ?_; refine V_seq ?_; refine V_regionD (id := 3) [] mixed (by kernel_rfl) ?_; refine par_step (ok_fieldAt L rfl rfl rfl rfl) rfl ?_; refine par_step (ok_load1 L (src_at rfl) rfl rfl rfl rfl) rfl ?_; refine par_step (ok_loadA L (vs := [_, _, _, _, _, _]) (src_at rfl) rfl rfl rfl rfl ⟨_, rfl⟩) rfl ?_; refine par_step (ok_move rfl rfl rfl) rfl ?_; refine par_step (ok_nil rfl rfl rfl) rfl ?_; refine par_step (ok_fieldP L rfl rfl rfl rfl) rfl ?_; refine par_step (ok_fieldP L rfl rfl rfl rfl) rfl ?_; refine par_step (ok_loadA L (vs := [_, _, _, _, _, _]) (src_base rfl (by assumption)) rfl rfl rfl rfl ⟨_, rfl⟩) rfl ?_; refine par_step (ok_callx L rfl rfl (blt_lt rfl) rfl rfl hc.fn (fun u H hH _ _ => hc.ret _ _ u H hH)) rfl ?_; refine par_step (ok_assign rfl rfl rfl) rfl ?_; refine par_nil ?_; refine N_seq ?_; refine V_seq ?_; refine V_seq ?_; refine V_region (id := 4) ?_; refine vo_step (ok_move rfl rfl rfl) rfl ?_; refine vo_step (ok_eql rfl rfl rfl rfl (decide_eq_true (by omega))) rfl ?_; refine vo_nil ?_; refine N_seq ?_; refine V_true rfl ?_; refine V_seq ?_; refine V_region (id := 5) ?_; refine vo_step (ok_move rfl rfl rfl) rfl ?_; refine vo_step (ok_nil rfl rfl rfl) rfl ?_; refine vo_step (ok_fieldP L rfl rfl rfl rfl) rfl ?_; refine vo_step (ok_fieldZP (by assumption) rfl rfl rfl (by kernel_rfl)) rfl ?_; refine vo_step (ok_loadZ L rfl rfl rfl rfl) rfl ?_; refine vo_step (ok_store L rfl rfl rfl rfl rfl rfl rfl rfl) rfl ?_; refine vo_step (ok_assign rfl rfl rfl) rfl ?_; refine vo_nil ?_; refine N_seq ?_
      refine V_ret L (rs := [.cell 4 118, .tmp 5]) rfl (fun _ _ h => h) Since.refl fun u H hH hle => ?_
      first | (rw [← hg]; rfl) | (refine resK_cellA (src_own rfl) rfl rfl ?_; rw [← hg]; rfl)
    · by_cases h1 : c k nk < 0
      · rw [Tr.get_lt h1] at hg
        refine V_seq ?_; refine V_seq ?_; refine V_region (id := 2) ?_; refine vo_step (ok_move rfl rfl rfl) rfl ?_; refine vo_step (ok_nneq rfl rfl rfl rfl nk35 rfl rfl) rfl ?_; refine vo_nil ?_; refine N_seq ?_; refine V_true rfl ?_; refine V_skip ?_; refine N_seq ?_; refine V_block ?_; refine V_seq ?_; refine V_regionD (id := 3) [] mixed (by kernel_rfl) ?_; refine par_step (ok_fieldAt L rfl rfl rfl rfl) rfl ?_; refine par_step (ok_load1 L (src_at rfl) rfl rfl rfl rfl) rfl ?_; refine par_step (ok_loadA L (vs := [_, _, _, _, _, _]) (src_at rfl) rfl rfl rfl rfl ⟨_, rfl⟩) rfl ?_; refine par_step (ok_move rfl rfl rfl) rfl ?_; refine par_step (ok_nil rfl rfl rfl) rfl ?_; refine par_step (ok_fieldP L rfl rfl rfl rfl) rfl ?_; refine par_step (ok_fieldP L rfl rfl rfl rfl) rfl ?_; refine par_step (ok_loadA L (vs := [_, _, _, _, _, _]) (src_base rfl (by assumption)) rfl rfl rfl rfl ⟨_, rfl⟩) rfl ?_; refine par_step (ok_callx L rfl rfl (blt_lt rfl) rfl rfl hc.fn (fun u H hH _ _ => hc.ret _ _ u H hH)) rfl ?_; refine par_step (ok_assign rfl rfl rfl) rfl ?_; refine par_nil ?_; refine N_seq ?_; refine V_seq ?_; refine V_seq ?_; refine V_region (id := 4) ?_; refine vo_step (ok_move rfl rfl rfl) rfl ?_; refine vo_step (ok_eql rfl rfl rfl rfl (decide_eq_false (by omega))) rfl ?_; refine vo_nil ?_; refine N_seq ?_; refine V_false rfl ?_; refine V_skip ?_; refine N_seq ?_; refine V_seq ?_; refine V_region (id := 6) ?_; refine vo_step (ok_move rfl rfl rfl) rfl ?_; refine vo_step (ok_lss rfl rfl rfl rfl (decide_eq_true (by omega))) rfl ?_; refine vo_nil ?_; refine N_seq ?_; refine V_true rfl ?_; refine V_region (id := 7) ?_; refine vo_step (ok_move rfl rfl rfl) rfl ?_; refine vo_step (ok_nil rfl rfl rfl) rfl ?_; refine vo_step (ok_fieldP L rfl rfl rfl rfl) rfl ?_; refine vo_step (ok_load1 L (src_base rfl (by assumption)) rfl rfl rfl rfl) rfl ?_; refine vo_step (ok_assign rfl rfl rfl) rfl ?_; refine vo_nil ?_; refine N_block ?_
        exact N_round (x := (Tr.node nk nx l r, Value.pointer (some ⟨b, 0, none⟩))) (l, lv) ⟨hl, hg⟩ (by simp only [Tr.size_node]; omega) (by repeat (first | exact trivial | refine ⟨rfl, ?_⟩))
      · rw [Tr.get_gt h0 h1] at hg
        refine V_seq ?_; refine V_seq ?_; refine V_region (id := 2) ?_; refine vo_step (ok_move rfl rfl rfl) rfl ?_; refine vo_step (ok_nneq rfl rfl rfl rfl nk35 rfl rfl) rfl ?_; refine vo_nil ?_; refine N_seq ?_; refine V_true rfl ?_; refine V_skip ?_; refine N_seq ?_; refine V_block ?_; refine V_seq ?_; refine V_regionD (id := 3) [] mixed (by kernel_rfl) ?_; refine par_step (ok_fieldAt L rfl rfl rfl rfl) rfl ?_; refine par_step (ok_load1 L (src_at rfl) rfl rfl rfl rfl) rfl ?_; refine par_step (ok_loadA L (vs := [_, _, _, _, _, _]) (src_at rfl) rfl rfl rfl rfl ⟨_, rfl⟩) rfl ?_; refine par_step (ok_move rfl rfl rfl) rfl ?_; refine par_step (ok_nil rfl rfl rfl) rfl ?_; refine par_step (ok_fieldP L rfl rfl rfl rfl) rfl ?_; refine par_step (ok_fieldP L rfl rfl rfl rfl) rfl ?_; refine par_step (ok_loadA L (vs := [_, _, _, _, _, _]) (src_base rfl (by assumption)) rfl rfl rfl rfl ⟨_, rfl⟩) rfl ?_; refine par_step (ok_callx L rfl rfl (blt_lt rfl) rfl rfl hc.fn (fun u H hH _ _ => hc.ret _ _ u H hH)) rfl ?_; refine par_step (ok_assign rfl rfl rfl) rfl ?_; refine par_nil ?_; refine N_seq ?_; refine V_seq ?_; refine V_seq ?_; refine V_region (id := 4) ?_; refine vo_step (ok_move rfl rfl rfl) rfl ?_; refine vo_step (ok_eql rfl rfl rfl rfl (decide_eq_false (by omega))) rfl ?_; refine vo_nil ?_; refine N_seq ?_; refine V_false rfl ?_; refine V_skip ?_; refine N_seq ?_; refine V_seq ?_; refine V_region (id := 6) ?_; refine vo_step (ok_move rfl rfl rfl) rfl ?_; refine vo_step (ok_lss rfl rfl rfl rfl (decide_eq_false (by omega))) rfl ?_; refine vo_nil ?_; refine N_seq ?_; refine V_false rfl ?_; refine V_region (id := 8) ?_; refine vo_step (ok_move rfl rfl rfl) rfl ?_; refine vo_step (ok_nil rfl rfl rfl) rfl ?_; refine vo_step (ok_fieldP L rfl rfl rfl rfl) rfl ?_; refine vo_step (ok_load1 L (src_base rfl (by assumption)) rfl rfl rfl rfl) rfl ?_; refine vo_step (ok_assign rfl rfl rfl) rfl ?_; refine vo_nil ?_; refine N_block ?_
        exact N_round (x := (Tr.node nk nx l r, Value.pointer (some ⟨b, 0, none⟩))) (r, rv) ⟨hr, hg⟩ (by simp only [Tr.size_node]; omega) (by repeat (first | exact trivial | refine ⟨rfl, ?_⟩))
end Go.V.UT
/- The walks of trees at countersign/api.Tuple, struct{}: the pairs, one after the other. -/
namespace Go.V.UT
open Go.Proofs Go.RowKit Go.V
/-- What 'pairs' hands back: a function value that holds four variables. -/
def PairsAt (t : Tr KT VT) (a f e : Int) : Value → Heap → Prop := fun v H => ∃ b1 b2 b3 b4 root, v = .func (.func 121) #[] #[.pointer (some ⟨b1, 0, none⟩), .pointer (some ⟨b2, 0, none⟩), .pointer (some ⟨b3, 0, none⟩), .pointer (some ⟨b4, 0, none⟩)] ∧
  H b1 = some (.cells [root].toArray 35) ∧ H b2 = some (.cells [.int .i64 a].toArray 3) ∧ H b3 = some (.cells [.int .i64 f].toArray 3) ∧ H b4 = some (.cells [.int .i64 e].toArray 3) ∧ TA t root H
theorem PairsAt.mono {t : Tr KT VT} {a f e : Int} : Kn.mono (.sat (PairsAt t a f e)) := fun _ _ _ ⟨b1, b2, b3, b4, root, h0, h1, h2, h3, h4, h5⟩ hle => ⟨b1, b2, b3, b4, root, h0, hle _ _ h1, hle _ _ h2, hle _ _ h3, hle _ _ h4, h5.le hle⟩
attribute [local irreducible] V N X VO Par StepOK Has Ret RetL Src
end Go.V.UT
/- The walks of trees at countersign/api.Tuple, struct{}: lists of pairs. -/
namespace Go.V.UT
open Go.Proofs Go.RowKit Go.V
abbrev tyP : TypeId := 145
/-- The cells of a list of pairs. -/
def flat (l : List (KT × VT)) : List Value := l.flatMap fun y => pl y.1 y.2
abbrev PS (l : List (KT × VT)) (fu : Bool) : Value → Heap → Prop := SlV tyP 6 (flat l) l.length fu
attribute [local irreducible] V N X VO Par StepOK Has Ret RetL Src
theorem PS.mono {l : List (KT × VT)} {fu : Bool} : Kn.mono (.sat (PS l fu)) := SlV.mono
end Go.V.UT
/- The walks of trees at countersign/api.Tuple, struct{}: the methods of a map, by what the map is. -/
namespace Go.V.UT
open Go.Proofs Go.RowKit Go.V
abbrev MF (cf : Nat) (t : Tr KT VT) : Value → Heap → Prop := MA (.func (.func cf) #[] #[]) t
theorem mput_m {cf : Nat} {c : KT → KT → Int} (hc : Cmp cf c) (k : KT) (x : VT) {t : Tr KT VT} {v : Value} {w : World} {B : Heap} (hB : B.Le (hp w)) (hv : MF cf t v B) (hs : t.size + 1 < 1099511627776) :
    Ret Try.prog 110 [v, kv k, vv x] w B (MF cf (Tr.put c k x t)) := by
  obtain ⟨p, rfl, h⟩ := hv
  exact mput_ret hc k x hB h hs
theorem mdrop_m {cf : Nat} {c : KT → KT → Int} (hc : Cmp cf c) (k : KT) {t : Tr KT VT} {v : Value} {w : World} {B : Heap} (hB : B.Le (hp w)) (hv : MF cf t v B) (hs : t.size < 1099511627776) :
    Ret Try.prog 109 [v, kv k] w B (MF cf (if (Tr.drop c k t).2 = true then (Tr.drop c k t).1 else t)) := by
  obtain ⟨p, rfl, h⟩ := hv
  exact mdrop_ret hc k hB h hs
theorem len_m {fv : Value} {t : Tr KT VT} {v : Value} {w : World} {B : Heap} (hB : B.Le (hp w)) (hv : MA fv t v B) {n : Nat} (hn : t.size = n) : Ret Try.prog 65 [v] w B (fun v _ => v = .int .i64 n) := by
  obtain ⟨p, rfl, h⟩ := hv
  subst hn
  exact len_ret hB h
theorem get_m {cf : Nat} {c : KT → KT → Int} (hc : Cmp cf c) (k : KT) {t : Tr KT VT} {v : Value} {w : World} {B : Heap} (hB : B.Le (hp w)) (hv : MF cf t v B) {o : Option VT} (ho : Tr.get c k t = o) :
    Ret Try.prog 71 [v, kv k] w B (fun v _ => v = tup (getV o)) := by
  obtain ⟨p, rfl, h⟩ := hv
  subst ho
  exact get_ret hc k hB h
end Go.V.UT
/- The walks of trees at countersign/api.Tuple, struct{}: what is taken out of a map, by what the map is. -/
namespace Go.V.UT
open Go.Proofs Go.RowKit Go.V
end Go.V.UT
/- The walks of sets (chapter 6): what a set is, a change. -/
namespace Go.V.L6
open Go.Proofs Go.RowKit Go.V Go.V.L2 Go.V.L3
abbrev fvC : Value := .func (.func 76) #[] #[]
abbrev fvS : Value := .func (.func 86) #[] #[]
abbrev tySet : TypeId := 41
/-- A change, as a value. -/
abbrev chv (x : U) (d : Bool) : Value := .agg #[.string x.1.1.1, .string x.1.1.2, .string x.1.2, .string x.2.1.1, .string x.2.1.2, .string x.2.2, .bool d]
attribute [local irreducible] V N X VO Par StepOK Has Ret RetL RetO Src
theorem subj_ret {a b : U} {w : World} {B : Heap} (hB : B.Le (hp w)) : Ret Try.prog 86 [uv a, uv b] w B (fun v _ => v = .int .i64 (cmpS a b)) := by
  refine V_enter Try.func86 rfl Try.ntmps86 (Nat.le_of_ble_eq_true rfl) hB ?_
  refine V_seq ?_; refine V_region (id := 0) ?_; refine vo_step (ok_box rfl rfl rfl rfl) rfl ?_; refine vo_step (ok_box rfl rfl rfl rfl) rfl ?_; refine vo_step (ok_assign rfl rfl rfl) rfl ?_; refine vo_nil ?_; refine N_seq ?_; refine V_seq ?_; refine V_regionD (id := 1) [] mixed (by kernel_rfl) ?_; refine par_step (ok_fieldAt L rfl rfl rfl rfl) rfl ?_; refine par_step (ok_loadA L (vs := [_, _, _]) (src_at rfl) rfl rfl rfl rfl ⟨_, rfl⟩) rfl ?_; refine par_step (ok_fieldAt L rfl rfl rfl rfl) rfl ?_; refine par_step (ok_loadA L (vs := [_, _, _]) (src_at rfl) rfl rfl rfl rfl ⟨_, rfl⟩) rfl ?_; refine par_step (ok_callx L rfl rfl (blt_lt rfl) rfl rfl rfl (fun u H hH _ _ => cmpU_ret hH)) rfl ?_; refine par_step (ok_fieldAt L rfl rfl rfl rfl) rfl ?_; refine par_step (ok_loadA L (vs := [_, _, _]) (src_at rfl) rfl rfl rfl rfl ⟨_, rfl⟩) rfl ?_; refine par_step (ok_fieldAt L rfl rfl rfl rfl) rfl ?_; refine par_step (ok_loadA L (vs := [_, _, _]) (src_at rfl) rfl rfl rfl rfl ⟨_, rfl⟩) rfl ?_; refine par_step (ok_callx L rfl rfl (blt_lt rfl) rfl rfl rfl (fun u H hH _ _ => cmpG_ret hH)) rfl ?_; refine par_step (ok_buildSlice L rfl rfl rfl rfl rfl rfl rfl rfl rfl) rfl ?_; refine par_step (ok_callx L rfl rfl (blt_lt rfl) rfl rfl rfl (fun u H hH _ _ v hv => or2_ret hH hv)) rfl ?_; refine par_step (ok_assign rfl rfl rfl) rfl ?_; refine par_nil ?_; refine N_seq ?_
  refine V_ret L (rs := [.tmp 4]) rfl (fun _ _ h => h) Since.refl fun u H hH hle => ?_
  rfl
theorem cmpUT : UT.Cmp 76 cmpT := ⟨rfl, fun _ _ _ _ hH => tcmp_ret hH⟩
theorem cmpUS : UT.Cmp 86 cmpS := ⟨rfl, fun _ _ _ _ hH => subj_ret hH⟩
/-- A tree after a change. -/
def chT (c : U → U → Int) (x : U) (d : Bool) (t : Tr U Unit) : Tr U Unit := if d = true then (if (Tr.drop c x t).2 = true then (Tr.drop c x t).1 else t) else Tr.put c x () t
theorem change_ret {cf : Nat} {c : U → U → Int} (hc : UT.Cmp cf c) {f : Value} {p : Option Addr} {t : Tr U Unit} (hf : f = .func (.func cf) #[] #[] ∨ (f = .nilFunc ∧ t = .nil)) (x : U) (d : Bool) {w : World} {B : Heap} (hB : B.Le (hp w)) (ht : UT.TA t (.pointer p) B) (hs : t.size + 1 < 1099511627776) :
    Ret Try.prog 85 [.agg #[f, .pointer p], chv x d, .func (.func cf) #[] #[]] w B (UT.MF cf (chT c x d t)) := by
  by_cases h0 : t.size = 0
  · have hn : t = .nil := by
      cases t with
      | nil => rfl
      | node k y l r => simp only [Tr.size] at h0; omega
    subst hn
    have hz : UT.TA .nil (.pointer none) B := rfl
    refine V_enter Try.func85 rfl Try.ntmps85 (Nat.le_of_ble_eq_true rfl) hB ?_
    unfold chT
    cases d
    · refine V_seq ?_; refine V_region (id := 0) ?_; refine vo_step (ok_boxR rfl rfl rfl rfl) rfl ?_; refine vo_box 3 rfl fun b hb => ?_; refine vo_step (ok_box rfl rfl rfl rfl) rfl ?_; refine vo_step (ok_alloc L rfl rfl rfl rfl) rfl ?_; refine vo_nil ?_; refine N_seq ?_; refine V_seq ?_; refine V_seq ?_; refine V_region (id := 1) ?_; refine vo_step (ok_fieldP L rfl rfl rfl rfl) rfl ?_; refine vo_step (ok_loadA L (vs := [_, _]) (src_box rfl (List.Mem.head _)) rfl rfl rfl rfl ⟨_, rfl⟩) rfl ?_; refine vo_step (ok_callx L rfl rfl (blt_lt rfl) rfl rfl rfl (fun u H hH hle _ => UT.len_m hH (⟨_, rfl, ht.le hle⟩) h0)) rfl ?_; refine vo_step (ok_eql rfl rfl rfl rfl (decide_eq_true (by omega))) rfl ?_; refine vo_nil ?_; refine N_seq ?_; refine V_true rfl ?_; refine V_region (id := 2) ?_; refine vo_step (ok_move rfl rfl rfl) rfl ?_; refine vo_step (ok_callx L rfl rfl (blt_lt rfl) rfl rfl rfl (fun u H hH _ _ => UT.new_ret _ hH)) rfl ?_; refine vo_step (ok_fieldP L rfl rfl rfl rfl) rfl ?_; refine box_store L (O1 := []) rfl rfl rfl rfl rfl rfl rfl rfl rfl ?_; refine vo_nil ?_; refine N_seq ?_; refine V_seq ?_; refine V_seq ?_; refine V_region (id := 3) ?_; refine vo_step (ok_fieldAt L rfl rfl rfl rfl) rfl ?_; refine vo_step (ok_load1 L (src_at rfl) rfl rfl rfl rfl) rfl ?_; refine vo_nil ?_; refine N_seq ?_; refine V_false rfl ?_; refine V_skip ?_; refine N_seq ?_; refine V_seq ?_; refine V_region (id := 5) ?_; refine vo_step (ok_fieldP L rfl rfl rfl rfl) rfl ?_; refine vo_step (ok_loadA L (vs := [_, _]) (src_box rfl (List.Mem.head _)) rfl rfl rfl rfl ⟨_, rfl⟩) rfl ?_; refine vo_step (ok_fieldAt L rfl rfl rfl rfl) rfl ?_; refine vo_step (ok_loadA L (vs := [_, _, _, _, _, _]) (src_at rfl) rfl rfl rfl rfl ⟨_, rfl⟩) rfl ?_; refine vo_step (ok_build (cs := []) rfl rfl pl118 rfl rfl) rfl ?_; refine vo_step (ok_call (φ := UT.MF cf (Tr.put c x () .nil)) L rfl rfl (blt_lt rfl) rfl rfl rfl UT.MA.mono (fun u H hH hle _ => UT.mput_m hc x () hH (⟨_, rfl, hz.le hle⟩) hs)) rfl ?_; refine vo_opn 27 rfl ?_; rintro _ H27 hs27 ⟨q27, rfl, hp27⟩; refine vo_step (ok_build (cs := [_, _]) rfl rfl pl39 rfl rfl) rfl ?_; refine vo_step (ok_store L rfl rfl rfl rfl rfl rfl rfl rfl) rfl ?_; refine vo_nil ?_; refine N_seq ?_
      refine V_ret L (rs := [.cell 6 39]) rfl (fun _ _ h => h) hs27 fun u H hH hle => ?_
      exact ⟨_, src_own rfl, rfl, q27, rfl, hp27.le hle⟩
    · refine V_seq ?_; refine V_region (id := 0) ?_; refine vo_step (ok_boxR rfl rfl rfl rfl) rfl ?_; refine vo_box 3 rfl fun b hb => ?_; refine vo_step (ok_box rfl rfl rfl rfl) rfl ?_; refine vo_step (ok_alloc L rfl rfl rfl rfl) rfl ?_; refine vo_nil ?_; refine N_seq ?_; refine V_seq ?_; refine V_seq ?_; refine V_region (id := 1) ?_; refine vo_step (ok_fieldP L rfl rfl rfl rfl) rfl ?_; refine vo_step (ok_loadA L (vs := [_, _]) (src_box rfl (List.Mem.head _)) rfl rfl rfl rfl ⟨_, rfl⟩) rfl ?_; refine vo_step (ok_callx L rfl rfl (blt_lt rfl) rfl rfl rfl (fun u H hH hle _ => UT.len_m hH (⟨_, rfl, ht.le hle⟩) h0)) rfl ?_; refine vo_step (ok_eql rfl rfl rfl rfl (decide_eq_true (by omega))) rfl ?_; refine vo_nil ?_; refine N_seq ?_; refine V_true rfl ?_; refine V_region (id := 2) ?_; refine vo_step (ok_move rfl rfl rfl) rfl ?_; refine vo_step (ok_callx L rfl rfl (blt_lt rfl) rfl rfl rfl (fun u H hH _ _ => UT.new_ret _ hH)) rfl ?_; refine vo_step (ok_fieldP L rfl rfl rfl rfl) rfl ?_; refine box_store L (O1 := []) rfl rfl rfl rfl rfl rfl rfl rfl rfl ?_; refine vo_nil ?_; refine N_seq ?_; refine V_seq ?_; refine V_seq ?_; refine V_region (id := 3) ?_; refine vo_step (ok_fieldAt L rfl rfl rfl rfl) rfl ?_; refine vo_step (ok_load1 L (src_at rfl) rfl rfl rfl rfl) rfl ?_; refine vo_nil ?_; refine N_seq ?_; refine V_true rfl ?_; refine V_seq ?_; refine V_region (id := 4) ?_; refine vo_step (ok_fieldP L rfl rfl rfl rfl) rfl ?_; refine vo_step (ok_loadA L (vs := [_, _]) (src_box rfl (List.Mem.head _)) rfl rfl rfl rfl ⟨_, rfl⟩) rfl ?_; refine vo_step (ok_fieldAt L rfl rfl rfl rfl) rfl ?_; refine vo_step (ok_loadA L (vs := [_, _, _, _, _, _]) (src_at rfl) rfl rfl rfl rfl ⟨_, rfl⟩) rfl ?_; refine vo_step (ok_call (φ := UT.MF cf (if (Tr.drop c x .nil).2 = true then (Tr.drop c x .nil).1 else .nil)) L rfl rfl (blt_lt rfl) rfl rfl rfl UT.MA.mono (fun u H hH hle _ => UT.mdrop_m hc x hH (⟨_, rfl, hz.le hle⟩) (by omega))) rfl ?_; refine vo_opn 20 rfl ?_; rintro _ H20 hs20 ⟨q20, rfl, hp20⟩; refine vo_step (ok_build (cs := [_, _]) rfl rfl pl39 rfl rfl) rfl ?_; refine vo_step (ok_store L rfl rfl rfl rfl rfl rfl rfl rfl) rfl ?_; refine vo_nil ?_; refine N_seq ?_
      refine V_ret L (rs := [.cell 6 39]) rfl (fun _ _ h => h) hs20 fun u H hH hle => ?_
      exact ⟨_, src_own rfl, rfl, q20, rfl, hp20.le hle⟩
  · obtain rfl : f = .func (.func cf) #[] #[] := by
      rcases hf with h | ⟨_, h⟩
      · exact h
      · subst h; exact absurd rfl h0
    refine V_enter Try.func85 rfl Try.ntmps85 (Nat.le_of_ble_eq_true rfl) hB ?_
    unfold chT
    cases d
    · refine V_seq ?_; refine V_region (id := 0) ?_; refine vo_step (ok_boxR rfl rfl rfl rfl) rfl ?_; refine vo_box 3 rfl fun b hb => ?_; refine vo_step (ok_box rfl rfl rfl rfl) rfl ?_; refine vo_step (ok_alloc L rfl rfl rfl rfl) rfl ?_; refine vo_nil ?_; refine N_seq ?_; refine V_seq ?_; refine V_seq ?_; refine V_region (id := 1) ?_; refine vo_step (ok_fieldP L rfl rfl rfl rfl) rfl ?_; refine vo_step (ok_loadA L (vs := [_, _]) (src_box rfl (List.Mem.head _)) rfl rfl rfl rfl ⟨_, rfl⟩) rfl ?_; refine vo_step (ok_callx L rfl rfl (blt_lt rfl) rfl rfl rfl (fun u H hH hle _ => UT.len_m hH (⟨_, rfl, ht.le hle⟩) rfl)) rfl ?_; refine vo_step (ok_eql rfl rfl rfl rfl (decide_eq_false (by omega))) rfl ?_; refine vo_nil ?_; refine N_seq ?_; refine V_false rfl ?_; refine V_skip ?_; refine N_seq ?_; refine V_seq ?_; refine V_seq ?_; refine V_region (id := 3) ?_; refine vo_step (ok_fieldAt L rfl rfl rfl rfl) rfl ?_; refine vo_step (ok_load1 L (src_at rfl) rfl rfl rfl rfl) rfl ?_; refine vo_nil ?_; refine N_seq ?_; refine V_false rfl ?_; refine V_skip ?_; refine N_seq ?_; refine V_seq ?_; refine V_region (id := 5) ?_; refine vo_step (ok_fieldP L rfl rfl rfl rfl) rfl ?_; refine vo_step (ok_loadA L (vs := [_, _]) (src_box rfl (List.Mem.head _)) rfl rfl rfl rfl ⟨_, rfl⟩) rfl ?_; refine vo_step (ok_fieldAt L rfl rfl rfl rfl) rfl ?_; refine vo_step (ok_loadA L (vs := [_, _, _, _, _, _]) (src_at rfl) rfl rfl rfl rfl ⟨_, rfl⟩) rfl ?_; refine vo_step (ok_build (cs := []) rfl rfl pl118 rfl rfl) rfl ?_; refine vo_step (ok_call (φ := UT.MF cf (Tr.put c x () t)) L rfl rfl (blt_lt rfl) rfl rfl rfl UT.MA.mono (fun u H hH hle _ => UT.mput_m hc x () hH (⟨_, rfl, ht.le hle⟩) hs)) rfl ?_; refine vo_opn 27 rfl ?_; rintro _ H27 hs27 ⟨q27, rfl, hp27⟩; refine vo_step (ok_build (cs := [_, _]) rfl rfl pl39 rfl rfl) rfl ?_; refine vo_step (ok_store L rfl rfl rfl rfl rfl rfl rfl rfl) rfl ?_; refine vo_nil ?_; refine N_seq ?_
      refine V_ret L (rs := [.cell 6 39]) rfl (fun _ _ h => h) hs27 fun u H hH hle => ?_
      exact ⟨_, src_own rfl, rfl, q27, rfl, hp27.le hle⟩
    · refine V_seq ?_; refine V_region (id := 0) ?_; refine vo_step (ok_boxR rfl rfl rfl rfl) rfl ?_; refine vo_box 3 rfl fun b hb => ?_; refine vo_step (ok_box rfl rfl rfl rfl) rfl ?_; refine vo_step (ok_alloc L rfl rfl rfl rfl) rfl ?_; refine vo_nil ?_; refine N_seq ?_; refine V_seq ?_; refine V_seq ?_; refine V_region (id := 1) ?_; refine vo_step (ok_fieldP L rfl rfl rfl rfl) rfl ?_; refine vo_step (ok_loadA L (vs := [_, _]) (src_box rfl (List.Mem.head _)) rfl rfl rfl rfl ⟨_, rfl⟩) rfl ?_; refine vo_step (ok_callx L rfl rfl (blt_lt rfl) rfl rfl rfl (fun u H hH hle _ => UT.len_m hH (⟨_, rfl, ht.le hle⟩) rfl)) rfl ?_; refine vo_step (ok_eql rfl rfl rfl rfl (decide_eq_false (by omega))) rfl ?_; refine vo_nil ?_; refine N_seq ?_; refine V_false rfl ?_; refine V_skip ?_; refine N_seq ?_; refine V_seq ?_; refine V_seq ?_; refine V_region (id := 3) ?_; refine vo_step (ok_fieldAt L rfl rfl rfl rfl) rfl ?_; refine vo_step (ok_load1 L (src_at rfl) rfl rfl rfl rfl) rfl ?_; refine vo_nil ?_; refine N_seq ?_; refine V_true rfl ?_; refine V_seq ?_; refine V_region (id := 4) ?_; refine vo_step (ok_fieldP L rfl rfl rfl rfl) rfl ?_; refine vo_step (ok_loadA L (vs := [_, _]) (src_box rfl (List.Mem.head _)) rfl rfl rfl rfl ⟨_, rfl⟩) rfl ?_; refine vo_step (ok_fieldAt L rfl rfl rfl rfl) rfl ?_; refine vo_step (ok_loadA L (vs := [_, _, _, _, _, _]) (src_at rfl) rfl rfl rfl rfl ⟨_, rfl⟩) rfl ?_; refine vo_step (ok_call (φ := UT.MF cf (if (Tr.drop c x t).2 = true then (Tr.drop c x t).1 else t)) L rfl rfl (blt_lt rfl) rfl rfl rfl UT.MA.mono (fun u H hH hle _ => UT.mdrop_m hc x hH (⟨_, rfl, ht.le hle⟩) (by omega))) rfl ?_; refine vo_opn 20 rfl ?_; rintro _ H20 hs20 ⟨q20, rfl, hp20⟩; refine vo_step (ok_build (cs := [_, _]) rfl rfl pl39 rfl rfl) rfl ?_; refine vo_step (ok_store L rfl rfl rfl rfl rfl rfl rfl rfl) rfl ?_; refine vo_nil ?_; refine N_seq ?_
      refine V_ret L (rs := [.cell 6 39]) rfl (fun _ _ h => h) hs20 fun u H hH hle => ?_
      exact ⟨_, src_own rfl, rfl, q20, rfl, hp20.le hle⟩
end Go.V.L6
/- The kit's floor of slices that are worked on in place: sorted, cut, cleared, handed on and back. -/
namespace Go.V
open Go.Proofs Go.RowKit
/-- What is returned is the caller's; it may be what was lent. -/
def OwnT (w : World) (C : Nat → Prop) (r : Res) (v : Value) (H : Heap) (u : World) : Prop := ∃ C' : Nat → Prop, r.P v H u C' ∧ ∀ k, C' k → (C k ∨ w.heap.size ≤ k) ∧ k < u.heap.size ∧ H k = none
def RetT (P : Program) (f : FuncId) (args : List Value) (w : World) (B : Heap) (C : Nat → Prop) (r : Res) : Prop := RetL P f args w B C (OwnT w C r)
section
variable {P : Program} {F : Fr} {B : Heap} {O : Boxes} {n : Nat} {ops : Array Oper} {κ : Kap} {d : Nat} {ty : TypeId} {pos : String} {aft : Array Edge} {g : Option (Nat × Bool)} {a : Act} {u : World} {H : Heap} {fp : Nat → Nat → Prop} {Q : Exit → Act → World → Prop}
end
end Go.V
/- The kit's floor of arrays that are values, and of function values that hold arguments. -/
namespace Go.V
open Go.Proofs Go.RowKit
section
variable {P : Program} {F : Fr} {B : Heap} {O : Boxes} {n : Nat} {ops : Array Oper} {κ : Kap} {d : Nat} {ty : TypeId} {pos : String} {aft : Array Edge} {g : Option (Nat × Bool)} {a : Act} {u : World} {H : Heap} {fp : Nat → Nat → Prop} {Q : Exit → Act → World → Prop}
end
end Go.V
/- The walks of filters (chapter 3): fields, errors, what is taken, prefixes. -/
namespace Go.V.L3
open Go.Proofs Go.RowKit Go.V Go.V.L2
abbrev fv (f : FT) : Value := .agg #[.string f.1.1.1, .string f.1.1.2, .string f.1.2, .string f.2.1.1.1, .string f.2.1.1.2, .string f.2.1.2, .bool f.2.2]
def FZ (f : FT) : Prop := (f.1.1.1.size ≤ 1099511627776 ∧ f.1.1.2.size ≤ 1099511627776 ∧ f.1.2.size ≤ 1099511627776) ∧ f.2.1.1.1.size ≤ 1099511627776 ∧ f.2.1.1.2.size ≤ 1099511627776 ∧ f.2.1.2.size ≤ 1099511627776
instance (f : FT) : Decidable (FZ f) := inferInstanceAs (Decidable (_ ∧ _))
attribute [local irreducible] V N X VO Par StepOK Has Ret RetL RetO RetT Src
end Go.V.L3
/- The walks of filters (chapter 3): orders, spans, what is selected. -/
namespace Go.V.L3
open Go.Proofs Go.RowKit Go.V Go.V.L2
attribute [local irreducible] V N X VO Par StepOK Has Ret RetL RetO RetT Src
end Go.V.L3
/- The walks of filters (chapter 3): spans, what is selected. -/
namespace Go.V.L3
open Go.Proofs Go.RowKit Go.V Go.V.L2
attribute [local irreducible] V N X VO Par StepOK Has Ret RetL RetO RetT Src
end Go.V.L3
/- The walks of filters (chapter 3): what is selected; both. -/
namespace Go.V.L3
open Go.Proofs Go.RowKit Go.V Go.V.L2
theorem LE2.mk {φ : Value → Heap → Prop} {a tv : Value} {H : Heap} (h : φ tv H) : TupS [φ, fun v _ => v = a] (.tuple #[tv, a]) H :=
  ⟨[tv, a], rfl, rfl, fun i ψ x hi hx => by
    rcases i with _ | _ | i
    · simp at hi hx; subst hi hx; exact h
    · simp at hi hx; subst hi hx; rfl
    · simp at hi⟩
theorem LE2.mono {φ : Value → Heap → Prop} {a : Value} (h : Kn.mono (.sat φ)) : Kn.mono (.sat (TupS [φ, fun v _ => v = a])) := TupS.mono fun ψ hψ => by
  rcases List.mem_cons.1 hψ with rfl | hψ
  · exact h
  · rw [List.mem_singleton] at hψ
    subst hψ
    exact fun _ _ _ h _ => h
attribute [local irreducible] V N X VO Par StepOK Has Ret RetL RetO RetT Src
end Go.V.L3
/- The walks of sets (chapter 6): sets as values. -/
namespace Go.V.L6
open Go.Proofs Go.RowKit Go.V Go.V.L2 Go.V.L3
/-- A set, as a value: of these tuples. -/
def SetV (l : List U) : Value → Heap → Prop := fun v H => ∃ p q t u, TS l t u ∧ UT.TA t (.pointer p) H ∧ UT.TA u (.pointer q) H ∧
  (v = .agg #[fvC, .pointer p, fvS, .pointer q] ∨ (l = [] ∧ p = none ∧ q = none ∧ v = .agg #[.nilFunc, .pointer p, .nilFunc, .pointer q]))
theorem SetV.mono {l : List U} : Kn.mono (.sat (SetV l)) := fun _ _ _ ⟨p, q, t, u, h1, h2, h3, h4⟩ hle => ⟨p, q, t, u, h1, h2.le hle, h3.le hle, h4⟩
theorem SetV.le {l : List U} {v : Value} {H H' : Heap} (h : SetV l v H) (hle : H.Le H') : SetV l v H' := SetV.mono _ _ _ h hle
theorem SetV.shape {l : List U} {v : Value} {H : Heap} (h : SetV l v H) : ∃ f p k q, v = .agg #[f, .pointer p, k, .pointer q] ∧ (cellsL (.agg #[f, .pointer p, k, .pointer q])).all plainV = true := by
  obtain ⟨p, q, _, _, _, _, _, h | ⟨_, _, _, h⟩⟩ := h
  · exact ⟨_, _, _, _, h, rfl⟩
  · exact ⟨_, _, _, _, h, rfl⟩
abbrev nilSet : Value := .agg #[.nilFunc, .pointer none, .nilFunc, .pointer none]
theorem SetV.nil {H : Heap} : SetV [] nilSet H := ⟨none, none, .nil, .nil, ts_nil, rfl, rfl, .inr ⟨rfl, rfl, rfl, rfl⟩⟩
theorem SetV.sst {l : List U} {v : Value} {H : Heap} (h : SetV l v H) : Sst cmpT l := let ⟨_, _, _, _, h, _⟩ := h; h.st
attribute [local irreducible] V N X VO Par StepOK Has Ret RetL RetO Src
theorem slen_ret {l : List U} {n : Nat} (hn : l.length = n) {v : Value} {w : World} {B : Heap} (hB : B.Le (hp w)) (hv : SetV l v B) : Ret Try.prog 24 [v] w B (fun v _ => v = .int .i64 n) := by
  subst hn
  obtain ⟨p, q, t, u, hT, ht, hu, rfl | ⟨rfl, rfl, rfl, rfl⟩⟩ := hv
  · refine V_enter Try.func24 rfl Try.ntmps24 (Nat.le_of_ble_eq_true rfl) hB ?_
    refine V_seq ?_; refine V_region (id := 0) ?_; refine vo_step (ok_box rfl rfl rfl rfl) rfl ?_; refine vo_step (ok_assign rfl rfl rfl) rfl ?_; refine vo_nil ?_; refine N_seq ?_; refine V_seq ?_; refine V_region (id := 1) ?_; refine vo_step (ok_fieldAt L rfl rfl rfl rfl) rfl ?_; refine vo_step (ok_fieldAt L rfl rfl rfl rfl) rfl ?_; refine vo_step (ok_loadA L (vs := [_, _]) (src_at rfl) rfl rfl rfl rfl ⟨_, rfl⟩) rfl ?_; refine vo_step (ok_callx L rfl rfl (blt_lt rfl) rfl rfl rfl (fun u H hH hle _ => UT.len_m hH (⟨_, rfl, ht.le hle⟩) hT.size)) rfl ?_; refine vo_step (ok_assign rfl rfl rfl) rfl ?_; refine vo_nil ?_; refine N_seq ?_
    refine V_ret L (rs := [.tmp 2]) rfl (fun _ _ h => h) Since.refl fun u H hH hle => ?_
    rfl
  · refine V_enter Try.func24 rfl Try.ntmps24 (Nat.le_of_ble_eq_true rfl) hB ?_
    refine V_seq ?_; refine V_region (id := 0) ?_; refine vo_step (ok_box rfl rfl rfl rfl) rfl ?_; refine vo_step (ok_assign rfl rfl rfl) rfl ?_; refine vo_nil ?_; refine N_seq ?_; refine V_seq ?_; refine V_region (id := 1) ?_; refine vo_step (ok_fieldAt L rfl rfl rfl rfl) rfl ?_; refine vo_step (ok_fieldAt L rfl rfl rfl rfl) rfl ?_; refine vo_step (ok_loadA L (vs := [_, _]) (src_at rfl) rfl rfl rfl rfl ⟨_, rfl⟩) rfl ?_; refine vo_step (ok_callx L rfl rfl (blt_lt rfl) rfl rfl rfl (fun u H hH hle _ => UT.len_m hH (⟨_, rfl, ht.le hle⟩) hT.size)) rfl ?_; refine vo_step (ok_assign rfl rfl rfl) rfl ?_; refine vo_nil ?_; refine N_seq ?_
    refine V_ret L (rs := [.tmp 2]) rfl (fun _ _ h => h) Since.refl fun u H hH hle => ?_
    rfl
theorem shas_ret {l : List U} {x : U} {b : Bool} (hb : decide (x ∈ l) = b) {v : Value} {w : World} {B : Heap} (hB : B.Le (hp w)) (hv : SetV l v B) : Ret Try.prog 37 [v, uv x] w B (fun v _ => v = .bool b) := by
  have hv0 := hv
  obtain ⟨p, q, t, u, hT, ht, hu, rfl | ⟨rfl, rfl, rfl, rfl⟩⟩ := hv
  · have hg := hT.get x
    refine V_enter Try.func37 rfl Try.ntmps37 (Nat.le_of_ble_eq_true rfl) hB ?_
    by_cases h0 : l.length = 0
    · have hn : l = [] := List.eq_nil_of_length_eq_zero h0
      subst hn
      have hb' : b = false := by rw [← hb]; simp
      subst hb'
      refine V_seq ?_; refine V_region (id := 0) ?_; refine vo_step (ok_box rfl rfl rfl rfl) rfl ?_; refine vo_step (ok_box rfl rfl rfl rfl) rfl ?_; refine vo_step (ok_assign rfl rfl rfl) rfl ?_; refine vo_nil ?_; refine N_seq ?_; refine V_seq ?_; refine V_seq ?_; refine V_region (id := 1) ?_; refine vo_step (ok_loadA L (vs := [_, _, _, _]) (src_at rfl) rfl rfl rfl rfl ⟨_, rfl⟩) rfl ?_; refine vo_step (ok_callx L rfl rfl (blt_lt rfl) rfl rfl rfl (fun u H hH hle _ => slen_ret rfl hH (hv0.le hle))) rfl ?_; refine vo_step (ok_eql rfl rfl rfl rfl (decide_eq_true (by omega))) rfl ?_; refine vo_nil ?_; refine N_seq ?_; refine V_true rfl ?_; refine V_seq ?_; refine V_region (id := 2) ?_; refine vo_step (ok_assign rfl rfl rfl) rfl ?_; refine vo_nil ?_; refine N_seq ?_
      refine V_ret L (rs := [.tmp 4]) rfl (fun _ _ h => h) Since.refl fun u H hH hle => ?_
      rfl
    · cases b
      · have hx : x ∉ l := by simpa using hb
        rw [if_neg hx] at hg
        refine V_seq ?_; refine V_region (id := 0) ?_; refine vo_step (ok_box rfl rfl rfl rfl) rfl ?_; refine vo_step (ok_box rfl rfl rfl rfl) rfl ?_; refine vo_step (ok_assign rfl rfl rfl) rfl ?_; refine vo_nil ?_; refine N_seq ?_; refine V_seq ?_; refine V_seq ?_; refine V_region (id := 1) ?_; refine vo_step (ok_loadA L (vs := [_, _, _, _]) (src_at rfl) rfl rfl rfl rfl ⟨_, rfl⟩) rfl ?_; refine vo_step (ok_callx L rfl rfl (blt_lt rfl) rfl rfl rfl (fun u H hH hle _ => slen_ret rfl hH (hv0.le hle))) rfl ?_; refine vo_step (ok_eql rfl rfl rfl rfl (decide_eq_false (by omega))) rfl ?_; refine vo_nil ?_; refine N_seq ?_; refine V_false rfl ?_; refine V_skip ?_; refine N_seq ?_; refine V_seq ?_; refine V_region (id := 3) ?_; refine vo_step (ok_fieldAt L rfl rfl rfl rfl) rfl ?_; refine vo_step (ok_fieldAt L rfl rfl rfl rfl) rfl ?_; refine vo_step (ok_loadA L (vs := [_, _]) (src_at rfl) rfl rfl rfl rfl ⟨_, rfl⟩) rfl ?_; refine vo_step (ok_loadA L (vs := [_, _, _, _, _, _]) (src_at rfl) rfl rfl rfl rfl ⟨_, rfl⟩) rfl ?_; refine vo_step (ok_callx L rfl rfl (blt_lt rfl) rfl rfl rfl (fun u H hH hle _ => UT.get_m cmpUT x hH (⟨_, rfl, ht.le hle⟩) hg)) rfl ?_; refine vo_step (ok_move rfl rfl rfl) rfl ?_; refine vo_step (ok_extract rfl rfl rfl rfl) rfl ?_; refine vo_step (ok_extract rfl rfl rfl rfl) rfl ?_; refine vo_step (ok_alloc L rfl rfl rfl rfl) rfl ?_; refine vo_step (ok_store L rfl rfl rfl rfl rfl rfl rfl rfl) rfl ?_; refine vo_step (ok_assign rfl rfl rfl) rfl ?_; refine vo_nil ?_; refine N_seq ?_; refine V_seq ?_; refine V_region (id := 4) ?_; refine vo_step (ok_move rfl rfl rfl) rfl ?_; refine vo_step (ok_assign rfl rfl rfl) rfl ?_; refine vo_nil ?_; refine N_seq ?_
        refine V_ret L (rs := [.tmp 4]) rfl (fun _ _ h => h) Since.refl fun u H hH hle => ?_
        rfl
      · have hx : x ∈ l := by simpa using hb
        rw [if_pos hx] at hg
        refine V_seq ?_; refine V_region (id := 0) ?_; refine vo_step (ok_box rfl rfl rfl rfl) rfl ?_; refine vo_step (ok_box rfl rfl rfl rfl) rfl ?_; refine vo_step (ok_assign rfl rfl rfl) rfl ?_; refine vo_nil ?_; refine N_seq ?_; refine V_seq ?_; refine V_seq ?_; refine V_region (id := 1) ?_; refine vo_step (ok_loadA L (vs := [_, _, _, _]) (src_at rfl) rfl rfl rfl rfl ⟨_, rfl⟩) rfl ?_; refine vo_step (ok_callx L rfl rfl (blt_lt rfl) rfl rfl rfl (fun u H hH hle _ => slen_ret rfl hH (hv0.le hle))) rfl ?_; refine vo_step (ok_eql rfl rfl rfl rfl (decide_eq_false (by omega))) rfl ?_; refine vo_nil ?_; refine N_seq ?_; refine V_false rfl ?_; refine V_skip ?_; refine N_seq ?_; refine V_seq ?_; refine V_region (id := 3) ?_; refine vo_step (ok_fieldAt L rfl rfl rfl rfl) rfl ?_; refine vo_step (ok_fieldAt L rfl rfl rfl rfl) rfl ?_; refine vo_step (ok_loadA L (vs := [_, _]) (src_at rfl) rfl rfl rfl rfl ⟨_, rfl⟩) rfl ?_; refine vo_step (ok_loadA L (vs := [_, _, _, _, _, _]) (src_at rfl) rfl rfl rfl rfl ⟨_, rfl⟩) rfl ?_; refine vo_step (ok_callx L rfl rfl (blt_lt rfl) rfl rfl rfl (fun u H hH hle _ => UT.get_m cmpUT x hH (⟨_, rfl, ht.le hle⟩) hg)) rfl ?_; refine vo_step (ok_move rfl rfl rfl) rfl ?_; refine vo_step (ok_extract rfl rfl rfl rfl) rfl ?_; refine vo_step (ok_extract rfl rfl rfl rfl) rfl ?_; refine vo_step (ok_alloc L rfl rfl rfl rfl) rfl ?_; refine vo_step (ok_store L rfl rfl rfl rfl rfl rfl rfl rfl) rfl ?_; refine vo_step (ok_assign rfl rfl rfl) rfl ?_; refine vo_nil ?_; refine N_seq ?_; refine V_seq ?_; refine V_region (id := 4) ?_; refine vo_step (ok_move rfl rfl rfl) rfl ?_; refine vo_step (ok_assign rfl rfl rfl) rfl ?_; refine vo_nil ?_; refine N_seq ?_
        refine V_ret L (rs := [.tmp 4]) rfl (fun _ _ h => h) Since.refl fun u H hH hle => ?_
        rfl
  · have hb' : b = false := by rw [← hb]; simp
    subst hb'
    refine V_enter Try.func37 rfl Try.ntmps37 (Nat.le_of_ble_eq_true rfl) hB ?_
    refine V_seq ?_; refine V_region (id := 0) ?_; refine vo_step (ok_box rfl rfl rfl rfl) rfl ?_; refine vo_step (ok_box rfl rfl rfl rfl) rfl ?_; refine vo_step (ok_assign rfl rfl rfl) rfl ?_; refine vo_nil ?_; refine N_seq ?_; refine V_seq ?_; refine V_seq ?_; refine V_region (id := 1) ?_; refine vo_step (ok_loadA L (vs := [_, _, _, _]) (src_at rfl) rfl rfl rfl rfl ⟨_, rfl⟩) rfl ?_; refine vo_step (ok_callx L rfl rfl (blt_lt rfl) rfl rfl rfl (fun u H hH hle _ => slen_ret rfl hH (hv0.le hle))) rfl ?_; refine vo_step (ok_eql rfl rfl rfl rfl rfl) rfl ?_; refine vo_nil ?_; refine N_seq ?_; refine V_true rfl ?_; refine V_seq ?_; refine V_region (id := 2) ?_; refine vo_step (ok_assign rfl rfl rfl) rfl ?_; refine vo_nil ?_; refine N_seq ?_
    refine V_ret L (rs := [.tmp 4]) rfl (fun _ _ h => h) Since.refl fun u H hH hle => ?_
    rfl
/-- A variable that holds a set. -/
def scs (x : Value × Option Addr × Value × Option Addr) : List Value := [x.1, .pointer x.2.1, x.2.2.1, .pointer x.2.2.2]
abbrev SXp := { x : Value × Option Addr × Value × Option Addr // (scs x).all plainV = true }
abbrev sphi (l : List U) (x : SXp) (H : Heap) : Prop := SetV l (.agg (scs x.1).toArray) H
theorem sphi_mono (l : List U) : MonoX (sphi l) := fun _ _ _ h hle => SetV.le h hle
theorem set_st {l : List U} (v : Value) (H : Heap) (h : SetV l v H) : ∃ x : SXp, sphi l x H ∧ cellsL v = scs x.1 := by
  obtain ⟨f, p, k, q, rfl, hp⟩ := h.shape
  exact ⟨⟨(f, p, k, q), hp⟩, h, rfl⟩
/-- What With gives. -/
abbrev WithS (l : List U) (e : Int) : Value → Heap → Prop := TupS [SetV l, fun v _ => v = .int .i64 e]
theorem WithS.mono {l : List U} {e : Int} : Kn.mono (.sat (WithS l e)) := LE2.mono SetV.mono
theorem mf4 {cf cg : Nat} {t u : Tr U Unit} {v1 v2 : Value} {H : Heap} (h1 : UT.MF cf t v1 H) (h2 : UT.MF cg u v2 H) : ∃ p q, v1 = .agg #[.func (.func cf) #[] #[], .pointer p] ∧ v2 = .agg #[.func (.func cg) #[] #[], .pointer q] ∧ UT.TA t (.pointer p) H ∧ UT.TA u (.pointer q) H := by
  obtain ⟨p, e1, h1⟩ := h1
  obtain ⟨q, e2, h2⟩ := h2
  exact ⟨p, q, e1, e2, h1, h2⟩
theorem ts_ch {l : List U} {t u : Tr U Unit} (h : TS l t u) {x : U} {d : Bool} (hx : decide (x ∈ l) = d) (hc : d = false → l.length < 4096) (he : tE x = 0) : TS (withU l x d).1 (chT cmpT x d t) (chT cmpS x d u) ∧ (withU l x d).2 = 0 := by
  unfold withU chT
  rw [if_pos he]
  cases d
  · have hx' : x ∉ l := by simpa using hx
    rw [if_neg (by decide), if_neg hx', if_neg (by have := hc rfl; omega), if_neg (by decide), if_neg (by decide)]
    exact ⟨h.put hx', rfl⟩
  · have hx' : x ∈ l := by simpa using hx
    rw [if_pos rfl, if_pos rfl, if_pos rfl]
    exact ⟨h.drop hx', rfl⟩
set_option maxHeartbeats 1000000 in
theorem with_ret {l m : List U} {x : U} {d : Bool} {e : Int} (hr : withU l x d = (m, e)) (hl : l.length ≤ 4096) (hz : TZ x) {v : Value} {w : World} {B : Heap} (hB : B.Le (hp w)) (hv : SetV l v B) :
    Ret Try.prog 63 [v, chv x d] w B (WithS m e) := by
  obtain ⟨f1, p1, f2, q1, hsh, hpl⟩ := hv.shape
  by_cases he : tE x = 0
  · obtain ⟨hin, hin0⟩ : ∃ b, decide (x ∈ l) = b := ⟨_, rfl⟩
    by_cases hd : hin = d
    · subst hd
      by_cases hfull : hin = false ∧ l.length = 4096
      · obtain ⟨rfl, hlen⟩ := hfull
        have hw : withU l x false = ([], 3) := by
          unfold withU
          rw [if_pos he, if_neg (by decide), if_neg (by simpa using hin0), if_pos (by omega)]
        rw [hw] at hr
        cases hr
        subst hsh
        refine V_enter Try.func63 rfl Try.ntmps63 (Nat.le_of_ble_eq_true rfl) hB ?_
        refine V_seq ?_; refine V_region (id := 0) ?_; refine vo_step (ok_box rfl rfl rfl rfl) rfl ?_; refine vo_step (ok_box rfl rfl rfl rfl) rfl ?_; refine vo_step (ok_alloc L rfl rfl rfl rfl) rfl ?_; refine vo_step (ok_assign rfl rfl rfl) rfl ?_; refine vo_nil ?_; refine N_seq ?_; refine V_seq ?_; refine V_seq ?_; refine V_region (id := 1) ?_; refine vo_step (ok_fieldAt L rfl rfl rfl rfl) rfl ?_; refine vo_step (ok_loadA L (vs := [_, _, _, _, _, _]) (src_at rfl) rfl rfl rfl rfl ⟨_, rfl⟩) rfl ?_; refine vo_step (ok_callx L rfl rfl (blt_lt rfl) rfl rfl rfl (fun u H hH _ _ => he ▸ tcheck_ret hz hH)) rfl ?_; refine vo_step (ok_assign rfl rfl rfl) rfl ?_; refine vo_nil ?_; refine N_seq ?_; refine V_seq ?_; refine V_region (id := 2) ?_; refine vo_step (ok_move rfl rfl rfl) rfl ?_; refine vo_step (ok_neq rfl rfl rfl rfl (decide_eq_false (by omega))) rfl ?_; refine vo_nil ?_; refine N_seq ?_; refine V_false rfl ?_; refine V_skip ?_; refine N_seq ?_; refine V_seq ?_; refine V_seq ?_; refine V_regionD (id := 4) [] mixed (by kernel_rfl) ?_; refine par_step (ok_loadA L (vs := [_, _, _, _]) (src_at rfl) rfl rfl rfl rfl ⟨_, rfl⟩) rfl ?_; refine par_step (ok_fieldAt L rfl rfl rfl rfl) rfl ?_; refine par_step (ok_loadA L (vs := [_, _, _, _, _, _]) (src_at rfl) rfl rfl rfl rfl ⟨_, rfl⟩) rfl ?_; refine par_step (ok_callx L rfl rfl (blt_lt rfl) rfl rfl rfl (fun u H hH hle _ => shas_ret hin0 hH (hv.le hle))) rfl ?_; refine par_step (ok_fieldAt L rfl rfl rfl rfl) rfl ?_; refine par_step (ok_load1 L (src_at rfl) rfl rfl rfl rfl) rfl ?_; refine par_step (ok_bneq rfl rfl rfl rfl bt4 rfl) rfl ?_; refine par_nil ?_; refine N_seq ?_; refine V_false rfl ?_; refine V_skip ?_; refine N_seq ?_; refine V_seq ?_; refine V_seq ?_; refine V_region (id := 6) ?_; refine vo_step (ok_fieldAt L rfl rfl rfl rfl) rfl ?_; refine vo_step (ok_load1 L (src_at rfl) rfl rfl rfl rfl) rfl ?_; refine vo_step (ok_not rfl rfl rfl rfl) rfl ?_; refine vo_step (ok_move rfl rfl rfl) rfl ?_; refine vo_step (ok_loadA L (vs := [_, _, _, _]) (src_at rfl) rfl rfl rfl rfl ⟨_, rfl⟩) rfl ?_; refine vo_step (ok_callx L rfl rfl (blt_lt rfl) rfl rfl rfl (fun u H hH hle _ => slen_ret hlen hH (hv.le hle))) rfl ?_; refine vo_step (ok_eql rfl rfl rfl rfl (decide_eq_true (by omega))) rfl ?_; refine vo_step (ok_pick rfl rfl rfl rfl) rfl ?_; refine vo_nil ?_; refine N_seq ?_; refine V_true rfl ?_; refine V_seq ?_; refine V_region (id := 7) ?_; refine vo_step (ok_build (cs := [_, _, _, _]) rfl rfl pl41 rfl rfl) rfl ?_; refine vo_step (ok_store L rfl rfl rfl rfl rfl rfl rfl rfl) rfl ?_; refine vo_step (ok_assign rfl rfl rfl) rfl ?_; refine vo_nil ?_; refine N_seq ?_
        refine V_ret L (rs := [.cell 4 41, .tmp 5]) rfl (fun _ _ h => h) Since.refl fun u H hH hle => ?_
        exact ⟨_, src_own rfl, rfl, LE2.mk SetV.nil⟩
      · have hc : hin = false → l.length < 4096 := fun h => by
          rcases Nat.lt_or_ge l.length 4096 with h' | h'
          · exact h'
          · exact absurd ⟨h, by omega⟩ hfull
        obtain ⟨p, q, t, u, hT, ht, hu, hv1⟩ := id hv
        have hch := ts_ch hT hin0 hc he
        rw [hr] at hch
        obtain ⟨hT', rfl⟩ := hch
        have hts := hT.size
        have hus := hT.zu
        have hf1 : p1 = p ∧ q1 = q ∧ (f1 = fvC ∨ (f1 = .nilFunc ∧ t = .nil)) ∧ (f2 = fvS ∨ (f2 = .nilFunc ∧ u = .nil)) := by
          rcases hv1 with h | ⟨h0, rfl, rfl, h⟩
          · rw [hsh] at h; cases h; exact ⟨rfl, rfl, .inl rfl, .inl rfl⟩
          · rw [hsh] at h
            cases h
            subst h0
            have key : ∀ {s : Tr U Unit}, s.size = 0 → s = .nil := fun {s} hs => by
              cases s with
              | nil => rfl
              | node k y l r => simp only [Tr.size] at hs; omega
            exact ⟨rfl, rfl, .inr ⟨rfl, key hts⟩, .inr ⟨rfl, key hus⟩⟩
        obtain ⟨rfl, rfl, hf1, hf2⟩ := hf1
        subst hsh
        have hchg1 := fun (u1 : World) (H : Heap) (hH : H.Le (hp u1)) (hle : B.Le H) => change_ret cmpUT hf1 x hin hH (ht.le hle) (by omega)
        have hchg2 := fun (u1 : World) (H : Heap) (hH : H.Le (hp u1)) (hle : B.Le H) => change_ret cmpUS hf2 x hin hH (hu.le hle) (by omega)
        cases hin
        · have hlen := hc rfl
          refine V_enter Try.func63 rfl Try.ntmps63 (Nat.le_of_ble_eq_true rfl) hB ?_
          refine V_seq ?_; refine V_region (id := 0) ?_; refine vo_step (ok_box rfl rfl rfl rfl) rfl ?_; refine vo_step (ok_box rfl rfl rfl rfl) rfl ?_; refine vo_step (ok_alloc L rfl rfl rfl rfl) rfl ?_; refine vo_step (ok_assign rfl rfl rfl) rfl ?_; refine vo_nil ?_; refine N_seq ?_; refine V_seq ?_; refine V_seq ?_; refine V_region (id := 1) ?_; refine vo_step (ok_fieldAt L rfl rfl rfl rfl) rfl ?_; refine vo_step (ok_loadA L (vs := [_, _, _, _, _, _]) (src_at rfl) rfl rfl rfl rfl ⟨_, rfl⟩) rfl ?_; refine vo_step (ok_callx L rfl rfl (blt_lt rfl) rfl rfl rfl (fun u H hH _ _ => he ▸ tcheck_ret hz hH)) rfl ?_; refine vo_step (ok_assign rfl rfl rfl) rfl ?_; refine vo_nil ?_; refine N_seq ?_; refine V_seq ?_; refine V_region (id := 2) ?_; refine vo_step (ok_move rfl rfl rfl) rfl ?_; refine vo_step (ok_neq rfl rfl rfl rfl (decide_eq_false (by omega))) rfl ?_; refine vo_nil ?_; refine N_seq ?_; refine V_false rfl ?_; refine V_skip ?_; refine N_seq ?_; refine V_seq ?_; refine V_seq ?_; refine V_regionD (id := 4) [] mixed (by kernel_rfl) ?_; refine par_step (ok_loadA L (vs := [_, _, _, _]) (src_at rfl) rfl rfl rfl rfl ⟨_, rfl⟩) rfl ?_; refine par_step (ok_fieldAt L rfl rfl rfl rfl) rfl ?_; refine par_step (ok_loadA L (vs := [_, _, _, _, _, _]) (src_at rfl) rfl rfl rfl rfl ⟨_, rfl⟩) rfl ?_; refine par_step (ok_callx L rfl rfl (blt_lt rfl) rfl rfl rfl (fun u H hH hle _ => shas_ret hin0 hH (hv.le hle))) rfl ?_; refine par_step (ok_fieldAt L rfl rfl rfl rfl) rfl ?_; refine par_step (ok_load1 L (src_at rfl) rfl rfl rfl rfl) rfl ?_; refine par_step (ok_bneq rfl rfl rfl rfl bt4 rfl) rfl ?_; refine par_nil ?_; refine N_seq ?_; refine V_false rfl ?_; refine V_skip ?_; refine N_seq ?_; refine V_seq ?_; refine V_seq ?_; refine V_region (id := 6) ?_; refine vo_step (ok_fieldAt L rfl rfl rfl rfl) rfl ?_; refine vo_step (ok_load1 L (src_at rfl) rfl rfl rfl rfl) rfl ?_; refine vo_step (ok_not rfl rfl rfl rfl) rfl ?_; refine vo_step (ok_move rfl rfl rfl) rfl ?_; refine vo_step (ok_loadA L (vs := [_, _, _, _]) (src_at rfl) rfl rfl rfl rfl ⟨_, rfl⟩) rfl ?_; refine vo_step (ok_callx L rfl rfl (blt_lt rfl) rfl rfl rfl (fun u H hH hle _ => slen_ret rfl hH (hv.le hle))) rfl ?_; refine vo_step (ok_eql rfl rfl rfl rfl (decide_eq_false (by omega))) rfl ?_; refine vo_step (ok_pick rfl rfl rfl rfl) rfl ?_; refine vo_nil ?_; refine N_seq ?_; refine V_false rfl ?_; refine V_skip ?_; refine N_seq ?_; refine V_seq ?_; refine V_regionD (id := 8) [] mixed (by kernel_rfl) ?_; refine par_step (ok_fieldAt L rfl rfl rfl rfl) rfl ?_; refine par_step (ok_loadA L (vs := [_, _]) (src_at rfl) rfl rfl rfl rfl ⟨_, rfl⟩) rfl ?_; refine par_step (ok_loadA L (vs := [_, _, _, _, _, _, _]) (src_at rfl) rfl rfl rfl rfl ⟨_, rfl⟩) rfl ?_; refine par_step (ok_call (φ := UT.MF 76 (chT cmpT x false t)) L rfl rfl (blt_lt rfl) rfl rfl rfl UT.MA.mono (fun u H hH hle _ => hchg1 u H hH hle)) rfl ?_; refine par_step (ok_fieldAt L rfl rfl rfl rfl) rfl ?_; refine par_step (ok_loadA L (vs := [_, _]) (src_at rfl) rfl rfl rfl rfl ⟨_, rfl⟩) rfl ?_; refine par_step (ok_loadA L (vs := [_, _, _, _, _, _, _]) (src_at rfl) rfl rfl rfl rfl ⟨_, rfl⟩) rfl ?_; refine par_step (ok_call (φ := UT.MF 86 (chT cmpS x false u)) L rfl rfl (blt_lt rfl) rfl rfl rfl UT.MA.mono (fun u H hH hle _ => hchg2 u H hH hle)) rfl ?_; refine par_step (ok_buildS (ψ := SetV m) rfl rfl pl41 SetV.mono (fun H _ v1 h1 v2 h2 => by obtain ⟨p, q, rfl, rfl, k1, k2⟩ := mf4 h1 h2; exact ⟨_, rfl, p, q, _, _, hT', k1, k2, .inl rfl⟩)) rfl ?_; refine par_step (ok_storeX L (X := SXp) (fun x => scs x.1) (sphi m) (sphi_mono m) set_st (fun x => ⟨rfl, x.2⟩) rfl rfl rfl rfl rfl) rfl ?_; refine par_step (ok_assign rfl rfl rfl) rfl ?_; refine par_nil ?_; refine N_seq ?_
          refine V_opnX 4 rfl fun x4 H4 hs4 hx4 => ?_
          refine V_ret L (rs := [.cell 4 41, .tmp 5]) rfl (fun _ _ h => h) hs4 fun u H hH hle => ?_
          exact ⟨_, src_own rfl, rfl, LE2.mk (hx4.le hle)⟩
        · refine V_enter Try.func63 rfl Try.ntmps63 (Nat.le_of_ble_eq_true rfl) hB ?_
          refine V_seq ?_; refine V_region (id := 0) ?_; refine vo_step (ok_box rfl rfl rfl rfl) rfl ?_; refine vo_step (ok_box rfl rfl rfl rfl) rfl ?_; refine vo_step (ok_alloc L rfl rfl rfl rfl) rfl ?_; refine vo_step (ok_assign rfl rfl rfl) rfl ?_; refine vo_nil ?_; refine N_seq ?_; refine V_seq ?_; refine V_seq ?_; refine V_region (id := 1) ?_; refine vo_step (ok_fieldAt L rfl rfl rfl rfl) rfl ?_; refine vo_step (ok_loadA L (vs := [_, _, _, _, _, _]) (src_at rfl) rfl rfl rfl rfl ⟨_, rfl⟩) rfl ?_; refine vo_step (ok_callx L rfl rfl (blt_lt rfl) rfl rfl rfl (fun u H hH _ _ => he ▸ tcheck_ret hz hH)) rfl ?_; refine vo_step (ok_assign rfl rfl rfl) rfl ?_; refine vo_nil ?_; refine N_seq ?_; refine V_seq ?_; refine V_region (id := 2) ?_; refine vo_step (ok_move rfl rfl rfl) rfl ?_; refine vo_step (ok_neq rfl rfl rfl rfl (decide_eq_false (by omega))) rfl ?_; refine vo_nil ?_; refine N_seq ?_; refine V_false rfl ?_; refine V_skip ?_; refine N_seq ?_; refine V_seq ?_; refine V_seq ?_; refine V_regionD (id := 4) [] mixed (by kernel_rfl) ?_; refine par_step (ok_loadA L (vs := [_, _, _, _]) (src_at rfl) rfl rfl rfl rfl ⟨_, rfl⟩) rfl ?_; refine par_step (ok_fieldAt L rfl rfl rfl rfl) rfl ?_; refine par_step (ok_loadA L (vs := [_, _, _, _, _, _]) (src_at rfl) rfl rfl rfl rfl ⟨_, rfl⟩) rfl ?_; refine par_step (ok_callx L rfl rfl (blt_lt rfl) rfl rfl rfl (fun u H hH hle _ => shas_ret hin0 hH (hv.le hle))) rfl ?_; refine par_step (ok_fieldAt L rfl rfl rfl rfl) rfl ?_; refine par_step (ok_load1 L (src_at rfl) rfl rfl rfl rfl) rfl ?_; refine par_step (ok_bneq rfl rfl rfl rfl bt4 rfl) rfl ?_; refine par_nil ?_; refine N_seq ?_; refine V_false rfl ?_; refine V_skip ?_; refine N_seq ?_; refine V_seq ?_; refine V_seq ?_; refine V_region (id := 6) ?_; refine vo_step (ok_fieldAt L rfl rfl rfl rfl) rfl ?_; refine vo_step (ok_load1 L (src_at rfl) rfl rfl rfl rfl) rfl ?_; refine vo_step (ok_not rfl rfl rfl rfl) rfl ?_; refine vo_step (ok_move rfl rfl rfl) rfl ?_; refine vo_step (ok_skip rfl (blt_lt rfl) rfl) rfl ?_; refine vo_step (ok_skip rfl (blt_lt rfl) rfl) rfl ?_; refine vo_step (ok_skip rfl (blt_lt rfl) rfl) rfl ?_; refine vo_step (ok_pick rfl rfl rfl rfl) rfl ?_; refine vo_nil ?_; refine N_seq ?_; refine V_false rfl ?_; refine V_skip ?_; refine N_seq ?_; refine V_seq ?_; refine V_regionD (id := 8) [] mixed (by kernel_rfl) ?_; refine par_step (ok_fieldAt L rfl rfl rfl rfl) rfl ?_; refine par_step (ok_loadA L (vs := [_, _]) (src_at rfl) rfl rfl rfl rfl ⟨_, rfl⟩) rfl ?_; refine par_step (ok_loadA L (vs := [_, _, _, _, _, _, _]) (src_at rfl) rfl rfl rfl rfl ⟨_, rfl⟩) rfl ?_; refine par_step (ok_call (φ := UT.MF 76 (chT cmpT x true t)) L rfl rfl (blt_lt rfl) rfl rfl rfl UT.MA.mono (fun u H hH hle _ => hchg1 u H hH hle)) rfl ?_; refine par_step (ok_fieldAt L rfl rfl rfl rfl) rfl ?_; refine par_step (ok_loadA L (vs := [_, _]) (src_at rfl) rfl rfl rfl rfl ⟨_, rfl⟩) rfl ?_; refine par_step (ok_loadA L (vs := [_, _, _, _, _, _, _]) (src_at rfl) rfl rfl rfl rfl ⟨_, rfl⟩) rfl ?_; refine par_step (ok_call (φ := UT.MF 86 (chT cmpS x true u)) L rfl rfl (blt_lt rfl) rfl rfl rfl UT.MA.mono (fun u H hH hle _ => hchg2 u H hH hle)) rfl ?_; refine par_step (ok_buildS (ψ := SetV m) rfl rfl pl41 SetV.mono (fun H _ v1 h1 v2 h2 => by obtain ⟨p, q, rfl, rfl, k1, k2⟩ := mf4 h1 h2; exact ⟨_, rfl, p, q, _, _, hT', k1, k2, .inl rfl⟩)) rfl ?_; refine par_step (ok_storeX L (X := SXp) (fun x => scs x.1) (sphi m) (sphi_mono m) set_st (fun x => ⟨rfl, x.2⟩) rfl rfl rfl rfl rfl) rfl ?_; refine par_step (ok_assign rfl rfl rfl) rfl ?_; refine par_nil ?_; refine N_seq ?_
          refine V_opnX 4 rfl fun x4 H4 hs4 hx4 => ?_
          refine V_ret L (rs := [.cell 4 41, .tmp 5]) rfl (fun _ _ h => h) hs4 fun u H hH hle => ?_
          exact ⟨_, src_own rfl, rfl, LE2.mk (hx4.le hle)⟩
    · have hw : withU l x d = (l, 0) := by
        unfold withU
        rw [if_pos he]
        cases d
        · have : hin = true := by cases hin; exact absurd rfl hd; rfl
          subst this
          rw [if_neg (by decide), if_pos (by simpa using hin0)]
        · have : hin = false := by cases hin; rfl; exact absurd rfl hd
          subst this
          rw [if_pos rfl, filter_out (by simpa using hin0)]
      rw [hw] at hr
      cases hr
      have hb : (hin == d) = false := by cases hin <;> cases d <;> first | rfl | exact absurd rfl hd
      subst hsh
      refine V_enter Try.func63 rfl Try.ntmps63 (Nat.le_of_ble_eq_true rfl) hB ?_
      have hb2 : (!(hin == d)) = true := by rw [hb]; rfl
      refine V_seq ?_; refine V_region (id := 0) ?_; refine vo_step (ok_box rfl rfl rfl rfl) rfl ?_; refine vo_step (ok_box rfl rfl rfl rfl) rfl ?_; refine vo_step (ok_alloc L rfl rfl rfl rfl) rfl ?_; refine vo_step (ok_assign rfl rfl rfl) rfl ?_; refine vo_nil ?_; refine N_seq ?_; refine V_seq ?_; refine V_seq ?_; refine V_region (id := 1) ?_; refine vo_step (ok_fieldAt L rfl rfl rfl rfl) rfl ?_; refine vo_step (ok_loadA L (vs := [_, _, _, _, _, _]) (src_at rfl) rfl rfl rfl rfl ⟨_, rfl⟩) rfl ?_; refine vo_step (ok_callx L rfl rfl (blt_lt rfl) rfl rfl rfl (fun u H hH _ _ => he ▸ tcheck_ret hz hH)) rfl ?_; refine vo_step (ok_assign rfl rfl rfl) rfl ?_; refine vo_nil ?_; refine N_seq ?_; refine V_seq ?_; refine V_region (id := 2) ?_; refine vo_step (ok_move rfl rfl rfl) rfl ?_; refine vo_step (ok_neq rfl rfl rfl rfl (decide_eq_false (by omega))) rfl ?_; refine vo_nil ?_; refine N_seq ?_; refine V_false rfl ?_; refine V_skip ?_; refine N_seq ?_; refine V_seq ?_; refine V_seq ?_; refine V_regionD (id := 4) [] mixed (by kernel_rfl) ?_; refine par_step (ok_loadA L (vs := [_, _, _, _]) (src_at rfl) rfl rfl rfl rfl ⟨_, rfl⟩) rfl ?_; refine par_step (ok_fieldAt L rfl rfl rfl rfl) rfl ?_; refine par_step (ok_loadA L (vs := [_, _, _, _, _, _]) (src_at rfl) rfl rfl rfl rfl ⟨_, rfl⟩) rfl ?_; refine par_step (ok_callx L rfl rfl (blt_lt rfl) rfl rfl rfl (fun u H hH hle _ => shas_ret hin0 hH (hv.le hle))) rfl ?_; refine par_step (ok_fieldAt L rfl rfl rfl rfl) rfl ?_; refine par_step (ok_load1 L (src_at rfl) rfl rfl rfl rfl) rfl ?_; refine par_step (ok_bneq rfl rfl rfl rfl bt4 hb2) rfl ?_; refine par_nil ?_; refine N_seq ?_; refine V_true rfl ?_; refine V_seq ?_; refine V_region (id := 5) ?_; refine vo_step (ok_loadA L (vs := [_, _, _, _]) (src_at rfl) rfl rfl rfl rfl ⟨_, rfl⟩) rfl ?_; refine vo_step (ok_store L rfl rfl rfl rfl rfl rfl (by assumption) rfl) rfl ?_; refine vo_step (ok_assign rfl rfl rfl) rfl ?_; refine vo_nil ?_; refine N_seq ?_
      refine V_ret L (rs := [.cell 4 41, .tmp 5]) rfl (fun _ _ h => h) Since.refl fun u H hH hle => ?_
      exact ⟨_, src_own rfl, rfl, LE2.mk (hv.le hle)⟩
  · have hw : withU l x d = ([], tE x) := if_neg he
    rw [hw] at hr
    cases hr
    subst hsh
    refine V_enter Try.func63 rfl Try.ntmps63 (Nat.le_of_ble_eq_true rfl) hB ?_
    refine V_seq ?_; refine V_region (id := 0) ?_; refine vo_step (ok_box rfl rfl rfl rfl) rfl ?_; refine vo_step (ok_box rfl rfl rfl rfl) rfl ?_; refine vo_step (ok_alloc L rfl rfl rfl rfl) rfl ?_; refine vo_step (ok_assign rfl rfl rfl) rfl ?_; refine vo_nil ?_; refine N_seq ?_; refine V_seq ?_; refine V_seq ?_; refine V_region (id := 1) ?_; refine vo_step (ok_fieldAt L rfl rfl rfl rfl) rfl ?_; refine vo_step (ok_loadA L (vs := [_, _, _, _, _, _]) (src_at rfl) rfl rfl rfl rfl ⟨_, rfl⟩) rfl ?_; refine vo_step (ok_callx L rfl rfl (blt_lt rfl) rfl rfl rfl (fun u H hH _ _ => tcheck_ret hz hH)) rfl ?_; refine vo_step (ok_assign rfl rfl rfl) rfl ?_; refine vo_nil ?_; refine N_seq ?_; refine V_seq ?_; refine V_region (id := 2) ?_; refine vo_step (ok_move rfl rfl rfl) rfl ?_; refine vo_step (ok_neq rfl rfl rfl rfl (decide_eq_true (by omega))) rfl ?_; refine vo_nil ?_; refine N_seq ?_; refine V_true rfl ?_; refine V_seq ?_; refine V_region (id := 3) ?_; refine vo_step (ok_build (cs := [_, _, _, _]) rfl rfl pl41 rfl rfl) rfl ?_; refine vo_step (ok_move rfl rfl rfl) rfl ?_; refine vo_step (ok_store L rfl rfl rfl rfl rfl rfl rfl rfl) rfl ?_; refine vo_step (ok_assign rfl rfl rfl) rfl ?_; refine vo_nil ?_; refine N_seq ?_
    refine V_ret L (rs := [.cell 4 41, .tmp 5]) rfl (fun _ _ h => h) Since.refl fun u H hH hle => ?_
    exact ⟨_, src_own rfl, rfl, LE2.mk SetV.nil⟩
end Go.V.L6
/- The walk of the definition of tuples (chapter 2): parts of two lists. -/
namespace Go.V.L2
open Go.Proofs Go.RowKit Go.V
theorem ups_len : ∀ (l : List U), (l.flatMap ucs).length = l.length * 6
  | [] => rfl
  | y :: l => by rw [List.flatMap_cons, List.length_append, ups_len l, ucs_len, List.length_cons]; omega
theorem ups_plain : ∀ (l : List U), (l.flatMap ucs).all plainV = true
  | [] => rfl
  | g :: l => by rw [List.flatMap_cons, List.all_append, ups_plain l]; rfl
theorem ups_cat {κ : Kap} {s : Nat} {x y : List U} (h : κ s = some (.own (SlR tyU 6 (x.length + y.length) (x.flatMap ucs ++ y.flatMap ucs)))) : κ s = some (.own (SlR tyU 6 (x ++ y).length ((x ++ y).flatMap ucs))) := by
  rw [h, List.flatMap_append, List.length_append]
theorem filter_snoc {p : U → Bool} {l r : List U} {k : Nat} {t : U} (h : l[k]? = some t) (hr : r = (l.take k).filter p) : (l.take (k + 1)).filter p = if p t = true then r ++ [t] else r := by
  rw [take_s h, List.filter_append, hr, List.filter_cons, List.filter_nil]
  split <;> simp
attribute [local irreducible] V N X VO Par StepOK Has Ret RetL Src
set_option maxHeartbeats 4000000 in
theorem rsome_ttt {x y : List U} {fx fy : Bool} (hx : x.length ≤ 100000) (hy : y.length ≤ 100000) (zx : ∀ t ∈ x, TZ t) (zy : ∀ t ∈ y, TZ t) {vx vy : Value} {w : World} {B : Heap} (hB : B.Le (hp w)) (hvx : US x fx vx B) (hvy : US y fy vy B) :
    Ret Try.prog 78 [vx, vy, .bool true, .bool true, .bool true] w B (US (someT x y true true true) false) := by
  have lx := ups_len x
  have ly := ups_len y
  have px := ups_plain x
  have py := ups_plain y
  refine V_enter Try.func78 rfl Try.ntmps78 (Nat.le_of_ble_eq_true rfl) hB ?_
  refine V_seen 0 (US x fx) rfl SlV.mono hvx ?_
  refine V_seen 1 (US y fy) rfl SlV.mono hvy ?_
  refine V_seq ?_; refine V_region (id := 0) ?_; refine vo_step (ok_assign rfl rfl rfl) rfl ?_; refine vo_nil ?_; refine N_seq ?_; refine V_seq ?_; refine V_region (id := 1) ?_; refine vo_step (ok_assign rfl rfl rfl) rfl ?_; refine vo_nil ?_; refine N_seq ?_; refine V_seq ?_
  refine V_nilR 11 tyU 6 rfl ?_
  refine V_region (id := 2) ?_; refine vo_step (ok_moves' rfl rfl rfl) rfl ?_; refine vo_step (ok_append0 L rfl rfl rfl (apd_V rfl) rfl el52 lx px (by omega) (by omega)) rfl ?_; refine vo_step (ok_moves' rfl rfl rfl) rfl ?_; refine vo_step2 (ok_append L rfl rfl rfl (apd_V rfl) rfl el52 ly py (by omega) (by omega)) ?_; refine vo_step2 (ok_moveO (.inr rfl) rfl rfl rfl rfl) ?_; refine vo_nil ?_; refine N_seq ?_; refine V_seq ?_; refine V_seq ?_
  refine V_pubR 12 (ups_cat rfl) ?_
  have hal : (x ++ y).length ≤ 200000 := by rw [List.length_append]; omega
  have hza : ∀ t ∈ x ++ y, TZ t := fun t ht => (List.mem_append.1 ht).elim (zx t) (zy t)
  unfold someT
  generalize hall : x ++ y = l at hal hza
  refine V_region (id := 3) ?_; refine vo_step (ok_assign rfl rfl rfl) rfl ?_; refine vo_nil ?_; refine N_seq ?_; refine V_block ?_
  refine V_loop (fun s : Nat × List U => [(0, .sat (US x fx)), (1, .sat (US y fy)), (2, .is (.bool true)), (3, .is (.bool true)), (4, .is (.bool true)), (11, .own (SlR tyU 6 s.2.length (s.2.flatMap ucs))), (12, .sat (US l false)), (13, .is (.int .i64 s.1))])
    (fun s => s.1 ≤ l.length ∧ s.2.length ≤ s.1 ∧ s.2 = (l.take s.1).filter (pickT x y true true true)) (fun s => l.length - s.1) (0, []) ⟨Nat.zero_le _, Nat.le_refl _, rfl⟩ ⟨rfl, rfl, rfl, rfl, rfl, rfl, rfl, rfl, trivial⟩ ?_
  rintro ⟨i, r⟩ ⟨hi, hrl, hr⟩
  dsimp only at hi hrl hr ⊢
  by_cases hlt : i < l.length
  · obtain ⟨t, ht⟩ := get_some hlt
    have hc := us_at ht
    have hf := filter_snoc ht hr
    by_cases h1 : t ∈ x
    · have e1 : (if t ∈ x then 1 else 0 : Int) = 1 := if_pos h1
      by_cases h2 : t ∈ y
      · have e2 : (if t ∈ y then 1 else 0 : Int) = 1 := if_pos h2
        have hp : (pickT x y true true true) t = true := by simp [pickT, h1, h2]
        rw [hp, if_pos rfl] at hf
        refine V_seq ?_; refine V_seq ?_; refine V_region (id := 4) ?_; refine vo_step (ok_move rfl rfl rfl) rfl ?_; refine vo_step (ok_moves' rfl rfl rfl) rfl ?_; refine vo_step (ok_lenV L rfl rfl rfl rfl) rfl ?_; refine vo_step (ok_lss rfl rfl rfl rfl (decide_eq_true (by omega))) rfl ?_; refine vo_nil ?_; refine N_seq ?_; refine V_true rfl ?_; refine V_skip ?_; refine N_seq ?_; refine V_seq ?_; refine V_block ?_; refine V_seq ?_; refine V_regionD (id := 6) [] mixed (by kernel_rfl) ?_; refine par_step (ok_moves' rfl rfl rfl) rfl ?_; refine par_step (ok_moves' rfl rfl rfl) rfl ?_; refine par_step (ok_move rfl rfl rfl) rfl ?_; refine par_step (ok_indexV L _ rfl rfl rfl rfl rfl rfl rfl (by first | omega | decide) (by assumption)) rfl ?_; refine par_step (ok_loadPA L (vs := [_, _, _, _, _, _]) rfl rfl rfl rfl rfl ⟨_, rfl⟩) rfl ?_; refine par_step (ok_callx L rfl rfl (blt_lt rfl) rfl rfl rfl (fun u H hH _ _ v1 h3 => rin_ret (l := x) (by omega) e1 hH h3)) rfl ?_; refine par_step (ok_eql rfl rfl rfl rfl (decide_eq_true (by omega))) rfl ?_; refine par_step (ok_moves' rfl rfl rfl) rfl ?_; refine par_step (ok_moves' rfl rfl rfl) rfl ?_; refine par_step (ok_move rfl rfl rfl) rfl ?_; refine par_step (ok_indexV L _ rfl rfl rfl rfl rfl rfl rfl (by first | omega | decide) (by assumption)) rfl ?_; refine par_step (ok_loadPA L (vs := [_, _, _, _, _, _]) rfl rfl rfl rfl rfl ⟨_, rfl⟩) rfl ?_; refine par_step (ok_callx L rfl rfl (blt_lt rfl) rfl rfl rfl (fun u H hH _ _ v1 h3 => rin_ret (l := y) (by omega) e2 hH h3)) rfl ?_; refine par_step (ok_eql rfl rfl rfl rfl (decide_eq_true (by omega))) rfl ?_; refine par_step (ok_assign rfl rfl rfl) rfl ?_; refine par_step (ok_assign rfl rfl rfl) rfl ?_; refine par_nil ?_; refine N_seq ?_; refine V_seq ?_; refine V_region (id := 7) ?_; refine vo_step (ok_move rfl rfl rfl) rfl ?_; refine vo_step (ok_move rfl rfl rfl) rfl ?_; refine vo_step (ok_move rfl rfl rfl) rfl ?_; refine vo_step (ok_not rfl rfl rfl rfl) rfl ?_; refine vo_step (ok_pick rfl rfl rfl rfl) rfl ?_; refine vo_step (ok_move rfl rfl rfl) rfl ?_; refine vo_step (ok_skip rfl (blt_lt rfl) rfl) rfl ?_; refine vo_step (ok_pick rfl rfl rfl rfl) rfl ?_; refine vo_step (ok_move rfl rfl rfl) rfl ?_; refine vo_step (ok_move rfl rfl rfl) rfl ?_; refine vo_step (ok_move rfl rfl rfl) rfl ?_; refine vo_step (ok_move rfl rfl rfl) rfl ?_; refine vo_step (ok_pick rfl rfl rfl rfl) rfl ?_; refine vo_step (ok_move rfl rfl rfl) rfl ?_; refine vo_step (ok_move rfl rfl rfl) rfl ?_; refine vo_step (ok_pick rfl rfl rfl rfl) rfl ?_; refine vo_step (ok_pick rfl rfl rfl rfl) rfl ?_; refine vo_step (ok_move rfl rfl rfl) rfl ?_; refine vo_step (ok_skip rfl (blt_lt rfl) rfl) rfl ?_; refine vo_step (ok_skip rfl (blt_lt rfl) rfl) rfl ?_; refine vo_step (ok_skip rfl (blt_lt rfl) rfl) rfl ?_; refine vo_step (ok_skip rfl (blt_lt rfl) rfl) rfl ?_; refine vo_step (ok_skip rfl (blt_lt rfl) rfl) rfl ?_; refine vo_step (ok_skip rfl (blt_lt rfl) rfl) rfl ?_; refine vo_step (ok_skip rfl (blt_lt rfl) rfl) rfl ?_; refine vo_step (ok_skip rfl (blt_lt rfl) rfl) rfl ?_; refine vo_step (ok_pick rfl rfl rfl rfl) rfl ?_; refine vo_nil ?_; refine N_seq ?_; refine V_true rfl ?_; refine V_region (id := 8) ?_; refine vo_step2 (ok_moveO (.inl rfl) rfl rfl rfl rfl) ?_; refine vo_step (ok_moves' rfl rfl rfl) rfl ?_; refine vo_step (ok_move rfl rfl rfl) rfl ?_; refine vo_step (ok_indexV L _ rfl rfl rfl rfl rfl rfl rfl (by first | omega | decide) (by assumption)) rfl ?_; refine vo_step (ok_loadPA L (vs := [_, _, _, _, _, _]) rfl rfl rfl rfl rfl ⟨_, rfl⟩) rfl ?_; refine vo_step (ok_buildSlice L rfl rfl rfl rfl rfl rfl rfl rfl rfl) rfl ?_; refine vo_step2 (ok_append L rfl rfl rfl (apd_B rfl) rfl el52 rfl rfl (by omega) (by omega)) ?_; refine vo_step2 (ok_moveO (.inr rfl) rfl rfl rfl rfl) ?_; refine vo_nil ?_; refine N_block ?_; refine N_seq ?_; refine V_region (id := 5) ?_; refine vo_step (ok_move rfl rfl rfl) rfl ?_; refine vo_step (ok_add rfl rfl rfl rfl (wrap_i64 (by omega) (by omega))) rfl ?_; refine vo_step (ok_assign rfl rfl rfl) rfl ?_; refine vo_nil ?_
        exact N_round (x := (i, r)) (i + 1, r ++ [t]) ⟨hlt, by dsimp only; rw [List.length_append, List.length_singleton]; omega, hf.symm⟩ (by dsimp only; omega) ⟨rfl, rfl, rfl, rfl, rfl, ups_snoc rfl, rfl, rfl, trivial⟩
      · have e2 : (if t ∈ y then 1 else 0 : Int) = 0 := if_neg h2
        have hp : (pickT x y true true true) t = true := by simp [pickT, h1, h2]
        rw [hp, if_pos rfl] at hf
        refine V_seq ?_; refine V_seq ?_; refine V_region (id := 4) ?_; refine vo_step (ok_move rfl rfl rfl) rfl ?_; refine vo_step (ok_moves' rfl rfl rfl) rfl ?_; refine vo_step (ok_lenV L rfl rfl rfl rfl) rfl ?_; refine vo_step (ok_lss rfl rfl rfl rfl (decide_eq_true (by omega))) rfl ?_; refine vo_nil ?_; refine N_seq ?_; refine V_true rfl ?_; refine V_skip ?_; refine N_seq ?_; refine V_seq ?_; refine V_block ?_; refine V_seq ?_; refine V_regionD (id := 6) [] mixed (by kernel_rfl) ?_; refine par_step (ok_moves' rfl rfl rfl) rfl ?_; refine par_step (ok_moves' rfl rfl rfl) rfl ?_; refine par_step (ok_move rfl rfl rfl) rfl ?_; refine par_step (ok_indexV L _ rfl rfl rfl rfl rfl rfl rfl (by first | omega | decide) (by assumption)) rfl ?_; refine par_step (ok_loadPA L (vs := [_, _, _, _, _, _]) rfl rfl rfl rfl rfl ⟨_, rfl⟩) rfl ?_; refine par_step (ok_callx L rfl rfl (blt_lt rfl) rfl rfl rfl (fun u H hH _ _ v1 h3 => rin_ret (l := x) (by omega) e1 hH h3)) rfl ?_; refine par_step (ok_eql rfl rfl rfl rfl (decide_eq_true (by omega))) rfl ?_; refine par_step (ok_moves' rfl rfl rfl) rfl ?_; refine par_step (ok_moves' rfl rfl rfl) rfl ?_; refine par_step (ok_move rfl rfl rfl) rfl ?_; refine par_step (ok_indexV L _ rfl rfl rfl rfl rfl rfl rfl (by first | omega | decide) (by assumption)) rfl ?_; refine par_step (ok_loadPA L (vs := [_, _, _, _, _, _]) rfl rfl rfl rfl rfl ⟨_, rfl⟩) rfl ?_; refine par_step (ok_callx L rfl rfl (blt_lt rfl) rfl rfl rfl (fun u H hH _ _ v1 h3 => rin_ret (l := y) (by omega) e2 hH h3)) rfl ?_; refine par_step (ok_eql rfl rfl rfl rfl (decide_eq_false (by omega))) rfl ?_; refine par_step (ok_assign rfl rfl rfl) rfl ?_; refine par_step (ok_assign rfl rfl rfl) rfl ?_; refine par_nil ?_; refine N_seq ?_; refine V_seq ?_; refine V_region (id := 7) ?_; refine vo_step (ok_move rfl rfl rfl) rfl ?_; refine vo_step (ok_move rfl rfl rfl) rfl ?_; refine vo_step (ok_move rfl rfl rfl) rfl ?_; refine vo_step (ok_not rfl rfl rfl rfl) rfl ?_; refine vo_step (ok_pick rfl rfl rfl rfl) rfl ?_; refine vo_step (ok_move rfl rfl rfl) rfl ?_; refine vo_step (ok_move rfl rfl rfl) rfl ?_; refine vo_step (ok_pick rfl rfl rfl rfl) rfl ?_; refine vo_step (ok_move rfl rfl rfl) rfl ?_; refine vo_step (ok_skip rfl (blt_lt rfl) rfl) rfl ?_; refine vo_step (ok_skip rfl (blt_lt rfl) rfl) rfl ?_; refine vo_step (ok_skip rfl (blt_lt rfl) rfl) rfl ?_; refine vo_step (ok_skip rfl (blt_lt rfl) rfl) rfl ?_; refine vo_step (ok_skip rfl (blt_lt rfl) rfl) rfl ?_; refine vo_step (ok_skip rfl (blt_lt rfl) rfl) rfl ?_; refine vo_step (ok_skip rfl (blt_lt rfl) rfl) rfl ?_; refine vo_step (ok_pick rfl rfl rfl rfl) rfl ?_; refine vo_step (ok_move rfl rfl rfl) rfl ?_; refine vo_step (ok_skip rfl (blt_lt rfl) rfl) rfl ?_; refine vo_step (ok_skip rfl (blt_lt rfl) rfl) rfl ?_; refine vo_step (ok_skip rfl (blt_lt rfl) rfl) rfl ?_; refine vo_step (ok_skip rfl (blt_lt rfl) rfl) rfl ?_; refine vo_step (ok_skip rfl (blt_lt rfl) rfl) rfl ?_; refine vo_step (ok_skip rfl (blt_lt rfl) rfl) rfl ?_; refine vo_step (ok_skip rfl (blt_lt rfl) rfl) rfl ?_; refine vo_step (ok_skip rfl (blt_lt rfl) rfl) rfl ?_; refine vo_step (ok_pick rfl rfl rfl rfl) rfl ?_; refine vo_nil ?_; refine N_seq ?_; refine V_true rfl ?_; refine V_region (id := 8) ?_; refine vo_step2 (ok_moveO (.inl rfl) rfl rfl rfl rfl) ?_; refine vo_step (ok_moves' rfl rfl rfl) rfl ?_; refine vo_step (ok_move rfl rfl rfl) rfl ?_; refine vo_step (ok_indexV L _ rfl rfl rfl rfl rfl rfl rfl (by first | omega | decide) (by assumption)) rfl ?_; refine vo_step (ok_loadPA L (vs := [_, _, _, _, _, _]) rfl rfl rfl rfl rfl ⟨_, rfl⟩) rfl ?_; refine vo_step (ok_buildSlice L rfl rfl rfl rfl rfl rfl rfl rfl rfl) rfl ?_; refine vo_step2 (ok_append L rfl rfl rfl (apd_B rfl) rfl el52 rfl rfl (by omega) (by omega)) ?_; refine vo_step2 (ok_moveO (.inr rfl) rfl rfl rfl rfl) ?_; refine vo_nil ?_; refine N_block ?_; refine N_seq ?_; refine V_region (id := 5) ?_; refine vo_step (ok_move rfl rfl rfl) rfl ?_; refine vo_step (ok_add rfl rfl rfl rfl (wrap_i64 (by omega) (by omega))) rfl ?_; refine vo_step (ok_assign rfl rfl rfl) rfl ?_; refine vo_nil ?_
        exact N_round (x := (i, r)) (i + 1, r ++ [t]) ⟨hlt, by dsimp only; rw [List.length_append, List.length_singleton]; omega, hf.symm⟩ (by dsimp only; omega) ⟨rfl, rfl, rfl, rfl, rfl, ups_snoc rfl, rfl, rfl, trivial⟩
    · have e1 : (if t ∈ x then 1 else 0 : Int) = 0 := if_neg h1
      by_cases h2 : t ∈ y
      · have e2 : (if t ∈ y then 1 else 0 : Int) = 1 := if_pos h2
        have hp : (pickT x y true true true) t = true := by simp [pickT, h1, h2]
        rw [hp, if_pos rfl] at hf
        refine V_seq ?_; refine V_seq ?_; refine V_region (id := 4) ?_; refine vo_step (ok_move rfl rfl rfl) rfl ?_; refine vo_step (ok_moves' rfl rfl rfl) rfl ?_; refine vo_step (ok_lenV L rfl rfl rfl rfl) rfl ?_; refine vo_step (ok_lss rfl rfl rfl rfl (decide_eq_true (by omega))) rfl ?_; refine vo_nil ?_; refine N_seq ?_; refine V_true rfl ?_; refine V_skip ?_; refine N_seq ?_; refine V_seq ?_; refine V_block ?_; refine V_seq ?_; refine V_regionD (id := 6) [] mixed (by kernel_rfl) ?_; refine par_step (ok_moves' rfl rfl rfl) rfl ?_; refine par_step (ok_moves' rfl rfl rfl) rfl ?_; refine par_step (ok_move rfl rfl rfl) rfl ?_; refine par_step (ok_indexV L _ rfl rfl rfl rfl rfl rfl rfl (by first | omega | decide) (by assumption)) rfl ?_; refine par_step (ok_loadPA L (vs := [_, _, _, _, _, _]) rfl rfl rfl rfl rfl ⟨_, rfl⟩) rfl ?_; refine par_step (ok_callx L rfl rfl (blt_lt rfl) rfl rfl rfl (fun u H hH _ _ v1 h3 => rin_ret (l := x) (by omega) e1 hH h3)) rfl ?_; refine par_step (ok_eql rfl rfl rfl rfl (decide_eq_false (by omega))) rfl ?_; refine par_step (ok_moves' rfl rfl rfl) rfl ?_; refine par_step (ok_moves' rfl rfl rfl) rfl ?_; refine par_step (ok_move rfl rfl rfl) rfl ?_; refine par_step (ok_indexV L _ rfl rfl rfl rfl rfl rfl rfl (by first | omega | decide) (by assumption)) rfl ?_; refine par_step (ok_loadPA L (vs := [_, _, _, _, _, _]) rfl rfl rfl rfl rfl ⟨_, rfl⟩) rfl ?_; refine par_step (ok_callx L rfl rfl (blt_lt rfl) rfl rfl rfl (fun u H hH _ _ v1 h3 => rin_ret (l := y) (by omega) e2 hH h3)) rfl ?_; refine par_step (ok_eql rfl rfl rfl rfl (decide_eq_true (by omega))) rfl ?_; refine par_step (ok_assign rfl rfl rfl) rfl ?_; refine par_step (ok_assign rfl rfl rfl) rfl ?_; refine par_nil ?_; refine N_seq ?_; refine V_seq ?_; refine V_region (id := 7) ?_; refine vo_step (ok_move rfl rfl rfl) rfl ?_; refine vo_step (ok_move rfl rfl rfl) rfl ?_; refine vo_step (ok_skip rfl (blt_lt rfl) rfl) rfl ?_; refine vo_step (ok_skip rfl (blt_lt rfl) rfl) rfl ?_; refine vo_step (ok_pick rfl rfl rfl rfl) rfl ?_; refine vo_step (ok_move rfl rfl rfl) rfl ?_; refine vo_step (ok_skip rfl (blt_lt rfl) rfl) rfl ?_; refine vo_step (ok_pick rfl rfl rfl rfl) rfl ?_; refine vo_step (ok_move rfl rfl rfl) rfl ?_; refine vo_step (ok_move rfl rfl rfl) rfl ?_; refine vo_step (ok_move rfl rfl rfl) rfl ?_; refine vo_step (ok_skip rfl (blt_lt rfl) rfl) rfl ?_; refine vo_step (ok_pick rfl rfl rfl rfl) rfl ?_; refine vo_step (ok_move rfl rfl rfl) rfl ?_; refine vo_step (ok_skip rfl (blt_lt rfl) rfl) rfl ?_; refine vo_step (ok_pick rfl rfl rfl rfl) rfl ?_; refine vo_step (ok_pick rfl rfl rfl rfl) rfl ?_; refine vo_step (ok_move rfl rfl rfl) rfl ?_; refine vo_step (ok_move rfl rfl rfl) rfl ?_; refine vo_step (ok_not rfl rfl rfl rfl) rfl ?_; refine vo_step (ok_move rfl rfl rfl) rfl ?_; refine vo_step (ok_move rfl rfl rfl) rfl ?_; refine vo_step (ok_pick rfl rfl rfl rfl) rfl ?_; refine vo_step (ok_move rfl rfl rfl) rfl ?_; refine vo_step (ok_move rfl rfl rfl) rfl ?_; refine vo_step (ok_pick rfl rfl rfl rfl) rfl ?_; refine vo_step (ok_pick rfl rfl rfl rfl) rfl ?_; refine vo_nil ?_; refine N_seq ?_; refine V_true rfl ?_; refine V_region (id := 8) ?_; refine vo_step2 (ok_moveO (.inl rfl) rfl rfl rfl rfl) ?_; refine vo_step (ok_moves' rfl rfl rfl) rfl ?_; refine vo_step (ok_move rfl rfl rfl) rfl ?_; refine vo_step (ok_indexV L _ rfl rfl rfl rfl rfl rfl rfl (by first | omega | decide) (by assumption)) rfl ?_; refine vo_step (ok_loadPA L (vs := [_, _, _, _, _, _]) rfl rfl rfl rfl rfl ⟨_, rfl⟩) rfl ?_; refine vo_step (ok_buildSlice L rfl rfl rfl rfl rfl rfl rfl rfl rfl) rfl ?_; refine vo_step2 (ok_append L rfl rfl rfl (apd_B rfl) rfl el52 rfl rfl (by omega) (by omega)) ?_; refine vo_step2 (ok_moveO (.inr rfl) rfl rfl rfl rfl) ?_; refine vo_nil ?_; refine N_block ?_; refine N_seq ?_; refine V_region (id := 5) ?_; refine vo_step (ok_move rfl rfl rfl) rfl ?_; refine vo_step (ok_add rfl rfl rfl rfl (wrap_i64 (by omega) (by omega))) rfl ?_; refine vo_step (ok_assign rfl rfl rfl) rfl ?_; refine vo_nil ?_
        exact N_round (x := (i, r)) (i + 1, r ++ [t]) ⟨hlt, by dsimp only; rw [List.length_append, List.length_singleton]; omega, hf.symm⟩ (by dsimp only; omega) ⟨rfl, rfl, rfl, rfl, rfl, ups_snoc rfl, rfl, rfl, trivial⟩
      · have e2 : (if t ∈ y then 1 else 0 : Int) = 0 := if_neg h2
        have hp : (pickT x y true true true) t = false := by simp [pickT, h1, h2]
        rw [hp, if_neg (by decide)] at hf
        refine V_seq ?_; refine V_seq ?_; refine V_region (id := 4) ?_; refine vo_step (ok_move rfl rfl rfl) rfl ?_; refine vo_step (ok_moves' rfl rfl rfl) rfl ?_; refine vo_step (ok_lenV L rfl rfl rfl rfl) rfl ?_; refine vo_step (ok_lss rfl rfl rfl rfl (decide_eq_true (by omega))) rfl ?_; refine vo_nil ?_; refine N_seq ?_; refine V_true rfl ?_; refine V_skip ?_; refine N_seq ?_; refine V_seq ?_; refine V_block ?_; refine V_seq ?_; refine V_regionD (id := 6) [] mixed (by kernel_rfl) ?_; refine par_step (ok_moves' rfl rfl rfl) rfl ?_; refine par_step (ok_moves' rfl rfl rfl) rfl ?_; refine par_step (ok_move rfl rfl rfl) rfl ?_; refine par_step (ok_indexV L _ rfl rfl rfl rfl rfl rfl rfl (by first | omega | decide) (by assumption)) rfl ?_; refine par_step (ok_loadPA L (vs := [_, _, _, _, _, _]) rfl rfl rfl rfl rfl ⟨_, rfl⟩) rfl ?_; refine par_step (ok_callx L rfl rfl (blt_lt rfl) rfl rfl rfl (fun u H hH _ _ v1 h3 => rin_ret (l := x) (by omega) e1 hH h3)) rfl ?_; refine par_step (ok_eql rfl rfl rfl rfl (decide_eq_false (by omega))) rfl ?_; refine par_step (ok_moves' rfl rfl rfl) rfl ?_; refine par_step (ok_moves' rfl rfl rfl) rfl ?_; refine par_step (ok_move rfl rfl rfl) rfl ?_; refine par_step (ok_indexV L _ rfl rfl rfl rfl rfl rfl rfl (by first | omega | decide) (by assumption)) rfl ?_; refine par_step (ok_loadPA L (vs := [_, _, _, _, _, _]) rfl rfl rfl rfl rfl ⟨_, rfl⟩) rfl ?_; refine par_step (ok_callx L rfl rfl (blt_lt rfl) rfl rfl rfl (fun u H hH _ _ v1 h3 => rin_ret (l := y) (by omega) e2 hH h3)) rfl ?_; refine par_step (ok_eql rfl rfl rfl rfl (decide_eq_false (by omega))) rfl ?_; refine par_step (ok_assign rfl rfl rfl) rfl ?_; refine par_step (ok_assign rfl rfl rfl) rfl ?_; refine par_nil ?_; refine N_seq ?_; refine V_seq ?_; refine V_region (id := 7) ?_; refine vo_step (ok_move rfl rfl rfl) rfl ?_; refine vo_step (ok_move rfl rfl rfl) rfl ?_; refine vo_step (ok_skip rfl (blt_lt rfl) rfl) rfl ?_; refine vo_step (ok_skip rfl (blt_lt rfl) rfl) rfl ?_; refine vo_step (ok_pick rfl rfl rfl rfl) rfl ?_; refine vo_step (ok_move rfl rfl rfl) rfl ?_; refine vo_step (ok_skip rfl (blt_lt rfl) rfl) rfl ?_; refine vo_step (ok_pick rfl rfl rfl rfl) rfl ?_; refine vo_step (ok_move rfl rfl rfl) rfl ?_; refine vo_step (ok_move rfl rfl rfl) rfl ?_; refine vo_step (ok_move rfl rfl rfl) rfl ?_; refine vo_step (ok_skip rfl (blt_lt rfl) rfl) rfl ?_; refine vo_step (ok_pick rfl rfl rfl rfl) rfl ?_; refine vo_step (ok_move rfl rfl rfl) rfl ?_; refine vo_step (ok_skip rfl (blt_lt rfl) rfl) rfl ?_; refine vo_step (ok_pick rfl rfl rfl rfl) rfl ?_; refine vo_step (ok_pick rfl rfl rfl rfl) rfl ?_; refine vo_step (ok_move rfl rfl rfl) rfl ?_; refine vo_step (ok_move rfl rfl rfl) rfl ?_; refine vo_step (ok_not rfl rfl rfl rfl) rfl ?_; refine vo_step (ok_move rfl rfl rfl) rfl ?_; refine vo_step (ok_move rfl rfl rfl) rfl ?_; refine vo_step (ok_pick rfl rfl rfl rfl) rfl ?_; refine vo_step (ok_move rfl rfl rfl) rfl ?_; refine vo_step (ok_skip rfl (blt_lt rfl) rfl) rfl ?_; refine vo_step (ok_pick rfl rfl rfl rfl) rfl ?_; refine vo_step (ok_pick rfl rfl rfl rfl) rfl ?_; refine vo_nil ?_; refine N_seq ?_; refine V_false rfl ?_; refine V_skip ?_; refine N_block ?_; refine N_seq ?_; refine V_region (id := 5) ?_; refine vo_step (ok_move rfl rfl rfl) rfl ?_; refine vo_step (ok_add rfl rfl rfl rfl (wrap_i64 (by omega) (by omega))) rfl ?_; refine vo_step (ok_assign rfl rfl rfl) rfl ?_; refine vo_nil ?_
        exact N_round (x := (i, r)) (i + 1, r) ⟨hlt, by dsimp only; omega, hf.symm⟩ (by dsimp only; omega) ⟨rfl, rfl, rfl, rfl, rfl, rfl, rfl, rfl, trivial⟩
  · obtain rfl : i = l.length := by omega
    rw [List.take_length] at hr
    have hzr : ∀ t ∈ r, TZ t := fun t h => hza t (List.mem_filter.1 (by rw [← hr]; exact h)).1
    rw [← hr]
    refine V_pubR 11 rfl ?_
    refine V_seq ?_; refine V_seq ?_; refine V_region (id := 4) ?_; refine vo_step (ok_move rfl rfl rfl) rfl ?_; refine vo_step (ok_moves' rfl rfl rfl) rfl ?_; refine vo_step (ok_lenV L rfl rfl rfl rfl) rfl ?_; refine vo_step (ok_lss rfl rfl rfl rfl (decide_eq_false (by omega))) rfl ?_; refine vo_nil ?_; refine N_seq ?_; refine V_false rfl ?_; refine V_exit ?_; refine X_then ?_; refine X_then ?_; refine X_here ?_; refine N_seq ?_; refine V_seq ?_; refine V_region (id := 9) ?_; refine vo_step (ok_moves' rfl rfl rfl) rfl ?_; refine vo_step (ok_call L rfl rfl (blt_lt rfl) rfl rfl rfl SlV.mono (fun u H hH _ _ v1 h3 => rsorted_ret (by omega) hzr hH h3)) rfl ?_; refine vo_step (ok_assigns' rfl rfl rfl) rfl ?_; refine vo_nil ?_; refine N_seq ?_
    refine V_ret L (rs := [.tmp 10]) rfl (fun _ _ h => h) Since.refl fun u H hH hle => ?_
    exact fun v hv => hv
set_option maxHeartbeats 4000000 in
theorem rsome_tff {x y : List U} {fx fy : Bool} (hx : x.length ≤ 100000) (hy : y.length ≤ 100000) (zx : ∀ t ∈ x, TZ t) (zy : ∀ t ∈ y, TZ t) {vx vy : Value} {w : World} {B : Heap} (hB : B.Le (hp w)) (hvx : US x fx vx B) (hvy : US y fy vy B) :
    Ret Try.prog 78 [vx, vy, .bool true, .bool false, .bool false] w B (US (someT x y true false false) false) := by
  have lx := ups_len x
  have ly := ups_len y
  have px := ups_plain x
  have py := ups_plain y
  refine V_enter Try.func78 rfl Try.ntmps78 (Nat.le_of_ble_eq_true rfl) hB ?_
  refine V_seen 0 (US x fx) rfl SlV.mono hvx ?_
  refine V_seen 1 (US y fy) rfl SlV.mono hvy ?_
  refine V_seq ?_; refine V_region (id := 0) ?_; refine vo_step (ok_assign rfl rfl rfl) rfl ?_; refine vo_nil ?_; refine N_seq ?_; refine V_seq ?_; refine V_region (id := 1) ?_; refine vo_step (ok_assign rfl rfl rfl) rfl ?_; refine vo_nil ?_; refine N_seq ?_; refine V_seq ?_
  refine V_nilR 11 tyU 6 rfl ?_
  refine V_region (id := 2) ?_; refine vo_step (ok_moves' rfl rfl rfl) rfl ?_; refine vo_step (ok_append0 L rfl rfl rfl (apd_V rfl) rfl el52 lx px (by omega) (by omega)) rfl ?_; refine vo_step (ok_moves' rfl rfl rfl) rfl ?_; refine vo_step2 (ok_append L rfl rfl rfl (apd_V rfl) rfl el52 ly py (by omega) (by omega)) ?_; refine vo_step2 (ok_moveO (.inr rfl) rfl rfl rfl rfl) ?_; refine vo_nil ?_; refine N_seq ?_; refine V_seq ?_; refine V_seq ?_
  refine V_pubR 12 (ups_cat rfl) ?_
  have hal : (x ++ y).length ≤ 200000 := by rw [List.length_append]; omega
  have hza : ∀ t ∈ x ++ y, TZ t := fun t ht => (List.mem_append.1 ht).elim (zx t) (zy t)
  unfold someT
  generalize hall : x ++ y = l at hal hza
  refine V_region (id := 3) ?_; refine vo_step (ok_assign rfl rfl rfl) rfl ?_; refine vo_nil ?_; refine N_seq ?_; refine V_block ?_
  refine V_loop (fun s : Nat × List U => [(0, .sat (US x fx)), (1, .sat (US y fy)), (2, .is (.bool true)), (3, .is (.bool false)), (4, .is (.bool false)), (11, .own (SlR tyU 6 s.2.length (s.2.flatMap ucs))), (12, .sat (US l false)), (13, .is (.int .i64 s.1))])
    (fun s => s.1 ≤ l.length ∧ s.2.length ≤ s.1 ∧ s.2 = (l.take s.1).filter (pickT x y true false false)) (fun s => l.length - s.1) (0, []) ⟨Nat.zero_le _, Nat.le_refl _, rfl⟩ ⟨rfl, rfl, rfl, rfl, rfl, rfl, rfl, rfl, trivial⟩ ?_
  rintro ⟨i, r⟩ ⟨hi, hrl, hr⟩
  dsimp only at hi hrl hr ⊢
  by_cases hlt : i < l.length
  · obtain ⟨t, ht⟩ := get_some hlt
    have hc := us_at ht
    have hf := filter_snoc ht hr
    by_cases h1 : t ∈ x
    · have e1 : (if t ∈ x then 1 else 0 : Int) = 1 := if_pos h1
      by_cases h2 : t ∈ y
      · have e2 : (if t ∈ y then 1 else 0 : Int) = 1 := if_pos h2
        have hp : (pickT x y true false false) t = false := by simp [pickT, h1, h2]
        rw [hp, if_neg (by decide)] at hf
        refine V_seq ?_; refine V_seq ?_; refine V_region (id := 4) ?_; refine vo_step (ok_move rfl rfl rfl) rfl ?_; refine vo_step (ok_moves' rfl rfl rfl) rfl ?_; refine vo_step (ok_lenV L rfl rfl rfl rfl) rfl ?_; refine vo_step (ok_lss rfl rfl rfl rfl (decide_eq_true (by omega))) rfl ?_; refine vo_nil ?_; refine N_seq ?_; refine V_true rfl ?_; refine V_skip ?_; refine N_seq ?_; refine V_seq ?_; refine V_block ?_; refine V_seq ?_; refine V_regionD (id := 6) [] mixed (by kernel_rfl) ?_; refine par_step (ok_moves' rfl rfl rfl) rfl ?_; refine par_step (ok_moves' rfl rfl rfl) rfl ?_; refine par_step (ok_move rfl rfl rfl) rfl ?_; refine par_step (ok_indexV L _ rfl rfl rfl rfl rfl rfl rfl (by first | omega | decide) (by assumption)) rfl ?_; refine par_step (ok_loadPA L (vs := [_, _, _, _, _, _]) rfl rfl rfl rfl rfl ⟨_, rfl⟩) rfl ?_; refine par_step (ok_callx L rfl rfl (blt_lt rfl) rfl rfl rfl (fun u H hH _ _ v1 h3 => rin_ret (l := x) (by omega) e1 hH h3)) rfl ?_; refine par_step (ok_eql rfl rfl rfl rfl (decide_eq_true (by omega))) rfl ?_; refine par_step (ok_moves' rfl rfl rfl) rfl ?_; refine par_step (ok_moves' rfl rfl rfl) rfl ?_; refine par_step (ok_move rfl rfl rfl) rfl ?_; refine par_step (ok_indexV L _ rfl rfl rfl rfl rfl rfl rfl (by first | omega | decide) (by assumption)) rfl ?_; refine par_step (ok_loadPA L (vs := [_, _, _, _, _, _]) rfl rfl rfl rfl rfl ⟨_, rfl⟩) rfl ?_; refine par_step (ok_callx L rfl rfl (blt_lt rfl) rfl rfl rfl (fun u H hH _ _ v1 h3 => rin_ret (l := y) (by omega) e2 hH h3)) rfl ?_; refine par_step (ok_eql rfl rfl rfl rfl (decide_eq_true (by omega))) rfl ?_; refine par_step (ok_assign rfl rfl rfl) rfl ?_; refine par_step (ok_assign rfl rfl rfl) rfl ?_; refine par_nil ?_; refine N_seq ?_; refine V_seq ?_; refine V_region (id := 7) ?_; refine vo_step (ok_move rfl rfl rfl) rfl ?_; refine vo_step (ok_move rfl rfl rfl) rfl ?_; refine vo_step (ok_move rfl rfl rfl) rfl ?_; refine vo_step (ok_not rfl rfl rfl rfl) rfl ?_; refine vo_step (ok_pick rfl rfl rfl rfl) rfl ?_; refine vo_step (ok_move rfl rfl rfl) rfl ?_; refine vo_step (ok_skip rfl (blt_lt rfl) rfl) rfl ?_; refine vo_step (ok_pick rfl rfl rfl rfl) rfl ?_; refine vo_step (ok_move rfl rfl rfl) rfl ?_; refine vo_step (ok_move rfl rfl rfl) rfl ?_; refine vo_step (ok_move rfl rfl rfl) rfl ?_; refine vo_step (ok_move rfl rfl rfl) rfl ?_; refine vo_step (ok_pick rfl rfl rfl rfl) rfl ?_; refine vo_step (ok_move rfl rfl rfl) rfl ?_; refine vo_step (ok_move rfl rfl rfl) rfl ?_; refine vo_step (ok_pick rfl rfl rfl rfl) rfl ?_; refine vo_step (ok_pick rfl rfl rfl rfl) rfl ?_; refine vo_step (ok_move rfl rfl rfl) rfl ?_; refine vo_step (ok_move rfl rfl rfl) rfl ?_; refine vo_step (ok_not rfl rfl rfl rfl) rfl ?_; refine vo_step (ok_move rfl rfl rfl) rfl ?_; refine vo_step (ok_skip rfl (blt_lt rfl) rfl) rfl ?_; refine vo_step (ok_pick rfl rfl rfl rfl) rfl ?_; refine vo_step (ok_move rfl rfl rfl) rfl ?_; refine vo_step (ok_skip rfl (blt_lt rfl) rfl) rfl ?_; refine vo_step (ok_pick rfl rfl rfl rfl) rfl ?_; refine vo_step (ok_pick rfl rfl rfl rfl) rfl ?_; refine vo_nil ?_; refine N_seq ?_; refine V_false rfl ?_; refine V_skip ?_; refine N_block ?_; refine N_seq ?_; refine V_region (id := 5) ?_; refine vo_step (ok_move rfl rfl rfl) rfl ?_; refine vo_step (ok_add rfl rfl rfl rfl (wrap_i64 (by omega) (by omega))) rfl ?_; refine vo_step (ok_assign rfl rfl rfl) rfl ?_; refine vo_nil ?_
        exact N_round (x := (i, r)) (i + 1, r) ⟨hlt, by dsimp only; omega, hf.symm⟩ (by dsimp only; omega) ⟨rfl, rfl, rfl, rfl, rfl, rfl, rfl, rfl, trivial⟩
      · have e2 : (if t ∈ y then 1 else 0 : Int) = 0 := if_neg h2
        have hp : (pickT x y true false false) t = true := by simp [pickT, h1, h2]
        rw [hp, if_pos rfl] at hf
        refine V_seq ?_; refine V_seq ?_; refine V_region (id := 4) ?_; refine vo_step (ok_move rfl rfl rfl) rfl ?_; refine vo_step (ok_moves' rfl rfl rfl) rfl ?_; refine vo_step (ok_lenV L rfl rfl rfl rfl) rfl ?_; refine vo_step (ok_lss rfl rfl rfl rfl (decide_eq_true (by omega))) rfl ?_; refine vo_nil ?_; refine N_seq ?_; refine V_true rfl ?_; refine V_skip ?_; refine N_seq ?_; refine V_seq ?_; refine V_block ?_; refine V_seq ?_; refine V_regionD (id := 6) [] mixed (by kernel_rfl) ?_; refine par_step (ok_moves' rfl rfl rfl) rfl ?_; refine par_step (ok_moves' rfl rfl rfl) rfl ?_; refine par_step (ok_move rfl rfl rfl) rfl ?_; refine par_step (ok_indexV L _ rfl rfl rfl rfl rfl rfl rfl (by first | omega | decide) (by assumption)) rfl ?_; refine par_step (ok_loadPA L (vs := [_, _, _, _, _, _]) rfl rfl rfl rfl rfl ⟨_, rfl⟩) rfl ?_; refine par_step (ok_callx L rfl rfl (blt_lt rfl) rfl rfl rfl (fun u H hH _ _ v1 h3 => rin_ret (l := x) (by omega) e1 hH h3)) rfl ?_; refine par_step (ok_eql rfl rfl rfl rfl (decide_eq_true (by omega))) rfl ?_; refine par_step (ok_moves' rfl rfl rfl) rfl ?_; refine par_step (ok_moves' rfl rfl rfl) rfl ?_; refine par_step (ok_move rfl rfl rfl) rfl ?_; refine par_step (ok_indexV L _ rfl rfl rfl rfl rfl rfl rfl (by first | omega | decide) (by assumption)) rfl ?_; refine par_step (ok_loadPA L (vs := [_, _, _, _, _, _]) rfl rfl rfl rfl rfl ⟨_, rfl⟩) rfl ?_; refine par_step (ok_callx L rfl rfl (blt_lt rfl) rfl rfl rfl (fun u H hH _ _ v1 h3 => rin_ret (l := y) (by omega) e2 hH h3)) rfl ?_; refine par_step (ok_eql rfl rfl rfl rfl (decide_eq_false (by omega))) rfl ?_; refine par_step (ok_assign rfl rfl rfl) rfl ?_; refine par_step (ok_assign rfl rfl rfl) rfl ?_; refine par_nil ?_; refine N_seq ?_; refine V_seq ?_; refine V_region (id := 7) ?_; refine vo_step (ok_move rfl rfl rfl) rfl ?_; refine vo_step (ok_move rfl rfl rfl) rfl ?_; refine vo_step (ok_move rfl rfl rfl) rfl ?_; refine vo_step (ok_not rfl rfl rfl rfl) rfl ?_; refine vo_step (ok_pick rfl rfl rfl rfl) rfl ?_; refine vo_step (ok_move rfl rfl rfl) rfl ?_; refine vo_step (ok_move rfl rfl rfl) rfl ?_; refine vo_step (ok_pick rfl rfl rfl rfl) rfl ?_; refine vo_step (ok_move rfl rfl rfl) rfl ?_; refine vo_step (ok_skip rfl (blt_lt rfl) rfl) rfl ?_; refine vo_step (ok_skip rfl (blt_lt rfl) rfl) rfl ?_; refine vo_step (ok_skip rfl (blt_lt rfl) rfl) rfl ?_; refine vo_step (ok_skip rfl (blt_lt rfl) rfl) rfl ?_; refine vo_step (ok_skip rfl (blt_lt rfl) rfl) rfl ?_; refine vo_step (ok_skip rfl (blt_lt rfl) rfl) rfl ?_; refine vo_step (ok_skip rfl (blt_lt rfl) rfl) rfl ?_; refine vo_step (ok_pick rfl rfl rfl rfl) rfl ?_; refine vo_step (ok_move rfl rfl rfl) rfl ?_; refine vo_step (ok_skip rfl (blt_lt rfl) rfl) rfl ?_; refine vo_step (ok_skip rfl (blt_lt rfl) rfl) rfl ?_; refine vo_step (ok_skip rfl (blt_lt rfl) rfl) rfl ?_; refine vo_step (ok_skip rfl (blt_lt rfl) rfl) rfl ?_; refine vo_step (ok_skip rfl (blt_lt rfl) rfl) rfl ?_; refine vo_step (ok_skip rfl (blt_lt rfl) rfl) rfl ?_; refine vo_step (ok_skip rfl (blt_lt rfl) rfl) rfl ?_; refine vo_step (ok_skip rfl (blt_lt rfl) rfl) rfl ?_; refine vo_step (ok_pick rfl rfl rfl rfl) rfl ?_; refine vo_nil ?_; refine N_seq ?_; refine V_true rfl ?_; refine V_region (id := 8) ?_; refine vo_step2 (ok_moveO (.inl rfl) rfl rfl rfl rfl) ?_; refine vo_step (ok_moves' rfl rfl rfl) rfl ?_; refine vo_step (ok_move rfl rfl rfl) rfl ?_; refine vo_step (ok_indexV L _ rfl rfl rfl rfl rfl rfl rfl (by first | omega | decide) (by assumption)) rfl ?_; refine vo_step (ok_loadPA L (vs := [_, _, _, _, _, _]) rfl rfl rfl rfl rfl ⟨_, rfl⟩) rfl ?_; refine vo_step (ok_buildSlice L rfl rfl rfl rfl rfl rfl rfl rfl rfl) rfl ?_; refine vo_step2 (ok_append L rfl rfl rfl (apd_B rfl) rfl el52 rfl rfl (by omega) (by omega)) ?_; refine vo_step2 (ok_moveO (.inr rfl) rfl rfl rfl rfl) ?_; refine vo_nil ?_; refine N_block ?_; refine N_seq ?_; refine V_region (id := 5) ?_; refine vo_step (ok_move rfl rfl rfl) rfl ?_; refine vo_step (ok_add rfl rfl rfl rfl (wrap_i64 (by omega) (by omega))) rfl ?_; refine vo_step (ok_assign rfl rfl rfl) rfl ?_; refine vo_nil ?_
        exact N_round (x := (i, r)) (i + 1, r ++ [t]) ⟨hlt, by dsimp only; rw [List.length_append, List.length_singleton]; omega, hf.symm⟩ (by dsimp only; omega) ⟨rfl, rfl, rfl, rfl, rfl, ups_snoc rfl, rfl, rfl, trivial⟩
    · have e1 : (if t ∈ x then 1 else 0 : Int) = 0 := if_neg h1
      by_cases h2 : t ∈ y
      · have e2 : (if t ∈ y then 1 else 0 : Int) = 1 := if_pos h2
        have hp : (pickT x y true false false) t = false := by simp [pickT, h1, h2]
        rw [hp, if_neg (by decide)] at hf
        refine V_seq ?_; refine V_seq ?_; refine V_region (id := 4) ?_; refine vo_step (ok_move rfl rfl rfl) rfl ?_; refine vo_step (ok_moves' rfl rfl rfl) rfl ?_; refine vo_step (ok_lenV L rfl rfl rfl rfl) rfl ?_; refine vo_step (ok_lss rfl rfl rfl rfl (decide_eq_true (by omega))) rfl ?_; refine vo_nil ?_; refine N_seq ?_; refine V_true rfl ?_; refine V_skip ?_; refine N_seq ?_; refine V_seq ?_; refine V_block ?_; refine V_seq ?_; refine V_regionD (id := 6) [] mixed (by kernel_rfl) ?_; refine par_step (ok_moves' rfl rfl rfl) rfl ?_; refine par_step (ok_moves' rfl rfl rfl) rfl ?_; refine par_step (ok_move rfl rfl rfl) rfl ?_; refine par_step (ok_indexV L _ rfl rfl rfl rfl rfl rfl rfl (by first | omega | decide) (by assumption)) rfl ?_; refine par_step (ok_loadPA L (vs := [_, _, _, _, _, _]) rfl rfl rfl rfl rfl ⟨_, rfl⟩) rfl ?_; refine par_step (ok_callx L rfl rfl (blt_lt rfl) rfl rfl rfl (fun u H hH _ _ v1 h3 => rin_ret (l := x) (by omega) e1 hH h3)) rfl ?_; refine par_step (ok_eql rfl rfl rfl rfl (decide_eq_false (by omega))) rfl ?_; refine par_step (ok_moves' rfl rfl rfl) rfl ?_; refine par_step (ok_moves' rfl rfl rfl) rfl ?_; refine par_step (ok_move rfl rfl rfl) rfl ?_; refine par_step (ok_indexV L _ rfl rfl rfl rfl rfl rfl rfl (by first | omega | decide) (by assumption)) rfl ?_; refine par_step (ok_loadPA L (vs := [_, _, _, _, _, _]) rfl rfl rfl rfl rfl ⟨_, rfl⟩) rfl ?_; refine par_step (ok_callx L rfl rfl (blt_lt rfl) rfl rfl rfl (fun u H hH _ _ v1 h3 => rin_ret (l := y) (by omega) e2 hH h3)) rfl ?_; refine par_step (ok_eql rfl rfl rfl rfl (decide_eq_true (by omega))) rfl ?_; refine par_step (ok_assign rfl rfl rfl) rfl ?_; refine par_step (ok_assign rfl rfl rfl) rfl ?_; refine par_nil ?_; refine N_seq ?_; refine V_seq ?_; refine V_region (id := 7) ?_; refine vo_step (ok_move rfl rfl rfl) rfl ?_; refine vo_step (ok_move rfl rfl rfl) rfl ?_; refine vo_step (ok_skip rfl (blt_lt rfl) rfl) rfl ?_; refine vo_step (ok_skip rfl (blt_lt rfl) rfl) rfl ?_; refine vo_step (ok_pick rfl rfl rfl rfl) rfl ?_; refine vo_step (ok_move rfl rfl rfl) rfl ?_; refine vo_step (ok_skip rfl (blt_lt rfl) rfl) rfl ?_; refine vo_step (ok_pick rfl rfl rfl rfl) rfl ?_; refine vo_step (ok_move rfl rfl rfl) rfl ?_; refine vo_step (ok_move rfl rfl rfl) rfl ?_; refine vo_step (ok_move rfl rfl rfl) rfl ?_; refine vo_step (ok_skip rfl (blt_lt rfl) rfl) rfl ?_; refine vo_step (ok_pick rfl rfl rfl rfl) rfl ?_; refine vo_step (ok_move rfl rfl rfl) rfl ?_; refine vo_step (ok_skip rfl (blt_lt rfl) rfl) rfl ?_; refine vo_step (ok_pick rfl rfl rfl rfl) rfl ?_; refine vo_step (ok_pick rfl rfl rfl rfl) rfl ?_; refine vo_step (ok_move rfl rfl rfl) rfl ?_; refine vo_step (ok_move rfl rfl rfl) rfl ?_; refine vo_step (ok_not rfl rfl rfl rfl) rfl ?_; refine vo_step (ok_move rfl rfl rfl) rfl ?_; refine vo_step (ok_move rfl rfl rfl) rfl ?_; refine vo_step (ok_pick rfl rfl rfl rfl) rfl ?_; refine vo_step (ok_move rfl rfl rfl) rfl ?_; refine vo_step (ok_move rfl rfl rfl) rfl ?_; refine vo_step (ok_pick rfl rfl rfl rfl) rfl ?_; refine vo_step (ok_pick rfl rfl rfl rfl) rfl ?_; refine vo_nil ?_; refine N_seq ?_; refine V_false rfl ?_; refine V_skip ?_; refine N_block ?_; refine N_seq ?_; refine V_region (id := 5) ?_; refine vo_step (ok_move rfl rfl rfl) rfl ?_; refine vo_step (ok_add rfl rfl rfl rfl (wrap_i64 (by omega) (by omega))) rfl ?_; refine vo_step (ok_assign rfl rfl rfl) rfl ?_; refine vo_nil ?_
        exact N_round (x := (i, r)) (i + 1, r) ⟨hlt, by dsimp only; omega, hf.symm⟩ (by dsimp only; omega) ⟨rfl, rfl, rfl, rfl, rfl, rfl, rfl, rfl, trivial⟩
      · have e2 : (if t ∈ y then 1 else 0 : Int) = 0 := if_neg h2
        have hp : (pickT x y true false false) t = false := by simp [pickT, h1, h2]
        rw [hp, if_neg (by decide)] at hf
        refine V_seq ?_; refine V_seq ?_; refine V_region (id := 4) ?_; refine vo_step (ok_move rfl rfl rfl) rfl ?_; refine vo_step (ok_moves' rfl rfl rfl) rfl ?_; refine vo_step (ok_lenV L rfl rfl rfl rfl) rfl ?_; refine vo_step (ok_lss rfl rfl rfl rfl (decide_eq_true (by omega))) rfl ?_; refine vo_nil ?_; refine N_seq ?_; refine V_true rfl ?_; refine V_skip ?_; refine N_seq ?_; refine V_seq ?_; refine V_block ?_; refine V_seq ?_; refine V_regionD (id := 6) [] mixed (by kernel_rfl) ?_; refine par_step (ok_moves' rfl rfl rfl) rfl ?_; refine par_step (ok_moves' rfl rfl rfl) rfl ?_; refine par_step (ok_move rfl rfl rfl) rfl ?_; refine par_step (ok_indexV L _ rfl rfl rfl rfl rfl rfl rfl (by first | omega | decide) (by assumption)) rfl ?_; refine par_step (ok_loadPA L (vs := [_, _, _, _, _, _]) rfl rfl rfl rfl rfl ⟨_, rfl⟩) rfl ?_; refine par_step (ok_callx L rfl rfl (blt_lt rfl) rfl rfl rfl (fun u H hH _ _ v1 h3 => rin_ret (l := x) (by omega) e1 hH h3)) rfl ?_; refine par_step (ok_eql rfl rfl rfl rfl (decide_eq_false (by omega))) rfl ?_; refine par_step (ok_moves' rfl rfl rfl) rfl ?_; refine par_step (ok_moves' rfl rfl rfl) rfl ?_; refine par_step (ok_move rfl rfl rfl) rfl ?_; refine par_step (ok_indexV L _ rfl rfl rfl rfl rfl rfl rfl (by first | omega | decide) (by assumption)) rfl ?_; refine par_step (ok_loadPA L (vs := [_, _, _, _, _, _]) rfl rfl rfl rfl rfl ⟨_, rfl⟩) rfl ?_; refine par_step (ok_callx L rfl rfl (blt_lt rfl) rfl rfl rfl (fun u H hH _ _ v1 h3 => rin_ret (l := y) (by omega) e2 hH h3)) rfl ?_; refine par_step (ok_eql rfl rfl rfl rfl (decide_eq_false (by omega))) rfl ?_; refine par_step (ok_assign rfl rfl rfl) rfl ?_; refine par_step (ok_assign rfl rfl rfl) rfl ?_; refine par_nil ?_; refine N_seq ?_; refine V_seq ?_; refine V_region (id := 7) ?_; refine vo_step (ok_move rfl rfl rfl) rfl ?_; refine vo_step (ok_move rfl rfl rfl) rfl ?_; refine vo_step (ok_skip rfl (blt_lt rfl) rfl) rfl ?_; refine vo_step (ok_skip rfl (blt_lt rfl) rfl) rfl ?_; refine vo_step (ok_pick rfl rfl rfl rfl) rfl ?_; refine vo_step (ok_move rfl rfl rfl) rfl ?_; refine vo_step (ok_skip rfl (blt_lt rfl) rfl) rfl ?_; refine vo_step (ok_pick rfl rfl rfl rfl) rfl ?_; refine vo_step (ok_move rfl rfl rfl) rfl ?_; refine vo_step (ok_move rfl rfl rfl) rfl ?_; refine vo_step (ok_move rfl rfl rfl) rfl ?_; refine vo_step (ok_skip rfl (blt_lt rfl) rfl) rfl ?_; refine vo_step (ok_pick rfl rfl rfl rfl) rfl ?_; refine vo_step (ok_move rfl rfl rfl) rfl ?_; refine vo_step (ok_skip rfl (blt_lt rfl) rfl) rfl ?_; refine vo_step (ok_pick rfl rfl rfl rfl) rfl ?_; refine vo_step (ok_pick rfl rfl rfl rfl) rfl ?_; refine vo_step (ok_move rfl rfl rfl) rfl ?_; refine vo_step (ok_move rfl rfl rfl) rfl ?_; refine vo_step (ok_not rfl rfl rfl rfl) rfl ?_; refine vo_step (ok_move rfl rfl rfl) rfl ?_; refine vo_step (ok_move rfl rfl rfl) rfl ?_; refine vo_step (ok_pick rfl rfl rfl rfl) rfl ?_; refine vo_step (ok_move rfl rfl rfl) rfl ?_; refine vo_step (ok_skip rfl (blt_lt rfl) rfl) rfl ?_; refine vo_step (ok_pick rfl rfl rfl rfl) rfl ?_; refine vo_step (ok_pick rfl rfl rfl rfl) rfl ?_; refine vo_nil ?_; refine N_seq ?_; refine V_false rfl ?_; refine V_skip ?_; refine N_block ?_; refine N_seq ?_; refine V_region (id := 5) ?_; refine vo_step (ok_move rfl rfl rfl) rfl ?_; refine vo_step (ok_add rfl rfl rfl rfl (wrap_i64 (by omega) (by omega))) rfl ?_; refine vo_step (ok_assign rfl rfl rfl) rfl ?_; refine vo_nil ?_
        exact N_round (x := (i, r)) (i + 1, r) ⟨hlt, by dsimp only; omega, hf.symm⟩ (by dsimp only; omega) ⟨rfl, rfl, rfl, rfl, rfl, rfl, rfl, rfl, trivial⟩
  · obtain rfl : i = l.length := by omega
    rw [List.take_length] at hr
    have hzr : ∀ t ∈ r, TZ t := fun t h => hza t (List.mem_filter.1 (by rw [← hr]; exact h)).1
    rw [← hr]
    refine V_pubR 11 rfl ?_
    refine V_seq ?_; refine V_seq ?_; refine V_region (id := 4) ?_; refine vo_step (ok_move rfl rfl rfl) rfl ?_; refine vo_step (ok_moves' rfl rfl rfl) rfl ?_; refine vo_step (ok_lenV L rfl rfl rfl rfl) rfl ?_; refine vo_step (ok_lss rfl rfl rfl rfl (decide_eq_false (by omega))) rfl ?_; refine vo_nil ?_; refine N_seq ?_; refine V_false rfl ?_; refine V_exit ?_; refine X_then ?_; refine X_then ?_; refine X_here ?_; refine N_seq ?_; refine V_seq ?_; refine V_region (id := 9) ?_; refine vo_step (ok_moves' rfl rfl rfl) rfl ?_; refine vo_step (ok_call L rfl rfl (blt_lt rfl) rfl rfl rfl SlV.mono (fun u H hH _ _ v1 h3 => rsorted_ret (by omega) hzr hH h3)) rfl ?_; refine vo_step (ok_assigns' rfl rfl rfl) rfl ?_; refine vo_nil ?_; refine N_seq ?_
    refine V_ret L (rs := [.tmp 10]) rfl (fun _ _ h => h) Since.refl fun u H hH hle => ?_
    exact fun v hv => hv
end Go.V.L2
/- The walks of sets (chapter 6): lists of tuples. -/
namespace Go.V.L6
open Go.Proofs Go.RowKit Go.V Go.V.L2 Go.V.L3
attribute [local irreducible] V N X VO Par StepOK Has Ret RetL RetO Src
end Go.V.L6
/- The walks of sets (chapter 6): what is asked of a set. -/
namespace Go.V.L6
open Go.Proofs Go.RowKit Go.V Go.V.L2 Go.V.L3
attribute [local irreducible] V N X VO Par StepOK Has Ret RetL RetO Src
end Go.V.L6
/- The kit: what is owned is clipped: no room is left behind it. -/
namespace Go.V
open Go.RowKit
/-- An owned slice without spare capacity; its block may be longer. -/
def SlC (e : TypeId) (s n : Nat) (xs : List Value) : Res where
  P x _ u C := xs.length = n * s ∧ ((n = 0 ∧ x = .slice none 0 0 ∧ ∀ k, ¬ C k) ∨ ∃ b rest, x = .slice (some ⟨b, 0, none⟩) n n ∧ u.heap[b]? = some (.cells (xs ++ rest).toArray e) ∧ n ≤ maxLen ∧ ∀ k, C k ↔ k = b)
  st := fun ⟨hl, h⟩ _ _ _ hk => ⟨hl, by
    rcases h with h | ⟨b, rest, h1, h2, h3, h4⟩
    · exact .inl h
    · exact .inr ⟨b, rest, h1, (hk b ((h4 b).2 rfl)).trans h2, h3, h4⟩⟩
section
variable {P : Program} {F : Fr} {B : Heap} {O : Boxes} {n : Nat} {ops : Array Oper} {κ : Kap} {d : Nat} {ty : TypeId} {pos : String} {aft : Array Edge} {g : Option (Nat × Bool)} {a : Act} {u : World} {Q : Exit → Act → World → Prop}
theorem SlC.shape {e : TypeId} {s m : Nat} {xs : List Value} : ∀ v H u C, (SlC e s m xs).P v H u C → ∃ p, v = .slice p m m := fun v _ _ _ ⟨_, h⟩ => by
  rcases h with ⟨h0, h, _⟩ | ⟨b, rest, h, _⟩
  · subst h0; exact ⟨none, h⟩
  · exact ⟨_, h⟩
end
end Go.V
/- The walks of sets (chapter 6): what a filter takes of a set. -/
namespace Go.V.L6
open Go.Proofs Go.RowKit Go.V Go.V.L2 Go.V.L3
attribute [local irreducible] V N X VO Par StepOK Has Ret RetL RetO RetT Src
end Go.V.L6
/- slices.Compact at goals. -/
namespace Go.V.L6
open Go.Proofs Go.RowKit Go.V Go.V.L2
attribute [local irreducible] V N X VO Par StepOK Has Ret RetL RetO Src
end Go.V.L6
/- The walks of sets (chapter 6): goals, equality, sets of lists. -/
namespace Go.V.L6
open Go.Proofs Go.RowKit Go.V Go.V.L2 Go.V.L3
theorem LE2.out {φ : Value → Heap → Prop} {a v : Value} {H : Heap} (h : TupS [φ, fun v _ => v = a] v H) : ∃ tv, v = .tuple #[tv, a] ∧ φ tv H := by
  obtain ⟨vs, rfl, hl, h⟩ := h
  match vs, hl with
  | [x, y], _ =>
    have h1 := h 0 _ x rfl rfl
    have h2 := h 1 _ y rfl rfl
    subst h2
    exact ⟨x, rfl, h1⟩
def WithP (l : List U) (e : Int) (r : Value) (H : Heap) : Prop := ∃ tv, r = .tuple #[tv, .int .i64 e] ∧ SetV l tv H
theorem WithP.mono {l : List U} {e : Int} : Kn.mono (.sat (WithP l e)) := fun _ _ _ ⟨tv, h1, h2⟩ hle => ⟨tv, h1, h2.le hle⟩
theorem with_p {l m : List U} {x : U} {d : Bool} {e : Int} (hr : withU l x d = (m, e)) (hl : l.length ≤ 4096) (hz : TZ x) {v : Value} {w : World} {B : Heap} (hB : B.Le (hp w)) (hv : SetV l v B) :
    Ret Try.prog 63 [v, chv x d] w B (WithP m e) := (with_ret hr hl hz hB hv).mono fun _ _ _ h => LE2.out h
attribute [local irreducible] V N X VO Par StepOK Has Ret RetL RetO RetT Src
set_option maxHeartbeats 2000000 in
theorem sof_ret {l m : List U} {fu : Bool} {e : Int} (hr : ofU [] l = (m, e)) (hl : l.length ≤ 100000) (hz : ∀ t ∈ l, TZ t) {v : Value} {w : World} {B : Heap} (hB : B.Le (hp w)) (hv : US l fu v B) :
    Ret Try.prog 58 [v] w B (WithP m e) := by
  refine V_enter Try.func58 rfl Try.ntmps58 (Nat.le_of_ble_eq_true rfl) hB ?_
  refine V_seen 0 (US l fu) rfl SlV.mono hv ?_
  refine V_seq ?_; refine V_region (id := 0) ?_; refine vo_step (ok_alloc L rfl rfl rfl rfl) rfl ?_; refine vo_step (ok_assign rfl rfl rfl) rfl ?_; refine vo_nil ?_; refine N_seq ?_; refine V_seq ?_; refine V_region (id := 1) ?_; refine vo_step (ok_alloc L rfl rfl rfl rfl) rfl ?_; refine vo_nil ?_; refine N_seq ?_; refine V_seq ?_; refine V_seq ?_; refine V_region (id := 2) ?_; refine vo_step (ok_moves' rfl rfl rfl) rfl ?_; refine vo_step (ok_lenV L rfl rfl rfl rfl) rfl ?_; refine vo_step (ok_move rfl rfl rfl) rfl ?_; refine vo_nil ?_; refine N_seq ?_; refine V_block ?_
  refine V_clsX (X := SXp) 4 (r := fun x => Cell (scs x.1) tySet) (φ := sphi []) (sphi_mono []) ⟨(.nilFunc, none, .nilFunc, none), rfl⟩ SetV.nil rfl ?_
  refine V_loop (fun y : Nat × List U => [(2, .own (Cell [.nilFunc, .pointer none, .nilFunc, .pointer none] tySet)), (4, .own (ExR (fun x : SXp => Cell (scs x.1) tySet) (sphi y.2) (sphi_mono y.2))), (9, .sat (US l fu)), (10, .is (.int .i64 l.length)), (11, .is (.int .i64 y.1))])
    (fun y => y.1 ≤ l.length ∧ ofU y.2 (l.drop y.1) = (m, e) ∧ y.2.length ≤ 4096) (fun y => l.length - y.1) (0, []) ⟨Nat.zero_le _, hr, Nat.zero_le _⟩ ⟨rfl, rfl, rfl, rfl, rfl, trivial⟩ ?_
  rintro ⟨k, s⟩ ⟨hk, he, hsl⟩
  dsimp only at hk he hsl ⊢
  refine V_opnX 4 rfl fun ⟨⟨f1, p1, f2, q1⟩, hpl⟩ H3 hs3 hT => ?_
  have hT : SetV s (.agg #[f1, .pointer p1, f2, .pointer q1]) H3 := hT
  by_cases hlt : k < l.length
  · obtain ⟨t, ht⟩ := get_some hlt
    have hc := us_at ht
    have hzt := hz t (List.mem_of_getElem? ht)
    rw [drop_g ht, ofU] at he
    rcases hw : withU s t false with ⟨s', e'⟩
    rw [hw] at he
    dsimp only at he
    have hsl' := withU_len hsl t false
    rw [hw] at hsl'
    by_cases h0 : e' = 0
    · rw [if_pos h0] at he
      subst h0
      refine V_seq ?_; refine V_region (id := 3) ?_; refine vo_step (ok_lss rfl rfl rfl rfl (decide_eq_true (by omega))) rfl ?_; refine vo_nil ?_; refine N_seq ?_; refine V_seq ?_; refine V_true rfl ?_; refine V_skip ?_; refine N_seq ?_; refine V_seq ?_; refine V_block ?_; refine V_seq ?_; refine V_region (id := 4) ?_; refine vo_step (ok_indexV L _ rfl rfl rfl rfl rfl rfl rfl (by first | omega | decide) (by assumption)) rfl ?_; refine vo_step (ok_loadPA L (vs := [_, _, _, _, _, _]) rfl rfl rfl rfl rfl ⟨_, rfl⟩) rfl ?_; refine vo_step (ok_alloc L rfl rfl rfl rfl) rfl ?_; refine vo_step (ok_store L rfl rfl rfl rfl rfl rfl rfl rfl) rfl ?_; refine vo_nil ?_; refine N_seq ?_; refine V_seq ?_; refine V_region (id := 5) ?_; refine vo_step (ok_loadA L (vs := [_, _, _, _]) (src_own rfl) rfl rfl rfl rfl ⟨_, rfl⟩) rfl ?_; refine vo_step (ok_loadA L (vs := [_, _, _, _, _, _]) (src_own rfl) rfl rfl rfl rfl ⟨_, rfl⟩) rfl ?_; refine vo_step (ok_build (cs := [_, _, _, _, _, _, _]) rfl rfl pl67 rfl rfl) rfl ?_; refine vo_step (ok_call (φ := WithP s' 0) L rfl rfl (blt_lt rfl) rfl rfl rfl WithP.mono (fun u H hH hle _ => with_p hw hsl hzt hH (hT.le hle))) rfl ?_; refine vo_opn 19 rfl ?_; rintro _ H19 hs19 ⟨tv, rfl, hT19⟩; obtain ⟨g1, r1, g2, r2, rfl, hpl2⟩ := hT19.shape; refine vo_step (ok_move rfl rfl rfl) rfl ?_; refine vo_step (ok_extract rfl rfl rfl rfl) rfl ?_; refine vo_step (ok_extract rfl rfl rfl rfl) rfl ?_; refine vo_step (ok_alloc L rfl rfl rfl rfl) rfl ?_; refine vo_step (ok_store L rfl rfl rfl rfl rfl rfl (by assumption) rfl) rfl ?_; refine vo_step (ok_assign rfl rfl rfl) rfl ?_; refine vo_nil ?_; refine N_seq ?_; refine V_seq ?_; refine V_seq ?_; refine V_region (id := 6) ?_; refine vo_step (ok_move rfl rfl rfl) rfl ?_; refine vo_step (ok_neq rfl rfl rfl rfl (decide_eq_false (by omega))) rfl ?_; refine vo_nil ?_; refine N_seq ?_; refine V_false rfl ?_; refine V_skip ?_; refine N_seq ?_; refine V_region (id := 8) ?_; refine vo_step (ok_loadA L (vs := [_, _, _, _]) (src_own rfl) rfl rfl rfl rfl ⟨_, rfl⟩) rfl ?_; refine vo_step (ok_store L rfl rfl rfl rfl rfl rfl (by assumption) rfl) rfl ?_; refine vo_nil ?_; refine N_block ?_; refine N_seq ?_; refine V_region (id := 9) ?_; refine vo_step (ok_add rfl rfl rfl rfl (wrap_i64 (by omega) (by omega))) rfl ?_; refine vo_step (ok_move rfl rfl rfl) rfl ?_; refine vo_nil ?_
      refine N_clsX (X := SXp) 4 (r := fun x => Cell (scs x.1) tySet) (φ := sphi s') (sphi_mono _) ⟨(g1, r1, g2, r2), hpl2⟩ hT19 rfl ?_
      exact N_roundS (x := (k, s)) (k + 1, s') (hs3.trans hs19) ⟨hlt, he, hsl'⟩ (by dsimp only; omega) ⟨rfl, rfl, rfl, rfl, rfl, trivial⟩
    · rw [if_neg h0] at he
      cases he
      refine V_seq ?_; refine V_region (id := 3) ?_; refine vo_step (ok_lss rfl rfl rfl rfl (decide_eq_true (by omega))) rfl ?_; refine vo_nil ?_; refine N_seq ?_; refine V_seq ?_; refine V_true rfl ?_; refine V_skip ?_; refine N_seq ?_; refine V_seq ?_; refine V_block ?_; refine V_seq ?_; refine V_region (id := 4) ?_; refine vo_step (ok_indexV L _ rfl rfl rfl rfl rfl rfl rfl (by first | omega | decide) (by assumption)) rfl ?_; refine vo_step (ok_loadPA L (vs := [_, _, _, _, _, _]) rfl rfl rfl rfl rfl ⟨_, rfl⟩) rfl ?_; refine vo_step (ok_alloc L rfl rfl rfl rfl) rfl ?_; refine vo_step (ok_store L rfl rfl rfl rfl rfl rfl rfl rfl) rfl ?_; refine vo_nil ?_; refine N_seq ?_; refine V_seq ?_; refine V_region (id := 5) ?_; refine vo_step (ok_loadA L (vs := [_, _, _, _]) (src_own rfl) rfl rfl rfl rfl ⟨_, rfl⟩) rfl ?_; refine vo_step (ok_loadA L (vs := [_, _, _, _, _, _]) (src_own rfl) rfl rfl rfl rfl ⟨_, rfl⟩) rfl ?_; refine vo_step (ok_build (cs := [_, _, _, _, _, _, _]) rfl rfl pl67 rfl rfl) rfl ?_; refine vo_step (ok_call (φ := WithP s' e) L rfl rfl (blt_lt rfl) rfl rfl rfl WithP.mono (fun u H hH hle _ => with_p hw hsl hzt hH (hT.le hle))) rfl ?_; refine vo_opn 19 rfl ?_; rintro _ H19 hs19 ⟨tv, rfl, hT19⟩; obtain ⟨g1, r1, g2, r2, rfl, hpl2⟩ := hT19.shape; refine vo_step (ok_move rfl rfl rfl) rfl ?_; refine vo_step (ok_extract rfl rfl rfl rfl) rfl ?_; refine vo_step (ok_extract rfl rfl rfl rfl) rfl ?_; refine vo_step (ok_alloc L rfl rfl rfl rfl) rfl ?_; refine vo_step (ok_store L rfl rfl rfl rfl rfl rfl (by assumption) rfl) rfl ?_; refine vo_step (ok_assign rfl rfl rfl) rfl ?_; refine vo_nil ?_; refine N_seq ?_; refine V_seq ?_; refine V_seq ?_; refine V_region (id := 6) ?_; refine vo_step (ok_move rfl rfl rfl) rfl ?_; refine vo_step (ok_neq rfl rfl rfl rfl (decide_eq_true (by omega))) rfl ?_; refine vo_nil ?_; refine N_seq ?_; refine V_true rfl ?_; refine V_seq ?_; refine V_region (id := 7) ?_; refine vo_step (ok_build (cs := [_, _, _, _]) rfl rfl pl41 rfl rfl) rfl ?_; refine vo_step (ok_move rfl rfl rfl) rfl ?_; refine vo_step (ok_store L rfl rfl rfl rfl rfl rfl rfl rfl) rfl ?_; refine vo_step (ok_assign rfl rfl rfl) rfl ?_; refine vo_nil ?_; refine N_seq ?_
      refine V_ret L (rs := [.cell 2 41, .tmp 3]) rfl (fun _ _ h => h) (hs3.trans hs19) fun u H hH hle => ?_
      exact ⟨_, src_own rfl, rfl, _, rfl, SetV.nil⟩
  · obtain rfl : k = l.length := by omega
    rw [List.drop_length, ofU] at he
    cases he
    refine V_seq ?_; refine V_region (id := 3) ?_; refine vo_step (ok_lss rfl rfl rfl rfl (decide_eq_false (by omega))) rfl ?_; refine vo_nil ?_; refine N_seq ?_; refine V_seq ?_; refine V_false rfl ?_; refine V_exit ?_; refine X_then ?_; refine X_then ?_; refine X_here ?_; refine N_seq ?_; refine V_seq ?_; refine V_region (id := 10) ?_; refine vo_step (ok_loadA L (vs := [_, _, _, _]) (src_own rfl) rfl rfl rfl rfl ⟨_, rfl⟩) rfl ?_; refine vo_step (ok_store L rfl rfl rfl rfl rfl rfl (by assumption) rfl) rfl ?_; refine vo_step (ok_assign rfl rfl rfl) rfl ?_; refine vo_nil ?_; refine N_seq ?_
    refine V_ret L (rs := [.cell 2 41, .tmp 3]) rfl (fun _ _ h => h) hs3 fun u H hH hle => ?_
    exact ⟨_, src_own rfl, rfl, _, rfl, hT.le hle⟩
end Go.V.L6
/- The walks of the definition of filters (chapter 3): errors, what is taken, prefixes, spans. -/
namespace Go.V.L3
open Go.Proofs Go.RowKit Go.V Go.V.L2
attribute [local irreducible] V N X VO Par StepOK Has Ret RetL RetO RetT Src
end Go.V.L3
/- The walks of the definition of filters (chapter 3): first fields, spans, what is selected. -/
namespace Go.V.L3
open Go.Proofs Go.RowKit Go.V Go.V.L2
attribute [local irreducible] V N X VO Par StepOK Has Ret RetL RetO RetT Src
end Go.V.L3
/- The walk of the definition of sets (chapter 6). -/
namespace Go.V.L6
open Go.Proofs Go.RowKit Go.V Go.V.L2 Go.V.L3
/-- A slice of tuples, none being known to be behind it. -/
abbrev R6 (l : List U) (e : Int) : Value → Heap → Prop := TupS [US l false, fun v _ => v = .int .i64 e]
theorem R6.mono {l : List U} {e : Int} : Kn.mono (.sat (R6 l e)) := LE2.mono SlV.mono
theorem some_out {l : List U} (hs : Sst cmpT l) (x : U) : someT l [x] true false false = l.filter fun z => decide (z ≠ x) := by
  refine sst_ext cmpT_ord (sst_sortS cmpT_ord Sst.nil) (hs.sublist List.filter_sublist) fun z => ?_
  unfold someT sortT
  rw [mem_sortS, List.mem_filter, List.mem_filter]
  unfold pickT
  simp only [List.mem_append, List.mem_singleton, List.not_mem_nil, false_or, Bool.and_true, Bool.and_false, Bool.or_false, Bool.and_eq_true, decide_eq_true_eq, Bool.not_eq_true', decide_eq_false_iff_not, ne_eq]
  constructor
  · rintro ⟨_, h1, h2⟩; exact ⟨h1, h2⟩
  · rintro ⟨h1, h2⟩; exact ⟨.inl h1, h1, h2⟩
theorem some_in {l : List U} (hs : Sst cmpT l) {x : U} (hx : x ∉ l) : someT l [x] true true true = insS cmpT x l := by
  refine sst_ext cmpT_ord (sst_sortS cmpT_ord Sst.nil) (sst_insS cmpT_ord hs hx) fun z => ?_
  unfold someT sortT
  rw [mem_sortS, List.mem_filter, mem_insS]
  unfold pickT
  simp only [List.mem_append, List.mem_singleton, List.not_mem_nil, false_or, Bool.and_true, Bool.or_eq_true, Bool.and_eq_true, decide_eq_true_eq, Bool.not_eq_true', decide_eq_false_iff_not]
  constructor
  · rintro ⟨h, _⟩; exact h.symm
  · rintro (rfl | h)
    · exact ⟨.inr rfl, .inr ⟨hx, rfl⟩⟩
    · refine ⟨.inl h, .inl (.inl ⟨h, fun e => ?_⟩)⟩
      subst e; exact hx h
theorem tE_two (t : U) : tE t = 0 ∨ tE t = 6 := by
  unfold tE
  split
  · exact subjE_two _ _ _
  · rename_i h; exact .inr ((allE_two _).resolve_left h)
theorem withU_mem {l : List U} {x z : U} {d : Bool} (h : z ∈ (withU l x d).1) : z ∈ l ∨ z = x := by
  unfold withU at h
  split at h
  · split at h
    · exact .inl (List.mem_filter.1 h).1
    · split at h
      · exact .inl h
      · split at h
        · cases h
        · exact (mem_insS.1 h).symm
  · cases h
attribute [local irreducible] V N X VO Par StepOK Has Ret RetL RetO RetT Src
set_option maxHeartbeats 1000000 in
theorem rwith_ret {l m : List U} {x : U} {d fu : Bool} {e : Int} (hr : withU l x d = (m, e)) (hs : Sst cmpT l) (hl : l.length ≤ 90000) (hz : TZ x) (zl : ∀ t ∈ l, TZ t) {v : Value} {w : World} {B : Heap} (hB : B.Le (hp w)) (hv : US l fu v B) :
    Ret Try.prog 56 [v, chv x d] w B (R6 m e) := by
  have z1 : ∀ t ∈ [x], TZ t := fun t ht => by rw [List.mem_singleton] at ht; subst ht; exact hz
  have zx1 : ([x] : List U).length ≤ 100000 := show 1 ≤ 100000 by decide
  have key : ∀ {a b c : Bool} (u : World) (H : Heap) (v1 v2 : Value), H.Le (hp u) → US l fu v1 H → SlB (ucs x) tyU 1 v2 H → (a = true ∧ b = false ∧ c = false ∨ a = true ∧ b = true ∧ c = true) → Ret Try.prog 78 [v1, v2, .bool a, .bool b, .bool c] u H (US (someT l [x] a b c) false) := by
    rintro a b c u H v1 v2 hH h1 h2 (⟨rfl, rfl, rfl⟩ | ⟨rfl, rfl, rfl⟩)
    · exact rsome_tff (y := [x]) (by omega) zx1 zl z1 hH h1 (h2.toV rfl)
    · exact rsome_ttt (y := [x]) (by omega) zx1 zl z1 hH h1 (h2.toV rfl)
  refine V_enter Try.func56 rfl Try.ntmps56 (Nat.le_of_ble_eq_true rfl) hB ?_
  refine V_seen 0 (US l fu) rfl SlV.mono hv ?_
  unfold withU at hr
  by_cases he : tE x = 0
  · rw [if_pos he] at hr
    cases d
    · rw [if_neg (by decide)] at hr
      by_cases hx : x ∈ l
      · rw [if_pos hx] at hr
        cases hr
        have hin : (if x ∈ l then 1 else 0 : Int) = 1 := if_pos hx
        refine V_seq ?_; refine V_region (id := 0) ?_; refine vo_step (ok_box rfl rfl rfl rfl) rfl ?_; refine vo_step (ok_assign rfl rfl rfl) rfl ?_; refine vo_step (ok_assign rfl rfl rfl) rfl ?_; refine vo_nil ?_; refine N_seq ?_; refine V_seq ?_; refine V_seq ?_; refine V_region (id := 1) ?_; refine vo_step (ok_fieldAt L rfl rfl rfl rfl) rfl ?_; refine vo_step (ok_loadA L (vs := [_, _, _, _, _, _]) (src_at rfl) rfl rfl rfl rfl ⟨_, rfl⟩) rfl ?_; refine vo_step (ok_callx L rfl rfl (blt_lt rfl) rfl rfl rfl (fun u H hH _ _ => he ▸ rtcheck_ret hz hH)) rfl ?_; refine vo_step (ok_neq rfl rfl rfl rfl (decide_eq_false (by omega))) rfl ?_; refine vo_nil ?_; refine N_seq ?_; refine V_false rfl ?_; refine V_skip ?_; refine N_seq ?_; refine V_seq ?_; refine V_seq ?_; refine V_region (id := 3) ?_; refine vo_step (ok_fieldAt L rfl rfl rfl rfl) rfl ?_; refine vo_step (ok_load1 L (src_at rfl) rfl rfl rfl rfl) rfl ?_; refine vo_nil ?_; refine N_seq ?_; refine V_false rfl ?_; refine V_skip ?_; refine N_seq ?_; refine V_seq ?_; refine V_seq ?_; refine V_region (id := 5) ?_; refine vo_step (ok_moves' rfl rfl rfl) rfl ?_; refine vo_step (ok_fieldAt L rfl rfl rfl rfl) rfl ?_; refine vo_step (ok_loadA L (vs := [_, _, _, _, _, _]) (src_at rfl) rfl rfl rfl rfl ⟨_, rfl⟩) rfl ?_; refine vo_step (ok_callx L rfl rfl (blt_lt rfl) rfl rfl rfl (fun u H hH _ _ v1 h1 => rin_ret (by omega) hin hH h1)) rfl ?_; refine vo_step (ok_eql rfl rfl rfl rfl (decide_eq_true (by omega))) rfl ?_; refine vo_nil ?_; refine N_seq ?_; refine V_true rfl ?_; refine V_seq ?_; refine V_region (id := 6) ?_; refine vo_step (ok_moves' rfl rfl rfl) rfl ?_; refine vo_step (ok_assigns' rfl rfl rfl) rfl ?_; refine vo_step (ok_assign rfl rfl rfl) rfl ?_; refine vo_nil ?_; refine N_seq ?_
        refine V_ret L (rs := [.tmp 4, .tmp 5]) rfl (fun _ _ h => h) Since.refl fun u H hH hle => ?_
        exact fun v hv => LE2.mk hv.nofu
      · rw [if_neg hx] at hr
        have hin : (if x ∈ l then 1 else 0 : Int) = 0 := if_neg hx
        by_cases hf : l.length ≥ 4096
        · rw [if_pos hf] at hr
          cases hr
          refine V_seq ?_; refine V_region (id := 0) ?_; refine vo_step (ok_box rfl rfl rfl rfl) rfl ?_; refine vo_step (ok_assign rfl rfl rfl) rfl ?_; refine vo_step (ok_assign rfl rfl rfl) rfl ?_; refine vo_nil ?_; refine N_seq ?_; refine V_seq ?_; refine V_seq ?_; refine V_region (id := 1) ?_; refine vo_step (ok_fieldAt L rfl rfl rfl rfl) rfl ?_; refine vo_step (ok_loadA L (vs := [_, _, _, _, _, _]) (src_at rfl) rfl rfl rfl rfl ⟨_, rfl⟩) rfl ?_; refine vo_step (ok_callx L rfl rfl (blt_lt rfl) rfl rfl rfl (fun u H hH _ _ => he ▸ rtcheck_ret hz hH)) rfl ?_; refine vo_step (ok_neq rfl rfl rfl rfl (decide_eq_false (by omega))) rfl ?_; refine vo_nil ?_; refine N_seq ?_; refine V_false rfl ?_; refine V_skip ?_; refine N_seq ?_; refine V_seq ?_; refine V_seq ?_; refine V_region (id := 3) ?_; refine vo_step (ok_fieldAt L rfl rfl rfl rfl) rfl ?_; refine vo_step (ok_load1 L (src_at rfl) rfl rfl rfl rfl) rfl ?_; refine vo_nil ?_; refine N_seq ?_; refine V_false rfl ?_; refine V_skip ?_; refine N_seq ?_; refine V_seq ?_; refine V_seq ?_; refine V_region (id := 5) ?_; refine vo_step (ok_moves' rfl rfl rfl) rfl ?_; refine vo_step (ok_fieldAt L rfl rfl rfl rfl) rfl ?_; refine vo_step (ok_loadA L (vs := [_, _, _, _, _, _]) (src_at rfl) rfl rfl rfl rfl ⟨_, rfl⟩) rfl ?_; refine vo_step (ok_callx L rfl rfl (blt_lt rfl) rfl rfl rfl (fun u H hH _ _ v1 h1 => rin_ret (by omega) hin hH h1)) rfl ?_; refine vo_step (ok_eql rfl rfl rfl rfl (decide_eq_false (by omega))) rfl ?_; refine vo_nil ?_; refine N_seq ?_; refine V_false rfl ?_; refine V_skip ?_; refine N_seq ?_; refine V_seq ?_; refine V_seq ?_; refine V_region (id := 7) ?_; refine vo_step (ok_moves' rfl rfl rfl) rfl ?_; refine vo_step (ok_lenV L rfl rfl rfl rfl) rfl ?_; refine vo_step (ok_geq rfl rfl rfl rfl (decide_eq_true (by omega))) rfl ?_; refine vo_nil ?_; refine N_seq ?_; refine V_true rfl ?_; refine V_seq ?_; refine V_region (id := 8) ?_; refine vo_step (ok_assign rfl rfl rfl) rfl ?_; refine vo_step (ok_assign rfl rfl rfl) rfl ?_; refine vo_nil ?_; refine N_seq ?_
          refine V_ret L (rs := [.tmp 4, .tmp 5]) rfl (fun _ _ h => h) Since.refl fun u H hH hle => ?_
          exact LE2.mk SlV.nil
        · rw [if_neg hf] at hr
          cases hr
          rw [← some_in hs hx]
          refine V_seq ?_; refine V_region (id := 0) ?_; refine vo_step (ok_box rfl rfl rfl rfl) rfl ?_; refine vo_step (ok_assign rfl rfl rfl) rfl ?_; refine vo_step (ok_assign rfl rfl rfl) rfl ?_; refine vo_nil ?_; refine N_seq ?_; refine V_seq ?_; refine V_seq ?_; refine V_region (id := 1) ?_; refine vo_step (ok_fieldAt L rfl rfl rfl rfl) rfl ?_; refine vo_step (ok_loadA L (vs := [_, _, _, _, _, _]) (src_at rfl) rfl rfl rfl rfl ⟨_, rfl⟩) rfl ?_; refine vo_step (ok_callx L rfl rfl (blt_lt rfl) rfl rfl rfl (fun u H hH _ _ => he ▸ rtcheck_ret hz hH)) rfl ?_; refine vo_step (ok_neq rfl rfl rfl rfl (decide_eq_false (by omega))) rfl ?_; refine vo_nil ?_; refine N_seq ?_; refine V_false rfl ?_; refine V_skip ?_; refine N_seq ?_; refine V_seq ?_; refine V_seq ?_; refine V_region (id := 3) ?_; refine vo_step (ok_fieldAt L rfl rfl rfl rfl) rfl ?_; refine vo_step (ok_load1 L (src_at rfl) rfl rfl rfl rfl) rfl ?_; refine vo_nil ?_; refine N_seq ?_; refine V_false rfl ?_; refine V_skip ?_; refine N_seq ?_; refine V_seq ?_; refine V_seq ?_; refine V_region (id := 5) ?_; refine vo_step (ok_moves' rfl rfl rfl) rfl ?_; refine vo_step (ok_fieldAt L rfl rfl rfl rfl) rfl ?_; refine vo_step (ok_loadA L (vs := [_, _, _, _, _, _]) (src_at rfl) rfl rfl rfl rfl ⟨_, rfl⟩) rfl ?_; refine vo_step (ok_callx L rfl rfl (blt_lt rfl) rfl rfl rfl (fun u H hH _ _ v1 h1 => rin_ret (by omega) hin hH h1)) rfl ?_; refine vo_step (ok_eql rfl rfl rfl rfl (decide_eq_false (by omega))) rfl ?_; refine vo_nil ?_; refine N_seq ?_; refine V_false rfl ?_; refine V_skip ?_; refine N_seq ?_; refine V_seq ?_; refine V_seq ?_; refine V_region (id := 7) ?_; refine vo_step (ok_moves' rfl rfl rfl) rfl ?_; refine vo_step (ok_lenV L rfl rfl rfl rfl) rfl ?_; refine vo_step (ok_geq rfl rfl rfl rfl (decide_eq_false (by omega))) rfl ?_; refine vo_nil ?_; refine N_seq ?_; refine V_false rfl ?_; refine V_skip ?_; refine N_seq ?_; refine V_seq ?_; refine V_region (id := 9) ?_; refine vo_step (ok_moves' rfl rfl rfl) rfl ?_; refine vo_step (ok_fieldAt L rfl rfl rfl rfl) rfl ?_; refine vo_step (ok_loadA L (vs := [_, _, _, _, _, _]) (src_at rfl) rfl rfl rfl rfl ⟨_, rfl⟩) rfl ?_; refine vo_step (ok_buildSlice L rfl rfl rfl rfl rfl rfl rfl rfl rfl) rfl ?_; refine vo_step (ok_call (φ := US (someT l [x] true true true) false) L rfl rfl (blt_lt rfl) rfl rfl rfl SlV.mono (fun u H hH _ _ v1 h1 v2 h2 => key u H v1 v2 hH h1 h2 (.inr ⟨rfl, rfl, rfl⟩))) rfl ?_; refine vo_step (ok_assigns' rfl rfl rfl) rfl ?_; refine vo_step (ok_assign rfl rfl rfl) rfl ?_; refine vo_nil ?_; refine N_seq ?_
          refine V_ret L (rs := [.tmp 4, .tmp 5]) rfl (fun _ _ h => h) Since.refl fun u H hH hle => ?_
          exact fun v hv => LE2.mk hv
    · rw [if_pos rfl] at hr
      cases hr
      rw [← some_out hs x]
      refine V_seq ?_; refine V_region (id := 0) ?_; refine vo_step (ok_box rfl rfl rfl rfl) rfl ?_; refine vo_step (ok_assign rfl rfl rfl) rfl ?_; refine vo_step (ok_assign rfl rfl rfl) rfl ?_; refine vo_nil ?_; refine N_seq ?_; refine V_seq ?_; refine V_seq ?_; refine V_region (id := 1) ?_; refine vo_step (ok_fieldAt L rfl rfl rfl rfl) rfl ?_; refine vo_step (ok_loadA L (vs := [_, _, _, _, _, _]) (src_at rfl) rfl rfl rfl rfl ⟨_, rfl⟩) rfl ?_; refine vo_step (ok_callx L rfl rfl (blt_lt rfl) rfl rfl rfl (fun u H hH _ _ => he ▸ rtcheck_ret hz hH)) rfl ?_; refine vo_step (ok_neq rfl rfl rfl rfl (decide_eq_false (by omega))) rfl ?_; refine vo_nil ?_; refine N_seq ?_; refine V_false rfl ?_; refine V_skip ?_; refine N_seq ?_; refine V_seq ?_; refine V_seq ?_; refine V_region (id := 3) ?_; refine vo_step (ok_fieldAt L rfl rfl rfl rfl) rfl ?_; refine vo_step (ok_load1 L (src_at rfl) rfl rfl rfl rfl) rfl ?_; refine vo_nil ?_; refine N_seq ?_; refine V_true rfl ?_; refine V_seq ?_; refine V_region (id := 4) ?_; refine vo_step (ok_moves' rfl rfl rfl) rfl ?_; refine vo_step (ok_fieldAt L rfl rfl rfl rfl) rfl ?_; refine vo_step (ok_loadA L (vs := [_, _, _, _, _, _]) (src_at rfl) rfl rfl rfl rfl ⟨_, rfl⟩) rfl ?_; refine vo_step (ok_buildSlice L rfl rfl rfl rfl rfl rfl rfl rfl rfl) rfl ?_; refine vo_step (ok_call (φ := US (someT l [x] true false false) false) L rfl rfl (blt_lt rfl) rfl rfl rfl SlV.mono (fun u H hH _ _ v1 h1 v2 h2 => key u H v1 v2 hH h1 h2 (.inl ⟨rfl, rfl, rfl⟩))) rfl ?_; refine vo_step (ok_assigns' rfl rfl rfl) rfl ?_; refine vo_step (ok_assign rfl rfl rfl) rfl ?_; refine vo_nil ?_; refine N_seq ?_
      refine V_ret L (rs := [.tmp 4, .tmp 5]) rfl (fun _ _ h => h) Since.refl fun u H hH hle => ?_
      exact fun v hv => LE2.mk hv
  · have h6 := (tE_two x).resolve_left he
    rw [if_neg he, h6] at hr
    cases hr
    refine V_seq ?_; refine V_region (id := 0) ?_; refine vo_step (ok_box rfl rfl rfl rfl) rfl ?_; refine vo_step (ok_assign rfl rfl rfl) rfl ?_; refine vo_step (ok_assign rfl rfl rfl) rfl ?_; refine vo_nil ?_; refine N_seq ?_; refine V_seq ?_; refine V_seq ?_; refine V_region (id := 1) ?_; refine vo_step (ok_fieldAt L rfl rfl rfl rfl) rfl ?_; refine vo_step (ok_loadA L (vs := [_, _, _, _, _, _]) (src_at rfl) rfl rfl rfl rfl ⟨_, rfl⟩) rfl ?_; refine vo_step (ok_callx L rfl rfl (blt_lt rfl) rfl rfl rfl (fun u H hH _ _ => h6 ▸ rtcheck_ret hz hH)) rfl ?_; refine vo_step (ok_neq rfl rfl rfl rfl (decide_eq_true (by omega))) rfl ?_; refine vo_nil ?_; refine N_seq ?_; refine V_true rfl ?_; refine V_seq ?_; refine V_region (id := 2) ?_; refine vo_step (ok_assign rfl rfl rfl) rfl ?_; refine vo_step (ok_assign rfl rfl rfl) rfl ?_; refine vo_nil ?_; refine N_seq ?_
    refine V_ret L (rs := [.tmp 4, .tmp 5]) rfl (fun _ _ h => h) Since.refl fun u H hH hle => ?_
    exact LE2.mk SlV.nil
end Go.V.L6
/- The walks of the definition of tuples (chapter 2) at strings however long: compared, sorted or not. -/
namespace Go.V.L2
open Go.Proofs Go.RowKit Go.V
/-- Strings of a tuple, as long as strings can be. -/
def TM (t : U) : Prop := (t.1.1.1.size ≤ 9223372036854775807 ∧ t.1.1.2.size ≤ 9223372036854775807 ∧ t.1.2.size ≤ 9223372036854775807) ∧ t.2.1.1.size ≤ 9223372036854775807 ∧ t.2.1.2.size ≤ 9223372036854775807 ∧ t.2.2.size ≤ 9223372036854775807
attribute [local irreducible] V N X VO Par StepOK Has Ret RetL Src
end Go.V.L2
/- The kit: ranges over strings. -/
namespace Go.V
open Go.RowKit
section
variable {P : Program} {F : Fr} {B : Heap} {O : Boxes} {n : Nat} {ops : Array Oper} {κ : Kap} {d : Nat} {ty : TypeId} {pos : String} {aft : Array Edge} {g : Option (Nat × Bool)}
theorem grow_putObj {u : World} {H : Heap} {b : Nat} {L : Nat → Prop} {o : Obj} (hs : H.Le (hp u)) (hL : L b) (hH : H b = none) : Grow L u H (u.putObj b o) H :=
  ⟨⟨rfl, rfl, rfl, Nat.le_of_eq World.putObj_size.symm, fun k _ hk => World.putObj_heap_other (fun e => hk (e ▸ hL)), Nat.le_refl _⟩, fun k x hx => by
    have : k ≠ b := fun e => by subst e; rw [hH] at hx; cases hx
    show (u.putObj b o).heap[k]? = some x
    rw [World.putObj_heap_other this]; exact hs k x hx, Heap.Le.refl _, fun _ _ _ => rfl⟩
end
/-! ### a scope without jumps -/
section
variable {P : Program} {b : Frame} {a : Act} {k : List Item} {cs : List Frame} {w : World}
end
section
variable {P : Program} {F : Fr} {B : Heap} {O : Boxes} {n : Nat} {κ : Kap} {Q : Exit → Act → World → Prop}
end
end Go.V
