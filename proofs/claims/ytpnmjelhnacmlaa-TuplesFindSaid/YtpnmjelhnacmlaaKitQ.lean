/- The kit's fifteenth floor: what is owned, not quite known. -/
import Derived.Test.YtpnmjelhnacmlaaKitO
namespace Go.V
open Go.RowKit
def MonoX {X : Type} (φ : X → Heap → Prop) : Prop := ∀ x H H', φ x H → Heap.Le H H' → φ x H'
/-- What is owned is one of some. -/
def ExR {X : Type} (r : X → Res) (φ : X → Heap → Prop) (hφ : MonoX φ) : Res where
  P v H u C := ∃ x, φ x H ∧ (r x).P v H u C
  st := fun ⟨x, h1, h2⟩ hle hs hon hk => ⟨x, hφ _ _ _ h1 hle, (r x).st h2 hle hs hon hk⟩
section
variable {P : Program} {F : Fr} {B : Heap} {O : Boxes} {n : Nat} {ops : Array Oper} {κ : Kap} {a : Act} {u : World} {H : Heap} {fp : Nat → Nat → Prop} {os : List Oper} {Q : Exit → Act → World → Prop}
theorem HasH.turnR {t : Nat} {r r' : Res} (h : HasH F B O n κ a u H fp) (hk : κ t = some (.own r)) (hr : r'.P (a.eval (.tmp t)) H u (fp t)) : HasH F B O n (upd κ t (.own r')) a u H fp := by
  refine ⟨h.size, h.defers, h.nodup, h.marks, h.lent, h.keep, h.sub, h.base, h.fresh, h.boxes, h.apart, fun s k hs => ?_, fun s q r1 r2 hsq h1 h2 => ?_, fun s k hs => ?_⟩
  · by_cases hst : s = t
    · subst hst; rw [upd_same] at hs; cases hs; exact ⟨hr, (h.slot s _ hk).2⟩
    · rw [upd_other _ _ hst] at hs; exact h.slot s k hs
  · have key : ∀ x r, upd κ t (.own r') x = some (.own r) → ∃ r2, κ x = some (.own r2) := fun x r hx => by
      by_cases hxd : x = t
      · subst hxd; exact ⟨_, hk⟩
      · rw [upd_other _ _ hxd] at hx; exact ⟨_, hx⟩
    obtain ⟨_, k1⟩ := key _ _ h1
    obtain ⟨_, k2⟩ := key _ _ h2
    exact h.owns s q _ _ hsq k1 k2
  · by_cases hst : s = t
    · subst hst; rw [upd_same] at hs; cases hs; trivial
    · rw [upd_other _ _ hst] at hs; exact h.mono s k hs
theorem Has.opnX {X : Type} {t : Nat} {r : X → Res} {φ : X → Heap → Prop} {hφ : MonoX φ} (hk : κ t = some (.own (ExR r φ hφ))) (h : Has F B O n κ a u) : ∃ x H, Since F B H ∧ φ x H ∧ Has F H O n (upd κ t (.own (r x))) a u := by
  obtain ⟨H, fp, h⟩ := h
  obtain ⟨⟨x, h1, h2⟩, _⟩ := h.slot t _ hk
  exact ⟨x, H, h.isSince, h1, H, fp, (h.turnR hk h2).rebase⟩
theorem Has.clsX {X : Type} {t : Nat} {r : X → Res} {φ : X → Heap → Prop} (hφ : MonoX φ) (x : X) (hx : φ x B) (hk : κ t = some (.own (r x))) (h : Has F B O n κ a u) : Has F B O n (upd κ t (.own (ExR r φ hφ))) a u := by
  obtain ⟨H, fp, h⟩ := h
  exact ⟨H, fp, h.turnR hk ⟨x, hφ _ _ _ hx h.base, (h.slot t _ hk).1⟩⟩
theorem V_opnX {X : Type} (t : Nat) {r : X → Res} {φ : X → Heap → Prop} {hφ : MonoX φ} {c : Code} (hk : κ t = some (.own (ExR r φ hφ))) (h : ∀ x H, Since F B H → φ x H → V P F H n O (upd κ t (.own (r x))) c Q) : V P F B n O κ c Q := fun a u hh => by
  obtain ⟨x, H, hs, hx, hh'⟩ := hh.opnX hk
  exact h x H hs hx a u hh'
theorem N_opnX {X : Type} (t : Nat) {r : X → Res} {φ : X → Heap → Prop} {hφ : MonoX φ} (hk : κ t = some (.own (ExR r φ hφ))) (h : ∀ x H, Since F B H → φ x H → N F H n O (upd κ t (.own (r x))) Q) : N F B n O κ Q := fun a u hh => by
  obtain ⟨x, H, hs, hx, hh'⟩ := hh.opnX hk
  exact h x H hs hx a u hh'
theorem vo_opnX {X : Type} (t : Nat) {r : X → Res} {φ : X → Heap → Prop} {hφ : MonoX φ} (hk : κ t = some (.own (ExR r φ hφ))) (h : ∀ x H, Since F B H → φ x H → VO P F H n O ops (upd κ t (.own (r x))) os Q) : VO P F B n O ops κ os Q := fun a u hh => by
  obtain ⟨x, H, hs, hx, hh'⟩ := hh.opnX hk
  exact h x H hs hx a u hh'
theorem V_clsX {X : Type} (t : Nat) {r : X → Res} {φ : X → Heap → Prop} (hφ : MonoX φ) (x : X) {c : Code} (hx : φ x B) (hk : κ t = some (.own (r x))) (h : V P F B n O (upd κ t (.own (ExR r φ hφ))) c Q) : V P F B n O κ c Q := fun a u hh => h a u (hh.clsX hφ x hx hk)
theorem N_clsX {X : Type} (t : Nat) {r : X → Res} {φ : X → Heap → Prop} (hφ : MonoX φ) (x : X) (hx : φ x B) (hk : κ t = some (.own (r x))) (h : N F B n O (upd κ t (.own (ExR r φ hφ))) Q) : N F B n O κ Q := fun a u hh => h a u (hh.clsX hφ x hx hk)
end
/-- What is found at a place of a list that is laid flat. -/
theorem flatMap_at {α : Type} {f : α → List Value} {s : Nat} (hf : ∀ a, (f a).length = s) : ∀ (l : List α) (i : Nat) (a : α), l[i]? = some a → ((l.flatMap f).drop (i * s)).take s = f a
  | [], _, _, h => by simp at h
  | z :: l, 0, a, h => by simp at h; subst h; rw [Nat.zero_mul, List.drop_zero, List.flatMap_cons, List.take_append_of_le_length (by rw [hf]; exact Nat.le_refl _), List.take_of_length_le (by rw [hf]; exact Nat.le_refl _)]
  | z :: l, i + 1, a, h => by
    simp only [List.getElem?_cons_succ] at h
    rw [← flatMap_at hf l i a h, List.flatMap_cons]
    congr 1
    have e : (i + 1) * s = (f z).length + i * s := by rw [hf, Nat.succ_mul]; omega
    rw [e, ← List.drop_drop, List.drop_left]
theorem flatMap_len {α : Type} {f : α → List Value} {s : Nat} (hf : ∀ a, (f a).length = s) (l : List α) : (l.flatMap f).length = l.length * s := by
  induction l with
  | nil => simp
  | cons a l ih => rw [List.flatMap_cons, List.length_append, ih, hf, List.length_cons, Nat.succ_mul, Nat.add_comm]
theorem get_some {α : Type} {l : List α} {i : Nat} (h : i < l.length) : ∃ a, l[i]? = some a := ⟨l[i], List.getElem?_eq_getElem h⟩
theorem get_lt {α : Type} {l : List α} {i : Nat} {a : α} (h : l[i]? = some a) : i < l.length := by
  rcases Nat.lt_or_ge i l.length with h' | h'
  · exact h'
  · rw [List.getElem?_eq_none h'] at h; cases h
/-- Two lists, element by element. -/
def All2 {α β : Type} (R : α → β → Prop) (l : List α) (m : List β) : Prop := l.length = m.length ∧ ∀ (i : Nat) (a : α) (b : β), l[i]? = some a → m[i]? = some b → R a b
theorem All2.nil {α β : Type} {R : α → β → Prop} : All2 R ([] : List α) ([] : List β) := ⟨rfl, fun i a b h => by simp at h⟩
theorem All2.snoc {α β : Type} {R : α → β → Prop} {l : List α} {m : List β} {a : α} {b : β} (h : All2 R l m) (hr : R a b) : All2 R (l ++ [a]) (m ++ [b]) := by
  refine ⟨by simp [h.1], fun i x y hx hy => ?_⟩
  rcases Nat.lt_or_ge i l.length with hi | hi
  · rw [List.getElem?_append_left hi] at hx
    rw [List.getElem?_append_left (by rw [← h.1]; exact hi)] at hy
    exact h.2 i x y hx hy
  · rw [List.getElem?_append_right hi] at hx
    rw [List.getElem?_append_right (by rw [← h.1]; exact hi)] at hy
    have h1 := get_lt hx
    simp only [List.length_singleton] at h1
    have h2 : i - l.length = 0 := by omega
    rw [h2] at hx
    rw [← h.1, h2] at hy
    simp at hx hy
    subst hx; subst hy; exact hr
theorem All2.imp {α β : Type} {R S : α → β → Prop} {l : List α} {m : List β} (h : All2 R l m) (hi : ∀ a b, R a b → S a b) : All2 S l m := ⟨h.1, fun i a b ha hb => hi _ _ (h.2 i a b ha hb)⟩
end Go.V
