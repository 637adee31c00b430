/- The kit's eighteenth floor: ways that meet again behind several statements. -/
import Derived.Test.YtnfekidcmfljoaaKitQ
namespace Go.V
open Go.RowKit
variable {P : Program} {F : Fr} {B : Heap} {n : Nat} {O : Boxes} {κ : Kap} {Q R : Exit → Act → World → Prop}
/-- What holds behind some statements serves the rest of the code. -/
def MidOK (P : Program) (F : Fr) (R : Exit → Act → World → Prop) (y : Code) (Q : Exit → Act → World → Prop) : Prop :=
  (∀ a u, R .normal a u → y.wpIn (FW F.r) 0 P Q a u) ∧ ∀ e a u, e ≠ .normal → R e a u → Q e a u
theorem mid_last {T : Type} (Fk : T → List (Nat × Kn)) (I : T → Prop) (Ob : T → Boxes) {y : Code} (hy : ∀ t, I t → V P F B n (Ob t) (ofL (Fk t)) y Q) :
    MidOK P F (Exit.then (fun a u => ∃ t, I t ∧ Has F B (Ob t) n (ofL (Fk t)) a u) Q) y Q :=
  ⟨fun a u ⟨t, hI, hh⟩ => hy t hI a u hh, fun e a u he h => by cases e <;> first | exact absurd rfl he | exact h⟩
theorem mid_step {x y : Code} (h : MidOK P F R y Q) : MidOK P F (Exit.then (fun a u => x.wpIn (FW F.r) 0 P R a u) R) (.seq x y) Q :=
  ⟨fun a u hx => wpIn_seq (Go.wpIn_mono hx fun e a u he => by
    cases e <;> first | exact h.1 a u he | exact h.2 _ a u (by intro h; cases h) he),
   fun e a u he hr => by cases e <;> first | exact absurd rfl he | exact h.2 _ a u (by intro h; cases h) hr⟩
theorem V_mids {x y : Code} (hm : MidOK P F R y Q) (h : V P F B n O κ x R) : V P F B n O κ (.seq x y) Q := fun a u hh =>
  wpIn_seq (Go.wpIn_mono (h a u hh) fun e a u he => by
    cases e <;> first | exact hm.1 a u he | exact hm.2 _ a u (by intro h; cases h) he)
theorem N_mids {T : Type} {B0 : Heap} {Fk : T → List (Nat × Kn)} {I : T → Prop} {Ob : T → Boxes} (t : T) (hs : Since F B0 B) (hI : I t) (hO : O = Ob t) (hl : LiveOK (Fk t) κ) :
    N F B n O κ (Exit.then (fun a u => ∃ t, I t ∧ Has F B0 (Ob t) n (ofL (Fk t)) a u) Q) := fun _ _ hh => ⟨t, hI, hO ▸ (hh.live hl).since hs⟩
end Go.V
