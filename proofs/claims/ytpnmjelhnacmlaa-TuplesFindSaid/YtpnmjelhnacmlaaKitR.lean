/- The kit's eighteenth floor: ways that meet again behind several statements. -/
import Derived.Test.YtpnmjelhnacmlaaKitQ
namespace Go.V
open Go.RowKit
variable {P : Program} {F : Fr} {B : Heap} {n : Nat} {O : Boxes} {κ : Kap} {Q R : Exit → Act → World → Prop}
/-- What holds behind some statements serves the rest of the code. -/
def MidOK (P : Program) (F : Fr) (_ : Heap) (_ : Nat) (R : Exit → Act → World → Prop) (y : Code) (Q : Exit → Act → World → Prop) : Prop :=
  (∀ a u, R .normal a u → y.wpIn (FW F.r) 0 P Q a u) ∧ ∀ e a u, e ≠ .normal → R e a u → Q e a u
theorem mid_last {T : Type} (Fk : T → List (Nat × Kn)) (I : T → Prop) (Ob : T → Boxes) {y : Code} (hy : ∀ t, I t → V P F B n (Ob t) (ofL (Fk t)) y Q) :
    MidOK P F B n (Exit.then (fun a u => ∃ t, I t ∧ Has F B (Ob t) n (ofL (Fk t)) a u) Q) y Q :=
  ⟨fun a u ⟨t, hI, hh⟩ => hy t hI a u hh, fun e a u he h => by cases e <;> first | exact absurd rfl he | exact h⟩
theorem mid_step {x y : Code} (h : MidOK P F B n R y Q) : MidOK P F B n (Exit.then (fun a u => x.wpIn (FW F.r) 0 P R a u) R) (.seq x y) Q :=
  ⟨fun a u hx => wpIn_seq (Go.wpIn_mono hx fun e a u he => by
    cases e <;> first | exact h.1 a u he | exact h.2 _ a u (by intro h; cases h) he),
   fun e a u he hr => by cases e <;> first | exact absurd rfl he | exact h.2 _ a u (by intro h; cases h) hr⟩
theorem V_mids {x y : Code} (hm : MidOK P F B n R y Q) (h : V P F B n O κ x R) : V P F B n O κ (.seq x y) Q := fun a u hh =>
  wpIn_seq (Go.wpIn_mono (h a u hh) fun e a u he => by
    cases e <;> first | exact hm.1 a u he | exact hm.2 _ a u (by intro h; cases h) he)
theorem N_mids {T : Type} {B0 : Heap} {Fk : T → List (Nat × Kn)} {I : T → Prop} {Ob : T → Boxes} (t : T) (hs : Since F B0 B) (hI : I t) (hO : O = Ob t) (hl : LiveOK (Fk t) κ) :
    N F B n O κ (Exit.then (fun a u => ∃ t, I t ∧ Has F B0 (Ob t) n (ofL (Fk t)) a u) Q) := fun _ _ hh => ⟨t, hI, hO ▸ (hh.live hl).since hs⟩
section
variable {ops : Array Oper} {ty : TypeId} {pos : String} {aft : Array Edge} {g : Option (Nat × Bool)}
/-- What is known only by what it satisfies is stored into a variable that a slot alone knows. -/
theorem ok_storeX (L : Tabs P) {t t' : TypeId} {s q : Nat} {ag : Bool} {z : Nat} {cs : List Value} {φ : Value → Heap → Prop} {X : Type} (f : X → List Value) (ψ : X → Heap → Prop) (hψ : MonoX ψ)
    (hφ : ∀ v H, φ v H → ∃ x, ψ x H ∧ cellsL v = f x) (hf : ∀ x, (f x).length = z ∧ (f x).all plainV = true)
    (hg : gK ops κ ⟨none, .store t (.tmp s) (.tmp q), ty, pos, aft, g⟩ = some true) (hk : κ s = some (.own (Cell cs t'))) (hx : κ q = some (.sat φ))
    (hl : L.ld t = some (ag, z)) (hcs : cs.length = z) :
    StepOK P F B n ops O κ ⟨none, .store t (.tmp s) (.tmp q), ty, pos, aft, g⟩ s (.own (ExR (fun x => Cell (f x) t') ψ hψ)) := by
  rintro κ' a u hlk ⟨H, fp, hh⟩
  unfold After
  rw [if_pos (wanted_gK hh hlk hg)]
  have e := hh.env hlk
  obtain ⟨x, hx1, hx2⟩ := hφ _ _ (e.sat_ q _ (by simp [Op.operands]) hx)
  have hks : κ' s = some (.own (Cell cs t')) := (hlk s (looks_of (by simp [Op.operands]))).trans hk
  obtain ⟨⟨b, hes, hb, hC⟩, hM⟩ := hh.slot s _ hks
  have hrun : (execOp a.eval ⟨none, .store t (.tmp s) (.tmp q), ty, pos, aft, g⟩).run P u = .ok .skip (u.setRow b (f x).toArray) := by
    simp only [execOp, hes, Instr.storeAt, Instr.sureAddr, Sem.run_bind, Sem.run_pure, Result.andThen_ok]
    have := run_storeVar_at (P := P) (off := 0) (v := a.eval (.tmp q)) (Tabs.ld_spec hl) hb (by rw [hx2]; exact (hf x).1) (by omega) (by rw [hx2]; exact (hf x).2)
    rw [this, hx2, List.drop_of_length_le (by omega)]
    simp
  rw [hrun]
  simp only [Upon, Act.put]
  have hset := setRow_heap u b cs.toArray (f x).toArray t' (0, 0) hb
  have hbm := hM b ((hC b).2 rfl)
  have := hh.usePut (d := s) (a' := a) (r' := ExR (fun x => Cell (f x) t') ψ hψ) (C := fun k => k = b) hks (grow_setRow hh.sub hb ((hC b).2 rfl) hbm.2.1 _) rfl rfl (fun _ _ => rfl) ⟨x, hx1, b, hes, hset, fun _ => Iff.rfl⟩ (fun k hk => by
    subst hk; exact ⟨.inl ((hC k).2 rfl), by rw [setRow_size]; exact hbm.1, hbm.2.1⟩)
  rw [upd_upd] at this
  exact ⟨H, _, this⟩
end
end Go.V
