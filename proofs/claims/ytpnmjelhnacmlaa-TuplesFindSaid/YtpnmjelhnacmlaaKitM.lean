/- The kit's thirteenth floor: what is compared with nil; function values. -/
import Derived.Test.YtpnmjelhnacmlaaKitL
namespace Go.V
open Go.RowKit
def nkI (P : Program) (t : TypeId) : Option Nat := match P.underlying t with
  | some (.pointer _) => some 0
  | some (.slice _) => some 1
  | some (.map _ _) => some 2
  | some (.func _ _ _) => some 3
  | _ => none
def nilEq : Nat → Value → Value → Option Bool
  | 0, .pointer a, .pointer none => some a.isNone
  | 1, .slice a _ _, .slice none _ _ => some a.isNone
  | 2, .map a, .map none => some a.isNone
  | 3, .nilFunc, .nilFunc => some true
  | 3, .func _ _ _, .nilFunc => some false
  | _, _, _ => none
section
variable {P : Program} {F : Fr} {B : Heap} {O : Boxes} {n : Nat} {ops : Array Oper} {κ : Kap} {d : Nat} {ty : TypeId} {pos : String} {aft : Array Edge} {g : Option (Nat × Bool)}
theorem run_equal_nil {t : TypeId} {k : Nat} {p q : Value} {b : Bool} (hk : nkI P t = some k) (h : nilEq k p q = some b) (u : World) (dd : Nat) : (Op.equalIn (dd + 1) t p q).run P u = .ok b u := by
  unfold nkI at hk
  split at hk <;> cases hk <;> rename_i hu
  · cases p <;> cases q <;> simp only [nilEq] at h <;> try cases h
    rename_i a c
    cases c <;> simp only [nilEq] at h <;> cases h
    cases a <;> (unfold Op.equalIn; rw [Sem.run_bind, run_underlying hu]; rfl)
  · cases p <;> cases q <;> simp only [nilEq] at h <;> try cases h
    rename_i a _ _ c _ _
    cases c <;> simp only [nilEq] at h <;> cases h
    cases a <;> (unfold Op.equalIn; rw [Sem.run_bind, run_underlying hu]; rfl)
  · cases p <;> cases q <;> simp only [nilEq] at h <;> try cases h
    rename_i a c
    cases c <;> simp only [nilEq] at h <;> cases h
    cases a <;> (unfold Op.equalIn; rw [Sem.run_bind, run_underlying hu]; rfl)
  · cases p <;> cases q <;> simp only [nilEq] at h <;> try cases h
    · unfold Op.equalIn; rw [Sem.run_bind, run_underlying hu]; rfl
    · unfold Op.equalIn; rw [Sem.run_bind, run_underlying hu]; rfl
theorem run_nilEq {t : TypeId} {k : Nat} {p q : Value} {b : Bool} (hk : nkI P t = some k) (h : nilEq k p q = some b) (op : BinOp) (x y : Operand) (u : World) :
    (do eqGuard op t x y p q; binOp .eql t p q : Sem Value).run P u = .ok (.bool b) u ∧ (do eqGuard op t x y p q; binOp .neq t p q : Sem Value).run P u = .ok (.bool (!b)) u := by
  have hr : (Op.equal t p q).run P u = .ok b u := run_equal_nil hk h u 9999
  have hg : eqGuard op t x y p q = pure () ∧ binOp .eql t p q = (do pure (Value.bool (← Op.equal t p q))) ∧ binOp .neq t p q = (do pure (Value.bool (!(← Op.equal t p q)))) := by
    unfold nilEq at h
    split at h <;> first | cases h; done | skip
    · exact ⟨eqGuard_at_pointer .., rfl, rfl⟩
    · exact ⟨eqGuard_at_slice .., rfl, rfl⟩
    · exact ⟨eqGuard_at_map .., rfl, rfl⟩
    · exact ⟨eqGuard_at_nilFunc .., rfl, rfl⟩
    · exact ⟨eqGuard_at_func .., rfl, rfl⟩
  constructor
  · rw [hg.1, hg.2.1, Sem.run_bind, Sem.run_pure, Result.andThen_ok, Sem.run_bind, hr]; rfl
  · rw [hg.1, hg.2.2, Sem.run_bind, Sem.run_pure, Result.andThen_ok, Sem.run_bind, hr]; rfl
theorem ok_neql {t t' : TypeId} {x y : Operand} {p q : Value} {k : Nat} {b : Bool} (hn : Nat.blt d n = true) (hg : gK ops κ ⟨some d, .binOp .eql t x y t', ty, pos, aft, g⟩ = some true) (hx : evK κ x = some p) (hy : evK κ y = some q) (hk : nkI P t = some k) (hb : nilEq k p q = some b) :
    StepOK P F B n ops O κ ⟨some d, .binOp .eql t x y t', ty, pos, aft, g⟩ d (.is (.bool b)) := ok_bin hn hg hx hy fun u => (run_nilEq hk hb .eql x y u).1
theorem ok_nneq {t t' : TypeId} {x y : Operand} {p q : Value} {k : Nat} {b c : Bool} (hn : Nat.blt d n = true) (hg : gK ops κ ⟨some d, .binOp .neq t x y t', ty, pos, aft, g⟩ = some true) (hx : evK κ x = some p) (hy : evK κ y = some q) (hk : nkI P t = some k) (hb : nilEq k p q = some b) (hc : (!b) = c) :
    StepOK P F B n ops O κ ⟨some d, .binOp .neq t x y t', ty, pos, aft, g⟩ d (.is (.bool c)) := ok_bin hn hg hx hy fun u => by subst hc; exact (run_nilEq hk hb .neq x y u).2
end
end Go.V
