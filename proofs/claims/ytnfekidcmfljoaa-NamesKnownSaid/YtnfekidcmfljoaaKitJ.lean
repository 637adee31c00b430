/- The kit's tenth floor: what will not change any more may be seen; numbers are forgotten. -/
import Derived.Test.YtnfekidcmfljoaaKitI
namespace Go.V
open Go.RowKit
theorem wrap_u8 {z : Int} (h1 : 0 ≤ z) (h2 : z ≤ 255) : IntKind.u8.wrap z = z := IntWalk.u8_in z ⟨h1, h2⟩
theorem wrap_u16 {z : Int} (h1 : 0 ≤ z) (h2 : z ≤ 65535) : IntKind.u16.wrap z = z := IntWalk.u16_in z ⟨h1, h2⟩
theorem wrap_u32 {z : Int} (h1 : 0 ≤ z) (h2 : z ≤ 4294967295) : IntKind.u32.wrap z = z := IntWalk.u32_in z ⟨h1, h2⟩
theorem wrap_u64 {z : Int} (h1 : 0 ≤ z) (h2 : z ≤ 18446744073709551615) : IntKind.u64.wrap z = z := IntWalk.u64_in z ⟨h1, h2⟩
theorem wrap_i8 {z : Int} (h1 : -128 ≤ z) (h2 : z ≤ 127) : IntKind.i8.wrap z = z := IntWalk.i8_in z ⟨h1, h2⟩
theorem wrap_i16 {z : Int} (h1 : -32768 ≤ z) (h2 : z ≤ 32767) : IntKind.i16.wrap z = z := IntWalk.i16_in z ⟨h1, h2⟩
theorem wrap_i32 {z : Int} (h1 : -2147483648 ≤ z) (h2 : z ≤ 2147483647) : IntKind.i32.wrap z = z := IntWalk.i32_in z ⟨h1, h2⟩
section
variable {P : Program} {w0 : World} {B : Heap} {O : Boxes} {n : Nat} {κ : Kap} {Q : Exit → Act → World → Prop}
/-- A variable of the call's own that nothing will write any more may be seen. -/
theorem Has.pub {t : Nat} {cs : List Value} {ty : TypeId} {a : Act} {u : World} (hk : κ t = some (.own cs ty)) (h : Has w0 B O n κ a u) : Has w0 B O n (upd κ t (.sat (At cs ty 0))) a u := by
  obtain ⟨H, h⟩ := h
  obtain ⟨v, hv, b, rfl, h1, h2, h3, h4⟩ := h.slot t _ hk
  have hle : H.Le (fun k => if k = b then some (.cells cs.toArray ty) else H k) := fun k o ho => by
    dsimp only
    rw [if_neg fun e => by subst e; rw [h2] at ho; cases ho]; exact ho
  have hne : ∀ k, k ≠ b → (fun k => if k = b then some (Obj.cells cs.toArray ty) else H k) k = H k := fun k hk => if_neg hk
  refine ⟨fun k => if k = b then some (.cells cs.toArray ty) else H k, h.size, h.defers, h.below, fun k o ho => ?_, h.base.trans hle, fun k hk => ?_, fun y hy => ?_, h.apart, fun s k hs => ?_, fun s r cs' ty' cs'' ty'' hst hs hr => ?_, fun s ψ hs => ?_⟩
  · split at ho
    · rename_i e; subst e; cases ho; exact h1
    · exact h.sub k o ho
  · exact (hne k (by omega)).trans (h.fresh k hk)
  · obtain ⟨g1, g2, g3⟩ := h.boxes y hy
    exact ⟨g1, (hne _ (h4 y hy)).trans g2, g3⟩
  · by_cases hst : s = t
    · subst hst; rw [upd_same] at hs; cases hs
      exact ⟨_, hv, b, rfl, if_pos rfl⟩
    · rw [upd_other _ _ hst] at hs
      obtain ⟨x, hx, hh⟩ := h.slot s k hs
      refine ⟨x, hx, ?_⟩
      cases k with
      | is _ => exact hh
      | sat φ => exact h.mono s φ hs x H _ hh hle
      | own cs' ty' =>
        obtain ⟨b', rfl, g1, g2, g3, g4⟩ := hh
        have : b' ≠ b := fun e => by subst e; exact h.owns s t _ _ _ _ hst hs hk (by rw [hx, hv])
        exact ⟨b', rfl, g1, (hne _ this).trans g2, g3, g4⟩
  · have key : ∀ x cs1 ty1, upd κ t (.sat (At cs ty 0)) x = some (.own cs1 ty1) → κ x = some (.own cs1 ty1) := fun x cs1 ty1 hx => by
      by_cases hxd : x = t
      · subst hxd; rw [upd_same] at hx; cases hx
      · rw [upd_other _ _ hxd] at hx; exact hx
    exact h.owns s r cs' ty' cs'' ty'' hst (key _ _ _ hs) (key _ _ _ hr)
  · by_cases hst : s = t
    · subst hst; rw [upd_same] at hs; cases hs; exact At.mono
    · rw [upd_other _ _ hst] at hs; exact h.mono s ψ hs
theorem V_pub (t : Nat) {cs : List Value} {ty : TypeId} {c : Code} (hk : κ t = some (.own cs ty)) (h : V P w0 B n O (upd κ t (.sat (At cs ty 0))) c Q) : V P w0 B n O κ c Q := fun a u hh => h a u (hh.pub hk)
theorem N_pub (t : Nat) {cs : List Value} {ty : TypeId} (hk : κ t = some (.own cs ty)) (h : N w0 B n O (upd κ t (.sat (At cs ty 0))) Q) : N w0 B n O κ Q := fun a u hh => h a u (hh.pub hk)
/-- Numbered blocks are forgotten. -/
theorem Has.drop {O' : Boxes} (hO : O'.Sublist O) {a : Act} {u : World} (h : Has w0 B O n κ a u) : Has w0 B O' n κ a u := by
  obtain ⟨H, h⟩ := h
  refine ⟨H, h.size, h.defers, h.below, h.sub, h.base, h.fresh, fun y hy => h.boxes y (hO.subset hy), h.apart.sublist hO, fun s k hs => ?_, h.owns, h.mono⟩
  obtain ⟨x, hx, hh⟩ := h.slot s k hs
  refine ⟨x, hx, ?_⟩
  cases k with
  | is _ => exact hh
  | sat φ => exact hh
  | own cs' ty' =>
    obtain ⟨b', rfl, g1, g2, g3, g4⟩ := hh
    exact ⟨b', rfl, g1, g2, g3, fun y hy => g4 y (hO.subset hy)⟩
theorem V_drop {O' : Boxes} {c : Code} (hO : O'.Sublist O) (h : V P w0 B n O' κ c Q) : V P w0 B n O κ c Q := fun a u hh => h a u (hh.drop hO)
theorem N_drop {O' : Boxes} (hO : O'.Sublist O) (h : N w0 B n O' κ Q) : N w0 B n O κ Q := fun a u hh => h a u (hh.drop hO)
end
end Go.V
