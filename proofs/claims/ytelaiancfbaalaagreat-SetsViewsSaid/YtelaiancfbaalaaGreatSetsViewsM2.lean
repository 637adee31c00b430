/- Texts on the way to SetsViews, part 2: one behind another. -/
import Derived.Test.YtelaiancfbaalaaGreatSetsViewsM1
import Derived.Test.YtelaiancfbaalaaGreatProg
import Derived.Shelf.Small.Utf8
import Derived.Shelf.Small.Strs
import Derived.Shelf.Utf8.RuneCount
import Derived.Shelf.Strings.Search1
import Derived.Shelf.Strings.Search2
import Derived.Shelf.Strings.Search3
import Derived.Shelf.Strings.Cut
import Derived.Shelf.Strings.Count
import Derived.Shelf.LaysM
import Derived.Shelf.Strings.Shaped
import Derived.Shelf.Strings.Split
import Derived.Shelf.Strings.Runes
import Derived.Shelf.Strings.RuneCount
import Derived.Shelf.Strings.IndexAny
import Derived.Shelf.Strings.AsciiSet
import Derived.Shelf.Strings.IndexAnyAll
set_option linter.unusedVariables false
set_option linter.unusedSimpArgs false
namespace Go.V
open Go.RowKit
def nkI (P : Program) (t : TypeId) : Option Nat := match P.underlying t with
  | some (.pointer _) => some 0
  | some (.slice _) => some 1
  | some (.map _ _) => some 2
  | some (.func _ _ _) => some 3
  | _ => none
def nilEq : Nat → Value → Value → Option Bool
  | 0, .pointer a, .pointer none => some a.isNone
  | 1, .slice a _ _, .slice none _ _ => some a.isNone
  | 2, .map a, .map none => some a.isNone
  | 3, .nilFunc, .nilFunc => some true
  | 3, .func _ _ _, .nilFunc => some false
  | _, _, _ => none
section
variable {P : Program} {F : Fr} {B : Heap} {O : Boxes} {n : Nat} {ops : Array Oper} {κ : Kap} {d : Nat} {ty : TypeId} {pos : String} {aft : Array Edge} {g : Option (Nat × Bool)}
theorem run_equal_nil {t : TypeId} {k : Nat} {p q : Value} {b : Bool} (hk : nkI P t = some k) (h : nilEq k p q = some b) (u : World) (dd : Nat) : (Op.equalIn (dd + 1) t p q).run P u = .ok b u := by
  unfold nkI at hk
  split at hk <;> cases hk <;> rename_i hu
  · cases p <;> cases q <;> simp only [nilEq] at h <;> try cases h
    rename_i a c
    cases c <;> simp only [nilEq] at h <;> cases h
    cases a <;> (unfold Op.equalIn; rw [Sem.run_bind, run_underlying hu]; rfl)
  · cases p <;> cases q <;> simp only [nilEq] at h <;> try cases h
    rename_i a _ _ c _ _
    cases c <;> simp only [nilEq] at h <;> cases h
    cases a <;> (unfold Op.equalIn; rw [Sem.run_bind, run_underlying hu]; rfl)
  · cases p <;> cases q <;> simp only [nilEq] at h <;> try cases h
    rename_i a c
    cases c <;> simp only [nilEq] at h <;> cases h
    cases a <;> (unfold Op.equalIn; rw [Sem.run_bind, run_underlying hu]; rfl)
  · cases p <;> cases q <;> simp only [nilEq] at h <;> try cases h
    · unfold Op.equalIn; rw [Sem.run_bind, run_underlying hu]; rfl
    · unfold Op.equalIn; rw [Sem.run_bind, run_underlying hu]; rfl
theorem run_nilEq {t : TypeId} {k : Nat} {p q : Value} {b : Bool} (hk : nkI P t = some k) (h : nilEq k p q = some b) (op : BinOp) (x y : Operand) (u : World) :
    (do eqGuard op t x y p q; binOp .eql t p q : Sem Value).run P u = .ok (.bool b) u ∧ (do eqGuard op t x y p q; binOp .neq t p q : Sem Value).run P u = .ok (.bool (!b)) u := by
  have hr : (Op.equal t p q).run P u = .ok b u := run_equal_nil hk h u 9999
  have hg : eqGuard op t x y p q = pure () ∧ binOp .eql t p q = (do pure (Value.bool (← Op.equal t p q))) ∧ binOp .neq t p q = (do pure (Value.bool (!(← Op.equal t p q)))) := by
    unfold nilEq at h
    split at h <;> first | cases h; done | skip
    · exact ⟨eqGuard_at_pointer .., rfl, rfl⟩
    · exact ⟨eqGuard_at_slice .., rfl, rfl⟩
    · exact ⟨eqGuard_at_map .., rfl, rfl⟩
    · exact ⟨eqGuard_at_nilFunc .., rfl, rfl⟩
    · exact ⟨eqGuard_at_func .., rfl, rfl⟩
  constructor
  · rw [hg.1, hg.2.1, Sem.run_bind, Sem.run_pure, Result.andThen_ok, Sem.run_bind, hr]; rfl
  · rw [hg.1, hg.2.2, Sem.run_bind, Sem.run_pure, Result.andThen_ok, Sem.run_bind, hr]; rfl
theorem ok_neql {t t' : TypeId} {x y : Operand} {p q : Value} {k : Nat} {b : Bool} (hn : Nat.blt d n = true) (hg : gK ops κ ⟨some d, .binOp .eql t x y t', ty, pos, aft, g⟩ = some true) (hx : evK κ x = some p) (hy : evK κ y = some q) (hk : nkI P t = some k) (hb : nilEq k p q = some b) :
    StepOK P F B n ops O κ ⟨some d, .binOp .eql t x y t', ty, pos, aft, g⟩ d (.is (.bool b)) := ok_bin hn hg hx hy fun u => (run_nilEq hk hb .eql x y u).1
theorem ok_nneq {t t' : TypeId} {x y : Operand} {p q : Value} {k : Nat} {b c : Bool} (hn : Nat.blt d n = true) (hg : gK ops κ ⟨some d, .binOp .neq t x y t', ty, pos, aft, g⟩ = some true) (hx : evK κ x = some p) (hy : evK κ y = some q) (hk : nkI P t = some k) (hb : nilEq k p q = some b) (hc : (!b) = c) :
    StepOK P F B n ops O κ ⟨some d, .binOp .neq t x y t', ty, pos, aft, g⟩ d (.is (.bool c)) := ok_bin hn hg hx hy fun u => by subst hc; exact (run_nilEq hk hb .neq x y u).2
end
end Go.V
namespace Go.V
open Go.RowKit
def AtV (x : Value) (r : Res) : Res := ⟨fun _ H u C => r.P x H u C, r.st⟩
def BoxR (b : Nat) (ty : TypeId) (r : Res) : Res where
  P _ H u C := ∃ x C', u.heap[b]? = some (.cells #[x] ty) ∧ r.P x H u C' ∧ ¬ C' b ∧ ∀ k, C k ↔ k = b ∨ C' k
  st := fun ⟨x, C', h1, h2, h3, h4⟩ hle hs hon hk => ⟨x, C', (hk b ((h4 b).2 (.inl rfl))).trans h1, r.st h2 hle hs hon fun k hc => hk k ((h4 k).2 (.inr hc)), h3, h4⟩
section
variable {P : Program} {F : Fr} {B : Heap} {O : Boxes} {n : Nat} {ops : Array Oper} {κ : Kap} {a : Act} {u : World} {H : Heap} {fp : Nat → Nat → Prop} {os : List Oper} {Q : Exit → Act → World → Prop}
theorem Has.detach {t g : Nat} {r : Res} {S : Value → Prop} (hk : κ t = some (.own r)) (hS : ∀ v H u C, r.P v H u C → S v) (h : Has F B O n κ a u) : ∃ x, S x ∧ Has F B O n (upd (upd (upd κ t nilK) g (.own (AtV x r))) t (.is x)) a u := by
  obtain ⟨H, fp, h⟩ := h
  obtain ⟨h1, hM⟩ := h.slot t _ hk
  have h2 := h.usePut (d := g) (a' := a) (r' := AtV (a.eval (.tmp t)) r) (C := fp t) hk ⟨Keep.refl _ _, h.sub, Heap.Le.refl _, fun _ _ _ => rfl⟩ rfl rfl (fun _ _ => rfl) h1 fun k hk => ⟨.inl hk, (hM k hk).1, (hM k hk).2.1⟩
  exact ⟨_, hS _ _ _ _ h1, H, _, h2.name t⟩
theorem Has.attach {t g : Nat} {x : Value} {r : Res} (hk : κ g = some (.own (AtV x r))) (ht : κ t = some (.is x)) (h : Has F B O n κ a u) : Has F B O n (upd (upd κ g nilK) t (.own r)) a u := by
  obtain ⟨H, fp, h⟩ := h
  obtain ⟨h1, hM⟩ := h.slot g _ hk
  have h1' : r.P x H u (fp g) := h1
  have hx : a.eval (.tmp t) = x := h.slot t _ ht
  exact ⟨H, _, h.usePut (d := t) (a' := a) (r' := r) (C := fp g) hk ⟨Keep.refl _ _, h.sub, Heap.Le.refl _, fun _ _ _ => rfl⟩ rfl rfl (fun _ _ => rfl) (by rw [hx]; exact h1') fun k hk => ⟨.inl hk, (hM k hk).1, (hM k hk).2.1⟩⟩
theorem HasH.lessBox {b : Nat} {o : Obj} {O1 O2 : Boxes} (h : HasH F B (O1 ++ (b, o) :: O2) n κ a u H fp) (hd : b ∉ F.ds) : HasH F B (O1 ++ O2) n κ a u H fp ∧ u.heap[b]? = some o ∧ H b = none ∧ (F.w0.heap.size ≤ b ∨ F.L b) ∧ (∀ y ∈ O1 ++ O2, y.1 ≠ b) ∧ ∀ t r, κ t = some (.own r) → ¬ fp t b := by
  have hsl : (O1 ++ O2).Sublist (O1 ++ (b, o) :: O2) := List.Sublist.append (List.Sublist.refl _) (List.sublist_cons_self ..)
  have hmem : (b, o) ∈ O1 ++ (b, o) :: O2 := by simp
  obtain ⟨hb1, hb2, hb3⟩ := h.boxes _ hmem
  have hap := List.pairwise_append.1 h.apart
  have hne : ∀ y, y ∈ O1 ++ O2 → y.1 ≠ b := fun y hy => by
    rcases List.mem_append.1 hy with hy | hy
    · exact hap.2.2 y hy _ (List.mem_cons_self ..)
    · exact Ne.symm ((List.pairwise_cons.1 hap.2.1).1 y hy)
  refine ⟨⟨h.size, h.defers, h.nodup, fun D hD => ?_, h.lent, h.keep, h.sub, h.base, h.fresh, fun y hy => h.boxes y (hsl.subset hy), h.apart.sublist hsl, fun s k hs => ?_, h.owns, h.mono⟩, hb1, hb2, hb3, hne, fun t r ht hf => ((h.slot t _ ht).2 b hf).2.2.2 _ hmem rfl⟩
  · have hm := h.marks D hD
    rcases List.mem_append.1 hm with hm | hm
    · exact List.mem_append_left _ hm
    · rcases List.mem_cons.1 hm with e | hm
      · cases e; exact absurd hD hd
      · exact List.mem_append_right _ hm
  · have hh := h.slot s k hs
    cases k with
    | is _ => exact hh
    | sat _ => exact hh
    | own r' => exact ⟨hh.1, fun k hk' => by obtain ⟨g1, g2, g3, g4⟩ := hh.2 k hk'; exact ⟨g1, g2, g3, fun y hy => g4 y (hsl.subset hy)⟩⟩
theorem not_ds {b : Nat} {cs : Array Value} {ty : TypeId} {fr : Nat × Nat} (h : HasH F B O n κ a u H fp) (hb : u.heap[b]? = some (.cells cs ty fr)) : b ∉ F.ds := fun hd => by
  have := (h.boxes _ (h.marks b hd)).1
  rw [hb] at this
  cases this
theorem Has.closeBox {g b : Nat} {x : Value} {ty : TypeId} {r : Res} (O1 O2 : Boxes) (hO : O = O1 ++ bx b [x] ty :: O2) (hk : κ g = some (.own (AtV x r))) (h : Has F B O n κ a u) : Has F B (O1 ++ O2) n (upd κ g (.own (BoxR b ty r))) a u := by
  subst hO
  obtain ⟨H, fp, h⟩ := h
  obtain ⟨h0, hb1, hb2, hb3, hne, hfp⟩ := h.lessBox (not_ds h (h.boxes (bx b [x] ty) (by simp)).1)
  obtain ⟨h1, hM⟩ := h0.slot g _ hk
  refine ⟨H, _, h0.putR (d := g) (r := BoxR b ty r) (C := fun k => k = b ∨ fp g k) rfl rfl (fun _ _ => rfl) ⟨x, fp g, hb1, h1, hfp g _ hk, fun _ => Iff.rfl⟩ (fun k hk' => ?_) fun t r' htg ht k hf hc => ?_⟩
  · rcases hk' with rfl | hk'
    · exact ⟨size_of_heap hb1, hb2, hb3, fun y hy => hne y hy⟩
    · exact hM k hk'
  · rcases hc with rfl | hc
    · exact hfp t _ ht hf
    · exact h0.owns t g _ _ htg ht hk k hf hc
theorem Has.openBox {g b : Nat} {ty : TypeId} {r : Res} {S : Value → Prop} (hk : κ g = some (.own (BoxR b ty r))) (hS : ∀ v H u C, r.P v H u C → S v) (h : Has F B O n κ a u) : ∃ x, S x ∧ Has F B (bx b [x] ty :: O) n (upd κ g (.own (AtV x r))) a u := by
  obtain ⟨H, fp, h⟩ := h
  obtain ⟨⟨x, C', h1, h2, h3, h4⟩, hM⟩ := h.slot g _ hk
  have hMb := hM b ((h4 b).2 (.inl rfl))
  have h5 := h.putR (d := g) (a' := a) (r := AtV x r) (C := C') rfl rfl (fun _ _ => rfl) h2 (fun k hk' => hM k ((h4 k).2 (.inr hk'))) fun t r' htg ht k hf hc => h.owns t g _ _ htg ht hk k hf ((h4 k).2 (.inr hc))
  refine ⟨x, hS _ _ _ _ h2, H, _, h5.size, h5.defers, h5.nodup, fun D hD => List.mem_cons_of_mem _ (h5.marks D hD), h5.lent, h5.keep, h5.sub, h5.base, h5.fresh, fun y hy => ?_, List.pairwise_cons.2 ⟨fun y hy => Ne.symm (hMb.2.2.2 y hy), h5.apart⟩, fun s k hs => ?_, h5.owns, h5.mono⟩
  · rcases List.mem_cons.1 hy with rfl | hy
    · exact ⟨h1, hMb.2.1, hMb.2.2.1⟩
    · exact h5.boxes y hy
  · have hh := h5.slot s k hs
    cases k with
    | is _ => exact hh
    | sat _ => exact hh
    | own r' =>
      refine ⟨hh.1, fun k hk' => ?_⟩
      obtain ⟨g1, g2, g3, g4⟩ := hh.2 k hk'
      refine ⟨g1, g2, g3, fun y hy => ?_⟩
      rcases List.mem_cons.1 hy with rfl | hy
      · rintro rfl
        by_cases hsg : s = g
        · subst hsg; rw [fpu_same] at hk'; exact h3 hk'
        · rw [fpu_other _ _ hsg] at hk'
          rw [upd_other _ _ hsg] at hs
          exact h.owns s g _ _ hsg hs hk _ hk' ((h4 _).2 (.inl rfl))
      · exact g4 y hy
theorem V_detach (t g : Nat) {r : Res} {c : Code} (S : Value → Prop) (hk : κ t = some (.own r)) (hS : ∀ v H u C, r.P v H u C → S v) (h : ∀ x, S x → V P F B n O (upd (upd (upd κ t nilK) g (.own (AtV x r))) t (.is x)) c Q) : V P F B n O κ c Q := fun a u hh => let ⟨x, hx, h'⟩ := hh.detach (g := g) hk hS; h x hx a u h'
theorem vo_detach (t g : Nat) {r : Res} (S : Value → Prop) (hk : κ t = some (.own r)) (hS : ∀ v H u C, r.P v H u C → S v) (h : ∀ x, S x → VO P F B n O ops (upd (upd (upd κ t nilK) g (.own (AtV x r))) t (.is x)) os Q) : VO P F B n O ops κ os Q := fun a u hh => let ⟨x, hx, h'⟩ := hh.detach (g := g) hk hS; h x hx a u h'
theorem V_attach (t g : Nat) {x : Value} {r : Res} {c : Code} (hk : κ g = some (.own (AtV x r))) (ht : κ t = some (.is x)) (h : V P F B n O (upd (upd κ g nilK) t (.own r)) c Q) : V P F B n O κ c Q := fun a u hh => h a u (hh.attach hk ht)
theorem vo_attach (t g : Nat) {x : Value} {r : Res} (hk : κ g = some (.own (AtV x r))) (ht : κ t = some (.is x)) (h : VO P F B n O ops (upd (upd κ g nilK) t (.own r)) os Q) : VO P F B n O ops κ os Q := fun a u hh => h a u (hh.attach hk ht)
theorem V_closeBox (g : Nat) {b : Nat} {x : Value} {ty : TypeId} {r : Res} {c : Code} (O1 : Boxes) {O2 : Boxes} (hO : O = O1 ++ bx b [x] ty :: O2) (hk : κ g = some (.own (AtV x r))) (h : V P F B n (O1 ++ O2) (upd κ g (.own (BoxR b ty r))) c Q) : V P F B n O κ c Q := fun a u hh => h a u (hh.closeBox O1 O2 hO hk)
theorem N_closeBox (g : Nat) {b : Nat} {x : Value} {ty : TypeId} {r : Res} (O1 : Boxes) {O2 : Boxes} (hO : O = O1 ++ bx b [x] ty :: O2) (hk : κ g = some (.own (AtV x r))) (h : N F B n (O1 ++ O2) (upd κ g (.own (BoxR b ty r))) Q) : N F B n O κ Q := fun a u hh => h a u (hh.closeBox O1 O2 hO hk)
theorem V_openBox (g : Nat) {b : Nat} {ty : TypeId} {r : Res} {c : Code} (S : Value → Prop) (hk : κ g = some (.own (BoxR b ty r))) (hS : ∀ v H u C, r.P v H u C → S v) (h : ∀ x, S x → V P F B n (bx b [x] ty :: O) (upd κ g (.own (AtV x r))) c Q) : V P F B n O κ c Q := fun a u hh => let ⟨x, hx, h'⟩ := hh.openBox hk hS; h x hx a u h'
theorem Has.seen {t : Nat} {x : Value} (φ : Value → Heap → Prop) (hk : κ t = some (.is x)) (hm : Kn.mono (.sat φ)) (hx : φ x B) (h : Has F B O n κ a u) : Has F B O n (upd κ t (.sat φ)) a u := by
  obtain ⟨H, fp, h⟩ := h
  refine ⟨H, fp, h.size, h.defers, h.nodup, h.marks, h.lent, h.keep, h.sub, h.base, h.fresh, h.boxes, h.apart, fun s k hs => ?_, fun s q r1 r2 hsq h1 h2 => ?_, fun s k hs => ?_⟩
  · by_cases hst : s = t
    · subst hst; rw [upd_same] at hs; cases hs
      have : a.eval (.tmp s) = x := h.slot s _ hk
      rw [this]
      exact hm _ _ _ hx h.base
    · rw [upd_other _ _ hst] at hs; exact h.slot s k hs
  · have key : ∀ x r, upd κ t (.sat φ) x = some (.own r) → κ x = some (.own r) := fun x r hx => by
      by_cases hxd : x = t
      · subst hxd; rw [upd_same] at hx; cases hx
      · rw [upd_other _ _ hxd] at hx; exact hx
    exact h.owns s q r1 r2 hsq (key _ _ h1) (key _ _ h2)
  · by_cases hst : s = t
    · subst hst; rw [upd_same] at hs; cases hs; exact hm
    · rw [upd_other _ _ hst] at hs; exact h.mono s k hs
theorem V_seen (t : Nat) {x : Value} (φ : Value → Heap → Prop) {c : Code} (hk : κ t = some (.is x)) (hm : Kn.mono (.sat φ)) (hx : φ x B) (h : V P F B n O (upd κ t (.sat φ)) c Q) : V P F B n O κ c Q := fun a u hh => h a u (hh.seen φ hk hm hx)
theorem vo_seen (t : Nat) {x : Value} (φ : Value → Heap → Prop) (hk : κ t = some (.is x)) (hm : Kn.mono (.sat φ)) (hx : φ x B) (h : VO P F B n O ops (upd κ t (.sat φ)) os Q) : VO P F B n O ops κ os Q := fun a u hh => h a u (hh.seen φ hk hm hx)
theorem SlR.shape {e : TypeId} {s m : Nat} {xs : List Value} : ∀ v H u C, (SlR e s m xs).P v H u C → ∃ p c, v = .slice p m c := fun v _ _ _ ⟨_, h⟩ => by
  rcases h with ⟨rfl, rfl, _⟩ | ⟨b, cap, rest, rfl, _⟩
  · exact ⟨_, _, rfl⟩
  · exact ⟨_, _, rfl⟩
theorem V_enterA {f : FuncId} {fn : Func} {c : Code} {args : List Value} {w : World} {B : Heap} {φ : Value → Heap → World → Prop} {C : Nat → Prop} (i : Nat) {x : Value} (r : Res) (hi : args[i]? = some x) (hf : P.funcs[f]? = some fn) (hb : fn.body = some c) (hn : fn.ntmps = n)
    (hs : args.length ≤ n) (hB : B.Le (hp w)) (hr : r.P x B w C) (hC : ∀ k, C k → k < w.heap.size ∧ B k = none) (h : V P ⟨w, none, [], C⟩ B n [] (upd (argsK 0 args) i (.own r)) c (bodyPostM Fence.wide 0 P fn (PostL w B C φ))) : RetL P f args w B C φ := by
  refine calls_of_V hf hb (h _ w ?_)
  subst hn
  have h0 := has_enter (B := B) C (fun k hk => (hC k hk).1) hs hB (fun _ => noL)
  have hk : ∀ (vs : List Value) (j t : Nat) (v : Value), vs[t]? = some v → argsK j vs (j + t) = some (.is v) := by
    intro vs
    induction vs with
    | nil => intro j t v hv; cases hv
    | cons y vs ih =>
      intro j t v hv
      cases t with
      | zero => simp only [List.getElem?_cons_zero, Option.some.injEq] at hv; subst hv; exact upd_same _ _ _
      | succ t =>
        simp only [List.getElem?_cons_succ] at hv
        show upd (argsK (j + 1) vs) j (.is y) (j + (t + 1)) = _
        rw [upd_other _ _ (by omega), show j + (t + 1) = (j + 1) + t by omega]
        exact ih (j + 1) t v hv
  have hx := h0.slot i _ (by have := hk args 0 i x hi; rwa [Nat.zero_add] at this)
  exact ⟨B, _, h0.putR (d := i) (r := r) rfl rfl (fun _ _ => rfl) (by rw [show _ = x from hx]; exact hr) (fun k hk => ⟨(hC k hk).1, (hC k hk).2, .inr hk, fun y hy => by cases hy⟩) fun t r' _ ht => by
    obtain ⟨v, hv, _⟩ := argsK_spec _ _ _ _ ht
    cases hv⟩
theorem V_retM (L : Tabs P) {fn : Func} {B0 : Heap} {φ : Value → Heap → Prop} {rs : List ResultVar} (hrs : fn.results = rs.toArray) (hQ : ∀ a u, bodyPostM Fence.wide 0 P fn (PostL F.w0 B0 F.L fun v H _ => φ v H) .ret a u → Q .ret a u) (hs : Since F B0 B)
    (h : ∀ O' u H, H.Le (hp u) → B.Le H → ResK L { F with ds := [] } B O' κ H rs [] (fun vs => φ (tup vs) H)) : V P F B n O κ .ret Q :=
  V_retG hQ hs fun O' a u H fp _ hh => by
    obtain ⟨vs, h1, h2⟩ := results_run L hh hrs (h O' u H hh.sub hh.base)
    exact ⟨_, h1, h2⟩
end
end Go.V
namespace Go.V
open Go.RowKit
def MonoX {X : Type} (φ : X → Heap → Prop) : Prop := ∀ x H H', φ x H → Heap.Le H H' → φ x H'
def ExR {X : Type} (r : X → Res) (φ : X → Heap → Prop) (hφ : MonoX φ) : Res where
  P v H u C := ∃ x, φ x H ∧ (r x).P v H u C
  st := fun ⟨x, h1, h2⟩ hle hs hon hk => ⟨x, hφ _ _ _ h1 hle, (r x).st h2 hle hs hon hk⟩
section
variable {P : Program} {F : Fr} {B : Heap} {O : Boxes} {n : Nat} {ops : Array Oper} {κ : Kap} {a : Act} {u : World} {H : Heap} {fp : Nat → Nat → Prop} {os : List Oper} {Q : Exit → Act → World → Prop}
theorem HasH.turnR {t : Nat} {r r' : Res} (h : HasH F B O n κ a u H fp) (hk : κ t = some (.own r)) (hr : r'.P (a.eval (.tmp t)) H u (fp t)) : HasH F B O n (upd κ t (.own r')) a u H fp := by
  refine ⟨h.size, h.defers, h.nodup, h.marks, h.lent, h.keep, h.sub, h.base, h.fresh, h.boxes, h.apart, fun s k hs => ?_, fun s q r1 r2 hsq h1 h2 => ?_, fun s k hs => ?_⟩
  · by_cases hst : s = t
    · subst hst; rw [upd_same] at hs; cases hs; exact ⟨hr, (h.slot s _ hk).2⟩
    · rw [upd_other _ _ hst] at hs; exact h.slot s k hs
  · have key : ∀ x r, upd κ t (.own r') x = some (.own r) → ∃ r2, κ x = some (.own r2) := fun x r hx => by
      by_cases hxd : x = t
      · subst hxd; exact ⟨_, hk⟩
      · rw [upd_other _ _ hxd] at hx; exact ⟨_, hx⟩
    obtain ⟨_, k1⟩ := key _ _ h1
    obtain ⟨_, k2⟩ := key _ _ h2
    exact h.owns s q _ _ hsq k1 k2
  · by_cases hst : s = t
    · subst hst; rw [upd_same] at hs; cases hs; trivial
    · rw [upd_other _ _ hst] at hs; exact h.mono s k hs
theorem Has.opnX {X : Type} {t : Nat} {r : X → Res} {φ : X → Heap → Prop} {hφ : MonoX φ} (hk : κ t = some (.own (ExR r φ hφ))) (h : Has F B O n κ a u) : ∃ x H, Since F B H ∧ φ x H ∧ Has F H O n (upd κ t (.own (r x))) a u := by
  obtain ⟨H, fp, h⟩ := h
  obtain ⟨⟨x, h1, h2⟩, _⟩ := h.slot t _ hk
  exact ⟨x, H, h.isSince, h1, H, fp, (h.turnR hk h2).rebase⟩
theorem Has.clsX {X : Type} {t : Nat} {r : X → Res} {φ : X → Heap → Prop} (hφ : MonoX φ) (x : X) (hx : φ x B) (hk : κ t = some (.own (r x))) (h : Has F B O n κ a u) : Has F B O n (upd κ t (.own (ExR r φ hφ))) a u := by
  obtain ⟨H, fp, h⟩ := h
  exact ⟨H, fp, h.turnR hk ⟨x, hφ _ _ _ hx h.base, (h.slot t _ hk).1⟩⟩
theorem V_opnX {X : Type} (t : Nat) {r : X → Res} {φ : X → Heap → Prop} {hφ : MonoX φ} {c : Code} (hk : κ t = some (.own (ExR r φ hφ))) (h : ∀ x H, Since F B H → φ x H → V P F H n O (upd κ t (.own (r x))) c Q) : V P F B n O κ c Q := fun a u hh => by
  obtain ⟨x, H, hs, hx, hh'⟩ := hh.opnX hk
  exact h x H hs hx a u hh'
theorem V_clsX {X : Type} (t : Nat) {r : X → Res} {φ : X → Heap → Prop} (hφ : MonoX φ) (x : X) {c : Code} (hx : φ x B) (hk : κ t = some (.own (r x))) (h : V P F B n O (upd κ t (.own (ExR r φ hφ))) c Q) : V P F B n O κ c Q := fun a u hh => h a u (hh.clsX hφ x hx hk)
theorem N_clsX {X : Type} (t : Nat) {r : X → Res} {φ : X → Heap → Prop} (hφ : MonoX φ) (x : X) (hx : φ x B) (hk : κ t = some (.own (r x))) (h : N F B n O (upd κ t (.own (ExR r φ hφ))) Q) : N F B n O κ Q := fun a u hh => h a u (hh.clsX hφ x hx hk)
end
theorem flatMap_at {α : Type} {f : α → List Value} {s : Nat} (hf : ∀ a, (f a).length = s) : ∀ (l : List α) (i : Nat) (a : α), l[i]? = some a → ((l.flatMap f).drop (i * s)).take s = f a
  | [], _, _, h => by simp at h
  | z :: l, 0, a, h => by simp at h; subst h; rw [Nat.zero_mul, List.drop_zero, List.flatMap_cons, List.take_append_of_le_length (by rw [hf]; exact Nat.le_refl _), List.take_of_length_le (by rw [hf]; exact Nat.le_refl _)]
  | z :: l, i + 1, a, h => by
    simp only [List.getElem?_cons_succ] at h
    rw [← flatMap_at hf l i a h, List.flatMap_cons]
    congr 1
    have e : (i + 1) * s = (f z).length + i * s := by rw [hf, Nat.succ_mul]; omega
    rw [e, ← List.drop_drop, List.drop_left]
theorem flatMap_len {α : Type} {f : α → List Value} {s : Nat} (hf : ∀ a, (f a).length = s) (l : List α) : (l.flatMap f).length = l.length * s := by
  induction l with
  | nil => simp
  | cons a l ih => rw [List.flatMap_cons, List.length_append, ih, hf, List.length_cons, Nat.succ_mul, Nat.add_comm]
theorem get_some {α : Type} {l : List α} {i : Nat} (h : i < l.length) : ∃ a, l[i]? = some a := ⟨l[i], List.getElem?_eq_getElem h⟩
theorem get_lt {α : Type} {l : List α} {i : Nat} {a : α} (h : l[i]? = some a) : i < l.length := by
  rcases Nat.lt_or_ge i l.length with h' | h'
  · exact h'
  · rw [List.getElem?_eq_none h'] at h; cases h
def All2 {α β : Type} (R : α → β → Prop) (l : List α) (m : List β) : Prop := l.length = m.length ∧ ∀ (i : Nat) (a : α) (b : β), l[i]? = some a → m[i]? = some b → R a b
theorem All2.nil {α β : Type} {R : α → β → Prop} : All2 R ([] : List α) ([] : List β) := ⟨rfl, fun i a b h => by simp at h⟩
theorem All2.imp {α β : Type} {R S : α → β → Prop} {l : List α} {m : List β} (h : All2 R l m) (hi : ∀ a b, R a b → S a b) : All2 S l m := ⟨h.1, fun i a b ha hb => hi _ _ (h.2 i a b ha hb)⟩
end Go.V
namespace Go.V
open Go.RowKit
variable {P : Program} {F : Fr} {B : Heap} {n : Nat} {O : Boxes} {κ : Kap} {Q R : Exit → Act → World → Prop}
section
variable {ops : Array Oper} {ty : TypeId} {pos : String} {aft : Array Edge} {g : Option (Nat × Bool)}
theorem ok_storeX (L : Tabs P) {t t' : TypeId} {s q : Nat} {ag : Bool} {z : Nat} {cs : List Value} {φ : Value → Heap → Prop} {X : Type} (f : X → List Value) (ψ : X → Heap → Prop) (hψ : MonoX ψ)
    (hφ : ∀ v H, φ v H → ∃ x, ψ x H ∧ cellsL v = f x) (hf : ∀ x, (f x).length = z ∧ (f x).all plainV = true)
    (hg : gK ops κ ⟨none, .store t (.tmp s) (.tmp q), ty, pos, aft, g⟩ = some true) (hk : κ s = some (.own (Cell cs t'))) (hx : κ q = some (.sat φ))
    (hl : L.ld t = some (ag, z)) (hcs : cs.length = z) :
    StepOK P F B n ops O κ ⟨none, .store t (.tmp s) (.tmp q), ty, pos, aft, g⟩ s (.own (ExR (fun x => Cell (f x) t') ψ hψ)) := by
  rintro κ' a u hlk ⟨H, fp, hh⟩
  unfold After
  rw [if_pos (wanted_gK hh hlk hg)]
  have e := hh.env hlk
  obtain ⟨x, hx1, hx2⟩ := hφ _ _ (e.sat_ q _ (by simp [Op.operands]) hx)
  have hks : κ' s = some (.own (Cell cs t')) := (hlk s (looks_of (by simp [Op.operands]))).trans hk
  obtain ⟨⟨b, hes, hb, hC⟩, hM⟩ := hh.slot s _ hks
  have hrun : (execOp a.eval ⟨none, .store t (.tmp s) (.tmp q), ty, pos, aft, g⟩).run P u = .ok .skip (u.setRow b (f x).toArray) := by
    simp only [execOp, hes, Instr.storeAt, Instr.sureAddr, Sem.run_bind, Sem.run_pure, Result.andThen_ok]
    have := run_storeVar_at (P := P) (off := 0) (v := a.eval (.tmp q)) (Tabs.ld_spec hl) hb (by rw [hx2]; exact (hf x).1) (by omega) (by rw [hx2]; exact (hf x).2)
    rw [this, hx2, List.drop_of_length_le (by omega)]
    simp
  rw [hrun]
  simp only [Upon, Act.put]
  have hset := setRow_heap u b cs.toArray (f x).toArray t' (0, 0) hb
  have hbm := hM b ((hC b).2 rfl)
  have := hh.usePut (d := s) (a' := a) (r' := ExR (fun x => Cell (f x) t') ψ hψ) (C := fun k => k = b) hks (grow_setRow hh.sub hb ((hC b).2 rfl) hbm.2.1 _) rfl rfl (fun _ _ => rfl) ⟨x, hx1, b, hes, hset, fun _ => Iff.rfl⟩ (fun k hk => by
    subst hk; exact ⟨.inl ((hC k).2 rfl), by rw [setRow_size]; exact hbm.1, hbm.2.1⟩)
  rw [upd_upd] at this
  exact ⟨H, _, this⟩
end
end Go.V
namespace Go.V
open Go.RowKit
def okB (c : UInt8) : Bool := (97 ≤ c && c ≤ 122) || (48 ≤ c && c ≤ 57)
def chk (s : ByteArray) : Int := if 1 ≤ s.size ∧ s.size ≤ 16 ∧ s.data.toList.all okB = true then 0 else 6
theorem chk_cases (s : ByteArray) : chk s = 0 ∨ chk s = 6 := by unfold chk; split <;> simp
theorem chk_bad {s : ByteArray} (h : ¬ (1 ≤ s.size ∧ s.size ≤ 16)) : chk s = 6 := by
  unfold chk; rw [if_neg]; intro h'; exact h ⟨h'.1, h'.2.1⟩
theorem chk_all {s : ByteArray} (h1 : 1 ≤ s.size) (h2 : s.size ≤ 16) (h : s.data.toList.all okB = true) : chk s = 0 := by
  unfold chk; rw [if_pos ⟨h1, h2, h⟩]
theorem chk_at {s : ByteArray} {k : Nat} {c : UInt8} (hc : s[k]? = some c) (h : okB c = false) : chk s = 6 := by
  unfold chk; rw [if_neg]
  rintro ⟨_, _, hall⟩
  have hm : c ∈ s.data.toList := by
    have : s.data[k]? = some c := hc
    exact Array.mem_toList_iff.2 (Array.mem_of_getElem? this)
  rw [List.all_eq_true] at hall
  rw [hall c hm] at h; cases h
theorem getElem?_lt {s : ByteArray} {k : Nat} (h : k < s.size) : ∃ c, s[k]? = some c := ⟨s[k], by rw [getElem?_pos]⟩
theorem take_all {s : ByteArray} {k : Nat} {c : UInt8} (hc : s[k]? = some c) (h : okB c = true) (ha : (s.data.toList.take k).all okB = true) : (s.data.toList.take (k + 1)).all okB = true := by
  have hd : s.data.toList[k]? = some c := by
    have : s.data[k]? = some c := hc
    simpa using this
  rw [List.take_add_one, hd]
  simp [List.all_append, ha, h]
theorem len_toList (s : ByteArray) : s.data.toList.length = s.size := by rw [Array.length_toList]; rfl
theorem all_take {s : ByteArray} {k : Nat} (h : s.size ≤ k) (ha : (s.data.toList.take k).all okB = true) : s.data.toList.all okB = true := by
  rwa [List.take_of_length_le (by rw [len_toList]; exact h)] at ha
theorem u8_lt (c : UInt8) : (c.toNat : Int) < 256 := by have := c.toNat_lt; omega
theorem okB_1 {c : UInt8} (h1 : (c.toNat : Int) < 97) (h2 : (c.toNat : Int) < 48) : okB c = false := by
  simp [okB, UInt8.le_iff_toNat_le]; omega
theorem okB_2 {c : UInt8} (h1 : (c.toNat : Int) < 97) (h2 : 57 < (c.toNat : Int)) : okB c = false := by
  simp [okB, UInt8.le_iff_toNat_le]; omega
theorem okB_3 {c : UInt8} (h1 : 122 < (c.toNat : Int)) : okB c = false := by
  simp [okB, UInt8.le_iff_toNat_le]; omega
theorem okB_4 {c : UInt8} (h1 : ¬ (c.toNat : Int) < 97) (h2 : ¬ 122 < (c.toNat : Int)) : okB c = true := by
  simp [okB, UInt8.le_iff_toNat_le]; omega
theorem okB_5 {c : UInt8} (h1 : ¬ (c.toNat : Int) < 48) (h2 : ¬ 57 < (c.toNat : Int)) : okB c = true := by
  simp [okB, UInt8.le_iff_toNat_le]; omega
theorem take_1 {vs : List Value} {j : Nat} {v : Value} (h : vs[j]? = some v) : (vs.drop (j * 1)).take 1 = [v] := by
  obtain ⟨hl, he⟩ := List.getElem?_eq_some_iff.1 h
  rw [Nat.mul_one, List.drop_eq_getElem_cons hl, he]
  rfl
theorem str_at {l : List ByteArray} {j : Nat} {s : ByteArray} (h : l[j]? = some s) : ((l.map Value.string).drop (j * 1)).take 1 = [.string s] := take_1 (by simp [h])
end Go.V
namespace Go.V
open Go.Proofs
set_option maxRecDepth 100000
theorem mixed : Tryz.prog.follows .mixedOrders = true := by kernel_rfl
def ldL : List (Nat × (Bool × Nat)) := [(1, (false, 1)), (2, (false, 1)), (3, (false, 1)), (4, (false, 1)), (5, (false, 1)), (6, (false, 1)), (7, (true, 4)), (8, (true, 4)), (9, (false, 1)), (10, (false, 1)), 
    (11, (false, 1)), (12, (false, 1)), (13, (true, 2)), (14, (true, 2)), (15, (false, 1)), (16, (false, 1)), (17, (false, 1)), (18, (true, 1)), (19, (true, 1)), (20, (false, 1)), 
    (21, (false, 1)), (22, (false, 1)), (23, (true, 1)), (24, (true, 1)), (25, (false, 1)), (26, (true, 2)), (27, (true, 2)), (28, (true, 2)), (29, (true, 3)), (30, (true, 3)), 
    (31, (false, 1)), (32, (false, 1)), (33, (false, 1)), (34, (false, 1)), (35, (true, 2)), (36, (true, 2)), (37, (true, 2)), (38, (true, 2)), (39, (true, 4)), (40, (true, 4)), 
    (41, (false, 1)), (43, (false, 1)), (44, (true, 2)), (45, (true, 2)), (46, (true, 3)), (47, (true, 3)), (48, (true, 3)), (49, (true, 6)), (50, (true, 6)), (51, (false, 1)), 
    (52, (true, 7)), (53, (true, 7)), (54, (false, 1)), (55, (false, 1)), (56, (false, 1)), (57, (false, 1)), (58, (false, 1)), (59, (false, 1)), (60, (false, 1)), (61, (false, 1)), 
    (62, (false, 1)), (63, (false, 1)), (64, (false, 1)), (65, (false, 1)), (66, (false, 1)), (67, (false, 1)), (68, (false, 1)), (69, (false, 1)), (70, (true, 7)), (71, (true, 7)), 
    (73, (false, 1)), (74, (false, 1)), (75, (false, 1)), (76, (false, 1)), (77, (false, 1)), (78, (false, 1)), (79, (false, 1)), (80, (true, 3)), (81, (false, 1)), (82, (false, 1)), 
    (83, (false, 1)), (84, (false, 1)), (85, (false, 1)), (86, (false, 1)), (87, (false, 1)), (88, (false, 1)), (89, (false, 1)), (90, (false, 1)), (91, (true, 0)), (93, (false, 1)), 
    (95, (false, 1)), (96, (false, 1)), (97, (false, 1)), (98, (false, 1)), (99, (false, 1)), (100, (false, 1)), (101, (false, 1)), (102, (false, 1)), (103, (true, 6)), 
    (104, (true, 6)), (106, (false, 1)), (107, (true, 2)), (108, (true, 6)), (109, (false, 1)), (110, (false, 1)), (111, (false, 1)), (112, (false, 1)), (113, (false, 1)), 
    (114, (false, 1)), (115, (true, 10)), (116, (true, 10)), (118, (false, 1)), (120, (false, 1)), (121, (false, 1)), (122, (true, 3)), (123, (false, 1)), (124, (true, 3)), 
    (126, (false, 1)), (127, (false, 1)), (128, (false, 1)), (129, (false, 1)), (130, (false, 1)), (131, (false, 1)), (132, (false, 1)), (133, (false, 1)), (134, (false, 1)), 
    (135, (false, 1)), (136, (false, 1)), (137, (false, 1)), (138, (false, 1)), (140, (false, 1)), (141, (false, 1)), (143, (false, 1)), (144, (false, 1)), (146, (false, 1)), 
    (147, (false, 1)), (148, (false, 1)), (149, (false, 1)), (150, (false, 1)), (151, (false, 1)), (152, (false, 1)), (153, (false, 1)), (154, (false, 1)), (156, (false, 1)), 
    (157, (false, 1)), (158, (false, 1)), (162, (false, 1)), (163, (false, 1)), (164, (false, 1)), (166, (false, 1)), (167, (false, 1)), (168, (false, 1)), (169, (false, 1)), 
    (170, (false, 1)), (171, (false, 1)), (172, (false, 1)), (173, (false, 1)), (175, (false, 1)), (176, (false, 1)), (177, (true, 4)), (178, (true, 4)), (179, (true, 0)), 
    (180, (true, 0)), (181, (true, 0)), (182, (false, 1)), (183, (false, 1)), (184, (false, 1)), (185, (false, 1)), (186, (false, 1)), (187, (false, 1)), (188, (true, 11)), 
    (189, (true, 11)), (190, (false, 1))]
def slL : List (Nat × Nat) := [(22, 28), (25, 80), (31, 50), (58, 47), (69, 9), (135, 104), (148, 3)]
def stL : List (Nat × Unit) := [(9, ()), (10, ()), (11, ())]
def foL : List ((Nat × Nat) × Nat) := [((7, 0), 0), ((7, 1), 1), ((7, 2), 2), ((7, 3), 3), ((8, 0), 0), ((8, 1), 1), ((8, 2), 2), ((8, 3), 3), ((13, 0), 0), ((13, 1), 1), ((14, 0), 0), ((14, 1), 1), ((18, 0), 0), 
    ((19, 0), 0), ((23, 0), 0), ((24, 0), 0), ((26, 0), 0), ((26, 1), 1), ((27, 0), 0), ((27, 1), 1), ((29, 0), 0), ((29, 1), 2), ((30, 0), 0), ((30, 1), 2), ((35, 0), 0), ((35, 1), 1), 
    ((36, 0), 0), ((36, 1), 1), ((37, 0), 0), ((38, 0), 0), ((39, 0), 0), ((39, 1), 2), ((40, 0), 0), ((40, 1), 2), ((44, 0), 0), ((44, 1), 1), ((45, 0), 0), ((45, 1), 1), ((46, 0), 0), 
    ((46, 1), 2), ((47, 0), 0), ((47, 1), 2), ((48, 0), 0), ((48, 1), 2), ((49, 0), 0), ((49, 1), 3), ((50, 0), 0), ((50, 1), 3), ((52, 0), 0), ((52, 1), 1), ((52, 2), 2), ((52, 3), 3), 
    ((52, 4), 6), ((53, 0), 0), ((53, 1), 1), ((53, 2), 2), ((53, 3), 3), ((53, 4), 6), ((70, 0), 0), ((70, 1), 6), ((71, 0), 0), ((71, 1), 6), ((103, 0), 0), ((104, 0), 0), 
    ((115, 0), 0), ((115, 1), 6), ((115, 2), 7), ((115, 3), 8), ((115, 4), 9), ((116, 0), 0), ((116, 1), 6), ((116, 2), 7), ((116, 3), 8), ((116, 4), 9), ((177, 0), 0), ((177, 1), 1), 
    ((177, 2), 2), ((177, 3), 3), ((178, 0), 0), ((178, 1), 1), ((178, 2), 2), ((178, 3), 3), ((188, 0), 0), ((188, 1), 1), ((188, 2), 2), ((188, 3), 3), ((188, 4), 4), ((188, 5), 5), 
    ((188, 6), 6), ((188, 7), 7), ((188, 8), 8), ((188, 9), 9), ((188, 10), 10), ((189, 0), 0), ((189, 1), 1), ((189, 2), 2), ((189, 3), 3), ((189, 4), 4), ((189, 5), 5), ((189, 6), 6), 
    ((189, 7), 7), ((189, 8), 8), ((189, 9), 9), ((189, 10), 10)]
def zrL : List (Nat × Value) := [(1, .nilFunc), (2, .int .i64 0), (3, .int .i64 0), (4, .bool false), (5, .int .u8 0), (6, .int .u8 0), (7, .agg #[.int .i64 0, .int .i64 0, .bool false, .int .u8 0]), 
    (8, .agg #[.int .i64 0, .int .i64 0, .bool false, .int .u8 0]), (9, .string ⟨#[]⟩), (10, .string ⟨#[]⟩), (11, .string ⟨#[]⟩), (12, .int .u64 0), 
    (13, .agg #[.string ⟨#[]⟩, .int .u64 0]), (14, .agg #[.string ⟨#[]⟩, .int .u64 0]), (15, .pointer none), (16, .pointer none), (17, .pointer none), (18, .agg #[.pointer none]), 
    (19, .agg #[.pointer none]), (20, .nilIface), (21, .int .i32 0), (22, .slice none 0 0), (23, .agg #[.slice none 0 0]), (24, .agg #[.slice none 0 0]), (25, .slice none 0 0), 
    (26, .agg #[.slice none 0 0, .slice none 0 0]), (27, .agg #[.slice none 0 0, .slice none 0 0]), (28, .agg #[.int .u8 0, .int .u8 0]), 
    (29, .agg #[.int .u8 0, .int .u8 0, .int .u8 0]), (30, .agg #[.int .u8 0, .int .u8 0, .int .u8 0]), (31, .slice none 0 0), (32, .nilFunc), (33, .nilFunc), (34, .pointer none), 
    (35, .agg #[.nilFunc, .pointer none]), (36, .agg #[.nilFunc, .pointer none]), (37, .agg #[.nilFunc, .pointer none]), (38, .agg #[.nilFunc, .pointer none]), 
    (39, .agg #[.nilFunc, .pointer none, .nilFunc, .pointer none]), (40, .agg #[.nilFunc, .pointer none, .nilFunc, .pointer none]), (41, .int .i64 0), (43, .nilFunc), 
    (44, .agg #[.string ⟨#[]⟩, .string ⟨#[]⟩]), (45, .agg #[.string ⟨#[]⟩, .string ⟨#[]⟩]), (46, .agg #[.string ⟨#[]⟩, .string ⟨#[]⟩, .string ⟨#[]⟩]), 
    (47, .agg #[.string ⟨#[]⟩, .string ⟨#[]⟩, .string ⟨#[]⟩]), (48, .agg #[.string ⟨#[]⟩, .string ⟨#[]⟩, .string ⟨#[]⟩]), 
    (49, .agg #[.string ⟨#[]⟩, .string ⟨#[]⟩, .string ⟨#[]⟩, .string ⟨#[]⟩, .string ⟨#[]⟩, .string ⟨#[]⟩]), 
    (50, .agg #[.string ⟨#[]⟩, .string ⟨#[]⟩, .string ⟨#[]⟩, .string ⟨#[]⟩, .string ⟨#[]⟩, .string ⟨#[]⟩]), (51, .nilFunc), 
    (52, .agg #[.string ⟨#[]⟩, .string ⟨#[]⟩, .string ⟨#[]⟩, .string ⟨#[]⟩, .string ⟨#[]⟩, .string ⟨#[]⟩, .bool false]), 
    (53, .agg #[.string ⟨#[]⟩, .string ⟨#[]⟩, .string ⟨#[]⟩, .string ⟨#[]⟩, .string ⟨#[]⟩, .string ⟨#[]⟩, .bool false]), (54, .nilFunc), (55, .nilFunc), (56, .nilFunc), (57, .nilFunc), 
    (58, .slice none 0 0), (59, .nilFunc), (60, .nilFunc), (61, .nilFunc), (62, .nilFunc), (63, .nilFunc), (64, .nilFunc), (65, .nilFunc), (66, .nilFunc), (67, .nilFunc), 
    (68, .nilFunc), (69, .slice none 0 0), (70, .agg #[.string ⟨#[]⟩, .string ⟨#[]⟩, .string ⟨#[]⟩, .string ⟨#[]⟩, .string ⟨#[]⟩, .string ⟨#[]⟩, .bool false]), 
    (71, .agg #[.string ⟨#[]⟩, .string ⟨#[]⟩, .string ⟨#[]⟩, .string ⟨#[]⟩, .string ⟨#[]⟩, .string ⟨#[]⟩, .bool false]), (73, .nilFunc), (74, .nilFunc), (75, .nilFunc), (76, .nilFunc), 
    (77, .nilFunc), (78, .nilFunc), (79, .nilFunc), (80, .agg #[.int .u8 0, .int .u8 0, .int .u8 0]), (81, .nilFunc), (82, .nilFunc), (83, .nilFunc), (84, .nilFunc), (85, .nilFunc), 
    (86, .nilFunc), (87, .nilFunc), (88, .nilFunc), (89, .nilFunc), (90, .nilFunc), (91, .agg #[]), (93, .nilFunc), (95, .nilFunc), (96, .nilFunc), (97, .nilFunc), (98, .nilFunc), 
    (99, .nilFunc), (100, .nilFunc), (101, .nilFunc), (102, .nilFunc), (103, .agg #[.string ⟨#[]⟩, .string ⟨#[]⟩, .string ⟨#[]⟩, .string ⟨#[]⟩, .string ⟨#[]⟩, .string ⟨#[]⟩]), 
    (104, .agg #[.string ⟨#[]⟩, .string ⟨#[]⟩, .string ⟨#[]⟩, .string ⟨#[]⟩, .string ⟨#[]⟩, .string ⟨#[]⟩]), (106, .nilFunc), (107, .agg #[.string ⟨#[]⟩, .string ⟨#[]⟩]), 
    (108, .agg #[.string ⟨#[]⟩, .string ⟨#[]⟩, .string ⟨#[]⟩, .string ⟨#[]⟩, .string ⟨#[]⟩, .string ⟨#[]⟩]), (109, .nilFunc), (110, .nilFunc), (111, .nilFunc), (112, .nilFunc), 
    (113, .nilFunc), (114, .nilFunc), 
    (115, .agg #[.string ⟨#[]⟩, .string ⟨#[]⟩, .string ⟨#[]⟩, .string ⟨#[]⟩, .string ⟨#[]⟩, .string ⟨#[]⟩, .pointer none, .pointer none, .int .i64 0, .int .i64 0]), 
    (116, .agg #[.string ⟨#[]⟩, .string ⟨#[]⟩, .string ⟨#[]⟩, .string ⟨#[]⟩, .string ⟨#[]⟩, .string ⟨#[]⟩, .pointer none, .pointer none, .int .i64 0, .int .i64 0]), (118, .nilFunc), 
    (120, .nilFunc), (121, .nilFunc), (122, .agg #[.string ⟨#[]⟩, .string ⟨#[]⟩, .string ⟨#[]⟩]), (123, .pointer none), (124, .agg #[.pointer none, .pointer none, .pointer none]), 
    (126, .nilFunc), (127, .nilFunc), (128, .nilFunc), (129, .nilFunc), (130, .nilFunc), (131, .nilFunc), (132, .nilFunc), (133, .nilFunc), (134, .nilFunc), (135, .slice none 0 0), 
    (136, .nilFunc), (137, .nilFunc), (138, .nilFunc), (140, .nilFunc), (141, .nilFunc), (143, .nilFunc), (144, .nilFunc), (146, .nilFunc), (147, .nilFunc), (148, .slice none 0 0), 
    (149, .nilFunc), (150, .nilFunc), (151, .nilFunc), (152, .nilFunc), (153, .nilFunc), (154, .nilFunc), (156, .nilFunc), (157, .nilFunc), (158, .nilFunc), (162, .nilFunc), 
    (163, .nilFunc), (164, .nilFunc), (166, .nilFunc), (167, .nilFunc), (168, .nilFunc), (169, .nilFunc), (170, .int .u64 0), (171, .nilFunc), (172, .pointer none), (173, .int .u32 0), 
    (175, .nilFunc), (176, .nilFunc), (177, .agg #[.pointer none, .pointer none, .pointer none, .string ⟨#[]⟩]), 
    (178, .agg #[.pointer none, .pointer none, .pointer none, .string ⟨#[]⟩]), (179, .agg #[]), (180, .agg #[]), (181, .agg #[]), (182, .int .u8 0), (183, .int .u8 0), (184, .nilFunc), 
    (185, .pointer none), (186, .int .i32 0), (187, .int .i32 0), 
    (188, .agg #[.int .u64 0, .int .u64 0, .int .u32 0, .int .u8 0, .int .u8 0, .int .u8 0, .int .u8 0, .nilFunc, .pointer none, .int .i32 0, .int .i32 0]), 
    (189, .agg #[.int .u64 0, .int .u64 0, .int .u32 0, .int .u8 0, .int .u8 0, .int .u8 0, .int .u8 0, .nilFunc, .pointer none, .int .i32 0, .int .i32 0])]
def fnL : List (Nat × Unit) := [(3, ()), (4, ()), (5, ()), (6, ()), (7, ()), (8, ()), (9, ()), (10, ()), (11, ()), (12, ()), (13, ()), (14, ()), (15, ()), (16, ()), (17, ()), (18, ()), (19, ()), (20, ()), 
    (21, ()), (22, ()), (23, ()), (24, ()), (25, ()), (26, ()), (27, ()), (28, ()), (29, ()), (30, ()), (31, ()), (32, ()), (33, ()), (34, ()), (35, ()), (36, ()), (37, ()), (38, ()), 
    (39, ()), (40, ()), (41, ()), (42, ()), (43, ()), (44, ()), (45, ()), (46, ()), (47, ()), (48, ()), (49, ()), (50, ()), (51, ()), (52, ()), (53, ()), (54, ()), (55, ()), (56, ()), 
    (57, ()), (58, ()), (59, ()), (60, ()), (61, ()), (62, ()), (63, ()), (64, ()), (65, ()), (66, ()), (67, ()), (68, ()), (69, ()), (70, ()), (71, ()), (72, ()), (73, ()), (74, ()), 
    (75, ()), (76, ()), (77, ()), (78, ()), (79, ()), (80, ()), (81, ()), (82, ()), (83, ()), (84, ()), (85, ()), (86, ()), (87, ()), (88, ()), (90, ()), (91, ()), (92, ()), (93, ()), 
    (94, ()), (95, ()), (96, ()), (97, ()), (98, ()), (99, ()), (100, ()), (101, ()), (102, ()), (103, ()), (105, ()), (106, ()), (107, ()), (108, ()), (109, ()), (110, ()), (111, ()), 
    (112, ()), (113, ()), (115, ()), (120, ()), (121, ()), (122, ()), (124, ())]
theorem ldL_ok : ldL.all (fun p => ldI Tryz.prog p.1 == some p.2) = true := by kernel_rfl
theorem slL_ok : slL.all (fun p => slI Tryz.prog p.1 == some p.2) = true := by kernel_rfl
theorem stL_ok : stL.all (fun p => stI Tryz.prog p.1 == some p.2) = true := by kernel_rfl
theorem foL_ok : foL.all (fun p => foI Tryz.prog p.1 == some p.2) = true := by kernel_rfl
theorem zrL_ok : zrL.map (fun p => zrI Tryz.prog p.1) = zrL.map (fun p => some p.2) := by kernel_rfl
theorem fnL_ok : fnL.all (fun p => match Tryz.prog.funcs[p.1]? with | some fn => fn.body.isSome && fn.name != "runtime.NumGoroutine" | none => false) = true := by kernel_rfl
def L : Tabs Tryz.prog := ⟨ldL, slL, stL, foL, zrL, fnL, ldL_ok, slL_ok, stL_ok, foL_ok, zrL_ok, fnL_ok⟩
theorem el47 : elI Tryz.prog 47 = some (3, 48) := by kernel_rfl
theorem el50 : elI Tryz.prog 50 = some (6, 96) := by kernel_rfl
theorem el104 : elI Tryz.prog 104 = some (6, 104) := by kernel_rfl
theorem pl28 : PL Tryz.prog 28 [(0, 1), (1, 1)] [.int .u8 0, .int .u8 0] := ⟨by kernel_rfl, .agg #[.int .u8 0, .int .u8 0], by kernel_rfl, rfl⟩
theorem pl36 : PL Tryz.prog 36 [(0, 1), (1, 1)] [.nilFunc, .pointer none] := ⟨by kernel_rfl, .agg #[.nilFunc, .pointer none], by kernel_rfl, rfl⟩
theorem pl38 : PL Tryz.prog 38 [(0, 2)] [.nilFunc, .pointer none] := ⟨by kernel_rfl, .agg #[.nilFunc, .pointer none], by kernel_rfl, rfl⟩
theorem pl40 : PL Tryz.prog 40 [(0, 2), (2, 2)] [.nilFunc, .pointer none, .nilFunc, .pointer none] := ⟨by kernel_rfl, .agg #[.nilFunc, .pointer none, .nilFunc, .pointer none], by kernel_rfl, rfl⟩
theorem pl45 : PL Tryz.prog 45 [(0, 1), (1, 1)] [.string ⟨#[]⟩, .string ⟨#[]⟩] := ⟨by kernel_rfl, .agg #[.string ⟨#[]⟩, .string ⟨#[]⟩], by kernel_rfl, rfl⟩
theorem pl47 : PL Tryz.prog 47 [(0, 2), (2, 1)] [.string ⟨#[]⟩, .string ⟨#[]⟩, .string ⟨#[]⟩] := ⟨by kernel_rfl, .agg #[.string ⟨#[]⟩, .string ⟨#[]⟩, .string ⟨#[]⟩], by kernel_rfl, rfl⟩
theorem pl48 : PL Tryz.prog 48 [(0, 2), (2, 1)] [.string ⟨#[]⟩, .string ⟨#[]⟩, .string ⟨#[]⟩] := ⟨by kernel_rfl, .agg #[.string ⟨#[]⟩, .string ⟨#[]⟩, .string ⟨#[]⟩], by kernel_rfl, rfl⟩
theorem pl50 : PL Tryz.prog 50 [(0, 3), (3, 3)] [.string ⟨#[]⟩, .string ⟨#[]⟩, .string ⟨#[]⟩, .string ⟨#[]⟩, .string ⟨#[]⟩, .string ⟨#[]⟩] := ⟨by kernel_rfl, .agg #[.string ⟨#[]⟩, .string ⟨#[]⟩, .string ⟨#[]⟩, .string ⟨#[]⟩, .string ⟨#[]⟩, .string ⟨#[]⟩], by kernel_rfl, rfl⟩
theorem pl53 : PL Tryz.prog 53 [(0, 1), (1, 1), (2, 1), (3, 3), (6, 1)] [.string ⟨#[]⟩, .string ⟨#[]⟩, .string ⟨#[]⟩, .string ⟨#[]⟩, .string ⟨#[]⟩, .string ⟨#[]⟩, .bool false] := ⟨by kernel_rfl, .agg #[.string ⟨#[]⟩, .string ⟨#[]⟩, .string ⟨#[]⟩, .string ⟨#[]⟩, .string ⟨#[]⟩, .string ⟨#[]⟩, .bool false], by kernel_rfl, rfl⟩
theorem pl71 : PL Tryz.prog 71 [(0, 6), (6, 1)] [.string ⟨#[]⟩, .string ⟨#[]⟩, .string ⟨#[]⟩, .string ⟨#[]⟩, .string ⟨#[]⟩, .string ⟨#[]⟩, .bool false] := ⟨by kernel_rfl, .agg #[.string ⟨#[]⟩, .string ⟨#[]⟩, .string ⟨#[]⟩, .string ⟨#[]⟩, .string ⟨#[]⟩, .string ⟨#[]⟩, .bool false], by kernel_rfl, rfl⟩
theorem pl91 : PL Tryz.prog 91 [] [] := ⟨by kernel_rfl, .agg #[], by kernel_rfl, rfl⟩
theorem pl104 : PL Tryz.prog 104 [(0, 6), (6, 0)] [.string ⟨#[]⟩, .string ⟨#[]⟩, .string ⟨#[]⟩, .string ⟨#[]⟩, .string ⟨#[]⟩, .string ⟨#[]⟩] := ⟨by kernel_rfl, .agg #[.string ⟨#[]⟩, .string ⟨#[]⟩, .string ⟨#[]⟩, .string ⟨#[]⟩, .string ⟨#[]⟩, .string ⟨#[]⟩], by kernel_rfl, rfl⟩
theorem pl107 : PL Tryz.prog 107 [(0, 1), (1, 1)] [.string ⟨#[]⟩, .string ⟨#[]⟩] := ⟨by kernel_rfl, .agg #[.string ⟨#[]⟩, .string ⟨#[]⟩], by kernel_rfl, rfl⟩
theorem pl108 : PL Tryz.prog 108 [(0, 2), (2, 2), (4, 2)] [.string ⟨#[]⟩, .string ⟨#[]⟩, .string ⟨#[]⟩, .string ⟨#[]⟩, .string ⟨#[]⟩, .string ⟨#[]⟩] := ⟨by kernel_rfl, .agg #[.string ⟨#[]⟩, .string ⟨#[]⟩, .string ⟨#[]⟩, .string ⟨#[]⟩, .string ⟨#[]⟩, .string ⟨#[]⟩], by kernel_rfl, rfl⟩
theorem pl116 : PL Tryz.prog 116 [(0, 6), (6, 1), (7, 1), (8, 1), (9, 1)] [.string ⟨#[]⟩, .string ⟨#[]⟩, .string ⟨#[]⟩, .string ⟨#[]⟩, .string ⟨#[]⟩, .string ⟨#[]⟩, .pointer none, .pointer none, .int .i64 0, .int .i64 0] := ⟨by kernel_rfl, .agg #[.string ⟨#[]⟩, .string ⟨#[]⟩, .string ⟨#[]⟩, .string ⟨#[]⟩, .string ⟨#[]⟩, .string ⟨#[]⟩, .pointer none, .pointer none, .int .i64 0, .int .i64 0], by kernel_rfl, rfl⟩
theorem pl122 : PL Tryz.prog 122 [(0, 1), (1, 1), (2, 1)] [.string ⟨#[]⟩, .string ⟨#[]⟩, .string ⟨#[]⟩] := ⟨by kernel_rfl, .agg #[.string ⟨#[]⟩, .string ⟨#[]⟩, .string ⟨#[]⟩], by kernel_rfl, rfl⟩
theorem pl124 : PL Tryz.prog 124 [(0, 1), (1, 1), (2, 1)] [.pointer none, .pointer none, .pointer none] := ⟨by kernel_rfl, .agg #[.pointer none, .pointer none, .pointer none], by kernel_rfl, rfl⟩
theorem bt4 : Tryz.prog.underlying 4 = some .bool := by kernel_rfl
theorem nk33 : nkI Tryz.prog 33 = some 3 := by kernel_rfl
theorem nk34 : nkI Tryz.prog 34 = some 0 := by kernel_rfl
theorem eq45 : EqT Tryz.prog 45 [0, 0] := ⟨by kernel_rfl, by kernel_rfl, by kernel_rfl⟩
theorem eq47 : EqT Tryz.prog 47 [0, 0, 0] := ⟨by kernel_rfl, by kernel_rfl, by kernel_rfl⟩
theorem eq48 : EqT Tryz.prog 48 [0, 0, 0] := ⟨by kernel_rfl, by kernel_rfl, by kernel_rfl⟩
theorem eq50 : EqT Tryz.prog 50 [0, 0, 0, 0, 0, 0] := ⟨by kernel_rfl, by kernel_rfl, by kernel_rfl⟩
theorem cv5_3 : (Tryz.prog.underlying 5).isSome = true ∧ ikI Tryz.prog 3 = some .i64 := ⟨by kernel_rfl, by kernel_rfl⟩
theorem ar28 : arI Tryz.prog 28 = some (2, 5) := by kernel_rfl
theorem ar80 : arI Tryz.prog 80 = some (3, 5) := by kernel_rfl
theorem ar107 : arI Tryz.prog 107 = some (2, 9) := by kernel_rfl
theorem ar108 : arI Tryz.prog 108 = some (3, 107) := by kernel_rfl
theorem ar122 : arI Tryz.prog 122 = some (3, 9) := by kernel_rfl
theorem ar124 : arI Tryz.prog 124 = some (3, 123) := by kernel_rfl
end Go.V
namespace Go.V
open Go.Proofs Go.RowKit
attribute [local irreducible] V N X VO Par StepOK Has Ret RetL Src
set_option maxHeartbeats 400000 in
theorem check_ret (s : ByteArray) (hs : s.size ≤ 9223372036854775807) {w : World} {B : Heap} (hB : B.Le (hp w)) :
    Ret Tryz.prog 64 [.string s] w B (fun v _ => v = .int .i64 (chk s)) := by
  refine qx Tryz.func64 rfl Tryz.ntmps64 (Nat.le_of_ble_eq_true rfl) hB ?_
  by_cases h1 : 1 ≤ s.size
  · by_cases h2 : s.size ≤ 16
    · refine zg ?_; refine z8 (id := 0) ?_; refine z7 (zi rfl rfl rfl) rfl ?_; refine zh ?_; refine zj ?_; refine zg ?_; refine zg ?_; refine z8 (id := 1) ?_; refine z7 (zf rfl rfl rfl) rfl ?_; refine z7 (yg L rfl rfl rfl rfl) rfl ?_; refine z7 (qe rfl rfl rfl rfl (decide_eq_false (by omega))) rfl ?_; refine z7 (zf rfl rfl rfl) rfl ?_; refine z7 (zf rfl rfl rfl) rfl ?_; refine z7 (yg L rfl rfl rfl rfl) rfl ?_; refine z7 (ok_gtr rfl rfl rfl rfl (decide_eq_false (by omega))) rfl ?_; refine z7 (zw rfl rfl rfl rfl) rfl ?_; refine zh ?_; refine zj ?_; refine q8 rfl ?_; refine q9 ?_; refine zj ?_; refine zg ?_; refine zg ?_; refine z8 (id := 3) ?_; refine z7 (zf rfl rfl rfl) rfl ?_; refine z7 (yg L rfl rfl rfl rfl) rfl ?_; refine z7 (zf rfl rfl rfl) rfl ?_; refine zh ?_; refine zj ?_; refine qd ?_
      refine V_loop (fun k : Nat => [(0, .is (.string s)), (13, .is (.int .i64 s.size)), (14, .is (.int .i64 k))])
        (fun k => k ≤ s.size ∧ (s.data.toList.take k).all okB = true) (fun k => s.size - k) 0 ⟨Nat.zero_le _, by simp⟩ ⟨rfl, rfl, rfl, trivial⟩ ?_
      rintro k ⟨hk, hall⟩
      by_cases hlt : k < s.size
      · obtain ⟨c, hc⟩ := getElem?_lt hlt
        have hu := u8_lt c
        by_cases a1 : (c.toNat : Int) < 97
        · by_cases a2 : (c.toNat : Int) < 48
          · refine zg ?_; refine z8 (id := 4) ?_; refine z7 (qe rfl rfl rfl rfl (decide_eq_true (by omega))) rfl ?_; refine zh ?_; refine zj ?_; refine zg ?_; refine qa rfl ?_; refine q9 ?_; refine zj ?_; refine zg ?_; refine qd ?_; refine zg ?_; refine z8 (id := 5) ?_; refine z7 (zf rfl rfl rfl) rfl ?_; refine z7 (zi rfl rfl rfl) rfl ?_; refine zh ?_; refine zj ?_; refine zg ?_; refine z8 (id := 6) ?_; refine z7 (zf rfl rfl rfl) rfl ?_; refine z7 (zf rfl rfl rfl) rfl ?_; refine z7 (yf L rfl rfl rfl rfl rfl (by assumption)) rfl ?_; refine z7 (qe rfl rfl rfl rfl (decide_eq_true (by omega))) rfl ?_; refine z7 (zf rfl rfl rfl) rfl ?_; refine z7 (zn rfl (zm rfl) rfl) rfl ?_; refine z7 (zn rfl (zm rfl) rfl) rfl ?_; refine z7 (zn rfl (zm rfl) rfl) rfl ?_; refine z7 (zn rfl (zm rfl) rfl) rfl ?_; refine z7 (zw rfl rfl rfl rfl) rfl ?_; refine z7 (zf rfl rfl rfl) rfl ?_; refine z7 (zf rfl rfl rfl) rfl ?_; refine z7 (zf rfl rfl rfl) rfl ?_; refine z7 (yf L rfl rfl rfl rfl rfl (by assumption)) rfl ?_; refine z7 (qe rfl rfl rfl rfl (decide_eq_true (by omega))) rfl ?_; refine z7 (zf rfl rfl rfl) rfl ?_; refine z7 (zn rfl (zm rfl) rfl) rfl ?_; refine z7 (zn rfl (zm rfl) rfl) rfl ?_; refine z7 (zn rfl (zm rfl) rfl) rfl ?_; refine z7 (zn rfl (zm rfl) rfl) rfl ?_; refine z7 (zw rfl rfl rfl rfl) rfl ?_; refine z7 (zw rfl rfl rfl rfl) rfl ?_; refine zh ?_; refine zj ?_; refine qa rfl ?_; refine zg ?_; refine z8 (id := 7) ?_; refine z7 (zi rfl rfl rfl) rfl ?_; refine zh ?_; refine zj ?_
            refine qi L (rs := [.tmp 2]) rfl (fun _ _ h => h) Since.refl fun u H hH hle => ?_
            exact congrArg _ (chk_at hc (okB_1 a1 a2)).symm
          · by_cases a3 : 57 < (c.toNat : Int)
            · refine zg ?_; refine z8 (id := 4) ?_; refine z7 (qe rfl rfl rfl rfl (decide_eq_true (by omega))) rfl ?_; refine zh ?_; refine zj ?_; refine zg ?_; refine qa rfl ?_; refine q9 ?_; refine zj ?_; refine zg ?_; refine qd ?_; refine zg ?_; refine z8 (id := 5) ?_; refine z7 (zf rfl rfl rfl) rfl ?_; refine z7 (zi rfl rfl rfl) rfl ?_; refine zh ?_; refine zj ?_; refine zg ?_; refine z8 (id := 6) ?_; refine z7 (zf rfl rfl rfl) rfl ?_; refine z7 (zf rfl rfl rfl) rfl ?_; refine z7 (yf L rfl rfl rfl rfl rfl (by assumption)) rfl ?_; refine z7 (qe rfl rfl rfl rfl (decide_eq_true (by omega))) rfl ?_; refine z7 (zf rfl rfl rfl) rfl ?_; refine z7 (zn rfl (zm rfl) rfl) rfl ?_; refine z7 (zn rfl (zm rfl) rfl) rfl ?_; refine z7 (zn rfl (zm rfl) rfl) rfl ?_; refine z7 (zn rfl (zm rfl) rfl) rfl ?_; refine z7 (zw rfl rfl rfl rfl) rfl ?_; refine z7 (zf rfl rfl rfl) rfl ?_; refine z7 (zf rfl rfl rfl) rfl ?_; refine z7 (zf rfl rfl rfl) rfl ?_; refine z7 (yf L rfl rfl rfl rfl rfl (by assumption)) rfl ?_; refine z7 (qe rfl rfl rfl rfl (decide_eq_false (by omega))) rfl ?_; refine z7 (zf rfl rfl rfl) rfl ?_; refine z7 (zf rfl rfl rfl) rfl ?_; refine z7 (zf rfl rfl rfl) rfl ?_; refine z7 (yf L rfl rfl rfl rfl rfl (by assumption)) rfl ?_; refine z7 (ok_gtr rfl rfl rfl rfl (decide_eq_true (by omega))) rfl ?_; refine z7 (zw rfl rfl rfl rfl) rfl ?_; refine z7 (zw rfl rfl rfl rfl) rfl ?_; refine zh ?_; refine zj ?_; refine qa rfl ?_; refine zg ?_; refine z8 (id := 7) ?_; refine z7 (zi rfl rfl rfl) rfl ?_; refine zh ?_; refine zj ?_
              refine qi L (rs := [.tmp 2]) rfl (fun _ _ h => h) Since.refl fun u H hH hle => ?_
              exact congrArg _ (chk_at hc (okB_2 a1 a3)).symm
            · refine zg ?_; refine z8 (id := 4) ?_; refine z7 (qe rfl rfl rfl rfl (decide_eq_true (by omega))) rfl ?_; refine zh ?_; refine zj ?_; refine zg ?_; refine qa rfl ?_; refine q9 ?_; refine zj ?_; refine zg ?_; refine qd ?_; refine zg ?_; refine z8 (id := 5) ?_; refine z7 (zf rfl rfl rfl) rfl ?_; refine z7 (zi rfl rfl rfl) rfl ?_; refine zh ?_; refine zj ?_; refine zg ?_; refine z8 (id := 6) ?_; refine z7 (zf rfl rfl rfl) rfl ?_; refine z7 (zf rfl rfl rfl) rfl ?_; refine z7 (yf L rfl rfl rfl rfl rfl (by assumption)) rfl ?_; refine z7 (qe rfl rfl rfl rfl (decide_eq_true (by omega))) rfl ?_; refine z7 (zf rfl rfl rfl) rfl ?_; refine z7 (zn rfl (zm rfl) rfl) rfl ?_; refine z7 (zn rfl (zm rfl) rfl) rfl ?_; refine z7 (zn rfl (zm rfl) rfl) rfl ?_; refine z7 (zn rfl (zm rfl) rfl) rfl ?_; refine z7 (zw rfl rfl rfl rfl) rfl ?_; refine z7 (zf rfl rfl rfl) rfl ?_; refine z7 (zf rfl rfl rfl) rfl ?_; refine z7 (zf rfl rfl rfl) rfl ?_; refine z7 (yf L rfl rfl rfl rfl rfl (by assumption)) rfl ?_; refine z7 (qe rfl rfl rfl rfl (decide_eq_false (by omega))) rfl ?_; refine z7 (zf rfl rfl rfl) rfl ?_; refine z7 (zf rfl rfl rfl) rfl ?_; refine z7 (zf rfl rfl rfl) rfl ?_; refine z7 (yf L rfl rfl rfl rfl rfl (by assumption)) rfl ?_; refine z7 (ok_gtr rfl rfl rfl rfl (decide_eq_false (by omega))) rfl ?_; refine z7 (zw rfl rfl rfl rfl) rfl ?_; refine z7 (zw rfl rfl rfl rfl) rfl ?_; refine zh ?_; refine zj ?_; refine q8 rfl ?_; refine q9 ?_; refine qr ?_; refine zj ?_; refine z8 (id := 8) ?_; refine z7 (qy rfl rfl rfl rfl (wrap_i64 (by omega) (by omega))) rfl ?_; refine z7 (zf rfl rfl rfl) rfl ?_; refine zh ?_
              refine y7 (k + 1) ⟨hlt, take_all hc (okB_5 a2 a3) hall⟩ (by omega) ⟨rfl, rfl, rfl, trivial⟩
        · by_cases a4 : 122 < (c.toNat : Int)
          · have a5 : 57 < (c.toNat : Int) := by omega
            refine zg ?_; refine z8 (id := 4) ?_; refine z7 (qe rfl rfl rfl rfl (decide_eq_true (by omega))) rfl ?_; refine zh ?_; refine zj ?_; refine zg ?_; refine qa rfl ?_; refine q9 ?_; refine zj ?_; refine zg ?_; refine qd ?_; refine zg ?_; refine z8 (id := 5) ?_; refine z7 (zf rfl rfl rfl) rfl ?_; refine z7 (zi rfl rfl rfl) rfl ?_; refine zh ?_; refine zj ?_; refine zg ?_; refine z8 (id := 6) ?_; refine z7 (zf rfl rfl rfl) rfl ?_; refine z7 (zf rfl rfl rfl) rfl ?_; refine z7 (yf L rfl rfl rfl rfl rfl (by assumption)) rfl ?_; refine z7 (qe rfl rfl rfl rfl (decide_eq_false (by omega))) rfl ?_; refine z7 (zf rfl rfl rfl) rfl ?_; refine z7 (zf rfl rfl rfl) rfl ?_; refine z7 (zf rfl rfl rfl) rfl ?_; refine z7 (yf L rfl rfl rfl rfl rfl (by assumption)) rfl ?_; refine z7 (ok_gtr rfl rfl rfl rfl (decide_eq_true (by omega))) rfl ?_; refine z7 (zw rfl rfl rfl rfl) rfl ?_; refine z7 (zf rfl rfl rfl) rfl ?_; refine z7 (zf rfl rfl rfl) rfl ?_; refine z7 (zf rfl rfl rfl) rfl ?_; refine z7 (yf L rfl rfl rfl rfl rfl (by assumption)) rfl ?_; refine z7 (qe rfl rfl rfl rfl (decide_eq_false (by omega))) rfl ?_; refine z7 (zf rfl rfl rfl) rfl ?_; refine z7 (zf rfl rfl rfl) rfl ?_; refine z7 (zf rfl rfl rfl) rfl ?_; refine z7 (yf L rfl rfl rfl rfl rfl (by assumption)) rfl ?_; refine z7 (ok_gtr rfl rfl rfl rfl (decide_eq_true (by omega))) rfl ?_; refine z7 (zw rfl rfl rfl rfl) rfl ?_; refine z7 (zw rfl rfl rfl rfl) rfl ?_; refine zh ?_; refine zj ?_; refine qa rfl ?_; refine zg ?_; refine z8 (id := 7) ?_; refine z7 (zi rfl rfl rfl) rfl ?_; refine zh ?_; refine zj ?_
            refine qi L (rs := [.tmp 2]) rfl (fun _ _ h => h) Since.refl fun u H hH hle => ?_
            exact congrArg _ (chk_at hc (okB_3 a4)).symm
          · refine zg ?_; refine z8 (id := 4) ?_; refine z7 (qe rfl rfl rfl rfl (decide_eq_true (by omega))) rfl ?_; refine zh ?_; refine zj ?_; refine zg ?_; refine qa rfl ?_; refine q9 ?_; refine zj ?_; refine zg ?_; refine qd ?_; refine zg ?_; refine z8 (id := 5) ?_; refine z7 (zf rfl rfl rfl) rfl ?_; refine z7 (zi rfl rfl rfl) rfl ?_; refine zh ?_; refine zj ?_; refine zg ?_; refine z8 (id := 6) ?_; refine z7 (zf rfl rfl rfl) rfl ?_; refine z7 (zf rfl rfl rfl) rfl ?_; refine z7 (yf L rfl rfl rfl rfl rfl (by assumption)) rfl ?_; refine z7 (qe rfl rfl rfl rfl (decide_eq_false (by omega))) rfl ?_; refine z7 (zf rfl rfl rfl) rfl ?_; refine z7 (zf rfl rfl rfl) rfl ?_; refine z7 (zf rfl rfl rfl) rfl ?_; refine z7 (yf L rfl rfl rfl rfl rfl (by assumption)) rfl ?_; refine z7 (ok_gtr rfl rfl rfl rfl (decide_eq_false (by omega))) rfl ?_; refine z7 (zw rfl rfl rfl rfl) rfl ?_; refine z7 (zf rfl rfl rfl) rfl ?_; refine z7 (zn rfl (zm rfl) rfl) rfl ?_; refine z7 (zn rfl (zm rfl) rfl) rfl ?_; refine z7 (zn rfl (zm rfl) rfl) rfl ?_; refine z7 (zn rfl (zm rfl) rfl) rfl ?_; refine z7 (zn rfl (zm rfl) rfl) rfl ?_; refine z7 (zn rfl (zm rfl) rfl) rfl ?_; refine z7 (zn rfl (zm rfl) rfl) rfl ?_; refine z7 (zn rfl (zm rfl) rfl) rfl ?_; refine z7 (zn rfl (zm rfl) rfl) rfl ?_; refine z7 (zn rfl (zm rfl) rfl) rfl ?_; refine z7 (zw rfl rfl rfl rfl) rfl ?_; refine zh ?_; refine zj ?_; refine q8 rfl ?_; refine q9 ?_; refine qr ?_; refine zj ?_; refine z8 (id := 8) ?_; refine z7 (qy rfl rfl rfl rfl (wrap_i64 (by omega) (by omega))) rfl ?_; refine z7 (zf rfl rfl rfl) rfl ?_; refine zh ?_
            refine y7 (k + 1) ⟨hlt, take_all hc (okB_4 a1 a4) hall⟩ (by omega) ⟨rfl, rfl, rfl, trivial⟩
      · refine zg ?_; refine z8 (id := 4) ?_; refine z7 (qe rfl rfl rfl rfl (decide_eq_false (by omega))) rfl ?_; refine zh ?_; refine zj ?_; refine zg ?_; refine q8 rfl ?_; refine yi ?_; refine qu ?_; refine qu ?_; refine yh ?_; refine zj ?_; refine zg ?_; refine z8 (id := 9) ?_; refine z7 (zi rfl rfl rfl) rfl ?_; refine zh ?_; refine zj ?_
        refine qi L (rs := [.tmp 2]) rfl (fun _ _ h => h) Since.refl fun u H hH hle => ?_
        exact congrArg _ (chk_all h1 h2 (all_take (by omega) hall)).symm
    · refine zg ?_; refine z8 (id := 0) ?_; refine z7 (zi rfl rfl rfl) rfl ?_; refine zh ?_; refine zj ?_; refine zg ?_; refine zg ?_; refine z8 (id := 1) ?_; refine z7 (zf rfl rfl rfl) rfl ?_; refine z7 (yg L rfl rfl rfl rfl) rfl ?_; refine z7 (qe rfl rfl rfl rfl (decide_eq_false (by omega))) rfl ?_; refine z7 (zf rfl rfl rfl) rfl ?_; refine z7 (zf rfl rfl rfl) rfl ?_; refine z7 (yg L rfl rfl rfl rfl) rfl ?_; refine z7 (ok_gtr rfl rfl rfl rfl (decide_eq_true (by omega))) rfl ?_; refine z7 (zw rfl rfl rfl rfl) rfl ?_; refine zh ?_; refine zj ?_; refine qa rfl ?_; refine zg ?_; refine z8 (id := 2) ?_; refine z7 (zi rfl rfl rfl) rfl ?_; refine zh ?_; refine zj ?_
      refine qi L (rs := [.tmp 2]) rfl (fun _ _ h => h) Since.refl fun u H hH hle => ?_
      exact congrArg _ (chk_bad (by omega)).symm
  · refine zg ?_; refine z8 (id := 0) ?_; refine z7 (zi rfl rfl rfl) rfl ?_; refine zh ?_; refine zj ?_; refine zg ?_; refine zg ?_; refine z8 (id := 1) ?_; refine z7 (zf rfl rfl rfl) rfl ?_; refine z7 (yg L rfl rfl rfl rfl) rfl ?_; refine z7 (qe rfl rfl rfl rfl (decide_eq_true (by omega))) rfl ?_; refine z7 (zf rfl rfl rfl) rfl ?_; refine z7 (zn rfl (zm rfl) rfl) rfl ?_; refine z7 (zn rfl (zm rfl) rfl) rfl ?_; refine z7 (zn rfl (zm rfl) rfl) rfl ?_; refine z7 (zw rfl rfl rfl rfl) rfl ?_; refine zh ?_; refine zj ?_; refine qa rfl ?_; refine zg ?_; refine z8 (id := 2) ?_; refine z7 (zi rfl rfl rfl) rfl ?_; refine zh ?_; refine zj ?_
    refine qi L (rs := [.tmp 2]) rfl (fun _ _ h => h) Since.refl fun u H hH hle => ?_
    exact congrArg _ (chk_bad (by omega)).symm
end Go.V
namespace Go.V
open Go.Proofs Go.RowKit
attribute [local irreducible] V N X VO Par StepOK Has Ret RetL Src
def allE : List ByteArray → Int
  | [] => 0
  | s :: l => if chk s = 0 then allE l else chk s
theorem allE_snoc : ∀ (l : List ByteArray) (s : ByteArray), allE l = 0 → allE (l ++ [s]) = chk s
  | [], s, _ => by simp only [List.nil_append, allE]; split <;> simp_all
  | x :: l, s, h => by
    simp only [List.cons_append, allE] at h ⊢
    by_cases hx : chk x = 0
    · rw [if_pos hx] at h ⊢; exact allE_snoc l s h
    · rw [if_neg hx] at h; exact absurd h hx
theorem allE_bad : ∀ (l : List ByteArray) (k : Nat) (s : ByteArray), allE (l.take k) = 0 → l[k]? = some s → chk s ≠ 0 → allE l = chk s
  | [], k, s, _, h, _ => by simp at h
  | x :: l, 0, s, _, h, hc => by simp at h; subst h; simp [allE, hc]
  | x :: l, k + 1, s, ha, h, hc => by
    simp only [List.take_succ_cons, allE] at ha
    simp only [List.getElem?_cons_succ] at h
    by_cases hx : chk x = 0
    · rw [if_pos hx] at ha
      simp only [allE, if_pos hx]
      exact allE_bad l k s ha h hc
    · rw [if_neg hx] at ha; exact absurd ha hx
set_option maxHeartbeats 400000 in
theorem all_gen (l : List ByteArray) (hl : ∀ s ∈ l, s.size ≤ 9223372036854775807) (hlen : l.length ≤ 1000) {e : TypeId} {fu : Bool} {v : Value} {w : World} {B : Heap} (hB : B.Le (hp w)) (hv : SlV e 1 (l.map Value.string) l.length fu v B) :
    Ret Tryz.prog 93 [v] w B (fun v _ => v = .int .i64 (allE l)) := by
  refine qx Tryz.func93 rfl Tryz.ntmps93 (Nat.le_of_ble_eq_true rfl) hB ?_
  refine V_seen 0 (SlV e 1 (l.map Value.string) l.length fu) rfl SlV.mono hv ?_
  refine zg ?_; refine z8 (id := 0) ?_; refine z7 (zi rfl rfl rfl) rfl ?_; refine zh ?_; refine zj ?_; refine zg ?_; refine zg ?_; refine z8 (id := 1) ?_; refine z7 (q7 rfl rfl rfl) rfl ?_; refine z7 (yc L rfl rfl rfl rfl) rfl ?_; refine z7 (zf rfl rfl rfl) rfl ?_; refine zh ?_; refine zj ?_; refine qd ?_
  refine V_loop (fun k : Nat => [(6, .sat (SlV e 1 (l.map Value.string) l.length fu)), (7, .is (.int .i64 l.length)), (8, .is (.int .i64 k))])
    (fun k => k ≤ l.length ∧ allE (l.take k) = 0) (fun k => l.length - k) 0 ⟨Nat.zero_le _, by simp [allE]⟩ ⟨rfl, rfl, rfl, trivial⟩ ?_
  rintro k ⟨hk, hall⟩
  by_cases hlt : k < l.length
  · have hs : l[k]? = some l[k] := List.getElem?_eq_getElem hlt
    generalize l[k] = s at hs
    have hsz : s.size ≤ 9223372036854775807 := hl s (List.mem_of_getElem? hs)
    have hc := str_at hs
    by_cases h0 : chk s = 0
    · refine zg ?_; refine z8 (id := 2) ?_; refine z7 (qe rfl rfl rfl rfl (decide_eq_true (by omega))) rfl ?_; refine zh ?_; refine zj ?_; refine zg ?_; refine qa rfl ?_; refine q9 ?_; refine zj ?_; refine zg ?_; refine qd ?_; refine zg ?_; refine z8 (id := 3) ?_; refine z7 (qo L _ rfl rfl rfl rfl rfl rfl rfl (by first | omega | decide) (by assumption)) rfl ?_; refine z7 (ok_loadP1 L rfl rfl rfl rfl rfl) rfl ?_; refine z7 (zi rfl rfl rfl) rfl ?_; refine zh ?_; refine zj ?_; refine zg ?_; refine z8 (id := 4) ?_; refine z7 (zf rfl rfl rfl) rfl ?_; refine z7 (q6 L rfl rfl (zm rfl) rfl rfl rfl (fun u H hH _ _ => check_ret _ (by first | omega | decide) hH)) rfl ?_; refine z7 (zi rfl rfl rfl) rfl ?_; refine zh ?_; refine zj ?_; refine zg ?_; refine z8 (id := 5) ?_; refine z7 (zf rfl rfl rfl) rfl ?_; refine z7 (yb rfl rfl rfl rfl (decide_eq_false (by omega))) rfl ?_; refine zh ?_; refine zj ?_; refine q8 rfl ?_; refine q9 ?_; refine qr ?_; refine zj ?_; refine z8 (id := 7) ?_; refine z7 (qy rfl rfl rfl rfl (wrap_i64 (by omega) (by omega))) rfl ?_; refine z7 (zf rfl rfl rfl) rfl ?_; refine zh ?_
      refine y7 (k + 1) ⟨hlt, ?_⟩ (by omega) ⟨rfl, rfl, rfl, trivial⟩
      rw [List.take_add_one, hs]
      show allE (l.take k ++ [s]) = 0
      rw [allE_snoc _ _ hall, h0]
    · refine zg ?_; refine z8 (id := 2) ?_; refine z7 (qe rfl rfl rfl rfl (decide_eq_true (by omega))) rfl ?_; refine zh ?_; refine zj ?_; refine zg ?_; refine qa rfl ?_; refine q9 ?_; refine zj ?_; refine zg ?_; refine qd ?_; refine zg ?_; refine z8 (id := 3) ?_; refine z7 (qo L _ rfl rfl rfl rfl rfl rfl rfl (by first | omega | decide) (by assumption)) rfl ?_; refine z7 (ok_loadP1 L rfl rfl rfl rfl rfl) rfl ?_; refine z7 (zi rfl rfl rfl) rfl ?_; refine zh ?_; refine zj ?_; refine zg ?_; refine z8 (id := 4) ?_; refine z7 (zf rfl rfl rfl) rfl ?_; refine z7 (q6 L rfl rfl (zm rfl) rfl rfl rfl (fun u H hH _ _ => check_ret _ (by first | omega | decide) hH)) rfl ?_; refine z7 (zi rfl rfl rfl) rfl ?_; refine zh ?_; refine zj ?_; refine zg ?_; refine z8 (id := 5) ?_; refine z7 (zf rfl rfl rfl) rfl ?_; refine z7 (yb rfl rfl rfl rfl (decide_eq_true (by omega))) rfl ?_; refine zh ?_; refine zj ?_; refine qa rfl ?_; refine zg ?_; refine z8 (id := 6) ?_; refine z7 (zf rfl rfl rfl) rfl ?_; refine z7 (zi rfl rfl rfl) rfl ?_; refine zh ?_; refine zj ?_
      refine qi L (rs := [.tmp 2]) rfl (fun _ _ h => h) Since.refl fun u H hH hle => ?_
      exact congrArg _ (allE_bad l k s hall hs h0).symm
  · refine zg ?_; refine z8 (id := 2) ?_; refine z7 (qe rfl rfl rfl rfl (decide_eq_false (by omega))) rfl ?_; refine zh ?_; refine zj ?_; refine zg ?_; refine q8 rfl ?_; refine yi ?_; refine qu ?_; refine qu ?_; refine yh ?_; refine zj ?_; refine zg ?_; refine z8 (id := 8) ?_; refine z7 (zi rfl rfl rfl) rfl ?_; refine zh ?_; refine zj ?_
    refine qi L (rs := [.tmp 2]) rfl (fun _ _ h => h) Since.refl fun u H hH hle => ?_
    have : l.take k = l := List.take_of_length_le (by omega)
    exact congrArg _ (this ▸ hall).symm
end Go.V
namespace Go.Proofs
open Go.Shelf
def Tryz.lays213_ren : Go.Shelf.Ren := ⟨fun | 213 => 114 | 265 => 125 | n => n, fun | 9 => 9 | 3 => 3 | n => n, fun | n => n⟩
theorem Tryz.lays213 : Go.Proofs.Lays.n213 Tryz.prog Tryz.lays213_ren := {
  mixed := by kernel_rfl
  f213 := Tryz.func114.trans (congrArg some (by kernel_rfl))
  f265 := Tryz.func125.trans (congrArg some (by kernel_rfl))
  t3 := Tryz.underlying3
  a3 := Tryz.isAgg3
  z3 := Tryz.sizeOf3
  v3 := Tryz.zeroValue3
  t9 := Tryz.underlying9
  a9 := Tryz.isAgg9
  z9 := Tryz.sizeOf9
  v9 := Tryz.zeroValue9 }
open Go.RowKit in
theorem Tryz.bytealg_CompareString (a b : ByteArray) (w : World) :
    Calls Tryz.prog 114 #[.string a, .string b] w fun e w' => e = .returned (.int .i64 (Lib.compareBytes a.data.toList b.data.toList)) ∧ w' = w := Any.bytealg_CompareString Tryz.lays213 a b w
def Tryz.lays106_ren : Go.Shelf.Ren := ⟨fun | 106 => 97 | 213 => 114 | 265 => 125 | n => n, fun | 9 => 9 | 3 => 3 | n => n, fun | n => n⟩
theorem Tryz.lays106 : Go.Proofs.Lays.n106 Tryz.prog Tryz.lays106_ren := {
  mixed := by kernel_rfl
  f106 := Tryz.func97.trans (congrArg some (by kernel_rfl))
  f213 := Tryz.func114.trans (congrArg some (by kernel_rfl))
  f265 := Tryz.func125.trans (congrArg some (by kernel_rfl))
  t3 := Tryz.underlying3
  a3 := Tryz.isAgg3
  z3 := Tryz.sizeOf3
  v3 := Tryz.zeroValue3
  t9 := Tryz.underlying9
  a9 := Tryz.isAgg9
  z9 := Tryz.sizeOf9
  v9 := Tryz.zeroValue9 }
open Go.RowKit in
theorem Tryz.strings_Compare (a b : ByteArray) (w : World) :
    Calls Tryz.prog 97 #[.string a, .string b] w fun e w' => e = .returned (.int .i64 (Lib.compareBytes a.data.toList b.data.toList)) ∧ w' = w := Any.strings_Compare Tryz.lays106 a b w
def Tryz.lays137_ren : Go.Shelf.Ren := ⟨fun | 137 => 120 | 217 => 116 | 266 => 126 | n => n, fun | 9 => 9 | 5 => 5 | 3 => 3 | n => n, fun | n => n⟩
theorem Tryz.lays137 : Go.Proofs.Lays.n137 Tryz.prog Tryz.lays137_ren := {
  mixed := by kernel_rfl
  f137 := Tryz.func120.trans (congrArg some (by kernel_rfl))
  f217 := Tryz.func116.trans (congrArg some (by kernel_rfl))
  f266 := Tryz.func126.trans (congrArg some (by kernel_rfl))
  t3 := Tryz.underlying3
  a3 := Tryz.isAgg3
  z3 := Tryz.sizeOf3
  v3 := Tryz.zeroValue3
  t5 := Tryz.underlying5
  a5 := Tryz.isAgg5
  z5 := Tryz.sizeOf5
  v5 := Tryz.zeroValue5
  t9 := Tryz.underlying9
  a9 := Tryz.isAgg9
  z9 := Tryz.sizeOf9
  v9 := Tryz.zeroValue9 }
open Go.RowKit in
theorem Tryz.strings_IndexByte (s : ByteArray) (c : Int) (w : World) :
    Calls Tryz.prog 120 #[.string s, .int .u8 c] w fun e w' => e = .returned (.int .i64 (Lib.indexByte s.data.toList c.toNat.toUInt8)) ∧ w' = w := Any.strings_IndexByte Tryz.lays137 s c w
def Tryz.lays195_ren : Go.Shelf.Ren := ⟨fun | 195 => 122 | n => n, fun | 9 => 9 | 3 => 3 | 0 => 0 | 4 => 4 | n => n, fun | n => n⟩
theorem Tryz.lays195 : Go.Proofs.Lays.n195 Tryz.prog Tryz.lays195_ren := {
  mixed := by kernel_rfl
  f195 := Tryz.func122.trans (congrArg some (by kernel_rfl))
  t0 := Tryz.underlying0
  a0 := Tryz.isAgg0
  z0 := Tryz.sizeOf0
  v0 := Tryz.zeroValue0
  t3 := Tryz.underlying3
  a3 := Tryz.isAgg3
  z3 := Tryz.sizeOf3
  v3 := Tryz.zeroValue3
  t4 := Tryz.underlying4
  a4 := Tryz.isAgg4
  z4 := Tryz.sizeOf4
  v4 := Tryz.zeroValue4
  t9 := Tryz.underlying9
  a9 := Tryz.isAgg9
  z9 := Tryz.sizeOf9
  v9 := Tryz.zeroValue9 }
open Go.RowKit in
theorem Tryz.utf8_RuneCountInString (s : ByteArray) (w : World) (hs : s.size < 9223372036854775807) :
    Calls Tryz.prog 122 #[.string s] w fun e w' => e = .returned (.int .i64 (Lib.runeCount s)) ∧ ∃ pos, w' = w.iter s pos := Any.utf8_RuneCountInString Tryz.lays195 s w hs
def Tryz.lays217_ren : Go.Shelf.Ren := ⟨fun | 217 => 116 | 266 => 126 | n => n, fun | 9 => 9 | 5 => 5 | 3 => 3 | n => n, fun | n => n⟩
theorem Tryz.lays217 : Go.Proofs.Lays.n217 Tryz.prog Tryz.lays217_ren := {
  mixed := by kernel_rfl
  f217 := Tryz.func116.trans (congrArg some (by kernel_rfl))
  f266 := Tryz.func126.trans (congrArg some (by kernel_rfl))
  t3 := Tryz.underlying3
  a3 := Tryz.isAgg3
  z3 := Tryz.sizeOf3
  v3 := Tryz.zeroValue3
  t5 := Tryz.underlying5
  a5 := Tryz.isAgg5
  z5 := Tryz.sizeOf5
  v5 := Tryz.zeroValue5
  t9 := Tryz.underlying9
  a9 := Tryz.isAgg9
  z9 := Tryz.sizeOf9
  v9 := Tryz.zeroValue9 }
open Go.RowKit Go.Lib in
theorem Tryz.stringslite_IndexByte (s : ByteArray) (c : Int) (w : World) :
    Calls Tryz.prog 116 #[.string s, .int .u8 c] w fun e w' => e = .returned (.int .i64 (Lib.indexByte s.data.toList c.toNat.toUInt8)) ∧ w' = w := Any.stringslite_IndexByte Tryz.lays217 s c w
def Tryz.lays224_ren : Go.Shelf.Ren := ⟨fun | 224 => 118 | n => n, fun | 3 => 3 | n => n, fun | n => n⟩
theorem Tryz.lays224 : Go.Proofs.Lays.n224 Tryz.prog Tryz.lays224_ren := {
  mixed := by kernel_rfl
  f224 := Tryz.func118.trans (congrArg some (by kernel_rfl))
  t3 := Tryz.underlying3
  a3 := Tryz.isAgg3
  z3 := Tryz.sizeOf3
  v3 := Tryz.zeroValue3 }
open Go.RowKit Go.Lib in
theorem Tryz.bytealg_Cutover (n : Int) (h0 : 0 ≤ n) (h1 : n < 4611686018427387904) (w : World) :
    Calls Tryz.prog 118 #[.int .i64 n] w fun e w' => e = .returned (.int .i64 ((n + 16) / 8)) ∧ w' = w := Any.bytealg_Cutover Tryz.lays224 n h0 h1 w
def Tryz.lays314_ren : Go.Shelf.Ren := ⟨fun | 314 => 127 | n => n, fun | 9 => 9 | 51 => 173 | 3 => 3 | 4 => 4 | 5 => 5 | 46 => 170 | n => n, fun | n => n⟩
theorem Tryz.lays314 : Go.Proofs.Lays.n314 Tryz.prog Tryz.lays314_ren := {
  mixed := by kernel_rfl
  f314 := Tryz.func127.trans (congrArg some (by kernel_rfl))
  t3 := Tryz.underlying3
  a3 := Tryz.isAgg3
  z3 := Tryz.sizeOf3
  v3 := Tryz.zeroValue3
  t4 := Tryz.underlying4
  a4 := Tryz.isAgg4
  z4 := Tryz.sizeOf4
  v4 := Tryz.zeroValue4
  t5 := Tryz.underlying5
  a5 := Tryz.isAgg5
  z5 := Tryz.sizeOf5
  v5 := Tryz.zeroValue5
  t9 := Tryz.underlying9
  a9 := Tryz.isAgg9
  z9 := Tryz.sizeOf9
  v9 := Tryz.zeroValue9
  t46 := Tryz.underlying170
  a46 := Tryz.isAgg170
  z46 := Tryz.sizeOf170
  v46 := Tryz.zeroValue170
  t51 := Tryz.underlying173
  a51 := Tryz.isAgg173
  z51 := Tryz.sizeOf173
  v51 := Tryz.zeroValue173 }
open Go.RowKit Go.Lib in
theorem Tryz.bytealg_hashStr (sep : ByteArray) (hs : sep.size < 4294967281) (w : World) :
    Calls Tryz.prog 127 #[.string sep] w fun e w' => e = .returned (.tuple #[.int .u32 (RK.H sep.data.toList % 4294967296), .int .u32 (16777619 ^ sep.size % 4294967296)]) ∧ w' = w := Any.bytealg_hashStr Tryz.lays314 sep hs w
def Tryz.lays267_ren : Go.Shelf.Ren := ⟨fun | 267 => 119 | 314 => 127 | n => n, fun | 9 => 9 | 3 => 3 | 146 => 174 | 51 => 173 | 4 => 4 | 5 => 5 | 46 => 170 | n => n, fun | n => n⟩
theorem Tryz.lays267 : Go.Proofs.Lays.n267 Tryz.prog Tryz.lays267_ren := {
  mixed := by kernel_rfl
  f267 := Tryz.func119.trans (congrArg some (by kernel_rfl))
  f314 := Tryz.func127.trans (congrArg some (by kernel_rfl))
  t3 := Tryz.underlying3
  a3 := Tryz.isAgg3
  z3 := Tryz.sizeOf3
  v3 := Tryz.zeroValue3
  t4 := Tryz.underlying4
  a4 := Tryz.isAgg4
  z4 := Tryz.sizeOf4
  v4 := Tryz.zeroValue4
  t5 := Tryz.underlying5
  a5 := Tryz.isAgg5
  z5 := Tryz.sizeOf5
  v5 := Tryz.zeroValue5
  t9 := Tryz.underlying9
  a9 := Tryz.isAgg9
  z9 := Tryz.sizeOf9
  v9 := Tryz.zeroValue9
  t46 := Tryz.underlying170
  a46 := Tryz.isAgg170
  z46 := Tryz.sizeOf170
  v46 := Tryz.zeroValue170
  t51 := Tryz.underlying173
  a51 := Tryz.isAgg173
  z51 := Tryz.sizeOf173
  v51 := Tryz.zeroValue173
  t146 := Tryz.underlying174
  a146 := Tryz.isAgg174
  z146 := Tryz.sizeOf174
  v146 := Tryz.zeroValue174 }
open Go.RowKit Go.Lib in
theorem Tryz.bytealg_IndexRabinKarp (s sep : ByteArray) (h1 : 1 ≤ sep.size) (h2 : sep.size ≤ s.size) (hs : s.size < 4294967281) (w : World) :
    Calls Tryz.prog 119 #[.string s, .string sep] w fun e w' => e = .returned (.int .i64 (Lib.index s.data.toList sep.data.toList)) ∧ w' = w := Any.bytealg_IndexRabinKarp Tryz.lays267 s sep h1 h2 hs w
def Tryz.lays219_ren : Go.Shelf.Ren := ⟨fun | 219 => 104 | 217 => 116 | 225 => 117 | 224 => 118 | 267 => 119 | 266 => 126 | 314 => 127 | n => n, fun | 9 => 9 | 3 => 3 | 4 => 4 | 5 => 5 | 46 => 170 | 146 => 174 | 51 => 173 | n => n, fun | 1 => 0 | n => n⟩
theorem Tryz.lays219 : Go.Proofs.Lays.n219 Tryz.prog Tryz.lays219_ren := {
  mixed := by kernel_rfl
  f217 := Tryz.func116.trans (congrArg some (by kernel_rfl))
  f219 := Tryz.func104.trans (congrArg some (by kernel_rfl))
  f224 := Tryz.func118.trans (congrArg some (by kernel_rfl))
  f225 := Tryz.func117.trans (congrArg some (by kernel_rfl))
  f266 := Tryz.func126.trans (congrArg some (by kernel_rfl))
  f267 := Tryz.func119.trans (congrArg some (by kernel_rfl))
  f314 := Tryz.func127.trans (congrArg some (by kernel_rfl))
  t3 := Tryz.underlying3
  a3 := Tryz.isAgg3
  z3 := Tryz.sizeOf3
  v3 := Tryz.zeroValue3
  t4 := Tryz.underlying4
  a4 := Tryz.isAgg4
  z4 := Tryz.sizeOf4
  v4 := Tryz.zeroValue4
  t5 := Tryz.underlying5
  a5 := Tryz.isAgg5
  z5 := Tryz.sizeOf5
  v5 := Tryz.zeroValue5
  t9 := Tryz.underlying9
  a9 := Tryz.isAgg9
  z9 := Tryz.sizeOf9
  v9 := Tryz.zeroValue9
  t46 := Tryz.underlying170
  a46 := Tryz.isAgg170
  z46 := Tryz.sizeOf170
  v46 := Tryz.zeroValue170
  t51 := Tryz.underlying173
  a51 := Tryz.isAgg173
  z51 := Tryz.sizeOf173
  v51 := Tryz.zeroValue173
  t146 := Tryz.underlying174
  a146 := Tryz.isAgg174
  z146 := Tryz.sizeOf174
  v146 := Tryz.zeroValue174
  g1 := by kernel_rfl }
open Go.RowKit Go.Lib in
theorem Tryz.stringslite_Index_one (s : ByteArray) (c : UInt8) (w : World) :
    Calls Tryz.prog 104 #[.string s, .string ⟨#[c]⟩] w fun e w' => e = .returned (.int .i64 (Lib.indexByte s.data.toList c)) ∧ w' = w := Any.stringslite_Index_one Tryz.lays219 s c w
open Go.RowKit Go.Lib in
theorem Tryz.stringslite_Index (s sub : ByteArray) (m : Int) (w : World) (hs : s.size < 4294967281) (hm : w.cell? ⟨0, 0, none⟩ = some (.int .i64 m)) :
    Calls Tryz.prog 104 #[.string s, .string sub] w fun e w' => e = .returned (.int .i64 (Lib.index s.data.toList sub.data.toList)) ∧ w' = w := Any.stringslite_Index Tryz.lays219 s sub m w hs hm
def Tryz.lays143_ren : Go.Shelf.Ren := ⟨fun | 143 => 90 | 219 => 104 | 217 => 116 | 225 => 117 | 224 => 118 | 267 => 119 | 266 => 126 | 314 => 127 | n => n, fun | 9 => 9 | 3 => 3 | 4 => 4 | 5 => 5 | 46 => 170 | 146 => 174 | 51 => 173 | n => n, fun | 1 => 0 | n => n⟩
theorem Tryz.lays143 : Go.Proofs.Lays.n143 Tryz.prog Tryz.lays143_ren := {
  mixed := by kernel_rfl
  f143 := Tryz.func90.trans (congrArg some (by kernel_rfl))
  f217 := Tryz.func116.trans (congrArg some (by kernel_rfl))
  f219 := Tryz.func104.trans (congrArg some (by kernel_rfl))
  f224 := Tryz.func118.trans (congrArg some (by kernel_rfl))
  f225 := Tryz.func117.trans (congrArg some (by kernel_rfl))
  f266 := Tryz.func126.trans (congrArg some (by kernel_rfl))
  f267 := Tryz.func119.trans (congrArg some (by kernel_rfl))
  f314 := Tryz.func127.trans (congrArg some (by kernel_rfl))
  t3 := Tryz.underlying3
  a3 := Tryz.isAgg3
  z3 := Tryz.sizeOf3
  v3 := Tryz.zeroValue3
  t4 := Tryz.underlying4
  a4 := Tryz.isAgg4
  z4 := Tryz.sizeOf4
  v4 := Tryz.zeroValue4
  t5 := Tryz.underlying5
  a5 := Tryz.isAgg5
  z5 := Tryz.sizeOf5
  v5 := Tryz.zeroValue5
  t9 := Tryz.underlying9
  a9 := Tryz.isAgg9
  z9 := Tryz.sizeOf9
  v9 := Tryz.zeroValue9
  t46 := Tryz.underlying170
  a46 := Tryz.isAgg170
  z46 := Tryz.sizeOf170
  v46 := Tryz.zeroValue170
  t51 := Tryz.underlying173
  a51 := Tryz.isAgg173
  z51 := Tryz.sizeOf173
  v51 := Tryz.zeroValue173
  t146 := Tryz.underlying174
  a146 := Tryz.isAgg174
  z146 := Tryz.sizeOf174
  v146 := Tryz.zeroValue174
  g1 := by kernel_rfl }
open Go.RowKit Go.Lib in
theorem Tryz.strings_Index_one (s : ByteArray) (c : UInt8) (w : World) :
    Calls Tryz.prog 90 #[.string s, .string ⟨#[c]⟩] w fun e w' => e = .returned (.int .i64 (Lib.indexByte s.data.toList c)) ∧ w' = w := Any.strings_Index_one Tryz.lays143 s c w
open Go.RowKit Go.Lib in
theorem Tryz.strings_Index (s sub : ByteArray) (m : Int) (w : World) (hs : s.size < 4294967281) (hm : w.cell? ⟨0, 0, none⟩ = some (.int .i64 m)) :
    Calls Tryz.prog 90 #[.string s, .string sub] w fun e w' => e = .returned (.int .i64 (Lib.index s.data.toList sub.data.toList)) ∧ w' = w := Any.strings_Index Tryz.lays143 s sub m w hs hm
def Tryz.lays144_ren : Go.Shelf.Ren := ⟨fun | 144 => 71 | 143 => 90 | 219 => 104 | 217 => 116 | 225 => 117 | 224 => 118 | 267 => 119 | 266 => 126 | 314 => 127 | n => n, fun | 9 => 9 | 4 => 4 | 3 => 3 | 5 => 5 | 46 => 170 | 146 => 174 | 51 => 173 | n => n, fun | 1 => 0 | n => n⟩
theorem Tryz.lays144 : Go.Proofs.Lays.n144 Tryz.prog Tryz.lays144_ren := {
  mixed := by kernel_rfl
  f143 := Tryz.func90.trans (congrArg some (by kernel_rfl))
  f144 := Tryz.func71.trans (congrArg some (by kernel_rfl))
  f217 := Tryz.func116.trans (congrArg some (by kernel_rfl))
  f219 := Tryz.func104.trans (congrArg some (by kernel_rfl))
  f224 := Tryz.func118.trans (congrArg some (by kernel_rfl))
  f225 := Tryz.func117.trans (congrArg some (by kernel_rfl))
  f266 := Tryz.func126.trans (congrArg some (by kernel_rfl))
  f267 := Tryz.func119.trans (congrArg some (by kernel_rfl))
  f314 := Tryz.func127.trans (congrArg some (by kernel_rfl))
  t3 := Tryz.underlying3
  a3 := Tryz.isAgg3
  z3 := Tryz.sizeOf3
  v3 := Tryz.zeroValue3
  t4 := Tryz.underlying4
  a4 := Tryz.isAgg4
  z4 := Tryz.sizeOf4
  v4 := Tryz.zeroValue4
  t5 := Tryz.underlying5
  a5 := Tryz.isAgg5
  z5 := Tryz.sizeOf5
  v5 := Tryz.zeroValue5
  t9 := Tryz.underlying9
  a9 := Tryz.isAgg9
  z9 := Tryz.sizeOf9
  v9 := Tryz.zeroValue9
  t46 := Tryz.underlying170
  a46 := Tryz.isAgg170
  z46 := Tryz.sizeOf170
  v46 := Tryz.zeroValue170
  t51 := Tryz.underlying173
  a51 := Tryz.isAgg173
  z51 := Tryz.sizeOf173
  v51 := Tryz.zeroValue173
  t146 := Tryz.underlying174
  a146 := Tryz.isAgg174
  z146 := Tryz.sizeOf174
  v146 := Tryz.zeroValue174
  g1 := by kernel_rfl }
open Go.RowKit Go.Lib in
theorem Tryz.strings_Contains_one (s : ByteArray) (c : UInt8) (w : World) :
    Calls Tryz.prog 71 #[.string s, .string ⟨#[c]⟩] w fun e w' => e = .returned (.bool (decide (0 ≤ Lib.indexByte s.data.toList c))) ∧ w' = w := Any.strings_Contains_one Tryz.lays144 s c w
open Go.RowKit Go.Lib in
theorem Tryz.strings_Contains (s sub : ByteArray) (m : Int) (w : World) (hs : s.size < 4294967281) (hm : w.cell? ⟨0, 0, none⟩ = some (.int .i64 m)) :
    Calls Tryz.prog 71 #[.string s, .string sub] w fun e w' => e = .returned (.bool (Lib.contains s.data.toList sub.data.toList)) ∧ w' = w := Any.strings_Contains Tryz.lays144 s sub m w hs hm
def Tryz.lays220_ren : Go.Shelf.Ren := ⟨fun | 220 => 89 | 219 => 104 | 217 => 116 | 225 => 117 | 224 => 118 | 267 => 119 | 266 => 126 | 314 => 127 | n => n, fun | 9 => 9 | 4 => 4 | 3 => 3 | 5 => 5 | 46 => 170 | 146 => 174 | 51 => 173 | n => n, fun | 1 => 0 | n => n⟩
theorem Tryz.lays220 : Go.Proofs.Lays.n220 Tryz.prog Tryz.lays220_ren := {
  mixed := by kernel_rfl
  f217 := Tryz.func116.trans (congrArg some (by kernel_rfl))
  f219 := Tryz.func104.trans (congrArg some (by kernel_rfl))
  f220 := Tryz.func89.trans (congrArg some (by kernel_rfl))
  f224 := Tryz.func118.trans (congrArg some (by kernel_rfl))
  f225 := Tryz.func117.trans (congrArg some (by kernel_rfl))
  f266 := Tryz.func126.trans (congrArg some (by kernel_rfl))
  f267 := Tryz.func119.trans (congrArg some (by kernel_rfl))
  f314 := Tryz.func127.trans (congrArg some (by kernel_rfl))
  t3 := Tryz.underlying3
  a3 := Tryz.isAgg3
  z3 := Tryz.sizeOf3
  v3 := Tryz.zeroValue3
  t4 := Tryz.underlying4
  a4 := Tryz.isAgg4
  z4 := Tryz.sizeOf4
  v4 := Tryz.zeroValue4
  t5 := Tryz.underlying5
  a5 := Tryz.isAgg5
  z5 := Tryz.sizeOf5
  v5 := Tryz.zeroValue5
  t9 := Tryz.underlying9
  a9 := Tryz.isAgg9
  z9 := Tryz.sizeOf9
  v9 := Tryz.zeroValue9
  t46 := Tryz.underlying170
  a46 := Tryz.isAgg170
  z46 := Tryz.sizeOf170
  v46 := Tryz.zeroValue170
  t51 := Tryz.underlying173
  a51 := Tryz.isAgg173
  z51 := Tryz.sizeOf173
  v51 := Tryz.zeroValue173
  t146 := Tryz.underlying174
  a146 := Tryz.isAgg174
  z146 := Tryz.sizeOf174
  v146 := Tryz.zeroValue174
  g1 := by kernel_rfl }
open Go.RowKit Go.Lib in
theorem Tryz.stringslite_Cut (s sep : ByteArray) (m : Int) (w : World) (hs : s.size < 4294967281) (hm : w.cell? ⟨0, 0, none⟩ = some (.int .i64 m)) :
    Calls Tryz.prog 89 #[.string s, .string sep] w fun e w' => e = .returned (.tuple #[.string ⟨(Lib.cut s.data.toList sep.data.toList).1.toArray⟩, .string ⟨(Lib.cut s.data.toList sep.data.toList).2.1.toArray⟩, .bool (Lib.cut s.data.toList sep.data.toList).2.2]) ∧ ∃ n, w' = w.drewN n := Any.stringslite_Cut Tryz.lays220 s sep m w hs hm
def Tryz.lays145_ren : Go.Shelf.Ren := ⟨fun | 145 => 70 | 220 => 89 | 219 => 104 | 217 => 116 | 225 => 117 | 224 => 118 | 267 => 119 | 266 => 126 | 314 => 127 | n => n, fun | 9 => 9 | 4 => 4 | 59 => 119 | 3 => 3 | 5 => 5 | 46 => 170 | 146 => 174 | 51 => 173 | n => n, fun | 1 => 0 | n => n⟩
theorem Tryz.lays145 : Go.Proofs.Lays.n145 Tryz.prog Tryz.lays145_ren := {
  mixed := by kernel_rfl
  f145 := Tryz.func70.trans (congrArg some (by kernel_rfl))
  f217 := Tryz.func116.trans (congrArg some (by kernel_rfl))
  f219 := Tryz.func104.trans (congrArg some (by kernel_rfl))
  f220 := Tryz.func89.trans (congrArg some (by kernel_rfl))
  f224 := Tryz.func118.trans (congrArg some (by kernel_rfl))
  f225 := Tryz.func117.trans (congrArg some (by kernel_rfl))
  f266 := Tryz.func126.trans (congrArg some (by kernel_rfl))
  f267 := Tryz.func119.trans (congrArg some (by kernel_rfl))
  f314 := Tryz.func127.trans (congrArg some (by kernel_rfl))
  t3 := Tryz.underlying3
  a3 := Tryz.isAgg3
  z3 := Tryz.sizeOf3
  v3 := Tryz.zeroValue3
  t4 := Tryz.underlying4
  a4 := Tryz.isAgg4
  z4 := Tryz.sizeOf4
  v4 := Tryz.zeroValue4
  t5 := Tryz.underlying5
  a5 := Tryz.isAgg5
  z5 := Tryz.sizeOf5
  v5 := Tryz.zeroValue5
  t9 := Tryz.underlying9
  a9 := Tryz.isAgg9
  z9 := Tryz.sizeOf9
  v9 := Tryz.zeroValue9
  t46 := Tryz.underlying170
  a46 := Tryz.isAgg170
  z46 := Tryz.sizeOf170
  v46 := Tryz.zeroValue170
  t51 := Tryz.underlying173
  a51 := Tryz.isAgg173
  z51 := Tryz.sizeOf173
  v51 := Tryz.zeroValue173
  t59 := Tryz.underlying119
  a59 := Tryz.isAgg119
  z59 := Tryz.sizeOf119
  v59 := Tryz.zeroValue119
  t146 := Tryz.underlying174
  a146 := Tryz.isAgg174
  z146 := Tryz.sizeOf174
  v146 := Tryz.zeroValue174
  g1 := by kernel_rfl }
open Go.RowKit Go.Lib in
theorem Tryz.strings_Cut (s sep : ByteArray) (m : Int) (w : World) (hs : s.size < 4294967281) (hm : w.cell? ⟨0, 0, none⟩ = some (.int .i64 m)) :
    Calls Tryz.prog 70 #[.string s, .string sep] w fun e w' => e = .returned (.tuple #[.string ⟨(Lib.cut s.data.toList sep.data.toList).1.toArray⟩, .string ⟨(Lib.cut s.data.toList sep.data.toList).2.1.toArray⟩, .bool (Lib.cut s.data.toList sep.data.toList).2.2]) ∧ ∃ n, w' = w.drewN n := Any.strings_Cut Tryz.lays145 s sep m w hs hm
def Tryz.lays138_ren : Go.Shelf.Ren := ⟨fun | 138 => 110 | 195 => 122 | 218 => 123 | 143 => 90 | 219 => 104 | 217 => 116 | 225 => 117 | 224 => 118 | 267 => 119 | 266 => 126 | 314 => 127 | n => n, fun | 9 => 9 | 3 => 3 | 4 => 4 | 5 => 5 | 0 => 0 | 46 => 170 | 146 => 174 | 51 => 173 | n => n, fun | 1 => 0 | n => n⟩
theorem Tryz.lays138 : Go.Proofs.Lays.n138 Tryz.prog Tryz.lays138_ren := {
  mixed := by kernel_rfl
  f138 := Tryz.func110.trans (congrArg some (by kernel_rfl))
  f143 := Tryz.func90.trans (congrArg some (by kernel_rfl))
  f195 := Tryz.func122.trans (congrArg some (by kernel_rfl))
  f217 := Tryz.func116.trans (congrArg some (by kernel_rfl))
  f218 := Tryz.func123.trans (congrArg some (by kernel_rfl))
  f219 := Tryz.func104.trans (congrArg some (by kernel_rfl))
  f224 := Tryz.func118.trans (congrArg some (by kernel_rfl))
  f225 := Tryz.func117.trans (congrArg some (by kernel_rfl))
  f266 := Tryz.func126.trans (congrArg some (by kernel_rfl))
  f267 := Tryz.func119.trans (congrArg some (by kernel_rfl))
  f314 := Tryz.func127.trans (congrArg some (by kernel_rfl))
  t0 := Tryz.underlying0
  a0 := Tryz.isAgg0
  z0 := Tryz.sizeOf0
  v0 := Tryz.zeroValue0
  t3 := Tryz.underlying3
  a3 := Tryz.isAgg3
  z3 := Tryz.sizeOf3
  v3 := Tryz.zeroValue3
  t4 := Tryz.underlying4
  a4 := Tryz.isAgg4
  z4 := Tryz.sizeOf4
  v4 := Tryz.zeroValue4
  t5 := Tryz.underlying5
  a5 := Tryz.isAgg5
  z5 := Tryz.sizeOf5
  v5 := Tryz.zeroValue5
  t9 := Tryz.underlying9
  a9 := Tryz.isAgg9
  z9 := Tryz.sizeOf9
  v9 := Tryz.zeroValue9
  t46 := Tryz.underlying170
  a46 := Tryz.isAgg170
  z46 := Tryz.sizeOf170
  v46 := Tryz.zeroValue170
  t51 := Tryz.underlying173
  a51 := Tryz.isAgg173
  z51 := Tryz.sizeOf173
  v51 := Tryz.zeroValue173
  t146 := Tryz.underlying174
  a146 := Tryz.isAgg174
  z146 := Tryz.sizeOf174
  v146 := Tryz.zeroValue174
  g1 := by kernel_rfl }
open Go.RowKit Go.Lib in
theorem Tryz.strings_Count_one (s : ByteArray) (c : UInt8) (w : World) :
    Calls Tryz.prog 110 #[.string s, .string ⟨#[c]⟩] w fun e w' => e = .returned (.int .i64 (Lib.countByte s.data.toList c)) ∧ w' = w := Any.strings_Count_one Tryz.lays138 s c w
open Go.RowKit Go.Lib in
theorem Tryz.strings_Count (s sub : ByteArray) (m : Int) (w : World) (hs : s.size < 4294967281) (hm : w.cell? ⟨0, 0, none⟩ = some (.int .i64 m)) (h2 : 2 ≤ sub.size) :
    Calls Tryz.prog 110 #[.string s, .string sub] w fun e w' => e = .returned (.int .i64 (Lib.countB s sub)) ∧ w' = w := Any.strings_Count Tryz.lays138 s sub m w hs hm h2
def Tryz.laysM219_ren : Go.Shelf.Ren := ⟨fun | 219 => 104 | 217 => 116 | 225 => 117 | 224 => 118 | 267 => 119 | 266 => 126 | 314 => 127 | n => n, fun | 9 => 9 | 3 => 3 | 4 => 4 | 5 => 5 | 46 => 170 | 146 => 174 | 51 => 173 | n => n, fun | 1 => 0 | n => n⟩
theorem Tryz.laysM219 : Go.Proofs.LaysM.n219 Tryz.prog Tryz.laysM219_ren := {
  mixed := by kernel_rfl
  f217 := Tryz.func116.trans (congrArg some (by kernel_rfl))
  f219 := Tryz.func104.trans (congrArg some (by kernel_rfl))
  f224 := Tryz.func118.trans (congrArg some (by kernel_rfl))
  f225 := Tryz.func117.trans (congrArg some (by kernel_rfl))
  f266 := Tryz.func126.trans (congrArg some (by kernel_rfl))
  f267 := Tryz.func119.trans (congrArg some (by kernel_rfl))
  f314 := Tryz.func127.trans (congrArg some (by kernel_rfl))
  t3 := Tryz.underlying3
  a3 := Tryz.isAgg3
  z3 := Tryz.sizeOf3
  v3 := Tryz.zeroValue3
  t4 := Tryz.underlying4
  a4 := Tryz.isAgg4
  z4 := Tryz.sizeOf4
  v4 := Tryz.zeroValue4
  t5 := Tryz.underlying5
  a5 := Tryz.isAgg5
  z5 := Tryz.sizeOf5
  v5 := Tryz.zeroValue5
  t9 := Tryz.underlying9
  a9 := Tryz.isAgg9
  z9 := Tryz.sizeOf9
  v9 := Tryz.zeroValue9
  t46 := Tryz.underlying170
  a46 := Tryz.isAgg170
  z46 := Tryz.sizeOf170
  v46 := Tryz.zeroValue170
  t51 := Tryz.underlying173
  a51 := Tryz.isAgg173
  z51 := Tryz.sizeOf173
  v51 := Tryz.zeroValue173
  t146 := Tryz.underlying174
  a146 := Tryz.isAgg174
  z146 := Tryz.sizeOf174
  v146 := Tryz.zeroValue174
  g1 := by kernel_rfl
  i3 := by kernel_rfl
  i4 := by kernel_rfl
  i5 := by kernel_rfl
  i9 := by kernel_rfl
  i46 := by kernel_rfl
  i51 := by kernel_rfl
  i146 := by kernel_rfl
  m1 := by kernel_rfl
  s1_3 := fun w h => Go.Proofs.cell_of_shapedOpen_int (zero := #[.int .i64 0]) (t := 3) h (of_decide_eq_true (by kernel_rfl)) (by kernel_rfl) rfl (by kernel_rfl) (by kernel_rfl) Tryz.underlying3 }
open Go.RowKit Go.Lib in
theorem Tryz.stringslite_Index_shaped (s sub : ByteArray) (w : World) (h : w.ShapedOpen Tryz.prog) (hs : s.size < 4294967281) :
    Calls Tryz.prog 104 #[.string s, .string sub] w fun e w' => e = .returned (.int .i64 (Lib.index s.data.toList sub.data.toList)) ∧ w' = w := Any.stringslite_Index_shaped Tryz.laysM219 s sub w h hs
def Tryz.laysM143_ren : Go.Shelf.Ren := ⟨fun | 143 => 90 | 219 => 104 | 217 => 116 | 225 => 117 | 224 => 118 | 267 => 119 | 266 => 126 | 314 => 127 | n => n, fun | 9 => 9 | 3 => 3 | 4 => 4 | 5 => 5 | 46 => 170 | 146 => 174 | 51 => 173 | n => n, fun | 1 => 0 | n => n⟩
theorem Tryz.laysM143 : Go.Proofs.LaysM.n143 Tryz.prog Tryz.laysM143_ren := {
  mixed := by kernel_rfl
  f143 := Tryz.func90.trans (congrArg some (by kernel_rfl))
  f217 := Tryz.func116.trans (congrArg some (by kernel_rfl))
  f219 := Tryz.func104.trans (congrArg some (by kernel_rfl))
  f224 := Tryz.func118.trans (congrArg some (by kernel_rfl))
  f225 := Tryz.func117.trans (congrArg some (by kernel_rfl))
  f266 := Tryz.func126.trans (congrArg some (by kernel_rfl))
  f267 := Tryz.func119.trans (congrArg some (by kernel_rfl))
  f314 := Tryz.func127.trans (congrArg some (by kernel_rfl))
  t3 := Tryz.underlying3
  a3 := Tryz.isAgg3
  z3 := Tryz.sizeOf3
  v3 := Tryz.zeroValue3
  t4 := Tryz.underlying4
  a4 := Tryz.isAgg4
  z4 := Tryz.sizeOf4
  v4 := Tryz.zeroValue4
  t5 := Tryz.underlying5
  a5 := Tryz.isAgg5
  z5 := Tryz.sizeOf5
  v5 := Tryz.zeroValue5
  t9 := Tryz.underlying9
  a9 := Tryz.isAgg9
  z9 := Tryz.sizeOf9
  v9 := Tryz.zeroValue9
  t46 := Tryz.underlying170
  a46 := Tryz.isAgg170
  z46 := Tryz.sizeOf170
  v46 := Tryz.zeroValue170
  t51 := Tryz.underlying173
  a51 := Tryz.isAgg173
  z51 := Tryz.sizeOf173
  v51 := Tryz.zeroValue173
  t146 := Tryz.underlying174
  a146 := Tryz.isAgg174
  z146 := Tryz.sizeOf174
  v146 := Tryz.zeroValue174
  g1 := by kernel_rfl
  i3 := by kernel_rfl
  i4 := by kernel_rfl
  i5 := by kernel_rfl
  i9 := by kernel_rfl
  i46 := by kernel_rfl
  i51 := by kernel_rfl
  i146 := by kernel_rfl
  m1 := by kernel_rfl
  s1_3 := fun w h => Go.Proofs.cell_of_shapedOpen_int (zero := #[.int .i64 0]) (t := 3) h (of_decide_eq_true (by kernel_rfl)) (by kernel_rfl) rfl (by kernel_rfl) (by kernel_rfl) Tryz.underlying3 }
open Go.RowKit Go.Lib in
theorem Tryz.strings_Index_shaped (s sub : ByteArray) (w : World) (h : w.ShapedOpen Tryz.prog) (hs : s.size < 4294967281) :
    Calls Tryz.prog 90 #[.string s, .string sub] w fun e w' => e = .returned (.int .i64 (Lib.index s.data.toList sub.data.toList)) ∧ w' = w := Any.strings_Index_shaped Tryz.laysM143 s sub w h hs
def Tryz.laysM144_ren : Go.Shelf.Ren := ⟨fun | 144 => 71 | 143 => 90 | 219 => 104 | 217 => 116 | 225 => 117 | 224 => 118 | 267 => 119 | 266 => 126 | 314 => 127 | n => n, fun | 9 => 9 | 4 => 4 | 3 => 3 | 5 => 5 | 46 => 170 | 146 => 174 | 51 => 173 | n => n, fun | 1 => 0 | n => n⟩
theorem Tryz.laysM144 : Go.Proofs.LaysM.n144 Tryz.prog Tryz.laysM144_ren := {
  mixed := by kernel_rfl
  f143 := Tryz.func90.trans (congrArg some (by kernel_rfl))
  f144 := Tryz.func71.trans (congrArg some (by kernel_rfl))
  f217 := Tryz.func116.trans (congrArg some (by kernel_rfl))
  f219 := Tryz.func104.trans (congrArg some (by kernel_rfl))
  f224 := Tryz.func118.trans (congrArg some (by kernel_rfl))
  f225 := Tryz.func117.trans (congrArg some (by kernel_rfl))
  f266 := Tryz.func126.trans (congrArg some (by kernel_rfl))
  f267 := Tryz.func119.trans (congrArg some (by kernel_rfl))
  f314 := Tryz.func127.trans (congrArg some (by kernel_rfl))
  t3 := Tryz.underlying3
  a3 := Tryz.isAgg3
  z3 := Tryz.sizeOf3
  v3 := Tryz.zeroValue3
  t4 := Tryz.underlying4
  a4 := Tryz.isAgg4
  z4 := Tryz.sizeOf4
  v4 := Tryz.zeroValue4
  t5 := Tryz.underlying5
  a5 := Tryz.isAgg5
  z5 := Tryz.sizeOf5
  v5 := Tryz.zeroValue5
  t9 := Tryz.underlying9
  a9 := Tryz.isAgg9
  z9 := Tryz.sizeOf9
  v9 := Tryz.zeroValue9
  t46 := Tryz.underlying170
  a46 := Tryz.isAgg170
  z46 := Tryz.sizeOf170
  v46 := Tryz.zeroValue170
  t51 := Tryz.underlying173
  a51 := Tryz.isAgg173
  z51 := Tryz.sizeOf173
  v51 := Tryz.zeroValue173
  t146 := Tryz.underlying174
  a146 := Tryz.isAgg174
  z146 := Tryz.sizeOf174
  v146 := Tryz.zeroValue174
  g1 := by kernel_rfl
  i3 := by kernel_rfl
  i4 := by kernel_rfl
  i5 := by kernel_rfl
  i9 := by kernel_rfl
  i46 := by kernel_rfl
  i51 := by kernel_rfl
  i146 := by kernel_rfl
  m1 := by kernel_rfl
  s1_3 := fun w h => Go.Proofs.cell_of_shapedOpen_int (zero := #[.int .i64 0]) (t := 3) h (of_decide_eq_true (by kernel_rfl)) (by kernel_rfl) rfl (by kernel_rfl) (by kernel_rfl) Tryz.underlying3 }
open Go.RowKit Go.Lib in
theorem Tryz.strings_Contains_shaped (s sub : ByteArray) (w : World) (h : w.ShapedOpen Tryz.prog) (hs : s.size < 4294967281) :
    Calls Tryz.prog 71 #[.string s, .string sub] w fun e w' => e = .returned (.bool (Lib.contains s.data.toList sub.data.toList)) ∧ w' = w := Any.strings_Contains_shaped Tryz.laysM144 s sub w h hs
def Tryz.laysM220_ren : Go.Shelf.Ren := ⟨fun | 220 => 89 | 219 => 104 | 217 => 116 | 225 => 117 | 224 => 118 | 267 => 119 | 266 => 126 | 314 => 127 | n => n, fun | 9 => 9 | 4 => 4 | 3 => 3 | 5 => 5 | 46 => 170 | 146 => 174 | 51 => 173 | n => n, fun | 1 => 0 | n => n⟩
theorem Tryz.laysM220 : Go.Proofs.LaysM.n220 Tryz.prog Tryz.laysM220_ren := {
  mixed := by kernel_rfl
  f217 := Tryz.func116.trans (congrArg some (by kernel_rfl))
  f219 := Tryz.func104.trans (congrArg some (by kernel_rfl))
  f220 := Tryz.func89.trans (congrArg some (by kernel_rfl))
  f224 := Tryz.func118.trans (congrArg some (by kernel_rfl))
  f225 := Tryz.func117.trans (congrArg some (by kernel_rfl))
  f266 := Tryz.func126.trans (congrArg some (by kernel_rfl))
  f267 := Tryz.func119.trans (congrArg some (by kernel_rfl))
  f314 := Tryz.func127.trans (congrArg some (by kernel_rfl))
  t3 := Tryz.underlying3
  a3 := Tryz.isAgg3
  z3 := Tryz.sizeOf3
  v3 := Tryz.zeroValue3
  t4 := Tryz.underlying4
  a4 := Tryz.isAgg4
  z4 := Tryz.sizeOf4
  v4 := Tryz.zeroValue4
  t5 := Tryz.underlying5
  a5 := Tryz.isAgg5
  z5 := Tryz.sizeOf5
  v5 := Tryz.zeroValue5
  t9 := Tryz.underlying9
  a9 := Tryz.isAgg9
  z9 := Tryz.sizeOf9
  v9 := Tryz.zeroValue9
  t46 := Tryz.underlying170
  a46 := Tryz.isAgg170
  z46 := Tryz.sizeOf170
  v46 := Tryz.zeroValue170
  t51 := Tryz.underlying173
  a51 := Tryz.isAgg173
  z51 := Tryz.sizeOf173
  v51 := Tryz.zeroValue173
  t146 := Tryz.underlying174
  a146 := Tryz.isAgg174
  z146 := Tryz.sizeOf174
  v146 := Tryz.zeroValue174
  g1 := by kernel_rfl
  i3 := by kernel_rfl
  i4 := by kernel_rfl
  i5 := by kernel_rfl
  i9 := by kernel_rfl
  i46 := by kernel_rfl
  i51 := by kernel_rfl
  i146 := by kernel_rfl
  m1 := by kernel_rfl
  s1_3 := fun w h => Go.Proofs.cell_of_shapedOpen_int (zero := #[.int .i64 0]) (t := 3) h (of_decide_eq_true (by kernel_rfl)) (by kernel_rfl) rfl (by kernel_rfl) (by kernel_rfl) Tryz.underlying3 }
open Go.RowKit Go.Lib in
theorem Tryz.stringslite_Cut_shaped (s sep : ByteArray) (w : World) (h : w.ShapedOpen Tryz.prog) (hs : s.size < 4294967281) :
    Calls Tryz.prog 89 #[.string s, .string sep] w fun e w' => e = .returned (.tuple #[.string ⟨(Lib.cut s.data.toList sep.data.toList).1.toArray⟩, .string ⟨(Lib.cut s.data.toList sep.data.toList).2.1.toArray⟩, .bool (Lib.cut s.data.toList sep.data.toList).2.2]) ∧ ∃ n, w' = w.drewN n := Any.stringslite_Cut_shaped Tryz.laysM220 s sep w h hs
def Tryz.laysM145_ren : Go.Shelf.Ren := ⟨fun | 145 => 70 | 220 => 89 | 219 => 104 | 217 => 116 | 225 => 117 | 224 => 118 | 267 => 119 | 266 => 126 | 314 => 127 | n => n, fun | 9 => 9 | 4 => 4 | 59 => 119 | 3 => 3 | 5 => 5 | 46 => 170 | 146 => 174 | 51 => 173 | n => n, fun | 1 => 0 | n => n⟩
theorem Tryz.laysM145 : Go.Proofs.LaysM.n145 Tryz.prog Tryz.laysM145_ren := {
  mixed := by kernel_rfl
  f145 := Tryz.func70.trans (congrArg some (by kernel_rfl))
  f217 := Tryz.func116.trans (congrArg some (by kernel_rfl))
  f219 := Tryz.func104.trans (congrArg some (by kernel_rfl))
  f220 := Tryz.func89.trans (congrArg some (by kernel_rfl))
  f224 := Tryz.func118.trans (congrArg some (by kernel_rfl))
  f225 := Tryz.func117.trans (congrArg some (by kernel_rfl))
  f266 := Tryz.func126.trans (congrArg some (by kernel_rfl))
  f267 := Tryz.func119.trans (congrArg some (by kernel_rfl))
  f314 := Tryz.func127.trans (congrArg some (by kernel_rfl))
  t3 := Tryz.underlying3
  a3 := Tryz.isAgg3
  z3 := Tryz.sizeOf3
  v3 := Tryz.zeroValue3
  t4 := Tryz.underlying4
  a4 := Tryz.isAgg4
  z4 := Tryz.sizeOf4
  v4 := Tryz.zeroValue4
  t5 := Tryz.underlying5
  a5 := Tryz.isAgg5
  z5 := Tryz.sizeOf5
  v5 := Tryz.zeroValue5
  t9 := Tryz.underlying9
  a9 := Tryz.isAgg9
  z9 := Tryz.sizeOf9
  v9 := Tryz.zeroValue9
  t46 := Tryz.underlying170
  a46 := Tryz.isAgg170
  z46 := Tryz.sizeOf170
  v46 := Tryz.zeroValue170
  t51 := Tryz.underlying173
  a51 := Tryz.isAgg173
  z51 := Tryz.sizeOf173
  v51 := Tryz.zeroValue173
  t59 := Tryz.underlying119
  a59 := Tryz.isAgg119
  z59 := Tryz.sizeOf119
  v59 := Tryz.zeroValue119
  t146 := Tryz.underlying174
  a146 := Tryz.isAgg174
  z146 := Tryz.sizeOf174
  v146 := Tryz.zeroValue174
  g1 := by kernel_rfl
  i3 := by kernel_rfl
  i4 := by kernel_rfl
  i5 := by kernel_rfl
  i9 := by kernel_rfl
  i46 := by kernel_rfl
  i51 := by kernel_rfl
  i59 := by kernel_rfl
  i146 := by kernel_rfl
  m1 := by kernel_rfl
  s1_3 := fun w h => Go.Proofs.cell_of_shapedOpen_int (zero := #[.int .i64 0]) (t := 3) h (of_decide_eq_true (by kernel_rfl)) (by kernel_rfl) rfl (by kernel_rfl) (by kernel_rfl) Tryz.underlying3 }
open Go.RowKit Go.Lib in
theorem Tryz.strings_Cut_shaped (s sep : ByteArray) (w : World) (h : w.ShapedOpen Tryz.prog) (hs : s.size < 4294967281) :
    Calls Tryz.prog 70 #[.string s, .string sep] w fun e w' => e = .returned (.tuple #[.string ⟨(Lib.cut s.data.toList sep.data.toList).1.toArray⟩, .string ⟨(Lib.cut s.data.toList sep.data.toList).2.1.toArray⟩, .bool (Lib.cut s.data.toList sep.data.toList).2.2]) ∧ ∃ n, w' = w.drewN n := Any.strings_Cut_shaped Tryz.laysM145 s sep w h hs
def Tryz.laysM138_ren : Go.Shelf.Ren := ⟨fun | 138 => 110 | 195 => 122 | 218 => 123 | 143 => 90 | 219 => 104 | 217 => 116 | 225 => 117 | 224 => 118 | 267 => 119 | 266 => 126 | 314 => 127 | n => n, fun | 9 => 9 | 3 => 3 | 4 => 4 | 5 => 5 | 0 => 0 | 46 => 170 | 146 => 174 | 51 => 173 | n => n, fun | 1 => 0 | n => n⟩
theorem Tryz.laysM138 : Go.Proofs.LaysM.n138 Tryz.prog Tryz.laysM138_ren := {
  mixed := by kernel_rfl
  f138 := Tryz.func110.trans (congrArg some (by kernel_rfl))
  f143 := Tryz.func90.trans (congrArg some (by kernel_rfl))
  f195 := Tryz.func122.trans (congrArg some (by kernel_rfl))
  f217 := Tryz.func116.trans (congrArg some (by kernel_rfl))
  f218 := Tryz.func123.trans (congrArg some (by kernel_rfl))
  f219 := Tryz.func104.trans (congrArg some (by kernel_rfl))
  f224 := Tryz.func118.trans (congrArg some (by kernel_rfl))
  f225 := Tryz.func117.trans (congrArg some (by kernel_rfl))
  f266 := Tryz.func126.trans (congrArg some (by kernel_rfl))
  f267 := Tryz.func119.trans (congrArg some (by kernel_rfl))
  f314 := Tryz.func127.trans (congrArg some (by kernel_rfl))
  t0 := Tryz.underlying0
  a0 := Tryz.isAgg0
  z0 := Tryz.sizeOf0
  v0 := Tryz.zeroValue0
  t3 := Tryz.underlying3
  a3 := Tryz.isAgg3
  z3 := Tryz.sizeOf3
  v3 := Tryz.zeroValue3
  t4 := Tryz.underlying4
  a4 := Tryz.isAgg4
  z4 := Tryz.sizeOf4
  v4 := Tryz.zeroValue4
  t5 := Tryz.underlying5
  a5 := Tryz.isAgg5
  z5 := Tryz.sizeOf5
  v5 := Tryz.zeroValue5
  t9 := Tryz.underlying9
  a9 := Tryz.isAgg9
  z9 := Tryz.sizeOf9
  v9 := Tryz.zeroValue9
  t46 := Tryz.underlying170
  a46 := Tryz.isAgg170
  z46 := Tryz.sizeOf170
  v46 := Tryz.zeroValue170
  t51 := Tryz.underlying173
  a51 := Tryz.isAgg173
  z51 := Tryz.sizeOf173
  v51 := Tryz.zeroValue173
  t146 := Tryz.underlying174
  a146 := Tryz.isAgg174
  z146 := Tryz.sizeOf174
  v146 := Tryz.zeroValue174
  g1 := by kernel_rfl
  i0 := by kernel_rfl
  i3 := by kernel_rfl
  i4 := by kernel_rfl
  i5 := by kernel_rfl
  i9 := by kernel_rfl
  i46 := by kernel_rfl
  i51 := by kernel_rfl
  i146 := by kernel_rfl
  m1 := by kernel_rfl
  s1_3 := fun w h => Go.Proofs.cell_of_shapedOpen_int (zero := #[.int .i64 0]) (t := 3) h (of_decide_eq_true (by kernel_rfl)) (by kernel_rfl) rfl (by kernel_rfl) (by kernel_rfl) Tryz.underlying3 }
open Go.RowKit Go.Lib in
theorem Tryz.strings_Count_shaped (s sub : ByteArray) (w : World) (h : w.ShapedOpen Tryz.prog) (hs : s.size < 4294967281) (h2 : 2 ≤ sub.size) :
    Calls Tryz.prog 110 #[.string s, .string sub] w fun e w' => e = .returned (.int .i64 (Lib.countB s sub)) ∧ w' = w := Any.strings_Count_shaped Tryz.laysM138 s sub w h hs h2
open Go.RowKit Go.Lib in
theorem Tryz.strings_Count_any (s sep : ByteArray) (m : Int) (w : World) (hs : s.size < 4294967281) (hm : w.cell? ⟨0, 0, none⟩ = some (.int .i64 m)) (h1 : 1 ≤ sep.size) :
    Calls Tryz.prog 110 #[.string s, .string sep] w fun e w' => e = .returned (.int .i64 (Lib.countB s sep)) ∧ w' = w := Any.strings_Count_any Tryz.lays138 s sep m w hs hm h1
def Tryz.lays152_ren : Go.Shelf.Ren := ⟨fun | 152 => 105 | 137 => 120 | 119 => 121 | 224 => 118 | 225 => 117 | 217 => 116 | 266 => 126 | n => n, fun | 9 => 9 | 21 => 21 | 3 => 3 | 4 => 4 | 5 => 5 | 0 => 0 | 46 => 170 | n => n, fun | n => n⟩
theorem Tryz.lays152 : Go.Proofs.Lays.n152 Tryz.prog Tryz.lays152_ren := {
  mixed := by kernel_rfl
  f119 := Tryz.func121.trans (congrArg some (by kernel_rfl))
  f137 := Tryz.func120.trans (congrArg some (by kernel_rfl))
  f152 := Tryz.func105.trans (congrArg some (by kernel_rfl))
  f217 := Tryz.func116.trans (congrArg some (by kernel_rfl))
  f224 := Tryz.func118.trans (congrArg some (by kernel_rfl))
  f225 := Tryz.func117.trans (congrArg some (by kernel_rfl))
  f266 := Tryz.func126.trans (congrArg some (by kernel_rfl))
  t0 := Tryz.underlying0
  a0 := Tryz.isAgg0
  z0 := Tryz.sizeOf0
  v0 := Tryz.zeroValue0
  t3 := Tryz.underlying3
  a3 := Tryz.isAgg3
  z3 := Tryz.sizeOf3
  v3 := Tryz.zeroValue3
  t4 := Tryz.underlying4
  a4 := Tryz.isAgg4
  z4 := Tryz.sizeOf4
  v4 := Tryz.zeroValue4
  t5 := Tryz.underlying5
  a5 := Tryz.isAgg5
  z5 := Tryz.sizeOf5
  v5 := Tryz.zeroValue5
  t9 := Tryz.underlying9
  a9 := Tryz.isAgg9
  z9 := Tryz.sizeOf9
  v9 := Tryz.zeroValue9
  t21 := Tryz.underlying21
  a21 := Tryz.isAgg21
  z21 := Tryz.sizeOf21
  v21 := Tryz.zeroValue21
  t46 := Tryz.underlying170
  a46 := Tryz.isAgg170
  z46 := Tryz.sizeOf170
  v46 := Tryz.zeroValue170 }
open Go.RowKit Go.Lib in
theorem Tryz.strings_IndexRune_ascii (s : ByteArray) (r : Int) (w : World) (h0 : 0 ≤ r) (h1 : r < 128) :
    Calls Tryz.prog 105 #[.string s, .int .i32 r] w fun e w' => e = .returned (.int .i64 (Lib.indexByte s.data.toList r.toNat.toUInt8)) ∧ w' = w := Any.strings_IndexRune_ascii Tryz.lays152 s r w h0 h1
open Go.RowKit Go.Lib in
theorem Tryz.utf8_RuneCountInString_ascii (s : ByteArray) (w : World) (hs : s.size < 4294967281) (hascii : ∀ (j : Nat) b, s.data.toList[j]? = some b → b.toNat < 128) :
    Calls Tryz.prog 122 #[.string s] w fun e w' => e = .returned (.int .i64 s.size) ∧ w' = w.iter s s.size := Any.utf8_RuneCountInString_ascii Tryz.lays195 s w hs hascii
def Tryz.lays226_ren : Go.Shelf.Ren := ⟨fun | 226 => 106 | n => n, fun | 3 => 3 | 4 => 4 | n => n, fun | n => n⟩
theorem Tryz.lays226 : Go.Proofs.Lays.n226 Tryz.prog Tryz.lays226_ren := {
  mixed := by kernel_rfl
  f226 := Tryz.func106.trans (congrArg some (by kernel_rfl))
  t3 := Tryz.underlying3
  a3 := Tryz.isAgg3
  z3 := Tryz.sizeOf3
  v3 := Tryz.zeroValue3
  t4 := Tryz.underlying4
  a4 := Tryz.isAgg4
  z4 := Tryz.sizeOf4
  v4 := Tryz.zeroValue4 }
open Go.RowKit Go.Lib in
theorem Tryz.strings_shouldUseASCIISet (n : Int) (w : World) :
    Calls Tryz.prog 106 #[.int .i64 n] w fun e w' => e = .returned (.bool (decide (8 < n))) ∧ w' = w := Any.strings_shouldUseASCIISet Tryz.lays226 n w
def Tryz.lays153_ren : Go.Shelf.Ren := ⟨fun | 153 => 91 | 152 => 105 | 226 => 106 | 227 => 107 | 228 => 108 | 137 => 120 | 119 => 121 | 224 => 118 | 225 => 117 | 217 => 116 | 266 => 126 | n => n, fun | 9 => 9 | 3 => 3 | 4 => 4 | 5 => 5 | 21 => 21 | 117 => 161 | 116 => 160 | 0 => 0 | 46 => 170 | 124 => 172 | n => n, fun | n => n⟩
theorem Tryz.lays153 : Go.Proofs.Lays.n153 Tryz.prog Tryz.lays153_ren := {
  mixed := by kernel_rfl
  f119 := Tryz.func121.trans (congrArg some (by kernel_rfl))
  f137 := Tryz.func120.trans (congrArg some (by kernel_rfl))
  f152 := Tryz.func105.trans (congrArg some (by kernel_rfl))
  f153 := Tryz.func91.trans (congrArg some (by kernel_rfl))
  f217 := Tryz.func116.trans (congrArg some (by kernel_rfl))
  f224 := Tryz.func118.trans (congrArg some (by kernel_rfl))
  f225 := Tryz.func117.trans (congrArg some (by kernel_rfl))
  f226 := Tryz.func106.trans (congrArg some (by kernel_rfl))
  f227 := Tryz.func107.trans (congrArg some (by kernel_rfl))
  f228 := Tryz.func108.trans (congrArg some (by kernel_rfl))
  f266 := Tryz.func126.trans (congrArg some (by kernel_rfl))
  t0 := Tryz.underlying0
  a0 := Tryz.isAgg0
  z0 := Tryz.sizeOf0
  v0 := Tryz.zeroValue0
  t3 := Tryz.underlying3
  a3 := Tryz.isAgg3
  z3 := Tryz.sizeOf3
  v3 := Tryz.zeroValue3
  t4 := Tryz.underlying4
  a4 := Tryz.isAgg4
  z4 := Tryz.sizeOf4
  v4 := Tryz.zeroValue4
  t5 := Tryz.underlying5
  a5 := Tryz.isAgg5
  z5 := Tryz.sizeOf5
  v5 := Tryz.zeroValue5
  t9 := Tryz.underlying9
  a9 := Tryz.isAgg9
  z9 := Tryz.sizeOf9
  v9 := Tryz.zeroValue9
  t21 := Tryz.underlying21
  a21 := Tryz.isAgg21
  z21 := Tryz.sizeOf21
  v21 := Tryz.zeroValue21
  t46 := Tryz.underlying170
  a46 := Tryz.isAgg170
  z46 := Tryz.sizeOf170
  v46 := Tryz.zeroValue170
  t116 := Tryz.underlying160
  a116 := Tryz.isAgg160
  z116 := Tryz.sizeOf160
  t117 := Tryz.underlying161
  a117 := Tryz.isAgg161
  z117 := Tryz.sizeOf161
  v117 := Tryz.zeroValue161
  t124 := Tryz.underlying172
  a124 := Tryz.isAgg172
  z124 := Tryz.sizeOf172
  v124 := Tryz.zeroValue172 }
open Go.RowKit Go.Lib in
theorem Tryz.strings_IndexAny_none (s chars : ByteArray) (w : World) (h0 : chars.size = 0) :
    Calls Tryz.prog 91 #[.string s, .string chars] w fun e w' => e = .returned (.int .i64 (Lib.indexAny s.data.toList chars.data.toList)) ∧ w' = w := Any.strings_IndexAny_none Tryz.lays153 s chars w h0
open Go.RowKit Go.Lib in
theorem Tryz.strings_IndexAny_one (s chars : ByteArray) (w : World) (h1 : chars.size = 1) (hascii : ∀ (j : Nat) b, chars.data.toList[j]? = some b → b.toNat < 128) :
    Calls Tryz.prog 91 #[.string s, .string chars] w fun e w' => e = .returned (.int .i64 (Lib.indexAny s.data.toList chars.data.toList)) ∧ w' = w := Any.strings_IndexAny_one Tryz.lays153 s chars w h1 hascii
open Go.RowKit Go.Lib in
theorem Tryz.strings_IndexAny_short (s chars : ByteArray) (w : World) (h2 : 2 ≤ chars.size) (h8 : s.size ≤ 8) (hascii : ∀ (j : Nat) b, s.data.toList[j]? = some b → b.toNat < 128) :
    Calls Tryz.prog 91 #[.string s, .string chars] w fun e w' => e = .returned (.int .i64 (Lib.indexAny s.data.toList chars.data.toList)) ∧ ∃ pos, w' = w.iter s pos := Any.strings_IndexAny_short Tryz.lays153 s chars w h2 h8 hascii
def Tryz.lays227_ren : Go.Shelf.Ren := ⟨fun | 227 => 107 | n => n, fun | 9 => 9 | 116 => 160 | 4 => 4 | 0 => 0 | 3 => 3 | 5 => 5 | n => n, fun | n => n⟩
theorem Tryz.lays227 : Go.Proofs.Lays.n227 Tryz.prog Tryz.lays227_ren := {
  mixed := by kernel_rfl
  f227 := Tryz.func107.trans (congrArg some (by kernel_rfl))
  t0 := Tryz.underlying0
  a0 := Tryz.isAgg0
  z0 := Tryz.sizeOf0
  v0 := Tryz.zeroValue0
  t3 := Tryz.underlying3
  a3 := Tryz.isAgg3
  z3 := Tryz.sizeOf3
  v3 := Tryz.zeroValue3
  t4 := Tryz.underlying4
  a4 := Tryz.isAgg4
  z4 := Tryz.sizeOf4
  v4 := Tryz.zeroValue4
  t5 := Tryz.underlying5
  a5 := Tryz.isAgg5
  z5 := Tryz.sizeOf5
  v5 := Tryz.zeroValue5
  t9 := Tryz.underlying9
  a9 := Tryz.isAgg9
  z9 := Tryz.sizeOf9
  v9 := Tryz.zeroValue9
  t116 := Tryz.underlying160
  a116 := Tryz.isAgg160
  z116 := Tryz.sizeOf160 }
open Go.RowKit Go.Lib in
theorem Tryz.strings_makeASCIISet (hv116 : ∀ w, (zeroValue 160).run Tryz.prog w = .ok (.agg (Array.replicate 256 (.bool false))) w) (chars : ByteArray) (w : World) (hs : chars.size < 4294967281) (hascii : ∀ (j : Nat) b, chars.data.toList[j]? = some b → b.toNat < 128) :
    Calls Tryz.prog 107 #[.string chars] w fun e w' => e = .returned (.tuple #[.agg (Lib.setCells chars.data.toList), .bool true]) ∧ w' = w.alloc (.cells (Lib.setCells chars.data.toList) 160) := Any.strings_makeASCIISet Tryz.lays227 hv116 (by kernel_rfl) chars w hs hascii
def Tryz.lays228_ren : Go.Shelf.Ren := ⟨fun | 228 => 108 | n => n, fun | 124 => 172 | 5 => 5 | 4 => 4 | 0 => 0 | 116 => 160 | n => n, fun | n => n⟩
theorem Tryz.lays228 : Go.Proofs.Lays.n228 Tryz.prog Tryz.lays228_ren := {
  mixed := by kernel_rfl
  f228 := Tryz.func108.trans (congrArg some (by kernel_rfl))
  t0 := Tryz.underlying0
  a0 := Tryz.isAgg0
  z0 := Tryz.sizeOf0
  v0 := Tryz.zeroValue0
  t4 := Tryz.underlying4
  a4 := Tryz.isAgg4
  z4 := Tryz.sizeOf4
  v4 := Tryz.zeroValue4
  t5 := Tryz.underlying5
  a5 := Tryz.isAgg5
  z5 := Tryz.sizeOf5
  v5 := Tryz.zeroValue5
  t116 := Tryz.underlying160
  a116 := Tryz.isAgg160
  z116 := Tryz.sizeOf160
  t124 := Tryz.underlying172
  a124 := Tryz.isAgg172
  z124 := Tryz.sizeOf172
  v124 := Tryz.zeroValue172 }
open Go.RowKit Go.Lib in
theorem Tryz.asciiSet_contains (b : Nat) (x : UInt8) (v : Bool) (w : World) (hc : w.cell? ⟨b, x.toNat, none⟩ = some (.bool v)) :
    Calls Tryz.prog 108 #[.pointer (some ⟨b, 0, none⟩), .int .u8 x.toNat] w fun e w' => e = .returned (.bool v) ∧ w' = w := Any.asciiSet_contains Tryz.lays228 b x v w hc
open Go.RowKit Go.Lib in
theorem Tryz.strings_IndexAny_long (hv116 : ∀ w, (zeroValue 160).run Tryz.prog w = .ok (.agg (Array.replicate 256 (.bool false))) w) (s chars : ByteArray) (w : World) (h2 : 2 ≤ chars.size) (h8 : 8 < s.size) (hs : s.size < 4294967281) (hcs : chars.size < 4294967281) (hascii : ∀ (j : Nat) b, chars.data.toList[j]? = some b → b.toNat < 128) :
    Calls Tryz.prog 91 #[.string s, .string chars] w fun e w' => e = .returned (.int .i64 (Lib.indexAny s.data.toList chars.data.toList)) ∧ w' = ((w.alloc (.cells (Lib.setCells chars.data.toList) 160)).alloc (.cells (Lib.setCells chars.data.toList) 160)) := Any.strings_IndexAny_long Tryz.lays153 hv116 (by kernel_rfl) s chars w h2 h8 hs hcs hascii
open Go.RowKit Go.Lib in
theorem Tryz.strings_IndexAny (hv116 : ∀ w, (zeroValue 160).run Tryz.prog w = .ok (.agg (Array.replicate 256 (.bool false))) w) (s chars : ByteArray) (w : World) (hs : s.size < 4294967281) (hcs : chars.size < 4294967281) (has : ∀ (j : Nat) b, s.data.toList[j]? = some b → b.toNat < 128) (hac : ∀ (j : Nat) b, chars.data.toList[j]? = some b → b.toNat < 128) :
    Calls Tryz.prog 91 #[.string s, .string chars] w fun e w' => e = .returned (.int .i64 (Lib.indexAny s.data.toList chars.data.toList)) ∧ Below w.heap.size w w' := Any.strings_IndexAny Tryz.lays153 hv116 (by kernel_rfl) s chars w hs hcs has hac
def Tryz.lays150_ren : Go.Shelf.Ren := ⟨fun | 150 => 72 | 153 => 91 | 152 => 105 | 226 => 106 | 227 => 107 | 228 => 108 | 137 => 120 | 119 => 121 | 224 => 118 | 225 => 117 | 217 => 116 | 266 => 126 | n => n, fun | 9 => 9 | 4 => 4 | 3 => 3 | 5 => 5 | 21 => 21 | 117 => 161 | 116 => 160 | 0 => 0 | 46 => 170 | 124 => 172 | n => n, fun | n => n⟩
theorem Tryz.lays150 : Go.Proofs.Lays.n150 Tryz.prog Tryz.lays150_ren := {
  mixed := by kernel_rfl
  f119 := Tryz.func121.trans (congrArg some (by kernel_rfl))
  f137 := Tryz.func120.trans (congrArg some (by kernel_rfl))
  f150 := Tryz.func72.trans (congrArg some (by kernel_rfl))
  f152 := Tryz.func105.trans (congrArg some (by kernel_rfl))
  f153 := Tryz.func91.trans (congrArg some (by kernel_rfl))
  f217 := Tryz.func116.trans (congrArg some (by kernel_rfl))
  f224 := Tryz.func118.trans (congrArg some (by kernel_rfl))
  f225 := Tryz.func117.trans (congrArg some (by kernel_rfl))
  f226 := Tryz.func106.trans (congrArg some (by kernel_rfl))
  f227 := Tryz.func107.trans (congrArg some (by kernel_rfl))
  f228 := Tryz.func108.trans (congrArg some (by kernel_rfl))
  f266 := Tryz.func126.trans (congrArg some (by kernel_rfl))
  t0 := Tryz.underlying0
  a0 := Tryz.isAgg0
  z0 := Tryz.sizeOf0
  v0 := Tryz.zeroValue0
  t3 := Tryz.underlying3
  a3 := Tryz.isAgg3
  z3 := Tryz.sizeOf3
  v3 := Tryz.zeroValue3
  t4 := Tryz.underlying4
  a4 := Tryz.isAgg4
  z4 := Tryz.sizeOf4
  v4 := Tryz.zeroValue4
  t5 := Tryz.underlying5
  a5 := Tryz.isAgg5
  z5 := Tryz.sizeOf5
  v5 := Tryz.zeroValue5
  t9 := Tryz.underlying9
  a9 := Tryz.isAgg9
  z9 := Tryz.sizeOf9
  v9 := Tryz.zeroValue9
  t21 := Tryz.underlying21
  a21 := Tryz.isAgg21
  z21 := Tryz.sizeOf21
  v21 := Tryz.zeroValue21
  t46 := Tryz.underlying170
  a46 := Tryz.isAgg170
  z46 := Tryz.sizeOf170
  v46 := Tryz.zeroValue170
  t116 := Tryz.underlying160
  a116 := Tryz.isAgg160
  z116 := Tryz.sizeOf160
  t117 := Tryz.underlying161
  a117 := Tryz.isAgg161
  z117 := Tryz.sizeOf161
  v117 := Tryz.zeroValue161
  t124 := Tryz.underlying172
  a124 := Tryz.isAgg172
  z124 := Tryz.sizeOf172
  v124 := Tryz.zeroValue172 }
open Go.RowKit Go.Lib in
theorem Tryz.strings_ContainsAny (hv116 : ∀ w, (zeroValue 160).run Tryz.prog w = .ok (.agg (Array.replicate 256 (.bool false))) w) (s chars : ByteArray) (w : World) (hs : s.size < 4294967281) (hcs : chars.size < 4294967281) (has : ∀ (j : Nat) b, s.data.toList[j]? = some b → b.toNat < 128) (hac : ∀ (j : Nat) b, chars.data.toList[j]? = some b → b.toNat < 128) :
    Calls Tryz.prog 72 #[.string s, .string chars] w fun e w' => e = .returned (.bool (Lib.containsAny s.data.toList chars.data.toList)) ∧ Below w.heap.size w w' := Any.strings_ContainsAny Tryz.lays150 hv116 (by kernel_rfl) s chars w hs hcs has hac
open Go.RowKit Go.Lib in
theorem Tryz.strings_IndexAny_laid (s chars : ByteArray) (w : World) (hs : s.size < 4294967281) (hcs : chars.size < 4294967281) (has : ∀ (j : Nat) b, s.data.toList[j]? = some b → b.toNat < 128) (hac : ∀ (j : Nat) b, chars.data.toList[j]? = some b → b.toNat < 128) :
    Calls Tryz.prog 91 #[.string s, .string chars] w fun e w' => e = .returned (.int .i64 (Lib.indexAny s.data.toList chars.data.toList)) ∧ Below w.heap.size w w' := Any.strings_IndexAny_laid Tryz.lays153 (by kernel_rfl) s chars w hs hcs has hac
open Go.RowKit Go.Lib in
theorem Tryz.strings_ContainsAny_laid (s chars : ByteArray) (w : World) (hs : s.size < 4294967281) (hcs : chars.size < 4294967281) (has : ∀ (j : Nat) b, s.data.toList[j]? = some b → b.toNat < 128) (hac : ∀ (j : Nat) b, chars.data.toList[j]? = some b → b.toNat < 128) :
    Calls Tryz.prog 72 #[.string s, .string chars] w fun e w' => e = .returned (.bool (Lib.containsAny s.data.toList chars.data.toList)) ∧ Below w.heap.size w w' := Any.strings_ContainsAny_laid Tryz.lays150 (by kernel_rfl) s chars w hs hcs has hac
end Go.Proofs
namespace Go.V
open Go.Proofs Go.RowKit
attribute [local irreducible] V N X VO Par StepOK Has Ret RetL Src
theorem all2_ret {a b : ByteArray} (ha : a.size ≤ 9223372036854775807) (hb : b.size ≤ 9223372036854775807) {w : World} {B : Heap} (hB : B.Le (hp w)) {t : Nat} {v : Value} (hv : SlB [.string a, .string b] t 2 v B) :
    Ret Tryz.prog 93 [v] w B (fun v _ => v = .int .i64 (allE [a, b])) := by
  exact all_gen [a, b] (by intro s hs; simp at hs; rcases hs with rfl | rfl <;> assumption) (by simp) hB (hv.toV rfl)
theorem all3_ret {a b c : ByteArray} (ha : a.size ≤ 9223372036854775807) (hb : b.size ≤ 9223372036854775807) (hc : c.size ≤ 9223372036854775807) {w : World} {B : Heap} (hB : B.Le (hp w)) {t : Nat} {v : Value} (hv : SlB [.string a, .string b, .string c] t 3 v B) :
    Ret Tryz.prog 93 [v] w B (fun v _ => v = .int .i64 (allE [a, b, c])) := by
  exact all_gen [a, b, c] (by intro s hs; simp at hs; rcases hs with rfl | rfl | rfl <;> assumption) (by simp) hB (hv.toV rfl)
theorem object_ret {a b : ByteArray} (ha : a.size ≤ 9223372036854775807) (hb : b.size ≤ 9223372036854775807) {w : World} {B : Heap} (hB : B.Le (hp w)) :
    Ret Tryz.prog 86 [.agg #[.string a, .string b]] w B (fun v _ => v = .int .i64 (allE [a, b])) := by
  refine qx Tryz.func86 rfl Tryz.ntmps86 (Nat.le_of_ble_eq_true rfl) hB ?_
  refine zg ?_; refine z8 (id := 0) ?_; refine z7 (qf rfl rfl rfl rfl) rfl ?_; refine z7 (zi rfl rfl rfl) rfl ?_; refine zh ?_; refine zj ?_; refine zg ?_; refine z8 (id := 1) ?_; refine z7 (zk L rfl rfl rfl rfl) rfl ?_; refine z7 (zo L (zq rfl) rfl rfl rfl rfl) rfl ?_; refine z7 (zk L rfl rfl rfl rfl) rfl ?_; refine z7 (zo L (zq rfl) rfl rfl rfl rfl) rfl ?_; refine z7 (qw L rfl rfl rfl rfl rfl rfl rfl rfl rfl) rfl ?_; refine z7 (q6 L rfl rfl (zm rfl) rfl rfl rfl (fun u H hH _ _ v hv => all2_ret (by first | assumption | omega | decide) (by first | assumption | omega | decide) hH hv)) rfl ?_; refine z7 (zi rfl rfl rfl) rfl ?_; refine zh ?_; refine zj ?_
  refine qi L (rs := [.tmp 2]) rfl (fun _ _ h => h) Since.refl fun u H hH hle => ?_
  rfl
theorem goal_ret {a b c : ByteArray} (ha : a.size ≤ 9223372036854775807) (hb : b.size ≤ 9223372036854775807) (hc : c.size ≤ 9223372036854775807) {w : World} {B : Heap} (hB : B.Le (hp w)) :
    Ret Tryz.prog 75 [.agg #[.string a, .string b, .string c]] w B (fun v _ => v = .int .i64 (allE [a, b, c])) := by
  refine qx Tryz.func75 rfl Tryz.ntmps75 (Nat.le_of_ble_eq_true rfl) hB ?_
  refine zg ?_; refine z8 (id := 0) ?_; refine z7 (qf rfl rfl rfl rfl) rfl ?_; refine z7 (zi rfl rfl rfl) rfl ?_; refine zh ?_; refine zj ?_; refine zg ?_; refine z8 (id := 1) ?_; refine z7 (zk L rfl rfl rfl rfl) rfl ?_; refine z7 (zk L rfl rfl rfl rfl) rfl ?_; refine z7 (zo L (zq rfl) rfl rfl rfl rfl) rfl ?_; refine z7 (zk L rfl rfl rfl rfl) rfl ?_; refine z7 (zk L rfl rfl rfl rfl) rfl ?_; refine z7 (zo L (zq rfl) rfl rfl rfl rfl) rfl ?_; refine z7 (zk L rfl rfl rfl rfl) rfl ?_; refine z7 (zo L (zq rfl) rfl rfl rfl rfl) rfl ?_; refine z7 (qw L rfl rfl rfl rfl rfl rfl rfl rfl rfl) rfl ?_; refine z7 (q6 L rfl rfl (zm rfl) rfl rfl rfl (fun u H hH _ _ v hv => all3_ret (by first | assumption | omega | decide) (by first | assumption | omega | decide) (by first | assumption | omega | decide) hH hv)) rfl ?_; refine z7 (zi rfl rfl rfl) rfl ?_; refine zh ?_; refine zj ?_
  refine qi L (rs := [.tmp 2]) rfl (fun _ _ h => h) Since.refl fun u H hH hle => ?_
  rfl
def subjE (a b c : ByteArray) : Int := if c = ⟨#[]⟩ then allE [a, b] else allE [a, b, c]
theorem subject_ret {a b c : ByteArray} (ha : a.size ≤ 9223372036854775807) (hb : b.size ≤ 9223372036854775807) (hc : c.size ≤ 9223372036854775807) {w : World} {B : Heap} (hB : B.Le (hp w)) :
    Ret Tryz.prog 65 [.agg #[.string a, .string b, .string c]] w B (fun v _ => v = .int .i64 (subjE a b c)) := by
  refine qx Tryz.func65 rfl Tryz.ntmps65 (Nat.le_of_ble_eq_true rfl) hB ?_
  by_cases h : c = ⟨#[]⟩
  · refine zg ?_; refine z8 (id := 0) ?_; refine z7 (qf rfl rfl rfl rfl) rfl ?_; refine z7 (zi rfl rfl rfl) rfl ?_; refine zh ?_; refine zj ?_; refine zg ?_; refine zg ?_; refine z8 (id := 1) ?_; refine z7 (zk L rfl rfl rfl rfl) rfl ?_; refine z7 (zo L (zq rfl) rfl rfl rfl rfl) rfl ?_; refine z7 (ok_seql rfl rfl rfl rfl (decide_eq_true (by assumption))) rfl ?_; refine zh ?_; refine zj ?_; refine qa rfl ?_; refine zg ?_; refine z8 (id := 2) ?_; refine z7 (zk L rfl rfl rfl rfl) rfl ?_; refine z7 (zz L (vs := [_, _]) (zq rfl) rfl rfl rfl rfl ⟨_, rfl⟩) rfl ?_; refine z7 (q6 L rfl rfl (zm rfl) rfl rfl rfl (fun u H hH _ _ => object_ret (by first | assumption | omega | decide) (by first | assumption | omega | decide) hH)) rfl ?_; refine z7 (zi rfl rfl rfl) rfl ?_; refine zh ?_; refine zj ?_
    refine qi L (rs := [.tmp 2]) rfl (fun _ _ h => h) Since.refl fun u H hH hle => ?_
    exact congrArg (Value.int .i64) (show allE [a, b] = subjE a b c from (if_pos h).symm)
  · refine zg ?_; refine z8 (id := 0) ?_; refine z7 (qf rfl rfl rfl rfl) rfl ?_; refine z7 (zi rfl rfl rfl) rfl ?_; refine zh ?_; refine zj ?_; refine zg ?_; refine zg ?_; refine z8 (id := 1) ?_; refine z7 (zk L rfl rfl rfl rfl) rfl ?_; refine z7 (zo L (zq rfl) rfl rfl rfl rfl) rfl ?_; refine z7 (ok_seql rfl rfl rfl rfl (decide_eq_false (by assumption))) rfl ?_; refine zh ?_; refine zj ?_; refine q8 rfl ?_; refine q9 ?_; refine zj ?_; refine zg ?_; refine z8 (id := 3) ?_; refine z7 (zz L (vs := [_, _, _]) (zq rfl) rfl rfl rfl rfl ⟨_, rfl⟩) rfl ?_; refine z7 (q6 L rfl rfl (zm rfl) rfl rfl rfl (fun u H hH _ _ => goal_ret (by first | assumption | omega | decide) (by first | assumption | omega | decide) (by first | assumption | omega | decide) hH)) rfl ?_; refine z7 (zi rfl rfl rfl) rfl ?_; refine zh ?_; refine zj ?_
    refine qi L (rs := [.tmp 2]) rfl (fun _ _ h => h) Since.refl fun u H hH hle => ?_
    exact congrArg (Value.int .i64) (show allE [a, b, c] = subjE a b c from (if_neg h).symm)
def cmpB (a b : ByteArray) : Int := Lib.compareBytes a.data.toList b.data.toList
theorem scmp_ret {a b : ByteArray} {w : World} {B : Heap} (hB : B.Le (hp w)) : Ret Tryz.prog 97 [.string a, .string b] w B (fun v _ => v = .int .i64 (cmpB a b)) := Ret.of_same hB (Tryz.strings_Compare a b w)
def orL : List Int → Int
  | [] => 0
  | x :: l => if x = 0 then orL l else x
theorem orL_bad : ∀ (l : List Int) (k : Nat) (s : Int), (∀ x ∈ l.take k, x = 0) → l[k]? = some s → s ≠ 0 → orL l = s
  | [], k, s, _, h, _ => by simp at h
  | x :: l, 0, s, _, h, hc => by simp at h; subst h; simp [orL, hc]
  | x :: l, k + 1, s, ha, h, hc => by
    simp only [List.take_succ_cons] at ha
    simp only [List.getElem?_cons_succ] at h
    have hx := ha x (List.mem_cons_self ..)
    simp only [orL, if_pos hx]
    exact orL_bad l k s (fun y hy => ha y (List.mem_cons_of_mem _ hy)) h hc
theorem orL_zero : ∀ (l : List Int), (∀ x ∈ l, x = 0) → orL l = 0
  | [], _ => rfl
  | x :: l, h => by simp only [orL, if_pos (h x (List.mem_cons_self ..))]; exact orL_zero l fun y hy => h y (List.mem_cons_of_mem _ hy)
set_option maxHeartbeats 400000 in
theorem or_gen (l : List Int) (hlen : l.length ≤ 1000) {e : TypeId} {fu : Bool} {v : Value} {w : World} {B : Heap} (hB : B.Le (hp w)) (hv : SlV e 1 (l.map (Value.int .i64)) l.length fu v B) :
    Ret Tryz.prog 79 [v] w B (fun v _ => v = .int .i64 (orL l)) := by
  refine qx Tryz.func79 rfl Tryz.ntmps79 (Nat.le_of_ble_eq_true rfl) hB ?_
  refine V_seen 0 (SlV e 1 (l.map (Value.int .i64)) l.length fu) rfl SlV.mono hv ?_
  refine zg ?_; refine z8 (id := 0) ?_; refine z7 (zi rfl rfl rfl) rfl ?_; refine zh ?_; refine zj ?_; refine zg ?_; refine z8 (id := 1) ?_; refine z7 (zi rfl rfl rfl) rfl ?_; refine zh ?_; refine zj ?_; refine zg ?_; refine zg ?_; refine z8 (id := 2) ?_; refine z7 (q7 rfl rfl rfl) rfl ?_; refine z7 (yc L rfl rfl rfl rfl) rfl ?_; refine z7 (zf rfl rfl rfl) rfl ?_; refine zh ?_; refine zj ?_; refine qd ?_
  refine V_loop (fun k : Nat => [(3, .is (.int .i64 0)), (6, .sat (SlV e 1 (l.map (Value.int .i64)) l.length fu)), (7, .is (.int .i64 l.length)), (8, .is (.int .i64 k))])
    (fun k => k ≤ l.length ∧ ∀ x ∈ l.take k, x = 0) (fun k => l.length - k) 0 ⟨Nat.zero_le _, by simp⟩ ⟨rfl, rfl, rfl, rfl, trivial⟩ ?_
  rintro k ⟨hk, hall⟩
  by_cases hlt : k < l.length
  · have hs : l[k]? = some l[k] := List.getElem?_eq_getElem hlt
    generalize l[k] = s at hs
    have hc : ((l.map (Value.int .i64)).drop (k * 1)).take 1 = [.int .i64 s] := take_1 (by simp [hs])
    by_cases h0 : s = 0
    · refine zg ?_; refine z8 (id := 3) ?_; refine z7 (qe rfl rfl rfl rfl (decide_eq_true (by omega))) rfl ?_; refine zh ?_; refine zj ?_; refine zg ?_; refine qa rfl ?_; refine q9 ?_; refine zj ?_; refine zg ?_; refine qd ?_; refine zg ?_; refine z8 (id := 4) ?_; refine z7 (qo L _ rfl rfl rfl rfl rfl rfl rfl (by first | omega | decide) (by assumption)) rfl ?_; refine z7 (ok_loadP1 L rfl rfl rfl rfl rfl) rfl ?_; refine z7 (zi rfl rfl rfl) rfl ?_; refine zh ?_; refine zj ?_; refine zg ?_; refine z8 (id := 5) ?_; refine z7 (zf rfl rfl rfl) rfl ?_; refine z7 (zf rfl rfl rfl) rfl ?_; refine z7 (yb rfl rfl rfl rfl (decide_eq_false (by omega))) rfl ?_; refine zh ?_; refine zj ?_; refine q8 rfl ?_; refine q9 ?_; refine qr ?_; refine zj ?_; refine z8 (id := 7) ?_; refine z7 (qy rfl rfl rfl rfl (wrap_i64 (by omega) (by omega))) rfl ?_; refine z7 (zf rfl rfl rfl) rfl ?_; refine zh ?_
      refine y7 (k + 1) ⟨hlt, ?_⟩ (by omega) ⟨rfl, rfl, rfl, rfl, trivial⟩
      rw [List.take_add_one, hs]
      intro x hx
      rcases List.mem_append.1 hx with hx | hx
      · exact hall x hx
      · simp at hx; rw [hx, h0]
    · refine zg ?_; refine z8 (id := 3) ?_; refine z7 (qe rfl rfl rfl rfl (decide_eq_true (by omega))) rfl ?_; refine zh ?_; refine zj ?_; refine zg ?_; refine qa rfl ?_; refine q9 ?_; refine zj ?_; refine zg ?_; refine qd ?_; refine zg ?_; refine z8 (id := 4) ?_; refine z7 (qo L _ rfl rfl rfl rfl rfl rfl rfl (by first | omega | decide) (by assumption)) rfl ?_; refine z7 (ok_loadP1 L rfl rfl rfl rfl rfl) rfl ?_; refine z7 (zi rfl rfl rfl) rfl ?_; refine zh ?_; refine zj ?_; refine zg ?_; refine z8 (id := 5) ?_; refine z7 (zf rfl rfl rfl) rfl ?_; refine z7 (zf rfl rfl rfl) rfl ?_; refine z7 (yb rfl rfl rfl rfl (decide_eq_true (by omega))) rfl ?_; refine zh ?_; refine zj ?_; refine qa rfl ?_; refine zg ?_; refine z8 (id := 6) ?_; refine z7 (zf rfl rfl rfl) rfl ?_; refine z7 (zi rfl rfl rfl) rfl ?_; refine zh ?_; refine zj ?_
      refine qi L (rs := [.tmp 2]) rfl (fun _ _ h => h) Since.refl fun u H hH hle => ?_
      exact congrArg _ (orL_bad l k s hall hs h0).symm
  · refine zg ?_; refine z8 (id := 3) ?_; refine z7 (qe rfl rfl rfl rfl (decide_eq_false (by omega))) rfl ?_; refine zh ?_; refine zj ?_; refine zg ?_; refine q8 rfl ?_; refine yi ?_; refine qu ?_; refine qu ?_; refine yh ?_; refine zj ?_; refine zg ?_; refine z8 (id := 8) ?_; refine z7 (zf rfl rfl rfl) rfl ?_; refine z7 (zi rfl rfl rfl) rfl ?_; refine zh ?_; refine zj ?_
    refine qi L (rs := [.tmp 2]) rfl (fun _ _ h => h) Since.refl fun u H hH hle => ?_
    have : l.take k = l := List.take_of_length_le (by omega)
    exact congrArg _ (orL_zero l (this ▸ hall)).symm
theorem or2_ret {x y : Int} {w : World} {B : Heap} (hB : B.Le (hp w)) {t : Nat} {v : Value} (hv : SlB [.int .i64 x, .int .i64 y] t 2 v B) :
    Ret Tryz.prog 79 [v] w B (fun v _ => v = .int .i64 (orL [x, y])) := by
  exact or_gen [x, y] (by simp) hB (hv.toV rfl)
def cmpO (a b c d : ByteArray) : Int := orL [cmpB a c, cmpB b d]
def cmpG (a b r c d s : ByteArray) : Int := orL [cmpO a b c d, cmpB r s]
theorem cmpO_ret {a b c d : ByteArray} {w : World} {B : Heap} (hB : B.Le (hp w)) :
    Ret Tryz.prog 96 [.agg #[.string a, .string b], .agg #[.string c, .string d]] w B (fun v _ => v = .int .i64 (cmpO a b c d)) := by
  refine qx Tryz.func96 rfl Tryz.ntmps96 (Nat.le_of_ble_eq_true rfl) hB ?_
  refine zg ?_; refine z8 (id := 0) ?_; refine z7 (qf rfl rfl rfl rfl) rfl ?_; refine z7 (qf rfl rfl rfl rfl) rfl ?_; refine z7 (zi rfl rfl rfl) rfl ?_; refine zh ?_; refine zj ?_; refine zg ?_; refine qj (id := 1) [] mixed (by kernel_rfl) ?_; refine zd (zk L rfl rfl rfl rfl) rfl ?_; refine zd (zo L (zq rfl) rfl rfl rfl rfl) rfl ?_; refine zd (zk L rfl rfl rfl rfl) rfl ?_; refine zd (zo L (zq rfl) rfl rfl rfl rfl) rfl ?_; refine zd (q6 L rfl rfl (zm rfl) rfl rfl rfl (fun u H hH _ _ => scmp_ret hH)) rfl ?_; refine zd (zk L rfl rfl rfl rfl) rfl ?_; refine zd (zo L (zq rfl) rfl rfl rfl rfl) rfl ?_; refine zd (zk L rfl rfl rfl rfl) rfl ?_; refine zd (zo L (zq rfl) rfl rfl rfl rfl) rfl ?_; refine zd (q6 L rfl rfl (zm rfl) rfl rfl rfl (fun u H hH _ _ => scmp_ret hH)) rfl ?_; refine zd (qw L rfl rfl rfl rfl rfl rfl rfl rfl rfl) rfl ?_; refine zd (q6 L rfl rfl (zm rfl) rfl rfl rfl (fun u H hH _ _ v hv => or2_ret hH hv)) rfl ?_; refine zd (zi rfl rfl rfl) rfl ?_; refine qq ?_; refine zj ?_
  refine qi L (rs := [.tmp 4]) rfl (fun _ _ h => h) Since.refl fun u H hH hle => ?_
  rfl
theorem cmpG_ret {a b r c d s : ByteArray} {w : World} {B : Heap} (hB : B.Le (hp w)) :
    Ret Tryz.prog 80 [.agg #[.string a, .string b, .string r], .agg #[.string c, .string d, .string s]] w B (fun v _ => v = .int .i64 (cmpG a b r c d s)) := by
  refine qx Tryz.func80 rfl Tryz.ntmps80 (Nat.le_of_ble_eq_true rfl) hB ?_
  refine zg ?_; refine z8 (id := 0) ?_; refine z7 (qf rfl rfl rfl rfl) rfl ?_; refine z7 (qf rfl rfl rfl rfl) rfl ?_; refine z7 (zi rfl rfl rfl) rfl ?_; refine zh ?_; refine zj ?_; refine zg ?_; refine qj (id := 1) [] mixed (by kernel_rfl) ?_; refine zd (zk L rfl rfl rfl rfl) rfl ?_; refine zd (zz L (vs := [_, _]) (zq rfl) rfl rfl rfl rfl ⟨_, rfl⟩) rfl ?_; refine zd (zk L rfl rfl rfl rfl) rfl ?_; refine zd (zz L (vs := [_, _]) (zq rfl) rfl rfl rfl rfl ⟨_, rfl⟩) rfl ?_; refine zd (q6 L rfl rfl (zm rfl) rfl rfl rfl (fun u H hH _ _ => cmpO_ret hH)) rfl ?_; refine zd (zk L rfl rfl rfl rfl) rfl ?_; refine zd (zo L (zq rfl) rfl rfl rfl rfl) rfl ?_; refine zd (zk L rfl rfl rfl rfl) rfl ?_; refine zd (zo L (zq rfl) rfl rfl rfl rfl) rfl ?_; refine zd (q6 L rfl rfl (zm rfl) rfl rfl rfl (fun u H hH _ _ => scmp_ret hH)) rfl ?_; refine zd (qw L rfl rfl rfl rfl rfl rfl rfl rfl rfl) rfl ?_; refine zd (q6 L rfl rfl (zm rfl) rfl rfl rfl (fun u H hH _ _ v hv => or2_ret hH hv)) rfl ?_; refine zd (zi rfl rfl rfl) rfl ?_; refine qq ?_; refine zj ?_
  refine qi L (rs := [.tmp 4]) rfl (fun _ _ h => h) Since.refl fun u H hH hle => ?_
  rfl
theorem cmpU_ret {a b r c d s : ByteArray} {w : World} {B : Heap} (hB : B.Le (hp w)) :
    Ret Tryz.prog 81 [.agg #[.string a, .string b, .string r], .agg #[.string c, .string d, .string s]] w B (fun v _ => v = .int .i64 (cmpG a b r c d s)) := by
  refine qx Tryz.func81 rfl Tryz.ntmps81 (Nat.le_of_ble_eq_true rfl) hB ?_
  refine zg ?_; refine z8 (id := 0) ?_; refine z7 (qf rfl rfl rfl rfl) rfl ?_; refine z7 (qf rfl rfl rfl rfl) rfl ?_; refine z7 (zi rfl rfl rfl) rfl ?_; refine zh ?_; refine zj ?_; refine zg ?_; refine z8 (id := 1) ?_; refine z7 (zz L (vs := [_, _, _]) (zq rfl) rfl rfl rfl rfl ⟨_, rfl⟩) rfl ?_; refine z7 (zz L (vs := [_, _, _]) (zq rfl) rfl rfl rfl rfl ⟨_, rfl⟩) rfl ?_; refine z7 (q6 L rfl rfl (zm rfl) rfl rfl rfl (fun u H hH _ _ => cmpG_ret hH)) rfl ?_; refine z7 (zi rfl rfl rfl) rfl ?_; refine zh ?_; refine zj ?_
  refine qi L (rs := [.tmp 4]) rfl (fun _ _ h => h) Since.refl fun u H hH hle => ?_
  rfl
end Go.V
namespace Go.V
open Go.Proofs Go.RowKit
theorem cb_refl : ∀ (a : List UInt8), Lib.compareBytes a a = 0
  | [] => rfl
  | a :: xs => by
    unfold Lib.compareBytes
    rw [if_neg (UInt8.lt_irrefl a), if_neg (UInt8.lt_irrefl a)]
    exact cb_refl xs
theorem cb_eq : ∀ (a b : List UInt8), Lib.compareBytes a b = 0 → a = b
  | [], [], _ => rfl
  | [], _ :: _, h => by cases h
  | _ :: _, [], h => by cases h
  | a :: xs, b :: bs, h => by
    unfold Lib.compareBytes at h
    split at h
    · cases h
    · split at h
      · cases h
      · rename_i h1 h2
        have : a = b := UInt8.le_antisymm (UInt8.not_lt.1 h2) (UInt8.not_lt.1 h1)
        rw [this, cb_eq xs bs h]
theorem cb_anti : ∀ (a b : List UInt8), Lib.compareBytes b a = - Lib.compareBytes a b
  | [], [] => rfl
  | [], _ :: _ => rfl
  | _ :: _, [] => rfl
  | a :: xs, b :: bs => by
    unfold Lib.compareBytes
    by_cases h1 : a < b
    · simp [h1, UInt8.lt_asymm h1]
    · by_cases h2 : b < a
      · simp [h1, h2]
      · simp [h1, h2]; exact cb_anti xs bs
theorem cb_trans : ∀ (a b c : List UInt8), Lib.compareBytes a b ≤ 0 → Lib.compareBytes b c ≤ 0 → Lib.compareBytes a c ≤ 0
  | [], _, [], _, _ => Int.le_refl _
  | [], _, _ :: _, _, _ => by unfold Lib.compareBytes; decide
  | _ :: _, [], _, h, _ => by unfold Lib.compareBytes at h; exact absurd h (by decide)
  | _ :: _, _ :: _, [], _, h => by unfold Lib.compareBytes at h; exact absurd h (by decide)
  | a :: xs, b :: bs, c :: cs, h1, h2 => by
    unfold Lib.compareBytes at h1 h2 ⊢
    by_cases ab : a < b
    · by_cases bc : b < c
      · rw [if_pos (UInt8.lt_trans ab bc)]; decide
      · rw [if_neg bc] at h2
        by_cases cb : c < b
        · rw [if_pos cb] at h2; exact absurd h2 (by decide)
        · have : b = c := UInt8.le_antisymm (UInt8.not_lt.1 cb) (UInt8.not_lt.1 bc)
          subst this; rw [if_pos ab]; decide
    · rw [if_neg ab] at h1
      by_cases ba : b < a
      · rw [if_pos ba] at h1; exact absurd h1 (by decide)
      · have : a = b := UInt8.le_antisymm (UInt8.not_lt.1 ba) (UInt8.not_lt.1 ab)
        subst this
        rw [if_neg ab] at h1
        by_cases ac : a < c
        · rw [if_pos ac]; decide
        · rw [if_neg ac] at h2 ⊢
          by_cases ca : c < a
          · rw [if_pos ca] at h2; exact absurd h2 (by decide)
          · rw [if_neg ca] at h2 ⊢
            exact cb_trans xs bs cs h1 h2
structure Ord3 {α : Type} (c : α → α → Int) : Prop where
  refl : ∀ a, c a a = 0
  eq : ∀ a b, c a b = 0 → a = b
  anti : ∀ a b, c b a = - c a b
  trans : ∀ a b d, c a b ≤ 0 → c b d ≤ 0 → c a d ≤ 0
theorem ba_ext {a b : ByteArray} (h : a.data.toList = b.data.toList) : a = b := by
  obtain ⟨⟨x⟩⟩ := a; obtain ⟨⟨y⟩⟩ := b; simp at h; subst h; rfl
theorem cmpB_ord : Ord3 cmpB := ⟨fun a => cb_refl _, fun a b h => ba_ext (cb_eq _ _ h), fun a b => cb_anti _ _, fun a b d h1 h2 => cb_trans _ _ _ h1 h2⟩
def lexC {α β : Type} (c : α → α → Int) (e : β → β → Int) (x y : α × β) : Int := orL [c x.1 y.1, e x.2 y.2]
theorem orL2 (x y : Int) : orL [x, y] = if x = 0 then y else x := by
  simp only [orL]
  by_cases hx : x = 0
  · rw [if_pos hx, if_pos hx]; split <;> simp_all
  · rw [if_neg hx, if_neg hx]
theorem Ord3.lt_of {α : Type} {c : α → α → Int} (h : Ord3 c) {a b d : α} (h1 : c a b ≤ 0) (h2 : c b d ≤ 0) (h3 : c a d = 0) : c a b = 0 ∧ c b d = 0 := by
  obtain rfl := h.eq _ _ h3
  have := h.anti a b
  constructor <;> omega
theorem Ord3.lex {α β : Type} {c : α → α → Int} {e : β → β → Int} (hc : Ord3 c) (he : Ord3 e) : Ord3 (lexC c e) := by
  refine ⟨fun a => ?_, fun a b h => ?_, fun a b => ?_, fun a b d h1 h2 => ?_⟩
  · unfold lexC; rw [orL2, hc.refl, if_pos rfl, he.refl]
  · unfold lexC at h
    rw [orL2] at h
    by_cases h0 : c a.1 b.1 = 0
    · rw [if_pos h0] at h
      exact Prod.ext (hc.eq _ _ h0) (he.eq _ _ h)
    · rw [if_neg h0] at h; exact absurd h h0
  · unfold lexC
    rw [orL2, orL2, hc.anti a.1 b.1, he.anti a.2 b.2]
    by_cases h0 : c a.1 b.1 = 0
    · rw [if_pos h0, if_pos (by omega)]
    · rw [if_neg h0, if_neg (by omega)]
  · unfold lexC at h1 h2 ⊢
    rw [orL2] at h1 h2 ⊢
    have l1 : c a.1 b.1 ≤ 0 := by split at h1 <;> omega
    have l2 : c b.1 d.1 ≤ 0 := by split at h2 <;> omega
    have l3 := hc.trans _ _ _ l1 l2
    by_cases h0 : c a.1 d.1 = 0
    · obtain ⟨e1, e2⟩ := hc.lt_of l1 l2 h0
      rw [if_pos e1] at h1
      rw [if_pos e2] at h2
      rw [if_pos h0]
      exact he.trans _ _ _ h1 h2
    · rw [if_neg h0]; exact l3
abbrev Str3 := (ByteArray × ByteArray) × ByteArray
def cmp3 : Str3 → Str3 → Int := lexC (lexC cmpB cmpB) cmpB
theorem cmp3_ord : Ord3 cmp3 := (cmpB_ord.lex cmpB_ord).lex cmpB_ord
theorem cmpO_zero {a b c d : ByteArray} : cmpO a b c d = 0 ↔ a = c ∧ b = d := by
  have h := cmpB_ord.lex cmpB_ord
  constructor
  · intro e
    have := h.eq (a, b) (c, d) e
    cases this; exact ⟨rfl, rfl⟩
  · rintro ⟨rfl, rfl⟩; exact h.refl (a, b)
theorem cmpO_1 {a b c d : ByteArray} (h : a ≠ c) : cmpO a b c d = cmpB a c := by
  unfold cmpO; rw [orL2, if_neg fun e => h (cmpB_ord.eq _ _ e)]
theorem cmpO_2 {a b c d : ByteArray} (h : a = c) : cmpO a b c d = cmpB b d := by
  unfold cmpO; rw [orL2, if_pos (by rw [h]; exact cmpB_ord.refl _)]
theorem cmpG_1 {a b r c d s : ByteArray} (h : ¬ (a = c ∧ b = d)) : cmpG a b r c d s = cmpO a b c d := by
  unfold cmpG; rw [orL2, if_neg fun e => h (cmpO_zero.1 e)]
theorem cmpG_2 {a b r c d s : ByteArray} (h : a = c ∧ b = d) : cmpG a b r c d s = cmpB r s := by
  unfold cmpG; rw [orL2, if_pos (cmpO_zero.2 h)]
theorem drop_at {s : ByteArray} {k : Nat} {c : UInt8} (h : s[k]? = some c) : s.data.toList.drop k = c :: s.data.toList.drop (k + 1) := by
  have h' : s.data.toList[k]? = some c := by
    have : s.data[k]? = some c := h
    simpa using this
  obtain ⟨hl, he⟩ := List.getElem?_eq_some_iff.1 h'
  rw [List.drop_eq_getElem_cons hl, he]
theorem drop_end {s : ByteArray} {k : Nat} (h : s.size ≤ k) : s.data.toList.drop k = [] := List.drop_eq_nil_of_le (by rw [len_toList]; exact h)
def upTo (a b : ByteArray) (k : Nat) : Prop := cmpB a b = Lib.compareBytes (a.data.toList.drop k) (b.data.toList.drop k)
theorem upTo_lt {a b : ByteArray} {k : Nat} {x y : UInt8} (h : upTo a b k) (hx : a[k]? = some x) (hy : b[k]? = some y) (hl : (x.toNat : Int) < y.toNat) : cmpB a b = -1 := by
  unfold upTo at h
  rw [h, drop_at hx, drop_at hy, Lib.compareBytes, if_pos (UInt8.lt_iff_toNat_lt.2 (by omega))]
theorem upTo_gt {a b : ByteArray} {k : Nat} {x y : UInt8} (h : upTo a b k) (hx : a[k]? = some x) (hy : b[k]? = some y) (hl : (y.toNat : Int) < x.toNat) : cmpB a b = 1 := by
  unfold upTo at h
  have hl' : y < x := UInt8.lt_iff_toNat_lt.2 (by omega)
  rw [h, drop_at hx, drop_at hy, Lib.compareBytes, if_neg (UInt8.lt_asymm hl'), if_pos hl']
theorem upTo_next {a b : ByteArray} {k : Nat} {x y : UInt8} (h : upTo a b k) (hx : a[k]? = some x) (hy : b[k]? = some y) (h1 : ¬ (x.toNat : Int) < y.toNat) (h2 : ¬ (y.toNat : Int) < x.toNat) : upTo a b (k + 1) := by
  unfold upTo at h ⊢
  rw [h, drop_at hx, drop_at hy, Lib.compareBytes, if_neg (fun e => h1 (by have := UInt8.lt_iff_toNat_lt.1 e; omega)), if_neg (fun e => h2 (by have := UInt8.lt_iff_toNat_lt.1 e; omega))]
theorem upTo_short {a b : ByteArray} {k : Nat} (h : upTo a b k) (h1 : a.size ≤ k) (h2 : k < b.size) : cmpB a b = -1 := by
  unfold upTo at h
  obtain ⟨y, hy⟩ := getElem?_lt h2
  rw [h, drop_end h1, drop_at hy, Lib.compareBytes]
theorem upTo_long {a b : ByteArray} {k : Nat} (h : upTo a b k) (h1 : b.size ≤ k) (h2 : k < a.size) : cmpB a b = 1 := by
  unfold upTo at h
  obtain ⟨y, hy⟩ := getElem?_lt h2
  rw [h, drop_end h1, drop_at hy, Lib.compareBytes]
theorem upTo_both {a b : ByteArray} {k : Nat} (h : upTo a b k) (h1 : a.size ≤ k) (h2 : b.size ≤ k) : cmpB a b = 0 := by
  unfold upTo at h
  rw [h, drop_end h1, drop_end h2, Lib.compareBytes]
attribute [local irreducible] V N X VO Par StepOK Has Ret RetL Src
set_option maxHeartbeats 400000 in
theorem rorder_ret {a b : ByteArray} (ha : a.size ≤ 9223372036854775807) (hb : b.size ≤ 9223372036854775807) {w : World} {B : Heap} (hB : B.Le (hp w)) :
    Ret Tryz.prog 99 [.string a, .string b] w B (fun v _ => v = .int .i64 (cmpB a b)) := by
  refine qx Tryz.func99 rfl Tryz.ntmps99 (Nat.le_of_ble_eq_true rfl) hB ?_
  refine zg ?_; refine z8 (id := 0) ?_; refine z7 (zi rfl rfl rfl) rfl ?_; refine zh ?_; refine zj ?_; refine zg ?_; refine zg ?_; refine z8 (id := 1) ?_; refine z7 (zi rfl rfl rfl) rfl ?_; refine zh ?_; refine zj ?_; refine qd ?_
  refine V_loop (fun k : Nat => [(0, .is (.string a)), (1, .is (.string b)), (5, .is (.int .i64 k))])
    (fun k => k ≤ a.size ∧ k ≤ b.size ∧ upTo a b k) (fun k => a.size - k) 0 ⟨Nat.zero_le _, Nat.zero_le _, rfl⟩ ⟨rfl, rfl, rfl, trivial⟩ ?_
  rintro k ⟨hk1, hk2, hall⟩
  by_cases h1 : k < a.size
  · by_cases h2 : k < b.size
    · obtain ⟨x, hx⟩ := getElem?_lt h1
      obtain ⟨y, hy⟩ := getElem?_lt h2
      by_cases hxy : (x.toNat : Int) < y.toNat
      · refine zg ?_; refine zg ?_; refine z8 (id := 2) ?_; refine z7 (zf rfl rfl rfl) rfl ?_; refine z7 (zf rfl rfl rfl) rfl ?_; refine z7 (yg L rfl rfl rfl rfl) rfl ?_; refine z7 (qe rfl rfl rfl rfl (decide_eq_true (by omega))) rfl ?_; refine z7 (zf rfl rfl rfl) rfl ?_; refine z7 (zf rfl rfl rfl) rfl ?_; refine z7 (zf rfl rfl rfl) rfl ?_; refine z7 (yg L rfl rfl rfl rfl) rfl ?_; refine z7 (qe rfl rfl rfl rfl (decide_eq_true (by omega))) rfl ?_; refine z7 (zw rfl rfl rfl rfl) rfl ?_; refine zh ?_; refine zj ?_; refine qa rfl ?_; refine q9 ?_; refine zj ?_; refine zg ?_; refine qd ?_; refine zg ?_; refine zg ?_; refine qj (id := 4) [] mixed (by kernel_rfl) ?_; refine zd (zf rfl rfl rfl) rfl ?_; refine zd (zf rfl rfl rfl) rfl ?_; refine zd (yf L rfl rfl rfl rfl rfl (by assumption)) rfl ?_; refine zd (zf rfl rfl rfl) rfl ?_; refine zd (zf rfl rfl rfl) rfl ?_; refine zd (yf L rfl rfl rfl rfl rfl (by assumption)) rfl ?_; refine zd (qe rfl rfl rfl rfl (decide_eq_true (by omega))) rfl ?_; refine qq ?_; refine zj ?_; refine qa rfl ?_; refine zg ?_; refine z8 (id := 5) ?_; refine z7 (zi rfl rfl rfl) rfl ?_; refine zh ?_; refine zj ?_
        refine qi L (rs := [.tmp 4]) rfl (fun _ _ h => h) Since.refl fun u H hH hle => ?_
        exact congrArg _ (upTo_lt hall hx hy hxy).symm
      · by_cases hyx : (y.toNat : Int) < x.toNat
        · refine zg ?_; refine zg ?_; refine z8 (id := 2) ?_; refine z7 (zf rfl rfl rfl) rfl ?_; refine z7 (zf rfl rfl rfl) rfl ?_; refine z7 (yg L rfl rfl rfl rfl) rfl ?_; refine z7 (qe rfl rfl rfl rfl (decide_eq_true (by omega))) rfl ?_; refine z7 (zf rfl rfl rfl) rfl ?_; refine z7 (zf rfl rfl rfl) rfl ?_; refine z7 (zf rfl rfl rfl) rfl ?_; refine z7 (yg L rfl rfl rfl rfl) rfl ?_; refine z7 (qe rfl rfl rfl rfl (decide_eq_true (by omega))) rfl ?_; refine z7 (zw rfl rfl rfl rfl) rfl ?_; refine zh ?_; refine zj ?_; refine qa rfl ?_; refine q9 ?_; refine zj ?_; refine zg ?_; refine qd ?_; refine zg ?_; refine zg ?_; refine qj (id := 4) [] mixed (by kernel_rfl) ?_; refine zd (zf rfl rfl rfl) rfl ?_; refine zd (zf rfl rfl rfl) rfl ?_; refine zd (yf L rfl rfl rfl rfl rfl (by assumption)) rfl ?_; refine zd (zf rfl rfl rfl) rfl ?_; refine zd (zf rfl rfl rfl) rfl ?_; refine zd (yf L rfl rfl rfl rfl rfl (by assumption)) rfl ?_; refine zd (qe rfl rfl rfl rfl (decide_eq_false (by omega))) rfl ?_; refine qq ?_; refine zj ?_; refine q8 rfl ?_; refine q9 ?_; refine zj ?_; refine zg ?_; refine qj (id := 6) [] mixed (by kernel_rfl) ?_; refine zd (zf rfl rfl rfl) rfl ?_; refine zd (zf rfl rfl rfl) rfl ?_; refine zd (yf L rfl rfl rfl rfl rfl (by assumption)) rfl ?_; refine zd (zf rfl rfl rfl) rfl ?_; refine zd (zf rfl rfl rfl) rfl ?_; refine zd (yf L rfl rfl rfl rfl rfl (by assumption)) rfl ?_; refine zd (ok_gtr rfl rfl rfl rfl (decide_eq_true (by omega))) rfl ?_; refine qq ?_; refine zj ?_; refine qa rfl ?_; refine zg ?_; refine z8 (id := 7) ?_; refine z7 (zi rfl rfl rfl) rfl ?_; refine zh ?_; refine zj ?_
          refine qi L (rs := [.tmp 4]) rfl (fun _ _ h => h) Since.refl fun u H hH hle => ?_
          exact congrArg _ (upTo_gt hall hx hy hyx).symm
        · refine zg ?_; refine zg ?_; refine z8 (id := 2) ?_; refine z7 (zf rfl rfl rfl) rfl ?_; refine z7 (zf rfl rfl rfl) rfl ?_; refine z7 (yg L rfl rfl rfl rfl) rfl ?_; refine z7 (qe rfl rfl rfl rfl (decide_eq_true (by omega))) rfl ?_; refine z7 (zf rfl rfl rfl) rfl ?_; refine z7 (zf rfl rfl rfl) rfl ?_; refine z7 (zf rfl rfl rfl) rfl ?_; refine z7 (yg L rfl rfl rfl rfl) rfl ?_; refine z7 (qe rfl rfl rfl rfl (decide_eq_true (by omega))) rfl ?_; refine z7 (zw rfl rfl rfl rfl) rfl ?_; refine zh ?_; refine zj ?_; refine qa rfl ?_; refine q9 ?_; refine zj ?_; refine zg ?_; refine qd ?_; refine zg ?_; refine zg ?_; refine qj (id := 4) [] mixed (by kernel_rfl) ?_; refine zd (zf rfl rfl rfl) rfl ?_; refine zd (zf rfl rfl rfl) rfl ?_; refine zd (yf L rfl rfl rfl rfl rfl (by assumption)) rfl ?_; refine zd (zf rfl rfl rfl) rfl ?_; refine zd (zf rfl rfl rfl) rfl ?_; refine zd (yf L rfl rfl rfl rfl rfl (by assumption)) rfl ?_; refine zd (qe rfl rfl rfl rfl (decide_eq_false (by omega))) rfl ?_; refine qq ?_; refine zj ?_; refine q8 rfl ?_; refine q9 ?_; refine zj ?_; refine zg ?_; refine qj (id := 6) [] mixed (by kernel_rfl) ?_; refine zd (zf rfl rfl rfl) rfl ?_; refine zd (zf rfl rfl rfl) rfl ?_; refine zd (yf L rfl rfl rfl rfl rfl (by assumption)) rfl ?_; refine zd (zf rfl rfl rfl) rfl ?_; refine zd (zf rfl rfl rfl) rfl ?_; refine zd (yf L rfl rfl rfl rfl rfl (by assumption)) rfl ?_; refine zd (ok_gtr rfl rfl rfl rfl (decide_eq_false (by omega))) rfl ?_; refine qq ?_; refine zj ?_; refine q8 rfl ?_; refine q9 ?_; refine qr ?_; refine zj ?_; refine z8 (id := 3) ?_; refine z7 (zf rfl rfl rfl) rfl ?_; refine z7 (qy rfl rfl rfl rfl (wrap_i64 (by omega) (by omega))) rfl ?_; refine z7 (zi rfl rfl rfl) rfl ?_; refine zh ?_
          exact y7 (k + 1) ⟨h1, h2, upTo_next hall hx hy hxy hyx⟩ (by omega) ⟨rfl, rfl, rfl, trivial⟩
    · refine zg ?_; refine zg ?_; refine z8 (id := 2) ?_; refine z7 (zf rfl rfl rfl) rfl ?_; refine z7 (zf rfl rfl rfl) rfl ?_; refine z7 (yg L rfl rfl rfl rfl) rfl ?_; refine z7 (qe rfl rfl rfl rfl (decide_eq_true (by omega))) rfl ?_; refine z7 (zf rfl rfl rfl) rfl ?_; refine z7 (zf rfl rfl rfl) rfl ?_; refine z7 (zf rfl rfl rfl) rfl ?_; refine z7 (yg L rfl rfl rfl rfl) rfl ?_; refine z7 (qe rfl rfl rfl rfl (decide_eq_false (by omega))) rfl ?_; refine z7 (zw rfl rfl rfl rfl) rfl ?_; refine zh ?_; refine zj ?_; refine q8 rfl ?_; refine yi ?_; refine qu ?_; refine qu ?_; refine yh ?_; refine zj ?_; refine zg ?_; refine zg ?_; refine z8 (id := 8) ?_; refine z7 (zf rfl rfl rfl) rfl ?_; refine z7 (yg L rfl rfl rfl rfl) rfl ?_; refine z7 (zf rfl rfl rfl) rfl ?_; refine z7 (yg L rfl rfl rfl rfl) rfl ?_; refine z7 (qe rfl rfl rfl rfl (decide_eq_false (by omega))) rfl ?_; refine zh ?_; refine zj ?_; refine q8 rfl ?_; refine q9 ?_; refine zj ?_; refine zg ?_; refine zg ?_; refine z8 (id := 10) ?_; refine z7 (zf rfl rfl rfl) rfl ?_; refine z7 (yg L rfl rfl rfl rfl) rfl ?_; refine z7 (zf rfl rfl rfl) rfl ?_; refine z7 (yg L rfl rfl rfl rfl) rfl ?_; refine z7 (ok_gtr rfl rfl rfl rfl (decide_eq_true (by omega))) rfl ?_; refine zh ?_; refine zj ?_; refine qa rfl ?_; refine zg ?_; refine z8 (id := 11) ?_; refine z7 (zi rfl rfl rfl) rfl ?_; refine zh ?_; refine zj ?_
      refine qi L (rs := [.tmp 4]) rfl (fun _ _ h => h) Since.refl fun u H hH hle => ?_
      exact congrArg _ (upTo_long hall (by omega) h1).symm
  · by_cases h2 : k < b.size
    · refine zg ?_; refine zg ?_; refine z8 (id := 2) ?_; refine z7 (zf rfl rfl rfl) rfl ?_; refine z7 (zf rfl rfl rfl) rfl ?_; refine z7 (yg L rfl rfl rfl rfl) rfl ?_; refine z7 (qe rfl rfl rfl rfl (decide_eq_false (by omega))) rfl ?_; refine z7 (zf rfl rfl rfl) rfl ?_; refine z7 (zn rfl (zm rfl) rfl) rfl ?_; refine z7 (zn rfl (zm rfl) rfl) rfl ?_; refine z7 (zn rfl (zm rfl) rfl) rfl ?_; refine z7 (zn rfl (zm rfl) rfl) rfl ?_; refine z7 (zw rfl rfl rfl rfl) rfl ?_; refine zh ?_; refine zj ?_; refine q8 rfl ?_; refine yi ?_; refine qu ?_; refine qu ?_; refine yh ?_; refine zj ?_; refine zg ?_; refine zg ?_; refine z8 (id := 8) ?_; refine z7 (zf rfl rfl rfl) rfl ?_; refine z7 (yg L rfl rfl rfl rfl) rfl ?_; refine z7 (zf rfl rfl rfl) rfl ?_; refine z7 (yg L rfl rfl rfl rfl) rfl ?_; refine z7 (qe rfl rfl rfl rfl (decide_eq_true (by omega))) rfl ?_; refine zh ?_; refine zj ?_; refine qa rfl ?_; refine zg ?_; refine z8 (id := 9) ?_; refine z7 (zi rfl rfl rfl) rfl ?_; refine zh ?_; refine zj ?_
      refine qi L (rs := [.tmp 4]) rfl (fun _ _ h => h) Since.refl fun u H hH hle => ?_
      exact congrArg _ (upTo_short hall (by omega) h2).symm
    · refine zg ?_; refine zg ?_; refine z8 (id := 2) ?_; refine z7 (zf rfl rfl rfl) rfl ?_; refine z7 (zf rfl rfl rfl) rfl ?_; refine z7 (yg L rfl rfl rfl rfl) rfl ?_; refine z7 (qe rfl rfl rfl rfl (decide_eq_false (by omega))) rfl ?_; refine z7 (zf rfl rfl rfl) rfl ?_; refine z7 (zn rfl (zm rfl) rfl) rfl ?_; refine z7 (zn rfl (zm rfl) rfl) rfl ?_; refine z7 (zn rfl (zm rfl) rfl) rfl ?_; refine z7 (zn rfl (zm rfl) rfl) rfl ?_; refine z7 (zw rfl rfl rfl rfl) rfl ?_; refine zh ?_; refine zj ?_; refine q8 rfl ?_; refine yi ?_; refine qu ?_; refine qu ?_; refine yh ?_; refine zj ?_; refine zg ?_; refine zg ?_; refine z8 (id := 8) ?_; refine z7 (zf rfl rfl rfl) rfl ?_; refine z7 (yg L rfl rfl rfl rfl) rfl ?_; refine z7 (zf rfl rfl rfl) rfl ?_; refine z7 (yg L rfl rfl rfl rfl) rfl ?_; refine z7 (qe rfl rfl rfl rfl (decide_eq_false (by omega))) rfl ?_; refine zh ?_; refine zj ?_; refine q8 rfl ?_; refine q9 ?_; refine zj ?_; refine zg ?_; refine zg ?_; refine z8 (id := 10) ?_; refine z7 (zf rfl rfl rfl) rfl ?_; refine z7 (yg L rfl rfl rfl rfl) rfl ?_; refine z7 (zf rfl rfl rfl) rfl ?_; refine z7 (yg L rfl rfl rfl rfl) rfl ?_; refine z7 (ok_gtr rfl rfl rfl rfl (decide_eq_false (by omega))) rfl ?_; refine zh ?_; refine zj ?_; refine q8 rfl ?_; refine q9 ?_; refine zj ?_; refine zg ?_; refine z8 (id := 12) ?_; refine z7 (zi rfl rfl rfl) rfl ?_; refine zh ?_; refine zj ?_
      refine qi L (rs := [.tmp 4]) rfl (fun _ _ h => h) Since.refl fun u H hH hle => ?_
      exact congrArg _ (upTo_both hall (by omega) (by omega)).symm
theorem rcmpO_ret {a b c d : ByteArray} (ha : a.size ≤ 9223372036854775807) (hb : b.size ≤ 9223372036854775807) (hc : c.size ≤ 9223372036854775807) (hd : d.size ≤ 9223372036854775807) {w : World} {B : Heap} (hB : B.Le (hp w)) :
    Ret Tryz.prog 98 [.agg #[.string a, .string b], .agg #[.string c, .string d]] w B (fun v _ => v = .int .i64 (cmpO a b c d)) := by
  refine qx Tryz.func98 rfl Tryz.ntmps98 (Nat.le_of_ble_eq_true rfl) hB ?_
  by_cases h : a = c
  · have h' : ¬ a ≠ c := fun e => e h
    refine zg ?_; refine z8 (id := 0) ?_; refine z7 (qf rfl rfl rfl rfl) rfl ?_; refine z7 (qf rfl rfl rfl rfl) rfl ?_; refine z7 (zi rfl rfl rfl) rfl ?_; refine zh ?_; refine zj ?_; refine zg ?_; refine zg ?_; refine z8 (id := 1) ?_; refine z7 (zk L rfl rfl rfl rfl) rfl ?_; refine z7 (zo L (zq rfl) rfl rfl rfl rfl) rfl ?_; refine z7 (zk L rfl rfl rfl rfl) rfl ?_; refine z7 (zo L (zq rfl) rfl rfl rfl rfl) rfl ?_; refine z7 (qc rfl rfl rfl rfl (decide_eq_false (by assumption))) rfl ?_; refine zh ?_; refine zj ?_; refine q8 rfl ?_; refine q9 ?_; refine zj ?_; refine zg ?_; refine z8 (id := 3) ?_; refine z7 (zk L rfl rfl rfl rfl) rfl ?_; refine z7 (zo L (zq rfl) rfl rfl rfl rfl) rfl ?_; refine z7 (zk L rfl rfl rfl rfl) rfl ?_; refine z7 (zo L (zq rfl) rfl rfl rfl rfl) rfl ?_; refine z7 (q6 L rfl rfl (zm rfl) rfl rfl rfl (fun u H hH _ _ => rorder_ret (by first | assumption | omega | decide) (by first | assumption | omega | decide) hH)) rfl ?_; refine z7 (zi rfl rfl rfl) rfl ?_; refine zh ?_; refine zj ?_
    refine qi L (rs := [.tmp 4]) rfl (fun _ _ h => h) Since.refl fun u H hH hle => ?_
    exact congrArg _ (cmpO_2 h).symm
  · have h' : a ≠ c := h
    refine zg ?_; refine z8 (id := 0) ?_; refine z7 (qf rfl rfl rfl rfl) rfl ?_; refine z7 (qf rfl rfl rfl rfl) rfl ?_; refine z7 (zi rfl rfl rfl) rfl ?_; refine zh ?_; refine zj ?_; refine zg ?_; refine zg ?_; refine z8 (id := 1) ?_; refine z7 (zk L rfl rfl rfl rfl) rfl ?_; refine z7 (zo L (zq rfl) rfl rfl rfl rfl) rfl ?_; refine z7 (zk L rfl rfl rfl rfl) rfl ?_; refine z7 (zo L (zq rfl) rfl rfl rfl rfl) rfl ?_; refine z7 (qc rfl rfl rfl rfl (decide_eq_true (by assumption))) rfl ?_; refine zh ?_; refine zj ?_; refine qa rfl ?_; refine zg ?_; refine z8 (id := 2) ?_; refine z7 (zk L rfl rfl rfl rfl) rfl ?_; refine z7 (zo L (zq rfl) rfl rfl rfl rfl) rfl ?_; refine z7 (zk L rfl rfl rfl rfl) rfl ?_; refine z7 (zo L (zq rfl) rfl rfl rfl rfl) rfl ?_; refine z7 (q6 L rfl rfl (zm rfl) rfl rfl rfl (fun u H hH _ _ => rorder_ret (by first | assumption | omega | decide) (by first | assumption | omega | decide) hH)) rfl ?_; refine z7 (zi rfl rfl rfl) rfl ?_; refine zh ?_; refine zj ?_
    refine qi L (rs := [.tmp 4]) rfl (fun _ _ h => h) Since.refl fun u H hH hle => ?_
    exact congrArg _ (cmpO_1 h).symm
theorem rcmpG_ret {a b r c d s : ByteArray} (ha : a.size ≤ 9223372036854775807) (hb : b.size ≤ 9223372036854775807) (hr : r.size ≤ 9223372036854775807) (hc : c.size ≤ 9223372036854775807) (hd : d.size ≤ 9223372036854775807) (hs : s.size ≤ 9223372036854775807) {w : World} {B : Heap} (hB : B.Le (hp w)) :
    Ret Tryz.prog 82 [.agg #[.string a, .string b, .string r], .agg #[.string c, .string d, .string s]] w B (fun v _ => v = .int .i64 (cmpG a b r c d s)) := by
  refine qx Tryz.func82 rfl Tryz.ntmps82 (Nat.le_of_ble_eq_true rfl) hB ?_
  by_cases h : a = c ∧ b = d
  · have h' := eqCs2 (decide_eq_true h)
    refine zg ?_; refine z8 (id := 0) ?_; refine z7 (qf rfl rfl rfl rfl) rfl ?_; refine z7 (qf rfl rfl rfl rfl) rfl ?_; refine z7 (zi rfl rfl rfl) rfl ?_; refine zh ?_; refine zj ?_; refine zg ?_; refine zg ?_; refine z8 (id := 1) ?_; refine z7 (zk L rfl rfl rfl rfl) rfl ?_; refine z7 (zz L (vs := [_, _]) (zq rfl) rfl rfl rfl rfl ⟨_, rfl⟩) rfl ?_; refine z7 (zk L rfl rfl rfl rfl) rfl ?_; refine z7 (zz L (vs := [_, _]) (zq rfl) rfl rfl rfl rfl ⟨_, rfl⟩) rfl ?_; refine z7 (ok_aneq rfl rfl rfl rfl eq45 (by assumption) rfl) rfl ?_; refine zh ?_; refine zj ?_; refine q8 rfl ?_; refine q9 ?_; refine zj ?_; refine zg ?_; refine z8 (id := 3) ?_; refine z7 (zk L rfl rfl rfl rfl) rfl ?_; refine z7 (zo L (zq rfl) rfl rfl rfl rfl) rfl ?_; refine z7 (zk L rfl rfl rfl rfl) rfl ?_; refine z7 (zo L (zq rfl) rfl rfl rfl rfl) rfl ?_; refine z7 (q6 L rfl rfl (zm rfl) rfl rfl rfl (fun u H hH _ _ => rorder_ret (by first | assumption | omega | decide) (by first | assumption | omega | decide) hH)) rfl ?_; refine z7 (zi rfl rfl rfl) rfl ?_; refine zh ?_; refine zj ?_
    refine qi L (rs := [.tmp 4]) rfl (fun _ _ h => h) Since.refl fun u H hH hle => ?_
    exact congrArg _ (cmpG_2 h).symm
  · have h' := eqCs2 (decide_eq_false h)
    refine zg ?_; refine z8 (id := 0) ?_; refine z7 (qf rfl rfl rfl rfl) rfl ?_; refine z7 (qf rfl rfl rfl rfl) rfl ?_; refine z7 (zi rfl rfl rfl) rfl ?_; refine zh ?_; refine zj ?_; refine zg ?_; refine zg ?_; refine z8 (id := 1) ?_; refine z7 (zk L rfl rfl rfl rfl) rfl ?_; refine z7 (zz L (vs := [_, _]) (zq rfl) rfl rfl rfl rfl ⟨_, rfl⟩) rfl ?_; refine z7 (zk L rfl rfl rfl rfl) rfl ?_; refine z7 (zz L (vs := [_, _]) (zq rfl) rfl rfl rfl rfl ⟨_, rfl⟩) rfl ?_; refine z7 (ok_aneq rfl rfl rfl rfl eq45 (by assumption) rfl) rfl ?_; refine zh ?_; refine zj ?_; refine qa rfl ?_; refine zg ?_; refine z8 (id := 2) ?_; refine z7 (zk L rfl rfl rfl rfl) rfl ?_; refine z7 (zz L (vs := [_, _]) (zq rfl) rfl rfl rfl rfl ⟨_, rfl⟩) rfl ?_; refine z7 (zk L rfl rfl rfl rfl) rfl ?_; refine z7 (zz L (vs := [_, _]) (zq rfl) rfl rfl rfl rfl ⟨_, rfl⟩) rfl ?_; refine z7 (q6 L rfl rfl (zm rfl) rfl rfl rfl (fun u H hH _ _ => rcmpO_ret (by first | assumption | omega | decide) (by first | assumption | omega | decide) (by first | assumption | omega | decide) (by first | assumption | omega | decide) hH)) rfl ?_; refine z7 (zi rfl rfl rfl) rfl ?_; refine zh ?_; refine zj ?_
    refine qi L (rs := [.tmp 4]) rfl (fun _ _ h => h) Since.refl fun u H hH hle => ?_
    exact congrArg _ (cmpG_1 h).symm
theorem rcmpU_ret {a b r c d s : ByteArray} (ha : a.size ≤ 9223372036854775807) (hb : b.size ≤ 9223372036854775807) (hr : r.size ≤ 9223372036854775807) (hc : c.size ≤ 9223372036854775807) (hd : d.size ≤ 9223372036854775807) (hs : s.size ≤ 9223372036854775807) {w : World} {B : Heap} (hB : B.Le (hp w)) :
    Ret Tryz.prog 83 [.agg #[.string a, .string b, .string r], .agg #[.string c, .string d, .string s]] w B (fun v _ => v = .int .i64 (cmpG a b r c d s)) := by
  refine qx Tryz.func83 rfl Tryz.ntmps83 (Nat.le_of_ble_eq_true rfl) hB ?_
  by_cases h : a = c ∧ b = d
  · have h' := eqCs2 (decide_eq_true h)
    refine zg ?_; refine z8 (id := 0) ?_; refine z7 (qf rfl rfl rfl rfl) rfl ?_; refine z7 (qf rfl rfl rfl rfl) rfl ?_; refine z7 (zi rfl rfl rfl) rfl ?_; refine zh ?_; refine zj ?_; refine zg ?_; refine zg ?_; refine z8 (id := 1) ?_; refine z7 (zk L rfl rfl rfl rfl) rfl ?_; refine z7 (zz L (vs := [_, _]) (zq rfl) rfl rfl rfl rfl ⟨_, rfl⟩) rfl ?_; refine z7 (zk L rfl rfl rfl rfl) rfl ?_; refine z7 (zz L (vs := [_, _]) (zq rfl) rfl rfl rfl rfl ⟨_, rfl⟩) rfl ?_; refine z7 (ok_aneq rfl rfl rfl rfl eq45 (by assumption) rfl) rfl ?_; refine zh ?_; refine zj ?_; refine q8 rfl ?_; refine q9 ?_; refine zj ?_; refine zg ?_; refine z8 (id := 3) ?_; refine z7 (zk L rfl rfl rfl rfl) rfl ?_; refine z7 (zo L (zq rfl) rfl rfl rfl rfl) rfl ?_; refine z7 (zk L rfl rfl rfl rfl) rfl ?_; refine z7 (zo L (zq rfl) rfl rfl rfl rfl) rfl ?_; refine z7 (q6 L rfl rfl (zm rfl) rfl rfl rfl (fun u H hH _ _ => rorder_ret (by first | assumption | omega | decide) (by first | assumption | omega | decide) hH)) rfl ?_; refine z7 (zi rfl rfl rfl) rfl ?_; refine zh ?_; refine zj ?_
    refine qi L (rs := [.tmp 4]) rfl (fun _ _ h => h) Since.refl fun u H hH hle => ?_
    exact congrArg _ (cmpG_2 h).symm
  · have h' := eqCs2 (decide_eq_false h)
    refine zg ?_; refine z8 (id := 0) ?_; refine z7 (qf rfl rfl rfl rfl) rfl ?_; refine z7 (qf rfl rfl rfl rfl) rfl ?_; refine z7 (zi rfl rfl rfl) rfl ?_; refine zh ?_; refine zj ?_; refine zg ?_; refine zg ?_; refine z8 (id := 1) ?_; refine z7 (zk L rfl rfl rfl rfl) rfl ?_; refine z7 (zz L (vs := [_, _]) (zq rfl) rfl rfl rfl rfl ⟨_, rfl⟩) rfl ?_; refine z7 (zk L rfl rfl rfl rfl) rfl ?_; refine z7 (zz L (vs := [_, _]) (zq rfl) rfl rfl rfl rfl ⟨_, rfl⟩) rfl ?_; refine z7 (ok_aneq rfl rfl rfl rfl eq45 (by assumption) rfl) rfl ?_; refine zh ?_; refine zj ?_; refine qa rfl ?_; refine zg ?_; refine z8 (id := 2) ?_; refine z7 (zk L rfl rfl rfl rfl) rfl ?_; refine z7 (zz L (vs := [_, _]) (zq rfl) rfl rfl rfl rfl ⟨_, rfl⟩) rfl ?_; refine z7 (zk L rfl rfl rfl rfl) rfl ?_; refine z7 (zz L (vs := [_, _]) (zq rfl) rfl rfl rfl rfl ⟨_, rfl⟩) rfl ?_; refine z7 (q6 L rfl rfl (zm rfl) rfl rfl rfl (fun u H hH _ _ => rcmpO_ret (by first | assumption | omega | decide) (by first | assumption | omega | decide) (by first | assumption | omega | decide) (by first | assumption | omega | decide) hH)) rfl ?_; refine z7 (zi rfl rfl rfl) rfl ?_; refine zh ?_; refine zj ?_
    refine qi L (rs := [.tmp 4]) rfl (fun _ _ h => h) Since.refl fun u H hH hle => ?_
    exact congrArg _ (cmpG_1 h).symm
end Go.V
namespace Go.V
open Go.Proofs Go.RowKit
section
variable {α : Type} {c : α → α → Int}
theorem Ord3.irr (h : Ord3 c) (a : α) : ¬ c a a < 0 := by rw [h.refl]; decide
theorem Ord3.asym (h : Ord3 c) {a b : α} (h1 : c a b < 0) : ¬ c b a < 0 := by have := h.anti a b; omega
theorem Ord3.tr (h : Ord3 c) {a b d : α} (h1 : c a b < 0) (h2 : c b d < 0) : c a d < 0 := by
  have h3 := h.trans a b d (by omega) (by omega)
  by_cases h4 : c a d = 0
  · have := h.lt_of (a := a) (b := b) (d := d) (by omega) (by omega) h4; omega
  · omega
theorem Ord3.ne (h : Ord3 c) {a b : α} (h1 : c a b < 0) : a ≠ b := fun e => by subst e; exact h.irr a h1
theorem Ord3.tri (h : Ord3 c) {a b : α} (h1 : ¬ c a b < 0) (h2 : a ≠ b) : c b a < 0 := by
  have := h.anti a b
  have h3 : c a b ≠ 0 := fun e => h2 (h.eq _ _ e)
  omega
def Sst (c : α → α → Int) (l : List α) : Prop := l.Pairwise fun x y => c x y < 0
theorem Sst.nil : Sst c [] := List.Pairwise.nil
theorem Sst.nodup (h : Ord3 c) {l : List α} (hs : Sst c l) : l.Nodup := hs.imp fun h1 => h.ne h1
theorem sst_ext (h : Ord3 c) : ∀ {l m : List α}, Sst c l → Sst c m → (∀ z, z ∈ l ↔ z ∈ m) → l = m
  | [], [], _, _, _ => rfl
  | [], y :: m, _, _, e => by have := (e y).2 (List.mem_cons_self ..); cases this
  | y :: l, [], _, _, e => by have := (e y).1 (List.mem_cons_self ..); cases this
  | y :: l, x :: m, hl, hm, e => by
    have h1 := List.pairwise_cons.1 hl
    have h2 := List.pairwise_cons.1 hm
    have exy : y = x := by
      rcases List.mem_cons.1 ((e y).1 (List.mem_cons_self ..)) with e1 | e1
      · exact e1
      · rcases List.mem_cons.1 ((e x).2 (List.mem_cons_self ..)) with e2 | e2
        · exact e2.symm
        · exact absurd (h1.1 x e2) (h.asym (h2.1 y e1))
    subst exy
    congr 1
    refine sst_ext h h1.2 h2.2 fun z => ?_
    constructor
    · intro hz
      rcases List.mem_cons.1 ((e z).1 (List.mem_cons_of_mem _ hz)) with e1 | e1
      · subst e1; exact absurd (h1.1 _ hz) (h.irr _)
      · exact e1
    · intro hz
      rcases List.mem_cons.1 ((e z).2 (List.mem_cons_of_mem _ hz)) with e1 | e1
      · subst e1; exact absurd (h2.1 _ hz) (h.irr _)
      · exact e1
def insS (c : α → α → Int) (t : α) : List α → List α
  | [] => [t]
  | y :: l => if c t y < 0 then t :: y :: l else y :: insS c t l
theorem mem_insS {t z : α} : ∀ {l : List α}, z ∈ insS c t l ↔ z = t ∨ z ∈ l
  | [] => by simp [insS]
  | y :: l => by
    simp only [insS]
    split
    · simp
    · rw [List.mem_cons, mem_insS, List.mem_cons]
      constructor
      · rintro (e | e | e)
        · exact .inr (.inl e)
        · exact .inl e
        · exact .inr (.inr e)
      · rintro (e | e | e)
        · exact .inr (.inl e)
        · exact .inl e
        · exact .inr (.inr e)
theorem insS_length (t : α) : ∀ (l : List α), (insS c t l).length = l.length + 1
  | [] => rfl
  | y :: l => by
    simp only [insS]
    split
    · rfl
    · simp only [List.length_cons, insS_length t l]
theorem sst_insS (h : Ord3 c) {t : α} : ∀ {l : List α}, Sst c l → t ∉ l → Sst c (insS c t l)
  | [], _, _ => List.pairwise_singleton ..
  | y :: l, hs, ht => by
    have h1 := List.pairwise_cons.1 hs
    simp only [insS]
    split
    · rename_i hlt
      refine List.pairwise_cons.2 ⟨fun z hz => ?_, hs⟩
      rcases List.mem_cons.1 hz with rfl | hz
      · exact hlt
      · exact h.tr hlt (h1.1 z hz)
    · rename_i hlt
      refine List.pairwise_cons.2 ⟨fun z hz => ?_, sst_insS h h1.2 fun e => ht (List.mem_cons_of_mem _ e)⟩
      rcases mem_insS.1 hz with rfl | hz
      · exact h.tri hlt fun e => ht (by rw [e]; exact List.mem_cons_self ..)
      · exact h1.1 z hz
def Tk (f : Bool → Bool → Bool) (l m : List α) (z : α) : Prop := (z ∈ l ∧ z ∉ m ∧ f true false = true) ∨ (z ∉ l ∧ z ∈ m ∧ f false true = true) ∨ (z ∈ l ∧ z ∈ m ∧ f true true = true)
theorem Tk.or {f : Bool → Bool → Bool} {l m : List α} {z : α} (h : Tk f l m z) : z ∈ l ∨ z ∈ m := by
  rcases h with ⟨h, _⟩ | ⟨_, h, _⟩ | ⟨h, _⟩
  · exact .inl h
  · exact .inr h
  · exact .inl h
variable [DecidableEq α]
def sortS (c : α → α → Int) : List α → List α → List α
  | out, [] => out
  | out, t :: r => sortS c (if t ∈ out then out else insS c t out) r
theorem sst_sortS (h : Ord3 c) : ∀ {l out : List α}, Sst c out → Sst c (sortS c out l)
  | [], _, hs => hs
  | t :: r, out, hs => by
    simp only [sortS]
    refine sst_sortS h ?_
    split
    · exact hs
    · rename_i ht; exact sst_insS h hs ht
theorem mem_sortS {z : α} : ∀ {l out : List α}, z ∈ sortS c out l ↔ z ∈ out ∨ z ∈ l
  | [], _ => by simp [sortS]
  | t :: r, out => by
    simp only [sortS]
    rw [mem_sortS]
    split
    · rename_i ht
      constructor
      · rintro (e | e)
        · exact .inl e
        · exact .inr (List.mem_cons_of_mem _ e)
      · rintro (e | e)
        · exact .inl e
        · rcases List.mem_cons.1 e with rfl | e
          · exact .inl ht
          · exact .inr e
    · rw [mem_insS, List.mem_cons]
      constructor
      · rintro ((e | e) | e)
        · exact .inr (.inl e)
        · exact .inl e
        · exact .inr (.inr e)
      · rintro (e | e | e)
        · exact .inl (.inr e)
        · exact .inl (.inl e)
        · exact .inr e
theorem sortS_length : ∀ (l out : List α), (sortS c out l).length ≤ out.length + l.length
  | [], _ => Nat.le_refl _
  | t :: r, out => by
    have := sortS_length r (if t ∈ out then out else insS c t out)
    simp only [sortS]
    refine Nat.le_trans this ?_
    split
    · simp only [List.length_cons]; omega
    · rw [insS_length]; simp only [List.length_cons]; omega
theorem sortS_self (h : Ord3 c) {l : List α} (hs : Sst c l) : sortS c [] l = l := sst_ext h (sst_sortS h Sst.nil) hs fun z => by rw [mem_sortS]; simp
end
end Go.V
namespace Go.V
open Go.Proofs Go.RowKit
attribute [local irreducible] V N X VO Par StepOK Has Ret RetL Src
def GlobM (B : Heap) : Prop := ∃ m cs t fr, B 0 = some (.cells cs t fr) ∧ cs[0]? = some (.int .i64 m)
theorem GlobM.of_cell {w : World} {m : Int} (h : w.cell? ⟨0, 0, none⟩ = some (.int .i64 m)) : GlobM (hp w) := by
  unfold World.cell? at h
  split at h
  · rename_i cs t fr hb
    exact ⟨m, cs, t, fr, hb, by simpa using h⟩
  · cases h
theorem GlobM.mono {B H : Heap} (h : GlobM B) (hl : B.Le H) : GlobM H := let ⟨m, cs, t, fr, hb, hc⟩ := h; ⟨m, cs, t, fr, hl _ _ hb, hc⟩
def cutA (s : ByteArray) (c : UInt8) : ByteArray × ByteArray × Bool :=
  (⟨(Lib.cut s.data.toList [c]).1.toArray⟩, ⟨(Lib.cut s.data.toList [c]).2.1.toArray⟩, (Lib.cut s.data.toList [c]).2.2)
def hasA (s : ByteArray) (c : UInt8) : Bool := decide (0 ≤ Lib.indexByte s.data.toList c)
def cntA (s : ByteArray) (c : UInt8) : Nat := Lib.countByte s.data.toList c
theorem cut_ret {s : ByteArray} {c : UInt8} {f : Bool} (hs : s.size ≤ 1000000) {w : World} {B : Heap} (hB : B.Le (hp w)) (hM : GlobM B) (hf : (cutA s c).2.2 = f) :
    Ret Tryz.prog 70 [.string s, .string ⟨#[c]⟩] w B (fun v _ => v = .tuple #[.string (cutA s c).1, .string (cutA s c).2.1, .bool f]) := by
  obtain ⟨m, cs, t, fr, hb, hc⟩ := hM
  subst hf
  refine Ret.of_drawn hB (Tryz.strings_Cut s ⟨#[c]⟩ m w (by omega) ?_)
  rw [cell_of_heap (hB _ _ hb)]; exact hc
theorem contains_ret {s : ByteArray} {c : UInt8} {f : Bool} {w : World} {B : Heap} (hB : B.Le (hp w)) (hf : hasA s c = f) :
    Ret Tryz.prog 71 [.string s, .string ⟨#[c]⟩] w B (fun v _ => v = .bool f) := by
  subst hf
  exact Ret.of_same hB (Tryz.strings_Contains_one s c w)
theorem count_ret {s : ByteArray} {c : UInt8} {w : World} {B : Heap} (hB : B.Le (hp w)) :
    Ret Tryz.prog 110 [.string s, .string ⟨#[c]⟩] w B (fun v _ => v = .int .i64 (cntA s c)) := Ret.of_same hB (Tryz.strings_Count_one s c w)
theorem cutA_size (s : ByteArray) (c : UInt8) : (cutA s c).1.size ≤ s.size ∧ (cutA s c).2.1.size ≤ s.size := by
  unfold cutA Lib.cut
  have hl := len_toList s
  have e : ∀ l : List UInt8, (ByteArray.mk l.toArray).size = l.length := fun l => by show l.toArray.size = _; simp
  generalize s.data.toList = l at hl ⊢
  rw [← hl]
  split
  · simp only [e, List.length_take, List.length_drop]; omega
  · simp only [e, List.length_nil]; omega
def partsA (s : ByteArray) : Option (ByteArray × ByteArray × ByteArray × Bool) :=
  if ((cutA s 58).2.2 && !hasA (cutA s 58).1 35 && !hasA (cutA s 58).2.1 58) = true ∧ cntA (cutA s 58).2.1 35 ≤ 1 then
    some ((cutA s 58).1, (cutA (cutA s 58).2.1 35).1, (cutA (cutA s 58).2.1 35).2.1, (cutA (cutA s 58).2.1 35).2.2)
  else none
theorem partsA_size {s a b c : ByteArray} {d : Bool} (h : partsA s = some (a, b, c, d)) : a.size ≤ s.size ∧ b.size ≤ s.size ∧ c.size ≤ s.size := by
  unfold partsA at h
  split at h
  · cases h
    have h1 := cutA_size s 58
    have h2 := cutA_size (cutA s 58).2.1 35
    omega
  · cases h
set_option maxHeartbeats 400000 in
theorem cut1_ret {s : ByteArray} {f : Bool} (hs : s.size ≤ 1000000) {w : World} {B : Heap} (hB : B.Le (hp w)) (hM : GlobM B) (hf : ((cutA s 58).2.2 && !hasA (cutA s 58).1 35 && !hasA (cutA s 58).2.1 58) = f) :
    Ret Tryz.prog 109 [.string s, .string ⟨#[58]⟩] w B (fun v _ => v = .tuple #[.string (cutA s 58).1, .string (cutA s 58).2.1, .bool f]) := by
  subst hf
  refine qx Tryz.func109 rfl Tryz.ntmps109 (Nat.le_of_ble_eq_true rfl) hB ?_
  cases h1 : (cutA s 58).2.2
  · refine zg ?_; refine z8 (id := 0) ?_; refine z7 (zi rfl rfl rfl) rfl ?_; refine z7 (zi rfl rfl rfl) rfl ?_; refine z7 (zi rfl rfl rfl) rfl ?_; refine zh ?_; refine zj ?_; refine zg ?_; refine z8 (id := 1) ?_; refine z7 (zf rfl rfl rfl) rfl ?_; refine z7 (zf rfl rfl rfl) rfl ?_; refine z7 (q6 L rfl rfl (zm rfl) rfl rfl rfl (fun u H hH hle _ => cut_ret (by assumption) hH (GlobM.mono (by assumption) hle) (by assumption))) rfl ?_; refine z7 (zf rfl rfl rfl) rfl ?_; refine z7 (qb rfl rfl rfl rfl) rfl ?_; refine z7 (qb rfl rfl rfl rfl) rfl ?_; refine z7 (qb rfl rfl rfl rfl) rfl ?_; refine z7 (zi rfl rfl rfl) rfl ?_; refine z7 (zi rfl rfl rfl) rfl ?_; refine z7 (zi rfl rfl rfl) rfl ?_; refine zh ?_; refine zj ?_; refine zg ?_; refine z8 (id := 2) ?_; refine z7 (zf rfl rfl rfl) rfl ?_; refine z7 (zf rfl rfl rfl) rfl ?_; refine z7 (zf rfl rfl rfl) rfl ?_; refine z7 (zf rfl rfl rfl) rfl ?_; refine z7 (zn rfl (zm rfl) rfl) rfl ?_; refine z7 (zn rfl (zm rfl) rfl) rfl ?_; refine z7 (zn rfl (zm rfl) rfl) rfl ?_; refine z7 (zw rfl rfl rfl rfl) rfl ?_; refine z7 (zf rfl rfl rfl) rfl ?_; refine z7 (zn rfl (zm rfl) rfl) rfl ?_; refine z7 (zn rfl (zm rfl) rfl) rfl ?_; refine z7 (zn rfl (zm rfl) rfl) rfl ?_; refine z7 (zw rfl rfl rfl rfl) rfl ?_; refine z7 (zi rfl rfl rfl) rfl ?_; refine z7 (zi rfl rfl rfl) rfl ?_; refine z7 (zi rfl rfl rfl) rfl ?_; refine zh ?_; refine zj ?_
    refine qi L (rs := [.tmp 4, .tmp 5, .tmp 6]) rfl (fun _ _ h => h) Since.refl fun u H hH hle => ?_
    rfl
  · cases h2 : hasA (cutA s 58).1 35
    · cases h3 : hasA (cutA s 58).2.1 58
      · refine zg ?_; refine z8 (id := 0) ?_; refine z7 (zi rfl rfl rfl) rfl ?_; refine z7 (zi rfl rfl rfl) rfl ?_; refine z7 (zi rfl rfl rfl) rfl ?_; refine zh ?_; refine zj ?_; refine zg ?_; refine z8 (id := 1) ?_; refine z7 (zf rfl rfl rfl) rfl ?_; refine z7 (zf rfl rfl rfl) rfl ?_; refine z7 (q6 L rfl rfl (zm rfl) rfl rfl rfl (fun u H hH hle _ => cut_ret (by assumption) hH (GlobM.mono (by assumption) hle) (by assumption))) rfl ?_; refine z7 (zf rfl rfl rfl) rfl ?_; refine z7 (qb rfl rfl rfl rfl) rfl ?_; refine z7 (qb rfl rfl rfl rfl) rfl ?_; refine z7 (qb rfl rfl rfl rfl) rfl ?_; refine z7 (zi rfl rfl rfl) rfl ?_; refine z7 (zi rfl rfl rfl) rfl ?_; refine z7 (zi rfl rfl rfl) rfl ?_; refine zh ?_; refine zj ?_; refine zg ?_; refine z8 (id := 2) ?_; refine z7 (zf rfl rfl rfl) rfl ?_; refine z7 (zf rfl rfl rfl) rfl ?_; refine z7 (zf rfl rfl rfl) rfl ?_; refine z7 (zf rfl rfl rfl) rfl ?_; refine z7 (zf rfl rfl rfl) rfl ?_; refine z7 (q6 L rfl rfl (zm rfl) rfl rfl rfl (fun u H hH _ _ => contains_ret hH (by assumption))) rfl ?_; refine z7 (yk rfl rfl rfl rfl) rfl ?_; refine z7 (zw rfl rfl rfl rfl) rfl ?_; refine z7 (zf rfl rfl rfl) rfl ?_; refine z7 (zf rfl rfl rfl) rfl ?_; refine z7 (q6 L rfl rfl (zm rfl) rfl rfl rfl (fun u H hH _ _ => contains_ret hH (by assumption))) rfl ?_; refine z7 (yk rfl rfl rfl rfl) rfl ?_; refine z7 (zw rfl rfl rfl rfl) rfl ?_; refine z7 (zi rfl rfl rfl) rfl ?_; refine z7 (zi rfl rfl rfl) rfl ?_; refine z7 (zi rfl rfl rfl) rfl ?_; refine zh ?_; refine zj ?_
        refine qi L (rs := [.tmp 4, .tmp 5, .tmp 6]) rfl (fun _ _ h => h) Since.refl fun u H hH hle => ?_
        rfl
      · refine zg ?_; refine z8 (id := 0) ?_; refine z7 (zi rfl rfl rfl) rfl ?_; refine z7 (zi rfl rfl rfl) rfl ?_; refine z7 (zi rfl rfl rfl) rfl ?_; refine zh ?_; refine zj ?_; refine zg ?_; refine z8 (id := 1) ?_; refine z7 (zf rfl rfl rfl) rfl ?_; refine z7 (zf rfl rfl rfl) rfl ?_; refine z7 (q6 L rfl rfl (zm rfl) rfl rfl rfl (fun u H hH hle _ => cut_ret (by assumption) hH (GlobM.mono (by assumption) hle) (by assumption))) rfl ?_; refine z7 (zf rfl rfl rfl) rfl ?_; refine z7 (qb rfl rfl rfl rfl) rfl ?_; refine z7 (qb rfl rfl rfl rfl) rfl ?_; refine z7 (qb rfl rfl rfl rfl) rfl ?_; refine z7 (zi rfl rfl rfl) rfl ?_; refine z7 (zi rfl rfl rfl) rfl ?_; refine z7 (zi rfl rfl rfl) rfl ?_; refine zh ?_; refine zj ?_; refine zg ?_; refine z8 (id := 2) ?_; refine z7 (zf rfl rfl rfl) rfl ?_; refine z7 (zf rfl rfl rfl) rfl ?_; refine z7 (zf rfl rfl rfl) rfl ?_; refine z7 (zf rfl rfl rfl) rfl ?_; refine z7 (zf rfl rfl rfl) rfl ?_; refine z7 (q6 L rfl rfl (zm rfl) rfl rfl rfl (fun u H hH _ _ => contains_ret hH (by assumption))) rfl ?_; refine z7 (yk rfl rfl rfl rfl) rfl ?_; refine z7 (zw rfl rfl rfl rfl) rfl ?_; refine z7 (zf rfl rfl rfl) rfl ?_; refine z7 (zf rfl rfl rfl) rfl ?_; refine z7 (q6 L rfl rfl (zm rfl) rfl rfl rfl (fun u H hH _ _ => contains_ret hH (by assumption))) rfl ?_; refine z7 (yk rfl rfl rfl rfl) rfl ?_; refine z7 (zw rfl rfl rfl rfl) rfl ?_; refine z7 (zi rfl rfl rfl) rfl ?_; refine z7 (zi rfl rfl rfl) rfl ?_; refine z7 (zi rfl rfl rfl) rfl ?_; refine zh ?_; refine zj ?_
        refine qi L (rs := [.tmp 4, .tmp 5, .tmp 6]) rfl (fun _ _ h => h) Since.refl fun u H hH hle => ?_
        rfl
    · refine zg ?_; refine z8 (id := 0) ?_; refine z7 (zi rfl rfl rfl) rfl ?_; refine z7 (zi rfl rfl rfl) rfl ?_; refine z7 (zi rfl rfl rfl) rfl ?_; refine zh ?_; refine zj ?_; refine zg ?_; refine z8 (id := 1) ?_; refine z7 (zf rfl rfl rfl) rfl ?_; refine z7 (zf rfl rfl rfl) rfl ?_; refine z7 (q6 L rfl rfl (zm rfl) rfl rfl rfl (fun u H hH hle _ => cut_ret (by assumption) hH (GlobM.mono (by assumption) hle) (by assumption))) rfl ?_; refine z7 (zf rfl rfl rfl) rfl ?_; refine z7 (qb rfl rfl rfl rfl) rfl ?_; refine z7 (qb rfl rfl rfl rfl) rfl ?_; refine z7 (qb rfl rfl rfl rfl) rfl ?_; refine z7 (zi rfl rfl rfl) rfl ?_; refine z7 (zi rfl rfl rfl) rfl ?_; refine z7 (zi rfl rfl rfl) rfl ?_; refine zh ?_; refine zj ?_; refine zg ?_; refine z8 (id := 2) ?_; refine z7 (zf rfl rfl rfl) rfl ?_; refine z7 (zf rfl rfl rfl) rfl ?_; refine z7 (zf rfl rfl rfl) rfl ?_; refine z7 (zf rfl rfl rfl) rfl ?_; refine z7 (zf rfl rfl rfl) rfl ?_; refine z7 (q6 L rfl rfl (zm rfl) rfl rfl rfl (fun u H hH _ _ => contains_ret hH (by assumption))) rfl ?_; refine z7 (yk rfl rfl rfl rfl) rfl ?_; refine z7 (zw rfl rfl rfl rfl) rfl ?_; refine z7 (zf rfl rfl rfl) rfl ?_; refine z7 (zn rfl (zm rfl) rfl) rfl ?_; refine z7 (zn rfl (zm rfl) rfl) rfl ?_; refine z7 (zn rfl (zm rfl) rfl) rfl ?_; refine z7 (zw rfl rfl rfl rfl) rfl ?_; refine z7 (zi rfl rfl rfl) rfl ?_; refine z7 (zi rfl rfl rfl) rfl ?_; refine z7 (zi rfl rfl rfl) rfl ?_; refine zh ?_; refine zj ?_
      refine qi L (rs := [.tmp 4, .tmp 5, .tmp 6]) rfl (fun _ _ h => h) Since.refl fun u H hH hle => ?_
      rfl
set_option maxHeartbeats 400000 in
theorem parts_none {s : ByteArray} (hs : s.size ≤ 1000000) {w : World} {B : Heap} (hB : B.Le (hp w)) (hM : GlobM B) (h : partsA s = none) :
    Ret Tryz.prog 92 [.string s] w B (fun v _ => v = .tuple #[.agg #[.string ⟨#[]⟩, .string ⟨#[]⟩], .string ⟨#[]⟩, .bool false, .bool false]) := by
  refine qx Tryz.func92 rfl Tryz.ntmps92 (Nat.le_of_ble_eq_true rfl) hB ?_
  unfold partsA at h
  cases h1 : ((cutA s 58).2.2 && !hasA (cutA s 58).1 35 && !hasA (cutA s 58).2.1 58)
  · refine zg ?_; refine z8 (id := 0) ?_; refine z7 (qm L rfl rfl rfl rfl) rfl ?_; refine z7 (zi rfl rfl rfl) rfl ?_; refine z7 (zi rfl rfl rfl) rfl ?_; refine z7 (zi rfl rfl rfl) rfl ?_; refine zh ?_; refine zj ?_; refine zg ?_; refine z8 (id := 1) ?_; refine z7 (zi rfl rfl rfl) rfl ?_; refine zh ?_; refine zj ?_; refine zg ?_; refine z8 (id := 2) ?_; refine z7 (zf rfl rfl rfl) rfl ?_; refine z7 (zf rfl rfl rfl) rfl ?_; refine z7 (q6 L rfl rfl (zm rfl) rfl rfl rfl (fun u H hH hle _ => cut1_ret (by assumption) hH (GlobM.mono (by assumption) hle) (by assumption))) rfl ?_; refine z7 (zf rfl rfl rfl) rfl ?_; refine z7 (qb rfl rfl rfl rfl) rfl ?_; refine z7 (qb rfl rfl rfl rfl) rfl ?_; refine z7 (qb rfl rfl rfl rfl) rfl ?_; refine z7 (zi rfl rfl rfl) rfl ?_; refine z7 (zi rfl rfl rfl) rfl ?_; refine z7 (zi rfl rfl rfl) rfl ?_; refine zh ?_; refine zj ?_; refine zg ?_; refine zg ?_; refine z8 (id := 3) ?_; refine z7 (zf rfl rfl rfl) rfl ?_; refine z7 (yk rfl rfl rfl rfl) rfl ?_; refine z7 (zf rfl rfl rfl) rfl ?_; refine z7 (zn rfl (zm rfl) rfl) rfl ?_; refine z7 (zn rfl (zm rfl) rfl) rfl ?_; refine z7 (zn rfl (zm rfl) rfl) rfl ?_; refine z7 (zw rfl rfl rfl rfl) rfl ?_; refine zh ?_; refine zj ?_; refine qa rfl ?_; refine zg ?_; refine z8 (id := 4) ?_; refine z7 (qv (cs := [_, _]) rfl rfl pl45 rfl rfl) rfl ?_; refine z7 (qg L rfl rfl rfl rfl rfl rfl rfl rfl) rfl ?_; refine z7 (zi rfl rfl rfl) rfl ?_; refine z7 (zi rfl rfl rfl) rfl ?_; refine z7 (zi rfl rfl rfl) rfl ?_; refine zh ?_; refine zj ?_
    refine qi L (rs := [.cell 2 45, .tmp 3, .tmp 4, .tmp 5]) rfl (fun _ _ h => h) Since.refl fun u H hH hle => ?_
    exact ⟨_, ql rfl, rfl, rfl⟩
  · have h2 : ¬ cntA (cutA s 58).2.1 35 ≤ 1 := fun h2 => by rw [if_pos ⟨h1, h2⟩] at h; cases h
    clear h
    refine zg ?_; refine z8 (id := 0) ?_; refine z7 (qm L rfl rfl rfl rfl) rfl ?_; refine z7 (zi rfl rfl rfl) rfl ?_; refine z7 (zi rfl rfl rfl) rfl ?_; refine z7 (zi rfl rfl rfl) rfl ?_; refine zh ?_; refine zj ?_; refine zg ?_; refine z8 (id := 1) ?_; refine z7 (zi rfl rfl rfl) rfl ?_; refine zh ?_; refine zj ?_; refine zg ?_; refine z8 (id := 2) ?_; refine z7 (zf rfl rfl rfl) rfl ?_; refine z7 (zf rfl rfl rfl) rfl ?_; refine z7 (q6 L rfl rfl (zm rfl) rfl rfl rfl (fun u H hH hle _ => cut1_ret (by assumption) hH (GlobM.mono (by assumption) hle) (by assumption))) rfl ?_; refine z7 (zf rfl rfl rfl) rfl ?_; refine z7 (qb rfl rfl rfl rfl) rfl ?_; refine z7 (qb rfl rfl rfl rfl) rfl ?_; refine z7 (qb rfl rfl rfl rfl) rfl ?_; refine z7 (zi rfl rfl rfl) rfl ?_; refine z7 (zi rfl rfl rfl) rfl ?_; refine z7 (zi rfl rfl rfl) rfl ?_; refine zh ?_; refine zj ?_; refine zg ?_; refine zg ?_; refine z8 (id := 3) ?_; refine z7 (zf rfl rfl rfl) rfl ?_; refine z7 (yk rfl rfl rfl rfl) rfl ?_; refine z7 (zf rfl rfl rfl) rfl ?_; refine z7 (zf rfl rfl rfl) rfl ?_; refine z7 (q6 L rfl rfl (zm rfl) rfl rfl rfl (fun u H hH _ _ => count_ret hH)) rfl ?_; refine z7 (ok_gtr rfl rfl rfl rfl (decide_eq_true (by omega))) rfl ?_; refine z7 (zw rfl rfl rfl rfl) rfl ?_; refine zh ?_; refine zj ?_; refine qa rfl ?_; refine zg ?_; refine z8 (id := 4) ?_; refine z7 (qv (cs := [_, _]) rfl rfl pl45 rfl rfl) rfl ?_; refine z7 (qg L rfl rfl rfl rfl rfl rfl rfl rfl) rfl ?_; refine z7 (zi rfl rfl rfl) rfl ?_; refine z7 (zi rfl rfl rfl) rfl ?_; refine z7 (zi rfl rfl rfl) rfl ?_; refine zh ?_; refine zj ?_
    refine qi L (rs := [.cell 2 45, .tmp 3, .tmp 4, .tmp 5]) rfl (fun _ _ h => h) Since.refl fun u H hH hle => ?_
    exact ⟨_, ql rfl, rfl, rfl⟩
set_option maxHeartbeats 400000 in
theorem parts_some {s a b c : ByteArray} {d : Bool} (hs : s.size ≤ 1000000) {w : World} {B : Heap} (hB : B.Le (hp w)) (hM : GlobM B) (h : partsA s = some (a, b, c, d)) :
    Ret Tryz.prog 92 [.string s] w B (fun v _ => v = .tuple #[.agg #[.string a, .string b], .string c, .bool d, .bool true]) := by
  refine qx Tryz.func92 rfl Tryz.ntmps92 (Nat.le_of_ble_eq_true rfl) hB ?_
  unfold partsA at h
  split at h
  · rename_i hc
    obtain ⟨h1, h2⟩ := hc
    cases h
    have hz := cutA_size s 58
    have hz2 : (cutA s 58).2.1.size ≤ 1000000 := by omega
    refine zg ?_; refine z8 (id := 0) ?_; refine z7 (qm L rfl rfl rfl rfl) rfl ?_; refine z7 (zi rfl rfl rfl) rfl ?_; refine z7 (zi rfl rfl rfl) rfl ?_; refine z7 (zi rfl rfl rfl) rfl ?_; refine zh ?_; refine zj ?_; refine zg ?_; refine z8 (id := 1) ?_; refine z7 (zi rfl rfl rfl) rfl ?_; refine zh ?_; refine zj ?_; refine zg ?_; refine z8 (id := 2) ?_; refine z7 (zf rfl rfl rfl) rfl ?_; refine z7 (zf rfl rfl rfl) rfl ?_; refine z7 (q6 L rfl rfl (zm rfl) rfl rfl rfl (fun u H hH hle _ => cut1_ret (by assumption) hH (GlobM.mono (by assumption) hle) (by assumption))) rfl ?_; refine z7 (zf rfl rfl rfl) rfl ?_; refine z7 (qb rfl rfl rfl rfl) rfl ?_; refine z7 (qb rfl rfl rfl rfl) rfl ?_; refine z7 (qb rfl rfl rfl rfl) rfl ?_; refine z7 (zi rfl rfl rfl) rfl ?_; refine z7 (zi rfl rfl rfl) rfl ?_; refine z7 (zi rfl rfl rfl) rfl ?_; refine zh ?_; refine zj ?_; refine zg ?_; refine zg ?_; refine z8 (id := 3) ?_; refine z7 (zf rfl rfl rfl) rfl ?_; refine z7 (yk rfl rfl rfl rfl) rfl ?_; refine z7 (zf rfl rfl rfl) rfl ?_; refine z7 (zf rfl rfl rfl) rfl ?_; refine z7 (q6 L rfl rfl (zm rfl) rfl rfl rfl (fun u H hH _ _ => count_ret hH)) rfl ?_; refine z7 (ok_gtr rfl rfl rfl rfl (decide_eq_false (by omega))) rfl ?_; refine z7 (zw rfl rfl rfl rfl) rfl ?_; refine zh ?_; refine zj ?_; refine q8 rfl ?_; refine q9 ?_; refine zj ?_; refine zg ?_; refine z8 (id := 5) ?_; refine z7 (zf rfl rfl rfl) rfl ?_; refine z7 (q6 L rfl rfl (zm rfl) rfl rfl rfl (fun u H hH hle _ => cut_ret (by assumption) hH (GlobM.mono (by assumption) hle) rfl)) rfl ?_; refine z7 (zf rfl rfl rfl) rfl ?_; refine z7 (qb rfl rfl rfl rfl) rfl ?_; refine z7 (qb rfl rfl rfl rfl) rfl ?_; refine z7 (qb rfl rfl rfl rfl) rfl ?_; refine z7 (zi rfl rfl rfl) rfl ?_; refine z7 (zi rfl rfl rfl) rfl ?_; refine z7 (zi rfl rfl rfl) rfl ?_; refine zh ?_; refine zj ?_; refine zg ?_; refine z8 (id := 6) ?_; refine z7 (zf rfl rfl rfl) rfl ?_; refine z7 (zf rfl rfl rfl) rfl ?_; refine z7 (qv (cs := [_, _]) rfl rfl pl45 rfl rfl) rfl ?_; refine z7 (zf rfl rfl rfl) rfl ?_; refine z7 (zf rfl rfl rfl) rfl ?_; refine z7 (qg L rfl rfl rfl rfl rfl rfl rfl rfl) rfl ?_; refine z7 (zi rfl rfl rfl) rfl ?_; refine z7 (zi rfl rfl rfl) rfl ?_; refine z7 (zi rfl rfl rfl) rfl ?_; refine zh ?_; refine zj ?_
    refine qi L (rs := [.cell 2 45, .tmp 3, .tmp 4, .tmp 5]) rfl (fun _ _ h => h) Since.refl fun u H hH hle => ?_
    exact ⟨_, ql rfl, rfl, rfl⟩
  · cases h
end Go.V
namespace Go.V
open Go.Proofs Go.RowKit
attribute [local irreducible] V N X VO Par StepOK Has Ret RetL Src
abbrev sNil : ByteArray := ⟨#[]⟩
def pgA (s : ByteArray) : ByteArray × ByteArray × ByteArray × Int :=
  match partsA s with
  | none => (sNil, sNil, sNil, 5)
  | some (a, b, c, d) => if d = false then (sNil, sNil, sNil, 5) else if allE [a, b, c] = 0 then (a, b, c, 0) else (sNil, sNil, sNil, allE [a, b, c])
def psA (s : ByteArray) : ByteArray × ByteArray × ByteArray × Int :=
  match partsA s with
  | none => (sNil, sNil, sNil, 5)
  | some (a, b, c, d) => if allE [a, b] = 0 then (if d = true then (if chk c = 0 then (a, b, c, 0) else (sNil, sNil, sNil, chk c)) else (a, b, c, 0)) else (sNil, sNil, sNil, allE [a, b])
set_option maxHeartbeats 400000 in
theorem ps_ret {s : ByteArray} {r : ByteArray × ByteArray × ByteArray × Int} (hr : psA s = r) (hs : s.size ≤ 1000000) {w : World} {B : Heap} (hB : B.Le (hp w)) (hM : GlobM B) :
    Ret Tryz.prog 73 [.string s] w B (fun v _ => v = .tuple #[.agg #[.string r.1, .string r.2.1, .string r.2.2.1], .int .i64 r.2.2.2]) := by
  refine qx Tryz.func73 rfl Tryz.ntmps73 (Nat.le_of_ble_eq_true rfl) hB ?_
  unfold psA at hr
  cases hp : partsA s with
  | none =>
    rw [hp] at hr; simp only at hr; subst hr
    refine zg ?_; refine z8 (id := 0) ?_; refine z7 (qm L rfl rfl rfl rfl) rfl ?_; refine z7 (zi rfl rfl rfl) rfl ?_; refine zh ?_; refine zj ?_; refine zg ?_; refine z8 (id := 1) ?_; refine z7 (zf rfl rfl rfl) rfl ?_; refine z7 (q6 L rfl rfl (zm rfl) rfl rfl rfl (fun u H hH hle _ => parts_none (by assumption) hH (GlobM.mono (by assumption) hle) (by assumption))) rfl ?_; refine z7 (zf rfl rfl rfl) rfl ?_; refine z7 (qb rfl rfl rfl rfl) rfl ?_; refine z7 (qb rfl rfl rfl rfl) rfl ?_; refine z7 (qb rfl rfl rfl rfl) rfl ?_; refine z7 (qb rfl rfl rfl rfl) rfl ?_; refine z7 (qm L rfl rfl rfl rfl) rfl ?_; refine z7 (qg L rfl rfl rfl rfl rfl rfl rfl rfl) rfl ?_; refine z7 (zi rfl rfl rfl) rfl ?_; refine z7 (zi rfl rfl rfl) rfl ?_; refine z7 (zi rfl rfl rfl) rfl ?_; refine zh ?_; refine zj ?_; refine zg ?_; refine zg ?_; refine z8 (id := 2) ?_; refine z7 (zf rfl rfl rfl) rfl ?_; refine z7 (yk rfl rfl rfl rfl) rfl ?_; refine zh ?_; refine zj ?_; refine qa rfl ?_; refine zg ?_; refine z8 (id := 3) ?_; refine z7 (qv (cs := [_, _, _]) rfl rfl pl48 rfl rfl) rfl ?_; refine z7 (qg L rfl rfl rfl rfl rfl rfl rfl rfl) rfl ?_; refine z7 (zi rfl rfl rfl) rfl ?_; refine zh ?_; refine zj ?_
    refine qi L (rs := [.cell 2 48, .tmp 3]) rfl (fun _ _ h => h) Since.refl fun u H hH hle => ?_
    exact ⟨_, ql rfl, rfl, rfl⟩
  | some p =>
    obtain ⟨a, b, c, d⟩ := p
    rw [hp] at hr; simp only at hr
    have hz := partsA_size hp
    have ha : a.size ≤ 1099511627776 := by omega
    have hb : b.size ≤ 1099511627776 := by omega
    have hc : c.size ≤ 1099511627776 := by omega
    by_cases h0 : allE [a, b] = 0
    · rw [if_pos h0] at hr
      cases d with
      | false =>
        rw [if_neg (by decide)] at hr; subst hr
        refine zg ?_; refine z8 (id := 0) ?_; refine z7 (qm L rfl rfl rfl rfl) rfl ?_; refine z7 (zi rfl rfl rfl) rfl ?_; refine zh ?_; refine zj ?_; refine zg ?_; refine z8 (id := 1) ?_; refine z7 (zf rfl rfl rfl) rfl ?_; refine z7 (q6 L rfl rfl (zm rfl) rfl rfl rfl (fun u H hH hle _ => parts_some (by assumption) hH (GlobM.mono (by assumption) hle) (by assumption))) rfl ?_; refine z7 (zf rfl rfl rfl) rfl ?_; refine z7 (qb rfl rfl rfl rfl) rfl ?_; refine z7 (qb rfl rfl rfl rfl) rfl ?_; refine z7 (qb rfl rfl rfl rfl) rfl ?_; refine z7 (qb rfl rfl rfl rfl) rfl ?_; refine z7 (qm L rfl rfl rfl rfl) rfl ?_; refine z7 (qg L rfl rfl rfl rfl rfl rfl rfl rfl) rfl ?_; refine z7 (zi rfl rfl rfl) rfl ?_; refine z7 (zi rfl rfl rfl) rfl ?_; refine z7 (zi rfl rfl rfl) rfl ?_; refine zh ?_; refine zj ?_; refine zg ?_; refine zg ?_; refine z8 (id := 2) ?_; refine z7 (zf rfl rfl rfl) rfl ?_; refine z7 (yk rfl rfl rfl rfl) rfl ?_; refine zh ?_; refine zj ?_; refine q8 rfl ?_; refine q9 ?_; refine zj ?_; refine zg ?_; refine z8 (id := 4) ?_; refine z7 (zz L (vs := [_, _]) (ql rfl) rfl rfl rfl rfl ⟨_, rfl⟩) rfl ?_; refine z7 (q6 L rfl rfl (zm rfl) rfl rfl rfl (fun u H hH _ _ => object_ret (by first | assumption | omega | decide) (by first | assumption | omega | decide) hH)) rfl ?_; refine z7 (zi rfl rfl rfl) rfl ?_; refine zh ?_; refine zj ?_; refine zg ?_; refine zg ?_; refine z8 (id := 5) ?_; refine z7 (zf rfl rfl rfl) rfl ?_; refine z7 (zf rfl rfl rfl) rfl ?_; refine z7 (zn rfl (zm rfl) rfl) rfl ?_; refine z7 (zn rfl (zm rfl) rfl) rfl ?_; refine z7 (zw rfl rfl rfl rfl) rfl ?_; refine zh ?_; refine zj ?_; refine q8 rfl ?_; refine q9 ?_; refine zj ?_; refine zg ?_; refine zg ?_; refine z8 (id := 7) ?_; refine z7 (zf rfl rfl rfl) rfl ?_; refine z7 (yb rfl rfl rfl rfl (decide_eq_false (by omega))) rfl ?_; refine zh ?_; refine zj ?_; refine q8 rfl ?_; refine q9 ?_; refine zj ?_; refine zg ?_; refine z8 (id := 9) ?_; refine z7 (zz L (vs := [_, _]) (ql rfl) rfl rfl rfl rfl ⟨_, rfl⟩) rfl ?_; refine z7 (zf rfl rfl rfl) rfl ?_; refine z7 (qv (cs := [_, _, _]) rfl rfl pl48 rfl rfl) rfl ?_; refine z7 (qg L rfl rfl rfl rfl rfl rfl rfl rfl) rfl ?_; refine z7 (zi rfl rfl rfl) rfl ?_; refine zh ?_; refine zj ?_
        refine qi L (rs := [.cell 2 48, .tmp 3]) rfl (fun _ _ h => h) Since.refl fun u H hH hle => ?_
        exact ⟨_, ql rfl, rfl, rfl⟩
      | true =>
        rw [if_pos rfl] at hr
        by_cases h1 : chk c = 0
        · rw [if_pos h1] at hr; subst hr
          refine zg ?_; refine z8 (id := 0) ?_; refine z7 (qm L rfl rfl rfl rfl) rfl ?_; refine z7 (zi rfl rfl rfl) rfl ?_; refine zh ?_; refine zj ?_; refine zg ?_; refine z8 (id := 1) ?_; refine z7 (zf rfl rfl rfl) rfl ?_; refine z7 (q6 L rfl rfl (zm rfl) rfl rfl rfl (fun u H hH hle _ => parts_some (by assumption) hH (GlobM.mono (by assumption) hle) (by assumption))) rfl ?_; refine z7 (zf rfl rfl rfl) rfl ?_; refine z7 (qb rfl rfl rfl rfl) rfl ?_; refine z7 (qb rfl rfl rfl rfl) rfl ?_; refine z7 (qb rfl rfl rfl rfl) rfl ?_; refine z7 (qb rfl rfl rfl rfl) rfl ?_; refine z7 (qm L rfl rfl rfl rfl) rfl ?_; refine z7 (qg L rfl rfl rfl rfl rfl rfl rfl rfl) rfl ?_; refine z7 (zi rfl rfl rfl) rfl ?_; refine z7 (zi rfl rfl rfl) rfl ?_; refine z7 (zi rfl rfl rfl) rfl ?_; refine zh ?_; refine zj ?_; refine zg ?_; refine zg ?_; refine z8 (id := 2) ?_; refine z7 (zf rfl rfl rfl) rfl ?_; refine z7 (yk rfl rfl rfl rfl) rfl ?_; refine zh ?_; refine zj ?_; refine q8 rfl ?_; refine q9 ?_; refine zj ?_; refine zg ?_; refine z8 (id := 4) ?_; refine z7 (zz L (vs := [_, _]) (ql rfl) rfl rfl rfl rfl ⟨_, rfl⟩) rfl ?_; refine z7 (q6 L rfl rfl (zm rfl) rfl rfl rfl (fun u H hH _ _ => object_ret (by first | assumption | omega | decide) (by first | assumption | omega | decide) hH)) rfl ?_; refine z7 (zi rfl rfl rfl) rfl ?_; refine zh ?_; refine zj ?_; refine zg ?_; refine zg ?_; refine z8 (id := 5) ?_; refine z7 (zf rfl rfl rfl) rfl ?_; refine z7 (zf rfl rfl rfl) rfl ?_; refine z7 (zf rfl rfl rfl) rfl ?_; refine z7 (qp rfl rfl rfl rfl (decide_eq_true (by omega))) rfl ?_; refine z7 (zw rfl rfl rfl rfl) rfl ?_; refine zh ?_; refine zj ?_; refine qa rfl ?_; refine z8 (id := 6) ?_; refine z7 (zf rfl rfl rfl) rfl ?_; refine z7 (q6 L rfl rfl (zm rfl) rfl rfl rfl (fun u H hH _ _ => check_ret _ (by first | omega | decide) hH)) rfl ?_; refine z7 (zi rfl rfl rfl) rfl ?_; refine zh ?_; refine zj ?_; refine zg ?_; refine zg ?_; refine z8 (id := 7) ?_; refine z7 (zf rfl rfl rfl) rfl ?_; refine z7 (yb rfl rfl rfl rfl (decide_eq_false (by omega))) rfl ?_; refine zh ?_; refine zj ?_; refine q8 rfl ?_; refine q9 ?_; refine zj ?_; refine zg ?_; refine z8 (id := 9) ?_; refine z7 (zz L (vs := [_, _]) (ql rfl) rfl rfl rfl rfl ⟨_, rfl⟩) rfl ?_; refine z7 (zf rfl rfl rfl) rfl ?_; refine z7 (qv (cs := [_, _, _]) rfl rfl pl48 rfl rfl) rfl ?_; refine z7 (qg L rfl rfl rfl rfl rfl rfl rfl rfl) rfl ?_; refine z7 (zi rfl rfl rfl) rfl ?_; refine zh ?_; refine zj ?_
          refine qi L (rs := [.cell 2 48, .tmp 3]) rfl (fun _ _ h => h) Since.refl fun u H hH hle => ?_
          exact ⟨_, ql rfl, rfl, rfl⟩
        · rw [if_neg h1] at hr; subst hr
          refine zg ?_; refine z8 (id := 0) ?_; refine z7 (qm L rfl rfl rfl rfl) rfl ?_; refine z7 (zi rfl rfl rfl) rfl ?_; refine zh ?_; refine zj ?_; refine zg ?_; refine z8 (id := 1) ?_; refine z7 (zf rfl rfl rfl) rfl ?_; refine z7 (q6 L rfl rfl (zm rfl) rfl rfl rfl (fun u H hH hle _ => parts_some (by assumption) hH (GlobM.mono (by assumption) hle) (by assumption))) rfl ?_; refine z7 (zf rfl rfl rfl) rfl ?_; refine z7 (qb rfl rfl rfl rfl) rfl ?_; refine z7 (qb rfl rfl rfl rfl) rfl ?_; refine z7 (qb rfl rfl rfl rfl) rfl ?_; refine z7 (qb rfl rfl rfl rfl) rfl ?_; refine z7 (qm L rfl rfl rfl rfl) rfl ?_; refine z7 (qg L rfl rfl rfl rfl rfl rfl rfl rfl) rfl ?_; refine z7 (zi rfl rfl rfl) rfl ?_; refine z7 (zi rfl rfl rfl) rfl ?_; refine z7 (zi rfl rfl rfl) rfl ?_; refine zh ?_; refine zj ?_; refine zg ?_; refine zg ?_; refine z8 (id := 2) ?_; refine z7 (zf rfl rfl rfl) rfl ?_; refine z7 (yk rfl rfl rfl rfl) rfl ?_; refine zh ?_; refine zj ?_; refine q8 rfl ?_; refine q9 ?_; refine zj ?_; refine zg ?_; refine z8 (id := 4) ?_; refine z7 (zz L (vs := [_, _]) (ql rfl) rfl rfl rfl rfl ⟨_, rfl⟩) rfl ?_; refine z7 (q6 L rfl rfl (zm rfl) rfl rfl rfl (fun u H hH _ _ => object_ret (by first | assumption | omega | decide) (by first | assumption | omega | decide) hH)) rfl ?_; refine z7 (zi rfl rfl rfl) rfl ?_; refine zh ?_; refine zj ?_; refine zg ?_; refine zg ?_; refine z8 (id := 5) ?_; refine z7 (zf rfl rfl rfl) rfl ?_; refine z7 (zf rfl rfl rfl) rfl ?_; refine z7 (zf rfl rfl rfl) rfl ?_; refine z7 (qp rfl rfl rfl rfl (decide_eq_true (by omega))) rfl ?_; refine z7 (zw rfl rfl rfl rfl) rfl ?_; refine zh ?_; refine zj ?_; refine qa rfl ?_; refine z8 (id := 6) ?_; refine z7 (zf rfl rfl rfl) rfl ?_; refine z7 (q6 L rfl rfl (zm rfl) rfl rfl rfl (fun u H hH _ _ => check_ret _ (by first | omega | decide) hH)) rfl ?_; refine z7 (zi rfl rfl rfl) rfl ?_; refine zh ?_; refine zj ?_; refine zg ?_; refine zg ?_; refine z8 (id := 7) ?_; refine z7 (zf rfl rfl rfl) rfl ?_; refine z7 (yb rfl rfl rfl rfl (decide_eq_true (by omega))) rfl ?_; refine zh ?_; refine zj ?_; refine qa rfl ?_; refine zg ?_; refine z8 (id := 8) ?_; refine z7 (qv (cs := [_, _, _]) rfl rfl pl48 rfl rfl) rfl ?_; refine z7 (zf rfl rfl rfl) rfl ?_; refine z7 (qg L rfl rfl rfl rfl rfl rfl rfl rfl) rfl ?_; refine z7 (zi rfl rfl rfl) rfl ?_; refine zh ?_; refine zj ?_
          refine qi L (rs := [.cell 2 48, .tmp 3]) rfl (fun _ _ h => h) Since.refl fun u H hH hle => ?_
          exact ⟨_, ql rfl, rfl, rfl⟩
    · rw [if_neg h0] at hr; subst hr
      cases d
      · refine zg ?_; refine z8 (id := 0) ?_; refine z7 (qm L rfl rfl rfl rfl) rfl ?_; refine z7 (zi rfl rfl rfl) rfl ?_; refine zh ?_; refine zj ?_; refine zg ?_; refine z8 (id := 1) ?_; refine z7 (zf rfl rfl rfl) rfl ?_; refine z7 (q6 L rfl rfl (zm rfl) rfl rfl rfl (fun u H hH hle _ => parts_some (by assumption) hH (GlobM.mono (by assumption) hle) (by assumption))) rfl ?_; refine z7 (zf rfl rfl rfl) rfl ?_; refine z7 (qb rfl rfl rfl rfl) rfl ?_; refine z7 (qb rfl rfl rfl rfl) rfl ?_; refine z7 (qb rfl rfl rfl rfl) rfl ?_; refine z7 (qb rfl rfl rfl rfl) rfl ?_; refine z7 (qm L rfl rfl rfl rfl) rfl ?_; refine z7 (qg L rfl rfl rfl rfl rfl rfl rfl rfl) rfl ?_; refine z7 (zi rfl rfl rfl) rfl ?_; refine z7 (zi rfl rfl rfl) rfl ?_; refine z7 (zi rfl rfl rfl) rfl ?_; refine zh ?_; refine zj ?_; refine zg ?_; refine zg ?_; refine z8 (id := 2) ?_; refine z7 (zf rfl rfl rfl) rfl ?_; refine z7 (yk rfl rfl rfl rfl) rfl ?_; refine zh ?_; refine zj ?_; refine q8 rfl ?_; refine q9 ?_; refine zj ?_; refine zg ?_; refine z8 (id := 4) ?_; refine z7 (zz L (vs := [_, _]) (ql rfl) rfl rfl rfl rfl ⟨_, rfl⟩) rfl ?_; refine z7 (q6 L rfl rfl (zm rfl) rfl rfl rfl (fun u H hH _ _ => object_ret (by first | assumption | omega | decide) (by first | assumption | omega | decide) hH)) rfl ?_; refine z7 (zi rfl rfl rfl) rfl ?_; refine zh ?_; refine zj ?_; refine zg ?_; refine zg ?_; refine z8 (id := 5) ?_; refine z7 (zf rfl rfl rfl) rfl ?_; refine z7 (zf rfl rfl rfl) rfl ?_; refine z7 (zn rfl (zm rfl) rfl) rfl ?_; refine z7 (zn rfl (zm rfl) rfl) rfl ?_; refine z7 (zw rfl rfl rfl rfl) rfl ?_; refine zh ?_; refine zj ?_; refine q8 rfl ?_; refine q9 ?_; refine zj ?_; refine zg ?_; refine zg ?_; refine z8 (id := 7) ?_; refine z7 (zf rfl rfl rfl) rfl ?_; refine z7 (yb rfl rfl rfl rfl (decide_eq_true (by omega))) rfl ?_; refine zh ?_; refine zj ?_; refine qa rfl ?_; refine zg ?_; refine z8 (id := 8) ?_; refine z7 (qv (cs := [_, _, _]) rfl rfl pl48 rfl rfl) rfl ?_; refine z7 (zf rfl rfl rfl) rfl ?_; refine z7 (qg L rfl rfl rfl rfl rfl rfl rfl rfl) rfl ?_; refine z7 (zi rfl rfl rfl) rfl ?_; refine zh ?_; refine zj ?_
        refine qi L (rs := [.cell 2 48, .tmp 3]) rfl (fun _ _ h => h) Since.refl fun u H hH hle => ?_
        exact ⟨_, ql rfl, rfl, rfl⟩
      · refine zg ?_; refine z8 (id := 0) ?_; refine z7 (qm L rfl rfl rfl rfl) rfl ?_; refine z7 (zi rfl rfl rfl) rfl ?_; refine zh ?_; refine zj ?_; refine zg ?_; refine z8 (id := 1) ?_; refine z7 (zf rfl rfl rfl) rfl ?_; refine z7 (q6 L rfl rfl (zm rfl) rfl rfl rfl (fun u H hH hle _ => parts_some (by assumption) hH (GlobM.mono (by assumption) hle) (by assumption))) rfl ?_; refine z7 (zf rfl rfl rfl) rfl ?_; refine z7 (qb rfl rfl rfl rfl) rfl ?_; refine z7 (qb rfl rfl rfl rfl) rfl ?_; refine z7 (qb rfl rfl rfl rfl) rfl ?_; refine z7 (qb rfl rfl rfl rfl) rfl ?_; refine z7 (qm L rfl rfl rfl rfl) rfl ?_; refine z7 (qg L rfl rfl rfl rfl rfl rfl rfl rfl) rfl ?_; refine z7 (zi rfl rfl rfl) rfl ?_; refine z7 (zi rfl rfl rfl) rfl ?_; refine z7 (zi rfl rfl rfl) rfl ?_; refine zh ?_; refine zj ?_; refine zg ?_; refine zg ?_; refine z8 (id := 2) ?_; refine z7 (zf rfl rfl rfl) rfl ?_; refine z7 (yk rfl rfl rfl rfl) rfl ?_; refine zh ?_; refine zj ?_; refine q8 rfl ?_; refine q9 ?_; refine zj ?_; refine zg ?_; refine z8 (id := 4) ?_; refine z7 (zz L (vs := [_, _]) (ql rfl) rfl rfl rfl rfl ⟨_, rfl⟩) rfl ?_; refine z7 (q6 L rfl rfl (zm rfl) rfl rfl rfl (fun u H hH _ _ => object_ret (by first | assumption | omega | decide) (by first | assumption | omega | decide) hH)) rfl ?_; refine z7 (zi rfl rfl rfl) rfl ?_; refine zh ?_; refine zj ?_; refine zg ?_; refine zg ?_; refine z8 (id := 5) ?_; refine z7 (zf rfl rfl rfl) rfl ?_; refine z7 (zf rfl rfl rfl) rfl ?_; refine z7 (zf rfl rfl rfl) rfl ?_; refine z7 (qp rfl rfl rfl rfl (decide_eq_false (by omega))) rfl ?_; refine z7 (zw rfl rfl rfl rfl) rfl ?_; refine zh ?_; refine zj ?_; refine q8 rfl ?_; refine q9 ?_; refine zj ?_; refine zg ?_; refine zg ?_; refine z8 (id := 7) ?_; refine z7 (zf rfl rfl rfl) rfl ?_; refine z7 (yb rfl rfl rfl rfl (decide_eq_true (by omega))) rfl ?_; refine zh ?_; refine zj ?_; refine qa rfl ?_; refine zg ?_; refine z8 (id := 8) ?_; refine z7 (qv (cs := [_, _, _]) rfl rfl pl48 rfl rfl) rfl ?_; refine z7 (zf rfl rfl rfl) rfl ?_; refine z7 (qg L rfl rfl rfl rfl rfl rfl rfl rfl) rfl ?_; refine z7 (zi rfl rfl rfl) rfl ?_; refine zh ?_; refine zj ?_
        refine qi L (rs := [.cell 2 48, .tmp 3]) rfl (fun _ _ h => h) Since.refl fun u H hH hle => ?_
        exact ⟨_, ql rfl, rfl, rfl⟩
theorem ps_ret' {s a b c : ByteArray} {e : Int} (hr : psA s = (a, b, c, e)) (hs : s.size ≤ 1000000) {w : World} {B : Heap} (hB : B.Le (hp w)) (hM : GlobM B) :
    Ret Tryz.prog 73 [.string s] w B (fun v _ => v = .tuple #[.agg #[.string a, .string b, .string c], .int .i64 e]) := ps_ret hr hs hB hM
end Go.V
namespace Go.V.L2
open Go.Proofs Go.RowKit Go.V
abbrev U := Str3 × Str3
def ucs (t : U) : List Value := [.string t.1.1.1, .string t.1.1.2, .string t.1.2, .string t.2.1.1, .string t.2.1.2, .string t.2.2]
theorem ucs_len (t : U) : (ucs t).length = 6 := rfl
def cmpT : U → U → Int := lexC cmp3 cmp3
theorem cmpT_ord : Ord3 cmpT := cmp3_ord.lex cmp3_ord
theorem u_eq {t v : U} : (t.1.1.1 = v.1.1.1 ∧ t.1.1.2 = v.1.1.2 ∧ t.1.2 = v.1.2 ∧ t.2.1.1 = v.2.1.1 ∧ t.2.1.2 = v.2.1.2 ∧ t.2.2 = v.2.2) ↔ t = v :=
  ⟨fun ⟨a, b, c, d, e, f⟩ => Prod.ext (Prod.ext (Prod.ext a b) c) (Prod.ext (Prod.ext d e) f), fun e => by subst e; exact ⟨rfl, rfl, rfl, rfl, rfl, rfl⟩⟩
instance memU (t : U) (l : List U) : Decidable (t ∈ l) := decidable_of_iff (l.any (fun x => decide (x = t)) = true) (by simp)
def tE (t : U) : Int := if allE [t.1.1.1, t.1.1.2, t.1.2] = 0 then subjE t.2.1.1 t.2.1.2 t.2.2 else allE [t.1.1.1, t.1.1.2, t.1.2]
def TZ (t : U) : Prop := (t.1.1.1.size ≤ 1099511627776 ∧ t.1.1.2.size ≤ 1099511627776 ∧ t.1.2.size ≤ 1099511627776) ∧ t.2.1.1.size ≤ 1099511627776 ∧ t.2.1.2.size ≤ 1099511627776 ∧ t.2.2.size ≤ 1099511627776
instance (t : U) : Decidable (TZ t) := inferInstanceAs (Decidable (_ ∧ _))
instance {α : Type} (c : α → α → Int) (l : List α) : Decidable (Sst c l) := inferInstanceAs (Decidable (l.Pairwise _))
def ptA (s : ByteArray) : U × Int :=
  if (cutA s 64).2.2 = true ∧ hasA (cutA s 64).2.1 64 = false then
    (if (pgA (cutA s 64).1).2.2.2 = 0 then
      (if (psA (cutA s 64).2.1).2.2.2 = 0 then
        (((((pgA (cutA s 64).1).1, (pgA (cutA s 64).1).2.1), (pgA (cutA s 64).1).2.2.1), (((psA (cutA s 64).2.1).1, (psA (cutA s 64).2.1).2.1), (psA (cutA s 64).2.1).2.2.1)), 0)
      else ((((⟨#[]⟩, ⟨#[]⟩), ⟨#[]⟩), ((⟨#[]⟩, ⟨#[]⟩), ⟨#[]⟩)), (psA (cutA s 64).2.1).2.2.2))
    else ((((⟨#[]⟩, ⟨#[]⟩), ⟨#[]⟩), ((⟨#[]⟩, ⟨#[]⟩), ⟨#[]⟩)), (pgA (cutA s 64).1).2.2.2))
  else ((((⟨#[]⟩, ⟨#[]⟩), ⟨#[]⟩), ((⟨#[]⟩, ⟨#[]⟩), ⟨#[]⟩)), 5)
end Go.V.L2
namespace Go.V
open Go.RowKit
def zsL (P : Program) (e : TypeId) (k : Nat) : List Value := match P.info? e with
  | some i => match i.zero with
    | some z => (madeCells z.cells k).toList
    | none => []
  | none => []
theorem zsL_length {P : Program} {e : TypeId} {s by_ k : Nat} (h : elI P e = some (s, by_)) : (zsL P e k).length = k := by
  obtain ⟨i, z, hi, hz, _, _, _, _⟩ := elI_spec h
  unfold zsL
  rw [hi]; dsimp only; rw [hz]
  simp [size_madeCells]
def SlE (e : TypeId) (s n : Nat) (xs : List Value) : Res where
  P x _ u C := xs.length = n * s ∧ ((n = 0 ∧ x = .slice none 0 0 ∧ ∀ k, ¬ C k) ∨ ∃ b, x = .slice (some ⟨b, 0, none⟩) n n ∧ u.heap[b]? = some (.cells xs.toArray e) ∧ n ≤ maxLen ∧ ∀ k, C k ↔ k = b)
  st := fun ⟨hl, h⟩ _ _ _ hk => ⟨hl, by
    rcases h with h | ⟨b, h1, h2, h3, h4⟩
    · exact .inl h
    · exact .inr ⟨b, h1, (hk b ((h4 b).2 rfl)).trans h2, h3, h4⟩⟩
section
variable {P : Program} {F : Fr} {B : Heap} {O : Boxes} {n : Nat} {ops : Array Oper} {κ : Kap} {d : Nat} {ty : TypeId} {pos : String} {aft : Array Edge} {g : Option (Nat × Bool)} {a : Act} {u : World} {H : Heap} {fp : Nat → Nat → Prop} {os : List Oper} {Q : Exit → Act → World → Prop} {ex : Exs}
theorem ok_makeN (L : Tabs P) {t e : TypeId} {x y : Operand} {kl kc : IntKind} {s by_ : Nat} (c : Nat) {p q : Int} (hn : Nat.blt d n = true) (hg : gK ops κ ⟨some d, .makeSlice t x y, ty, pos, aft, g⟩ = some true) (ht : L.sl t = some e) (he : elI P e = some (s, by_))
    (hx : evK κ x = some (.int kl q)) (hy : evK κ y = some (.int kc p)) (hq : q = c) (hp : p = c) (hb : by_ * c ≤ 281474976710656) (hc : c ≤ maxLen) : StepOK P F B n ops O κ ⟨some d, .makeSlice t x y, ty, pos, aft, g⟩ d (.own (SlE e s c (zsL P e (c * s)))) := by
  rintro κ' a u hl ⟨H, fp, hh⟩
  unfold After
  rw [if_pos (wanted_gK hh hl hg)]
  have en := hh.env hl
  have hzl := zsL_length (k := c * s) he
  obtain ⟨i, z, hi, hz, hs1, hs2, hs3, hs4⟩ := elI_spec he
  have h1 := en.is_ x _ (by simp [Op.operands]) hx
  have h2 := en.is_ y _ (by simp [Op.operands]) hy
  subst hp
  subst hq
  have hb' : (i.bytes : Int) * (c : Int) ≤ 281474976710656 := by
    have h : ((by_ * c : Nat) : Int) ≤ 281474976710656 := by omega
    rw [hs2]; rwa [Int.natCast_mul] at h
  have h63 : (c : Int) ≤ 9223372036854775807 := by simp [maxLen] at hc; omega
  have hr := run_make (P := P) u t e i z (Tabs.sl_spec ht) hi hz kl kc c c (by omega) (by omega) hb' h63
  simp only [Int.toNat_natCast] at hr
  have hrun : (execOp a.eval ⟨some d, .makeSlice t x y, ty, pos, aft, g⟩).run P u = .ok (.value (.slice (some ⟨u.heap.size, 0, none⟩) c c)) (u.alloc (.cells (madeCells z.cells (c * i.size)) e)) := by
    simp only [execOp, h1, h2, Sem.run_bind, hr, Result.andThen_ok]; rfl
  rw [hrun]
  simp only [Upon]
  have hzs : zsL P e (c * s) = (madeCells z.cells (c * i.size)).toList := by
    unfold zsL
    rw [hi]; dsimp only; rw [hz, hs1]
  have hg2 := hh.grow (Grow.hid hh.sub (.cells (madeCells z.cells (c * i.size)) e))
  refine ⟨H, _, hg2.putR (C := fun k => k = u.heap.size) (by simp [Act.put]) rfl (fun t ht => eval_put_other ht) ⟨hzl, .inr ⟨u.heap.size, eval_put_same (by rw [hh.size]; exact zm hn), by rw [heap_push_same, hzs], hc, fun _ => Iff.rfl⟩⟩ (fun k hk => ?_) fun t r' _ ht k hf hk => ?_⟩
  · subst hk
    exact ⟨size_of_heap (heap_push_same u _), none_of_ge hh.sub (Nat.le_refl _), .inl hh.keep.size, fun y hy e => by have := size_of_heap (hh.boxes y hy).1; omega⟩
  · have := ((hh.slot t _ ht).2 k hf).1
    omega
theorem Has.boxE {t : Nat} {e : TypeId} {s m : Nat} {xs : List Value} (hm : 0 < m) (hk : κ t = some (.own (SlE e s m xs))) (h : Has F B O n κ a u) :
    ∃ b, (xs.length = m * s ∧ m ≤ maxLen) ∧ Has F B (bx b xs e :: O) n (upd κ t (.is (.slice (some ⟨b, 0, none⟩) m m))) a u := by
  obtain ⟨H, fp, h⟩ := h
  obtain ⟨⟨hl, hv⟩, hM⟩ := h.slot t _ hk
  rcases hv with ⟨h0, _, _⟩ | ⟨b, hv, hb, h4, hC⟩
  · omega
  · have := h.toBox hk hb ((hC b).2 rfl)
    rw [hv] at this
    exact ⟨b, ⟨hl, h4⟩, H, fp, this⟩
theorem Has.unboxE {t b m : Nat} {e : TypeId} {s : Nat} {xs : List Value} {O1 O2 : Boxes} (hO : O = O1 ++ bx b xs e :: O2) (hd : F.ds = []) (hk : κ t = some (.is (.slice (some ⟨b, 0, none⟩) m m))) (hl : xs.length = m * s) (h4 : m ≤ maxLen)
    (h : Has F B O n κ a u) : Has F B (O1 ++ O2) n (upd κ t (.own (SlE e s m xs))) a u := by
  obtain ⟨H, fp, h⟩ := h
  subst hO
  have hb := (h.boxes (bx b xs e) (by simp)).1
  exact ⟨H, _, h.ofBox (by rw [hd]; simp) ⟨hl, .inr ⟨b, h.slot t _ hk, hb, h4, fun _ => Iff.rfl⟩⟩⟩
theorem V_boxE (t : Nat) {e : TypeId} {s m : Nat} {xs : List Value} {c : Code} (hm : 0 < m) (hk : κ t = some (.own (SlE e s m xs)))
    (h : ∀ b, (xs.length = m * s ∧ m ≤ maxLen) → V P F B n (bx b xs e :: O) (upd κ t (.is (.slice (some ⟨b, 0, none⟩) m m))) c Q) : V P F B n O κ c Q := fun a u hh =>
  let ⟨b, h1, h'⟩ := hh.boxE hm hk; h b h1 a u h'
theorem V_unboxE (t : Nat) {b m : Nat} {e : TypeId} {s : Nat} {xs : List Value} (O1 : Boxes) {O2 : Boxes} {c : Code} (hO : O = O1 ++ bx b xs e :: O2) (hk : κ t = some (.is (.slice (some ⟨b, 0, none⟩) m m))) (hl : xs.length = m * s) (h4 : m ≤ maxLen)
    (h : V P F B n (O1 ++ O2) (upd κ t (.own (SlE e s m xs))) c Q) (hd : F.ds = [] := by rfl) : V P F B n O κ c Q := fun a u hh => h a u (hh.unboxE hO hd hk hl h4)
theorem ok_lenE (L : Tabs P) {q : Nat} {tt e e' : TypeId} {s m : Nat} {xs : List Value} (hn : Nat.blt d n = true) (hg : gK ops κ ⟨some d, .call ⟨.builtin .len, #[.tmp q], #[tt]⟩, ty, pos, aft, g⟩ = some true) (hx : κ q = some (.own (SlE e' s m xs))) (ht : L.sl tt = some e) :
    StepOK P F B n ops O κ ⟨some d, .call ⟨.builtin .len, #[.tmp q], #[tt]⟩, ty, pos, aft, g⟩ d (.is (.int .i64 m)) :=
  yl rfl (zm hn) hg trivial fun a u H fp en => ⟨_, by
    obtain ⟨⟨_, ⟨rfl, h1, _⟩ | ⟨b, h1, _⟩⟩, _⟩ := en.own_ q _ (by simp [Op.operands, Call.operands]) hx
    · simp [execOp, resolve, h1, invoke, builtin, Builtin.len_, run_underlying (Tabs.sl_spec ht), goInt]
    · simp [execOp, resolve, h1, invoke, builtin, Builtin.len_, run_underlying (Tabs.sl_spec ht), goInt], rfl⟩
theorem Has.pubE {t : Nat} {e : TypeId} {s m : Nat} {xs : List Value} (hk : κ t = some (.own (SlE e s m xs))) (h : Has F B O n κ a u) : Has F B O n (upd κ t (.sat (SlV e s xs m true))) a u := by
  obtain ⟨H, fp, h⟩ := h
  obtain ⟨⟨hl, hv⟩, hM⟩ := h.slot t _ hk
  rcases hv with ⟨rfl, hv, hC⟩ | ⟨b, hv, hb, h4, hC⟩
  · have hx : xs = [] := List.eq_nil_of_length_eq_zero (by simpa using hl)
    subst hx
    have h2 := h.name t
    rw [hv] at h2
    have h3 : Has F B O n (upd κ t (.is (.slice none 0 0))) a u := ⟨H, fp, h2⟩
    have h4 := h3.seen (t := t) (SlV e s [] 0 true) (upd_same _ _ _) SlV.mono ⟨by simp, .inl ⟨rfl, rfl⟩⟩
    rw [upd_upd] at h4
    exact h4
  · obtain ⟨H', h'⟩ := h.pub (φ := SlV e s xs m true) hk hb ((hC b).2 rfl) SlV.mono fun H' _ hb' => ⟨hl, .inr ⟨b, 0, m, _, _, (0, 0), hv, hb', by simp, Nat.le_refl _, fun _ => rfl⟩⟩
    exact ⟨H', fp, h'⟩
theorem V_pubE (t : Nat) {e : TypeId} {s m : Nat} {xs : List Value} {c : Code} (hk : κ t = some (.own (SlE e s m xs))) (h : V P F B n O (upd κ t (.sat (SlV e s xs m true))) c Q) : V P F B n O κ c Q := fun a u hh => h a u (hh.pubE hk)
theorem set_at {α : Type} {f : α → List Value} {s : Nat} (hf : ∀ a, (f a).length = s) (l : List α) (k m : Nat) (zs : List Value) (y : α) (hl : l.length = k) (hz : zs.length = (m - k) * s) (hk : k < m) :
    (l.flatMap f ++ zs).take (k * s) ++ (f y ++ (l.flatMap f ++ zs).drop (k * s + s)) = (l ++ [y]).flatMap f ++ zs.drop s := by
  have h1 : (l.flatMap f).length = k * s := by
    subst hl
    clear hz hk
    induction l with
    | nil => simp
    | cons x l ih => rw [List.flatMap_cons, List.length_append, hf, ih, List.length_cons, Nat.add_mul, Nat.one_mul]; omega
  have h2 : s ≤ zs.length := by rw [hz]; exact Nat.le_mul_of_pos_left _ (by omega)
  rw [← h1, List.take_left', List.drop_append]
  · rw [List.drop_eq_nil_of_le (by omega), List.nil_append, show (l.flatMap f).length + s - (l.flatMap f).length = s by omega, List.flatMap_append]
    simp
  · rfl
def OwnP (w : World) (r : Res) (v : Value) (H : Heap) (u : World) : Prop := ∃ C : Nat → Prop, r.P v H u C ∧ ∀ k, C k → w.heap.size ≤ k ∧ k < u.heap.size ∧ H k = none
def RetO (P : Program) (f : FuncId) (args : List Value) (w : World) (B : Heap) (r : Res) : Prop := RetL P f args w B noL (OwnP w r)
theorem ok_callO (L : Tabs P) {o : Oper} {d f : Nat} {args : Array Operand} {at_ : Array TypeId} {cap : List Value} {r : Res} {fo : Operand}
    (hop : o.op = .call { callee := .value fo, args := args, argTypes := at_ }) (hd : o.dst = some d) (hn : d < n) (hg : gK ops κ o = some true)
    (hf : evK κ fo = some (.func (.func f) #[] cap.toArray)) (hfn : L.fn f = some ())
    (h : ∀ u H, H.Le (hp u) → B.Le H → Below F.w0.heap.size F.w0 F.w0 → Args κ H args.toList [] (fun vs => RetO P f (vs ++ cap) u H r)) :
    StepOK P F B n ops O κ o d (.own r) := by
  rintro κ' a u hl ⟨H, fp, hh⟩
  unfold After
  rw [if_pos (wanted_gK hh hl hg)]
  have e := hh.env hl
  have hfe : a.eval fo = .func (.func f) #[] cap.toArray := e.is_ fo _ (by simp [hop, Op.operands, Call.operands]) hf
  have hc := Args.use e args.toList [] (fun x hx => by simp [hop, Op.operands, Call.operands] at hx ⊢; exact .inr hx) (h u H e.sub e.base (Below.refl _ _))
  simp only [List.reverse_nil, List.nil_append] at hc
  rw [run_call L hop hfe hfn]
  simp only [Upon]
  refine Calls.mono hc fun e' u' hp => ?_
  obtain ⟨v, rfl, H', g', C, hv, hC⟩ := hp
  have h2 := hh.grow g'
  refine ⟨v, rfl, ?_⟩
  simp only [hd]
  refine ⟨H', _, h2.putR (C := C) (by simp [Act.put]) rfl (fun t ht => eval_put_other ht) (by rw [eval_put_same (by rw [hh.size]; exact hn)]; exact hv) (fun k hk => ?_) fun t r' _ ht k hf hk => ?_⟩
  · obtain ⟨h3, h4, h5⟩ := hC k hk
    exact ⟨h4, h5, .inl (Nat.le_trans hh.keep.size h3), fun y hy e => by have := size_of_heap (hh.boxes y hy).1; omega⟩
  · have h3 := (hC k hk).1
    have := ((hh.slot t _ ht).2 k hf).1
    omega
theorem V_retO {fn : Func} {B0 : Heap} {t : Nat} {r : Res} (hrs : fn.results = #[.tmp t]) (hQ : ∀ a u, bodyPostM Fence.wide 0 P fn (PostL F.w0 B0 F.L (OwnP F.w0 r)) .ret a u → Q .ret a u) (hs : Since F B0 B) (hk : κ t = some (.own r)) (hL : F.L = noL := by rfl) : V P F B n O κ .ret Q :=
  V_retG hQ hs fun O' a u H fp _ hh => by
    obtain ⟨hown, hM⟩ := hh.slot t _ hk
    refine ⟨a.eval (.tmp t), ?_, fp t, hown, fun k hk => ?_⟩
    · simp [results, hrs, Act.eval]
    · obtain ⟨h1, h2, h3, _⟩ := hM k hk
      refine ⟨?_, h1, h2⟩
      rcases h3 with h3 | h3
      · exact h3
      · have h3' : F.L k := h3
        rw [hL] at h3'; exact h3'.elim
theorem RetO.mono {P : Program} {f : FuncId} {args : List Value} {w : World} {B : Heap} {r r' : Res} (h : RetO P f args w B r) (hi : ∀ v H u C, r.P v H u C → r'.P v H u C) : RetO P f args w B r' :=
  RetL.mono h fun _ _ _ _ ⟨C, h1, h2⟩ => ⟨C, hi _ _ _ _ h1, h2⟩
open Classical in
noncomputable def joinH (H : Heap) (u : World) (C : Nat → Prop) : Heap := fun k => if C k then hp u k else H k
theorem joinH_in {H : Heap} {u : World} {C : Nat → Prop} {k : Nat} (h : C k) : joinH H u C k = hp u k := if_pos h
theorem joinH_out {H : Heap} {u : World} {C : Nat → Prop} {k : Nat} (h : ¬ C k) : joinH H u C k = H k := if_neg h
theorem joinH_sub {H : Heap} {u : World} {C : Nat → Prop} (h : H.Le (hp u)) : (joinH H u C).Le (hp u) := fun k v hv => by
  by_cases hc : C k
  · rwa [joinH_in hc] at hv
  · rw [joinH_out hc] at hv; exact h _ _ hv
theorem joinH_le {H : Heap} {u : World} {C : Nat → Prop} (h : ∀ k, C k → H k = none) : H.Le (joinH H u C) := fun k v hv => by
  by_cases hc : C k
  · rw [h k hc] at hv; cases hv
  · rwa [joinH_out hc]
def Lend (r : Res) (φ : Value → Heap → Prop) : Prop := ∀ x H u C, r.P x H u C → φ x (joinH H u C)
theorem lend_SlE {e : TypeId} {s m : Nat} {xs : List Value} : Lend (SlE e s m xs) (SlV e s xs m true) := fun x H u C ⟨hl, h⟩ => ⟨hl, by
  rcases h with ⟨h0, hv, _⟩ | ⟨b, hv, hb, h3, hC⟩
  · exact .inl ⟨h0, hv⟩
  · exact .inr ⟨b, 0, m, _, _, _, hv, (joinH_in ((hC b).2 rfl)).trans hb, by simp, Nat.le_refl _, fun _ => rfl⟩⟩
theorem RetO.toRet {P : Program} {f : FuncId} {args : List Value} {w : World} {B : Heap} {r : Res} {φ : Value → Heap → Prop} (h : RetO P f args w B r) (hl : Lend r φ) : Ret P f args w B φ :=
  Calls.mono h fun _ u ⟨v, he, H, g, C, h1, h2⟩ => ⟨v, he, joinH H u C, ⟨g.keep, joinH_sub g.sub, fun k x hx => joinH_le (fun k hk => (h2 k hk).2.2) _ _ (g.le _ _ hx), fun k hk hn => (joinH_out fun hc => by have := (h2 k hc).1; omega).trans (g.fresh k hk hn)⟩, hl _ _ _ _ h1⟩
theorem V_enterO {f : FuncId} {fn : Func} {c : Code} {args : List Value} {w : World} {B : Heap} {r : Res} (hf : P.funcs[f]? = some fn) (hb : fn.body = some c) (hn : fn.ntmps = n)
    (hs : args.length ≤ n) (hB : B.Le (hp w)) (h : V P (Fr.pure w) B n [] (argsK 0 args) c (bodyPostM Fence.wide 0 P fn (PostL w B noL (OwnP w r)))) : RetO P f args w B r :=
  calls_of_V hf hb (h _ w ⟨B, fun _ => noL, by subst hn; exact has_enter noL (fun _ h => h.elim) hs hB _⟩)
theorem Has.nilE {t : Nat} (e : TypeId) (s : Nat) (hk : κ t = some (.is (.slice none 0 0))) (h : Has F B O n κ a u) : Has F B O n (upd κ t (.own (SlE e s 0 []))) a u := by
  obtain ⟨H, fp, h⟩ := h
  exact ⟨H, _, h.putR (C := noL) rfl rfl (fun _ _ => rfl) ⟨by simp, .inl ⟨rfl, h.slot t _ hk, fun _ h => h⟩⟩ (fun _ h => h.elim) fun _ _ _ _ _ _ h => h⟩
theorem V_nilE (t : Nat) (e : TypeId) (s : Nat) {c : Code} (hk : κ t = some (.is (.slice none 0 0))) (h : V P F B n O (upd κ t (.own (SlE e s 0 []))) c Q) : V P F B n O κ c Q := fun a u hh => h a u (hh.nilE e s hk)
end
end Go.V
namespace Go.V
open Go.RowKit
def HeldR (b : Nat) (cs : List Value) (ty : TypeId) : Res where
  P _ _ u C := u.heap[b]? = some (.cells cs.toArray ty) ∧ ∀ k, C k ↔ k = b
  st := fun ⟨h1, h2⟩ _ _ _ hk => ⟨(hk b ((h2 b).2 rfl)).trans h1, h2⟩
section
variable {P : Program} {F : Fr} {B : Heap} {O : Boxes} {n : Nat} {ops : Array Oper} {κ : Kap} {d : Nat} {ty : TypeId} {pos : String} {aft : Array Edge} {g : Option (Nat × Bool)} {a : Act} {u : World} {H : Heap} {fp : Nat → Nat → Prop} {os : List Oper} {Q : Exit → Act → World → Prop} {ex : Exs}
theorem Has.hold {t q : Nat} {cs : List Value} {ty : TypeId} (hk : κ t = some (.own (Cell cs ty))) (h : Has F B O n κ a u) : ∃ b, Has F B O n (upd (upd (upd κ t nilK) q (.own (HeldR b cs ty))) t (.is (.pointer (some ⟨b, 0, none⟩)))) a u := by
  obtain ⟨H, fp, h⟩ := h
  obtain ⟨⟨b, hv, hb, hC⟩, hM⟩ := h.slot t _ hk
  have h2 := h.usePut (d := q) (a' := a) (r' := HeldR b cs ty) (C := fp t) hk ⟨Keep.refl _ _, h.sub, Heap.Le.refl _, fun _ _ _ => rfl⟩ rfl rfl (fun _ _ => rfl) ⟨hb, hC⟩ fun k hk => ⟨.inl hk, (hM k hk).1, (hM k hk).2.1⟩
  have h3 := h2.name t
  rw [hv] at h3
  exact ⟨b, H, _, h3⟩
theorem V_hold (t q : Nat) {cs : List Value} {ty : TypeId} {c : Code} (hk : κ t = some (.own (Cell cs ty))) (h : ∀ b, V P F B n O (upd (upd (upd κ t nilK) q (.own (HeldR b cs ty))) t (.is (.pointer (some ⟨b, 0, none⟩)))) c Q) : V P F B n O κ c Q := fun a u hh => let ⟨b, h'⟩ := hh.hold (q := q) hk; h b a u h'
def StepOKR (P : Program) (F : Fr) (B : Heap) (n : Nat) (ops : Array Oper) (O : Boxes) (κ : Kap) (o : Oper) (q d : Nat) (k : Kn) : Prop :=
  ∀ κ' a u, (∀ t ∈ o.looksAt ops, κ' t = κ t) → κ' q = κ q → Has F B O n κ' a u → After P ops o (fun a' u' => Has F B O n (upd κ' d k) a' u') a u
theorem vo_stepR {o : Oper} {q d : Nat} {k : Kn} (hs : StepOKR P F B n ops O κ o q d k) (h : VO P F B n O ops (upd κ d k) os Q) : VO P F B n O ops κ (o :: os) Q :=
  fun a u hh => After.mono (fun a' u' hh' => h a' u' hh') (hs κ a u (fun _ _ => rfl) rfl hh)
theorem par_stepR {o : Oper} {q d : Nat} {k : Kn} (hs : StepOKR P F B n ops O κ o q d k) (hd : vd o = some d) (he : (exR ex o).contains q = true) (h : Par P F B n O ops ex (upd κ d k) os Q) : Par P F B n O ops ex κ (o :: os) Q := by
  have hm : q ∈ exR ex o := by simpa using he
  refine ⟨[(d, k)], fun p hp => ?_, fun κ' a u hl hh => hs κ' a u (fun t ht => hl t (List.mem_append_left _ ht)) (hl q (List.mem_append_right _ (List.mem_append_right _ hm))) hh, h⟩
  simp only [List.mem_cons, List.mem_nil_iff, or_false] at hp
  subst hp
  exact List.mem_append_left _ (by simp [hd])
def StepOKS (P : Program) (F : Fr) (B : Heap) (n : Nat) (ops : Array Oper) (O : Boxes) (κ : Kap) (o : Oper) (q : Nat) (k : Kn) : Prop :=
  ∀ κ' a u, (∀ t ∈ o.looksAt ops, κ' t = κ t) → κ' q = κ q → Has F B O n κ' a u → After P ops o (fun a' u' => Has F B O n (upd κ' q k) a' u') a u
theorem vo_stepS {o : Oper} {q : Nat} {k : Kn} (hs : StepOKS P F B n ops O κ o q k) (h : VO P F B n O ops (upd κ q k) os Q) : VO P F B n O ops κ (o :: os) Q :=
  fun a u hh => After.mono (fun a' u' hh' => h a' u' hh') (hs κ a u (fun _ _ => rfl) rfl hh)
theorem ok_loadHA (L : Tabs P) {x : Operand} {q b : Nat} {t t' : TypeId} {s off : Nat} {cs vs : List Value} (hx : evK κ x = some (.pointer (some ⟨b, off, none⟩))) (hq : κ q = some (.own (HeldR b cs t'))) (hn : Nat.blt d n = true) (hg : gK ops κ ⟨some d, .load t x, ty, pos, aft, g⟩ = some true)
    (hl : L.ld t = some (true, s)) (hlen : vs.length = s) (hc : ∃ r, cs.drop off = vs ++ r) : StepOKR P F B n ops O κ ⟨some d, .load t x, ty, pos, aft, g⟩ q d (.is (.agg vs.toArray)) := by
  rintro κ' a u hlk hqk ⟨H, fp, hh⟩
  unfold After
  rw [if_pos (wanted_gK hh hlk hg)]
  have e := hh.env hlk
  have h1 := e.is_ x _ (by simp [Op.operands]) hx
  obtain ⟨⟨h2, hC⟩, hM⟩ := hh.slot q _ (hqk.trans hq)
  obtain ⟨r, hc⟩ := hc
  have hrun : (execOp a.eval ⟨some d, .load t x, ty, pos, aft, g⟩).run P u = .ok (.value (.agg vs.toArray)) u := by
    simp only [execOp, h1, Instr.loadAt, Instr.sureAddr, Sem.run_bind, Sem.run_pure, Result.andThen_ok]
    rw [run_loadVar_agg (Tabs.ld_spec hl) u _ vs hlen (fun j v hj => by
      have h3 : cs[off + j]? = some v := by
        have := congrArg (·[j]?) hc
        simp only [List.getElem?_drop] at this
        rw [this, List.getElem?_append_left (by
          rcases Nat.lt_or_ge j vs.length with h | h
          · exact h
          · rw [List.getElem?_eq_none h] at hj; cases hj)]
        exact hj
      show u.cell? (Addr.add ⟨b, off, none⟩ j) = some v
      have : Addr.add ⟨b, off, none⟩ j = ⟨b, off + j, none⟩ := by simp [Addr.add]
      rw [this, cell_of_heap h2]; simpa using h3)]
    rfl
  rw [hrun]
  simp only [Upon]
  exact ⟨H, fp, hh.put (k := .is (.agg vs.toArray)) (zm hn) trivial rfl⟩
theorem ok_storeH (L : Tabs P) {t t' : TypeId} {ag : Bool} {z b off q : Nat} {p x : Operand} {v : Value} {cs cs' : List Value} (hg : gK ops κ ⟨none, .store t p x, ty, pos, aft, g⟩ = some true) (hp : evK κ p = some (.pointer (some ⟨b, off, none⟩))) (hq : κ q = some (.own (HeldR b cs t'))) (hx : evK κ x = some v)
    (hl : L.ld t = some (ag, z)) (hlen : (cellsL v).length = z) (hcs : Nat.ble (off + z) cs.length = true) (hpl : (cellsL v).all plainV = true) (hr : cs.take off ++ (cellsL v ++ cs.drop (off + z)) = cs') :
    StepOKS P F B n ops O κ ⟨none, .store t p x, ty, pos, aft, g⟩ q (.own (HeldR b cs' t')) := by
  rintro κ' a u hlk hqk ⟨H, fp, hh⟩
  subst hr
  unfold After
  rw [if_pos (wanted_gK hh hlk hg)]
  have e := hh.env hlk
  have hev := e.is_ x v (by simp [Op.operands]) hx
  have hes := e.is_ p _ (by simp [Op.operands]) hp
  have hqs := hqk.trans hq
  obtain ⟨⟨hb, hC⟩, hM⟩ := hh.slot q _ hqs
  have hrun : (execOp a.eval ⟨none, .store t p x, ty, pos, aft, g⟩).run P u = .ok .skip (u.setRow b (cs.take off ++ (cellsL v ++ cs.drop (off + z))).toArray) := by
    simp only [execOp, hes, hev, Instr.storeAt, Instr.sureAddr, Sem.run_bind, Sem.run_pure, Result.andThen_ok]
    have := run_storeVar_at (P := P) (off := off) (Tabs.ld_spec hl) hb hlen (Nat.le_of_ble_eq_true hcs) hpl
    rw [this]
    simp
  rw [hrun]
  simp only [Upon, Act.put]
  have hset := setRow_heap u b cs.toArray (cs.take off ++ (cellsL v ++ cs.drop (off + z))).toArray t' (0, 0) hb
  have hbm := hM b ((hC b).2 rfl)
  have := hh.usePut (d := q) (a' := a) (r' := HeldR b (cs.take off ++ (cellsL v ++ cs.drop (off + z))) t') (C := fun k => k = b) hqs (grow_setRow hh.sub hb ((hC b).2 rfl) hbm.2.1 _) rfl rfl (fun _ _ => rfl) ⟨hset, fun _ => Iff.rfl⟩ (fun k hk => by
    subst hk; exact ⟨.inl ((hC k).2 rfl), by rw [setRow_size]; exact hbm.1, hbm.2.1⟩)
  rw [upd_upd] at this
  exact ⟨H, _, this⟩
theorem SlE.shape {e : TypeId} {s m : Nat} {xs : List Value} : ∀ v H u C, (SlE e s m xs).P v H u C → ∃ p, v = .slice p m m := fun v _ _ _ ⟨_, h⟩ => by
  rcases h with ⟨rfl, rfl, _⟩ | ⟨b, rfl, _⟩
  · exact ⟨_, rfl⟩
  · exact ⟨_, rfl⟩
def StP (Φ : List Value → Heap → Prop) (φ : Value → Heap → Prop) (off z : Nat) : List Value → Heap → Prop := fun cs' H => ∃ cs v, Φ cs H ∧ φ v H ∧ cs' = cs.take off ++ (cellsL v ++ cs.drop (off + z))
theorem StP.mono {Φ : List Value → Heap → Prop} {φ : Value → Heap → Prop} {off z : Nat} (h1 : MonoX Φ) (h2 : Kn.mono (.sat φ)) : MonoX (StP Φ φ off z) := fun _ _ _ ⟨cs, v, a1, a2, a3⟩ hle => ⟨cs, v, h1 _ _ _ a1 hle, h2 _ _ _ a2 hle, a3⟩
theorem ok_append0 (L : Tabs P) {t e : TypeId} {x y : Operand} {s by_ m : Nat} {news : List Value} (hn : Nat.blt d n = true) (hg : gK ops κ ⟨some d, .call ⟨.builtin .append, #[x, y], #[t, t]⟩, ty, pos, aft, g⟩ = some true)
    (hx : evK κ x = some (.slice none 0 0)) (hy : Apd F B O κ y m news) (ht : L.sl t = some e) (he : elI P e = some (s, by_)) (hl : news.length = m * s) (h1 : news.all plainV = true) (hb : m * by_ ≤ 140737488355328) (h63 : m ≤ 9223372036854775807) :
    StepOK P F B n ops O κ ⟨some d, .call ⟨.builtin .append, #[x, y], #[t, t]⟩, ty, pos, aft, g⟩ d (.own (SlR e s m news)) := by
  rintro κ' a u hlk ⟨H, fp, hh⟩
  unfold After
  rw [if_pos (wanted_gK hh hlk hg)]
  have en := hh.env hlk
  obtain ⟨i, z, hi, hz, hs1, hs2, hs3, hs4⟩ := elI_spec he
  have hxe := en.is_ x _ (by simp [Op.operands, Call.operands]) hx
  obtain ⟨x', u', C', hr, hown', hgr, hC'⟩ := appendR (C := noL) (xs := []) (nn := 0) (x := .slice none 0 0) u (aty := ty) (Tabs.sl_spec ht) hi hz hs1 hs2 hs3 hs4 hh.sub ⟨by simp, .inl ⟨rfl, rfl, fun _ h => h⟩⟩ (fun k hk => hk.elim) (hy _ a u H fp (by simp [Op.operands, Call.operands]) en) hl (fun v hv => plain_one (List.all_eq_true.1 h1 v hv)) (by omega) (by rw [Nat.zero_add]; exact hb)
  rw [Nat.zero_add, List.nil_append] at hown'
  have hrun : (execOp a.eval ⟨some d, .call ⟨.builtin .append, #[x, y], #[t, t]⟩, ty, pos, aft, g⟩).run P u = .ok (.value x') u' := by
    simp only [execOp, resolve, invoke, builtin, Sem.run_bind, Sem.run_pure, Result.andThen_ok, List.map_toArray, List.map_cons, List.map_nil, hxe, hr]
  rw [hrun]
  simp only [Upon]
  have h2 := hh.grow hgr
  refine ⟨H, _, h2.putR (C := C') (by simp [Act.put]) rfl (fun t ht => eval_put_other ht) (by rw [eval_put_same (by rw [hh.size]; exact zm hn)]; exact hown') (fun k hk => ?_) fun t r' _ ht k hf hk => ?_⟩
  · obtain ⟨h3, h4, h5⟩ := hC' k hk
    have h3' : u.heap.size ≤ k := h3.resolve_left fun h => h
    exact ⟨h4, h5, .inl (Nat.le_trans hh.keep.size h3'), fun y hy e => by have := size_of_heap (hh.boxes y hy).1; omega⟩
  · have h3' : u.heap.size ≤ k := (hC' k hk).1.resolve_left fun h => h
    have := ((hh.slot t _ ht).2 k hf).1
    omega
end
end Go.V
namespace Go.V.L2
open Go.Proofs Go.RowKit Go.V
abbrev uv (t : U) : Value := .agg #[.string t.1.1.1, .string t.1.1.2, .string t.1.2, .string t.2.1.1, .string t.2.1.2, .string t.2.2]
abbrev tyU : TypeId := 50
abbrev US (l : List U) (fu : Bool) : Value → Heap → Prop := SlV tyU 6 (l.flatMap ucs) l.length fu
theorem us_at {l : List U} {i : Nat} {t : U} (h : l[i]? = some t) : ((l.flatMap ucs).drop (i * 6)).take 6 = [.string t.1.1.1, .string t.1.1.2, .string t.1.2, .string t.2.1.1, .string t.2.1.2, .string t.2.2] := flatMap_at ucs_len l i t h
attribute [local irreducible] V N X VO Par StepOK Has Ret RetL Src
theorem tcheck_ret {t : U} (hz : TZ t) {w : World} {B : Heap} (hB : B.Le (hp w)) : Ret Tryz.prog 53 [uv t] w B (fun v _ => v = .int .i64 (tE t)) := by
  obtain ⟨⟨z1, z2, z3⟩, z4, z5, z6⟩ := hz
  unfold tE
  refine qx Tryz.func53 rfl Tryz.ntmps53 (Nat.le_of_ble_eq_true rfl) hB ?_
  by_cases h : allE [t.1.1.1, t.1.1.2, t.1.2] = 0
  · rw [if_pos h]
    refine zg ?_; refine z8 (id := 0) ?_; refine z7 (qf rfl rfl rfl rfl) rfl ?_; refine z7 (zi rfl rfl rfl) rfl ?_; refine zh ?_; refine zj ?_; refine zg ?_; refine zg ?_; refine z8 (id := 1) ?_; refine z7 (zk L rfl rfl rfl rfl) rfl ?_; refine z7 (zz L (vs := [_, _, _]) (zq rfl) rfl rfl rfl rfl ⟨_, rfl⟩) rfl ?_; refine z7 (q6 L rfl rfl (zm rfl) rfl rfl rfl (fun u H hH _ _ => goal_ret (by first | assumption | omega | decide) (by first | assumption | omega | decide) (by first | assumption | omega | decide) hH)) rfl ?_; refine z7 (zi rfl rfl rfl) rfl ?_; refine zh ?_; refine zj ?_; refine zg ?_; refine z8 (id := 2) ?_; refine z7 (zf rfl rfl rfl) rfl ?_; refine z7 (yb rfl rfl rfl rfl (decide_eq_false (by omega))) rfl ?_; refine zh ?_; refine zj ?_; refine q8 rfl ?_; refine q9 ?_; refine zj ?_; refine zg ?_; refine z8 (id := 4) ?_; refine z7 (zk L rfl rfl rfl rfl) rfl ?_; refine z7 (zz L (vs := [_, _, _]) (zq rfl) rfl rfl rfl rfl ⟨_, rfl⟩) rfl ?_; refine z7 (q6 L rfl rfl (zm rfl) rfl rfl rfl (fun u H hH _ _ => subject_ret (by first | assumption | omega | decide) (by first | assumption | omega | decide) (by first | assumption | omega | decide) hH)) rfl ?_; refine z7 (zi rfl rfl rfl) rfl ?_; refine zh ?_; refine zj ?_
    refine qi L (rs := [.tmp 2]) rfl (fun _ _ h => h) Since.refl fun u H hH hle => ?_
    rfl
  · rw [if_neg h]
    refine zg ?_; refine z8 (id := 0) ?_; refine z7 (qf rfl rfl rfl rfl) rfl ?_; refine z7 (zi rfl rfl rfl) rfl ?_; refine zh ?_; refine zj ?_; refine zg ?_; refine zg ?_; refine z8 (id := 1) ?_; refine z7 (zk L rfl rfl rfl rfl) rfl ?_; refine z7 (zz L (vs := [_, _, _]) (zq rfl) rfl rfl rfl rfl ⟨_, rfl⟩) rfl ?_; refine z7 (q6 L rfl rfl (zm rfl) rfl rfl rfl (fun u H hH _ _ => goal_ret (by first | assumption | omega | decide) (by first | assumption | omega | decide) (by first | assumption | omega | decide) hH)) rfl ?_; refine z7 (zi rfl rfl rfl) rfl ?_; refine zh ?_; refine zj ?_; refine zg ?_; refine z8 (id := 2) ?_; refine z7 (zf rfl rfl rfl) rfl ?_; refine z7 (yb rfl rfl rfl rfl (decide_eq_true (by omega))) rfl ?_; refine zh ?_; refine zj ?_; refine qa rfl ?_; refine zg ?_; refine z8 (id := 3) ?_; refine z7 (zf rfl rfl rfl) rfl ?_; refine z7 (zi rfl rfl rfl) rfl ?_; refine zh ?_; refine zj ?_
    refine qi L (rs := [.tmp 2]) rfl (fun _ _ h => h) Since.refl fun u H hH hle => ?_
    rfl
theorem tcmp_ret {a b : U} {w : World} {B : Heap} (hB : B.Le (hp w)) : Ret Tryz.prog 55 [uv a, uv b] w B (fun v _ => v = .int .i64 (cmpT a b)) := by
  refine qx Tryz.func55 rfl Tryz.ntmps55 (Nat.le_of_ble_eq_true rfl) hB ?_
  refine zg ?_; refine z8 (id := 0) ?_; refine z7 (qf rfl rfl rfl rfl) rfl ?_; refine z7 (qf rfl rfl rfl rfl) rfl ?_; refine z7 (zi rfl rfl rfl) rfl ?_; refine zh ?_; refine zj ?_; refine zg ?_; refine qj (id := 1) [] mixed (by kernel_rfl) ?_; refine zd (zk L rfl rfl rfl rfl) rfl ?_; refine zd (zz L (vs := [_, _, _]) (zq rfl) rfl rfl rfl rfl ⟨_, rfl⟩) rfl ?_; refine zd (zk L rfl rfl rfl rfl) rfl ?_; refine zd (zz L (vs := [_, _, _]) (zq rfl) rfl rfl rfl rfl ⟨_, rfl⟩) rfl ?_; refine zd (q6 L rfl rfl (zm rfl) rfl rfl rfl (fun u H hH _ _ => cmpG_ret hH)) rfl ?_; refine zd (zk L rfl rfl rfl rfl) rfl ?_; refine zd (zz L (vs := [_, _, _]) (zq rfl) rfl rfl rfl rfl ⟨_, rfl⟩) rfl ?_; refine zd (zk L rfl rfl rfl rfl) rfl ?_; refine zd (zz L (vs := [_, _, _]) (zq rfl) rfl rfl rfl rfl ⟨_, rfl⟩) rfl ?_; refine zd (q6 L rfl rfl (zm rfl) rfl rfl rfl (fun u H hH _ _ => cmpU_ret hH)) rfl ?_; refine zd (qw L rfl rfl rfl rfl rfl rfl rfl rfl rfl) rfl ?_; refine zd (q6 L rfl rfl (zm rfl) rfl rfl rfl (fun u H hH _ _ v hv => or2_ret hH hv)) rfl ?_; refine zd (zi rfl rfl rfl) rfl ?_; refine qq ?_; refine zj ?_
  refine qi L (rs := [.tmp 4]) rfl (fun _ _ h => h) Since.refl fun u H hH hle => ?_
  rfl
end Go.V.L2
