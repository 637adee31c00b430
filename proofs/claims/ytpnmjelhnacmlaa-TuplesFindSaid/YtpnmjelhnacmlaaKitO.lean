/- The kit's fourteenth floor: what is owned, and the slot or the variable that holds it. -/
import Derived.Test.YtpnmjelhnacmlaaKitM
namespace Go.V
open Go.RowKit
/-- What is owned, its value being known. -/
def AtV (x : Value) (r : Res) : Res := ⟨fun _ H u C => r.P x H u C, r.st⟩
/-- A variable of the call's own that holds what is owned. -/
def BoxR (b : Nat) (ty : TypeId) (r : Res) : Res where
  P _ H u C := ∃ x C', u.heap[b]? = some (.cells #[x] ty) ∧ r.P x H u C' ∧ ¬ C' b ∧ ∀ k, C k ↔ k = b ∨ C' k
  st := fun ⟨x, C', h1, h2, h3, h4⟩ hle hs hon hk => ⟨x, C', (hk b ((h4 b).2 (.inl rfl))).trans h1, r.st h2 hle hs hon fun k hc => hk k ((h4 k).2 (.inr hc)), h3, h4⟩
section
variable {P : Program} {F : Fr} {B : Heap} {O : Boxes} {n : Nat} {ops : Array Oper} {κ : Kap} {a : Act} {u : World} {H : Heap} {fp : Nat → Nat → Prop} {os : List Oper} {Q : Exit → Act → World → Prop}
theorem Has.detach {t g : Nat} {r : Res} {S : Value → Prop} (hk : κ t = some (.own r)) (hS : ∀ v H u C, r.P v H u C → S v) (h : Has F B O n κ a u) : ∃ x, S x ∧ Has F B O n (upd (upd (upd κ t nilK) g (.own (AtV x r))) t (.is x)) a u := by
  obtain ⟨H, fp, h⟩ := h
  obtain ⟨h1, hM⟩ := h.slot t _ hk
  have h2 := h.usePut (d := g) (a' := a) (r' := AtV (a.eval (.tmp t)) r) (C := fp t) hk ⟨Keep.refl _ _, h.sub, Heap.Le.refl _, fun _ _ _ => rfl⟩ rfl rfl (fun _ _ => rfl) h1 fun k hk => ⟨.inl hk, (hM k hk).1, (hM k hk).2.1⟩
  exact ⟨_, hS _ _ _ _ h1, H, _, h2.name t⟩
theorem Has.attach {t g : Nat} {x : Value} {r : Res} (hk : κ g = some (.own (AtV x r))) (ht : κ t = some (.is x)) (h : Has F B O n κ a u) : Has F B O n (upd (upd κ g nilK) t (.own r)) a u := by
  obtain ⟨H, fp, h⟩ := h
  obtain ⟨h1, hM⟩ := h.slot g _ hk
  have h1' : r.P x H u (fp g) := h1
  have hx : a.eval (.tmp t) = x := h.slot t _ ht
  exact ⟨H, _, h.usePut (d := t) (a' := a) (r' := r) (C := fp g) hk ⟨Keep.refl _ _, h.sub, Heap.Le.refl _, fun _ _ _ => rfl⟩ rfl rfl (fun _ _ => rfl) (by rw [hx]; exact h1') fun k hk => ⟨.inl hk, (hM k hk).1, (hM k hk).2.1⟩⟩
theorem HasH.lessBox {b : Nat} {o : Obj} {O1 O2 : Boxes} (h : HasH F B (O1 ++ (b, o) :: O2) n κ a u H fp) (hd : b ∉ F.ds) : HasH F B (O1 ++ O2) n κ a u H fp ∧ u.heap[b]? = some o ∧ H b = none ∧ (F.w0.heap.size ≤ b ∨ F.L b) ∧ (∀ y ∈ O1 ++ O2, y.1 ≠ b) ∧ ∀ t r, κ t = some (.own r) → ¬ fp t b := by
  have hsl : (O1 ++ O2).Sublist (O1 ++ (b, o) :: O2) := List.Sublist.append (List.Sublist.refl _) (List.sublist_cons_self ..)
  have hmem : (b, o) ∈ O1 ++ (b, o) :: O2 := by simp
  obtain ⟨hb1, hb2, hb3⟩ := h.boxes _ hmem
  have hap := List.pairwise_append.1 h.apart
  have hne : ∀ y, y ∈ O1 ++ O2 → y.1 ≠ b := fun y hy => by
    rcases List.mem_append.1 hy with hy | hy
    · exact hap.2.2 y hy _ (List.mem_cons_self ..)
    · exact Ne.symm ((List.pairwise_cons.1 hap.2.1).1 y hy)
  refine ⟨⟨h.size, h.defers, h.nodup, fun D hD => ?_, h.lent, h.keep, h.sub, h.base, h.fresh, fun y hy => h.boxes y (hsl.subset hy), h.apart.sublist hsl, fun s k hs => ?_, h.owns, h.mono⟩, hb1, hb2, hb3, hne, fun t r ht hf => ((h.slot t _ ht).2 b hf).2.2.2 _ hmem rfl⟩
  · have hm := h.marks D hD
    rcases List.mem_append.1 hm with hm | hm
    · exact List.mem_append_left _ hm
    · rcases List.mem_cons.1 hm with e | hm
      · cases e; exact absurd hD hd
      · exact List.mem_append_right _ hm
  · have hh := h.slot s k hs
    cases k with
    | is _ => exact hh
    | sat _ => exact hh
    | own r' => exact ⟨hh.1, fun k hk' => by obtain ⟨g1, g2, g3, g4⟩ := hh.2 k hk'; exact ⟨g1, g2, g3, fun y hy => g4 y (hsl.subset hy)⟩⟩
theorem not_ds {b : Nat} {cs : Array Value} {ty : TypeId} {fr : Nat × Nat} (h : HasH F B O n κ a u H fp) (hb : u.heap[b]? = some (.cells cs ty fr)) : b ∉ F.ds := fun hd => by
  have := (h.boxes _ (h.marks b hd)).1
  rw [hb] at this
  cases this
theorem Has.closeBox {g b : Nat} {x : Value} {ty : TypeId} {r : Res} (O1 O2 : Boxes) (hO : O = O1 ++ bx b [x] ty :: O2) (hk : κ g = some (.own (AtV x r))) (h : Has F B O n κ a u) : Has F B (O1 ++ O2) n (upd κ g (.own (BoxR b ty r))) a u := by
  subst hO
  obtain ⟨H, fp, h⟩ := h
  obtain ⟨h0, hb1, hb2, hb3, hne, hfp⟩ := h.lessBox (not_ds h (h.boxes (bx b [x] ty) (by simp)).1)
  obtain ⟨h1, hM⟩ := h0.slot g _ hk
  refine ⟨H, _, h0.putR (d := g) (r := BoxR b ty r) (C := fun k => k = b ∨ fp g k) rfl rfl (fun _ _ => rfl) ⟨x, fp g, hb1, h1, hfp g _ hk, fun _ => Iff.rfl⟩ (fun k hk' => ?_) fun t r' htg ht k hf hc => ?_⟩
  · rcases hk' with rfl | hk'
    · exact ⟨size_of_heap hb1, hb2, hb3, fun y hy => hne y hy⟩
    · exact hM k hk'
  · rcases hc with rfl | hc
    · exact hfp t _ ht hf
    · exact h0.owns t g _ _ htg ht hk k hf hc
theorem Has.openBox {g b : Nat} {ty : TypeId} {r : Res} {S : Value → Prop} (hk : κ g = some (.own (BoxR b ty r))) (hS : ∀ v H u C, r.P v H u C → S v) (h : Has F B O n κ a u) : ∃ x, S x ∧ Has F B (bx b [x] ty :: O) n (upd κ g (.own (AtV x r))) a u := by
  obtain ⟨H, fp, h⟩ := h
  obtain ⟨⟨x, C', h1, h2, h3, h4⟩, hM⟩ := h.slot g _ hk
  have hMb := hM b ((h4 b).2 (.inl rfl))
  have h5 := h.putR (d := g) (a' := a) (r := AtV x r) (C := C') rfl rfl (fun _ _ => rfl) h2 (fun k hk' => hM k ((h4 k).2 (.inr hk'))) fun t r' htg ht k hf hc => h.owns t g _ _ htg ht hk k hf ((h4 k).2 (.inr hc))
  refine ⟨x, hS _ _ _ _ h2, H, _, h5.size, h5.defers, h5.nodup, fun D hD => List.mem_cons_of_mem _ (h5.marks D hD), h5.lent, h5.keep, h5.sub, h5.base, h5.fresh, fun y hy => ?_, List.pairwise_cons.2 ⟨fun y hy => Ne.symm (hMb.2.2.2 y hy), h5.apart⟩, fun s k hs => ?_, h5.owns, h5.mono⟩
  · rcases List.mem_cons.1 hy with rfl | hy
    · exact ⟨h1, hMb.2.1, hMb.2.2.1⟩
    · exact h5.boxes y hy
  · have hh := h5.slot s k hs
    cases k with
    | is _ => exact hh
    | sat _ => exact hh
    | own r' =>
      refine ⟨hh.1, fun k hk' => ?_⟩
      obtain ⟨g1, g2, g3, g4⟩ := hh.2 k hk'
      refine ⟨g1, g2, g3, fun y hy => ?_⟩
      rcases List.mem_cons.1 hy with rfl | hy
      · rintro rfl
        by_cases hsg : s = g
        · subst hsg; rw [fpu_same] at hk'; exact h3 hk'
        · rw [fpu_other _ _ hsg] at hk'
          rw [upd_other _ _ hsg] at hs
          exact h.owns s g _ _ hsg hs hk _ hk' ((h4 _).2 (.inl rfl))
      · exact g4 y hy
theorem V_detach (t g : Nat) {r : Res} {c : Code} (S : Value → Prop) (hk : κ t = some (.own r)) (hS : ∀ v H u C, r.P v H u C → S v) (h : ∀ x, S x → V P F B n O (upd (upd (upd κ t nilK) g (.own (AtV x r))) t (.is x)) c Q) : V P F B n O κ c Q := fun a u hh => let ⟨x, hx, h'⟩ := hh.detach (g := g) hk hS; h x hx a u h'
theorem vo_detach (t g : Nat) {r : Res} (S : Value → Prop) (hk : κ t = some (.own r)) (hS : ∀ v H u C, r.P v H u C → S v) (h : ∀ x, S x → VO P F B n O ops (upd (upd (upd κ t nilK) g (.own (AtV x r))) t (.is x)) os Q) : VO P F B n O ops κ os Q := fun a u hh => let ⟨x, hx, h'⟩ := hh.detach (g := g) hk hS; h x hx a u h'
theorem V_attach (t g : Nat) {x : Value} {r : Res} {c : Code} (hk : κ g = some (.own (AtV x r))) (ht : κ t = some (.is x)) (h : V P F B n O (upd (upd κ g nilK) t (.own r)) c Q) : V P F B n O κ c Q := fun a u hh => h a u (hh.attach hk ht)
theorem vo_attach (t g : Nat) {x : Value} {r : Res} (hk : κ g = some (.own (AtV x r))) (ht : κ t = some (.is x)) (h : VO P F B n O ops (upd (upd κ g nilK) t (.own r)) os Q) : VO P F B n O ops κ os Q := fun a u hh => h a u (hh.attach hk ht)
theorem V_closeBox (g : Nat) {b : Nat} {x : Value} {ty : TypeId} {r : Res} {c : Code} (O1 : Boxes) {O2 : Boxes} (hO : O = O1 ++ bx b [x] ty :: O2) (hk : κ g = some (.own (AtV x r))) (h : V P F B n (O1 ++ O2) (upd κ g (.own (BoxR b ty r))) c Q) : V P F B n O κ c Q := fun a u hh => h a u (hh.closeBox O1 O2 hO hk)
theorem N_closeBox (g : Nat) {b : Nat} {x : Value} {ty : TypeId} {r : Res} (O1 : Boxes) {O2 : Boxes} (hO : O = O1 ++ bx b [x] ty :: O2) (hk : κ g = some (.own (AtV x r))) (h : N F B n (O1 ++ O2) (upd κ g (.own (BoxR b ty r))) Q) : N F B n O κ Q := fun a u hh => h a u (hh.closeBox O1 O2 hO hk)
theorem V_openBox (g : Nat) {b : Nat} {ty : TypeId} {r : Res} {c : Code} (S : Value → Prop) (hk : κ g = some (.own (BoxR b ty r))) (hS : ∀ v H u C, r.P v H u C → S v) (h : ∀ x, S x → V P F B n (bx b [x] ty :: O) (upd κ g (.own (AtV x r))) c Q) : V P F B n O κ c Q := fun a u hh => let ⟨x, hx, h'⟩ := hh.openBox hk hS; h x hx a u h'
/-- Of a value that is known it is said what it satisfies. -/
theorem Has.seen {t : Nat} {x : Value} (φ : Value → Heap → Prop) (hk : κ t = some (.is x)) (hm : Kn.mono (.sat φ)) (hx : φ x B) (h : Has F B O n κ a u) : Has F B O n (upd κ t (.sat φ)) a u := by
  obtain ⟨H, fp, h⟩ := h
  refine ⟨H, fp, h.size, h.defers, h.nodup, h.marks, h.lent, h.keep, h.sub, h.base, h.fresh, h.boxes, h.apart, fun s k hs => ?_, fun s q r1 r2 hsq h1 h2 => ?_, fun s k hs => ?_⟩
  · by_cases hst : s = t
    · subst hst; rw [upd_same] at hs; cases hs
      have : a.eval (.tmp s) = x := h.slot s _ hk
      rw [this]
      exact hm _ _ _ hx h.base
    · rw [upd_other _ _ hst] at hs; exact h.slot s k hs
  · have key : ∀ x r, upd κ t (.sat φ) x = some (.own r) → κ x = some (.own r) := fun x r hx => by
      by_cases hxd : x = t
      · subst hxd; rw [upd_same] at hx; cases hx
      · rw [upd_other _ _ hxd] at hx; exact hx
    exact h.owns s q r1 r2 hsq (key _ _ h1) (key _ _ h2)
  · by_cases hst : s = t
    · subst hst; rw [upd_same] at hs; cases hs; exact hm
    · rw [upd_other _ _ hst] at hs; exact h.mono s k hs
theorem V_seen (t : Nat) {x : Value} (φ : Value → Heap → Prop) {c : Code} (hk : κ t = some (.is x)) (hm : Kn.mono (.sat φ)) (hx : φ x B) (h : V P F B n O (upd κ t (.sat φ)) c Q) : V P F B n O κ c Q := fun a u hh => h a u (hh.seen φ hk hm hx)
theorem N_seen (t : Nat) {x : Value} (φ : Value → Heap → Prop) (hk : κ t = some (.is x)) (hm : Kn.mono (.sat φ)) (hx : φ x B) (h : N F B n O (upd κ t (.sat φ)) Q) : N F B n O κ Q := fun a u hh => h a u (hh.seen φ hk hm hx)
theorem vo_seen (t : Nat) {x : Value} (φ : Value → Heap → Prop) (hk : κ t = some (.is x)) (hm : Kn.mono (.sat φ)) (hx : φ x B) (h : VO P F B n O ops (upd κ t (.sat φ)) os Q) : VO P F B n O ops κ os Q := fun a u hh => h a u (hh.seen φ hk hm hx)
theorem SlR.shape {e : TypeId} {s m : Nat} {xs : List Value} : ∀ v H u C, (SlR e s m xs).P v H u C → ∃ p c, v = .slice p m c := fun v _ _ _ ⟨_, h⟩ => by
  rcases h with ⟨rfl, rfl, _⟩ | ⟨b, cap, rest, rfl, _⟩
  · exact ⟨_, _, rfl⟩
  · exact ⟨_, _, rfl⟩
/-- A function is entered that is handed what is owned, as an argument. -/
theorem V_enterA {f : FuncId} {fn : Func} {c : Code} {args : List Value} {w : World} {B : Heap} {φ : Value → Heap → World → Prop} {C : Nat → Prop} (i : Nat) {x : Value} (r : Res) (hi : args[i]? = some x) (hf : P.funcs[f]? = some fn) (hb : fn.body = some c) (hn : fn.ntmps = n)
    (hs : args.length ≤ n) (hB : B.Le (hp w)) (hr : r.P x B w C) (hC : ∀ k, C k → k < w.heap.size ∧ B k = none) (h : V P ⟨w, none, [], C⟩ B n [] (upd (argsK 0 args) i (.own r)) c (bodyPostM Fence.wide 0 P fn (PostL w B C φ))) : RetL P f args w B C φ := by
  refine calls_of_V hf hb (h _ w ?_)
  subst hn
  have h0 := has_enter (B := B) C (fun k hk => (hC k hk).1) hs hB (fun _ => noL)
  have hk : ∀ (vs : List Value) (j t : Nat) (v : Value), vs[t]? = some v → argsK j vs (j + t) = some (.is v) := by
    intro vs
    induction vs with
    | nil => intro j t v hv; cases hv
    | cons y vs ih =>
      intro j t v hv
      cases t with
      | zero => simp only [List.getElem?_cons_zero, Option.some.injEq] at hv; subst hv; exact upd_same _ _ _
      | succ t =>
        simp only [List.getElem?_cons_succ] at hv
        show upd (argsK (j + 1) vs) j (.is y) (j + (t + 1)) = _
        rw [upd_other _ _ (by omega), show j + (t + 1) = (j + 1) + t by omega]
        exact ih (j + 1) t v hv
  have hx := h0.slot i _ (by have := hk args 0 i x hi; rwa [Nat.zero_add] at this)
  exact ⟨B, _, h0.putR (d := i) (r := r) rfl rfl (fun _ _ => rfl) (by rw [show _ = x from hx]; exact hr) (fun k hk => ⟨(hC k hk).1, (hC k hk).2, .inr hk, fun y hy => by cases hy⟩) fun t r' _ ht => by
    obtain ⟨v, hv, _⟩ := argsK_spec _ _ _ _ ht
    cases hv⟩
/-- A return, marks having been laid: the results lie in slots. -/
theorem V_retM (L : Tabs P) {fn : Func} {B0 : Heap} {φ : Value → Heap → Prop} {rs : List ResultVar} (hrs : fn.results = rs.toArray) (hQ : ∀ a u, bodyPostM Fence.wide 0 P fn (PostL F.w0 B0 F.L fun v H _ => φ v H) .ret a u → Q .ret a u) (hs : Since F B0 B)
    (h : ∀ O' u H, H.Le (hp u) → B.Le H → ResK L { F with ds := [] } B O' κ H rs [] (fun vs => φ (tup vs) H)) : V P F B n O κ .ret Q :=
  V_retG hQ hs fun O' a u H fp _ hh => by
    obtain ⟨vs, h1, h2⟩ := results_run L hh hrs (h O' u H hh.sub hh.base)
    exact ⟨_, h1, h2⟩
end
end Go.V
