/- Texts on the way to StoresDelta, part 2: one behind another. -/
import Derived.Test.YtcppaheijljnfaaGreatStoresDeltaM1
import Derived.Test.YtcppaheijljnfaaGreatProg
import Derived.Shelf.Small.Bits
import Derived.Shelf.Small.Strs
import Derived.Shelf.Strconv.Itoa0
import Derived.Shelf.SlSortCmp.NoneTotal
import Derived.Lib.IndexMore
import Derived.Lib.IndexLaws
import Derived.Lib.IndexBytes
set_option linter.unusedVariables false
set_option linter.unusedSimpArgs false
set_option maxRecDepth 20000
namespace Go.V
open Go.RowKit
def AtV (x : Value) (r : Res) : Res := ⟨fun _ H u C => r.P x H u C, r.st⟩
def zzi (b : Nat) (ty : TypeId) (r : Res) : Res where
 P _ H u C := ∃ x C', u.heap[b]? = some (.cells #[x] ty) ∧ r.P x H u C' ∧ ¬ C' b ∧ ∀ k, C k ↔ k = b ∨ C' k
 st := fun ⟨x, C', h1, h2, h3, h4⟩ hle hs hon hk => ⟨x, C', (hk b ((h4 b).2 (.inl rfl))).trans h1, r.st h2 hle hs hon fun k hc => hk k ((h4 k).2 (.inr hc)), h3, h4⟩
section
variable {P : Program} {F : Fr} {B : Heap} {O : Boxes} {n : Nat} {ops : Array Oper} {κ : Kap} {a : Act} {u : World} {H : Heap} {fp : Nat → Nat → Prop} {os : List Oper} {Q : Exit → Act → World → Prop}
theorem Has.detach {t g : Nat} {r : Res} {S : Value → Prop} (hk : κ t = some (.own r)) (hS : ∀ v H u C, r.P v H u C → S v) (h : Has F B O n κ a u) : ∃ x, S x ∧ Has F B O n (upd (upd (upd κ t zed) g (.own (AtV x r))) t (.is x)) a u := by
 obtain ⟨H, fp, h⟩ := h
 obtain ⟨h1, hM⟩ := h.slot t _ hk
 have h2 := h.usePut (d := g) (a' := a) (r' := AtV (a.eval (.tmp t)) r) (C := fp t) hk ⟨Keep.refl _ _, h.sub, Heap.Le.refl _, fun _ _ _ => rfl⟩ rfl rfl (fun _ _ => rfl) h1 fun k hk => ⟨.inl hk, (hM k hk).1, (hM k hk).2.1⟩
 exact ⟨_, hS _ _ _ _ h1, H, _, h2.name t⟩
theorem Has.attach {t g : Nat} {x : Value} {r : Res} (hk : κ g = some (.own (AtV x r))) (ht : κ t = some (.is x)) (h : Has F B O n κ a u) : Has F B O n (upd (upd κ g zed) t (.own r)) a u := by
 obtain ⟨H, fp, h⟩ := h
 obtain ⟨h1, hM⟩ := h.slot g _ hk
 have h1' : r.P x H u (fp g) := h1
 have hx : a.eval (.tmp t) = x := h.slot t _ ht
 exact ⟨H, _, h.usePut (d := t) (a' := a) (r' := r) (C := fp g) hk ⟨Keep.refl _ _, h.sub, Heap.Le.refl _, fun _ _ _ => rfl⟩ rfl rfl (fun _ _ => rfl) (by rw [hx]; exact h1') fun k hk => ⟨.inl hk, (hM k hk).1, (hM k hk).2.1⟩⟩
theorem HasH.lessBox {b : Nat} {o : Obj} {O1 O2 : Boxes} (h : HasH F B (O1 ++ (b, o) :: O2) n κ a u H fp) (hd : b ∉ F.ds) : HasH F B (O1 ++ O2) n κ a u H fp ∧ u.heap[b]? = some o ∧ H b = none ∧ (F.w0.heap.size ≤ b ∨ F.L b) ∧ (∀ y ∈ O1 ++ O2, y.1 ≠ b) ∧ ∀ t r, κ t = some (.own r) → ¬ fp t b := by
 have hsl : (O1 ++ O2).Sublist (O1 ++ (b, o) :: O2) := List.Sublist.append (List.Sublist.refl _) (List.sublist_cons_self ..)
 have hmem : (b, o) ∈ O1 ++ (b, o) :: O2 := by simp
 obtain ⟨hb1, hb2, hb3⟩ := h.boxes _ hmem
 have hap := List.pairwise_append.1 h.apart
 have hne : ∀ y, y ∈ O1 ++ O2 → y.1 ≠ b := fun y hy => by
  rcases List.mem_append.1 hy with hy | hy
  ·exact hap.2.2 y hy _ (List.mem_cons_self ..)
  ·exact Ne.symm ((List.pairwise_cons.1 hap.2.1).1 y hy)
 refine ⟨⟨h.size, h.defers, h.nodup, fun D hD => ?_, h.lent, h.keep, h.sub, h.base, h.fresh, fun y hy => h.boxes y (hsl.subset hy), h.apart.sublist hsl, fun s k hs => ?_, h.owns, h.mono⟩, hb1, hb2, hb3, hne, fun t r ht hf => ((h.slot t _ ht).2 b hf).2.2.2 _ hmem rfl⟩
 ·have hm := h.marks D hD
  rcases List.mem_append.1 hm with hm | hm
  ·exact List.mem_append_left _ hm
  ·rcases List.mem_cons.1 hm with e | hm
   ·cases e; exact absurd hD hd
   ·exact List.mem_append_right _ hm
 ·have hh := h.slot s k hs
  cases k with
  | is _ => exact hh
  | sat _ => exact hh
  | own r' => exact ⟨hh.1, fun k hk' => by obtain ⟨g1, g2, g3, g4⟩ := hh.2 k hk'; exact ⟨g1, g2, g3, fun y hy => g4 y (hsl.subset hy)⟩⟩
theorem z2e {b : Nat} {cs : Array Value} {ty : TypeId} {fr : Nat × Nat} (h : HasH F B O n κ a u H fp) (hb : u.heap[b]? = some (.cells cs ty fr)) : b ∉ F.ds := fun hd => by
 have := (h.boxes _ (h.marks b hd)).1
 rw [hb] at this
 cases this
theorem Has.closeBox {g b : Nat} {x : Value} {ty : TypeId} {r : Res} (O1 O2 : Boxes) (hO : O = O1 ++ bx b [x] ty :: O2) (hk : κ g = some (.own (AtV x r))) (h : Has F B O n κ a u) : Has F B (O1 ++ O2) n (upd κ g (.own (zzi b ty r))) a u := by
 subst hO
 obtain ⟨H, fp, h⟩ := h
 obtain ⟨h0, hb1, hb2, hb3, hne, hfp⟩ := h.lessBox (z2e h (h.boxes (bx b [x] ty) (by simp)).1)
 obtain ⟨h1, hM⟩ := h0.slot g _ hk
 refine ⟨H, _, h0.putR (d := g) (r := zzi b ty r) (C := fun k => k = b ∨ fp g k) rfl rfl (fun _ _ => rfl) ⟨x, fp g, hb1, h1, hfp g _ hk, fun _ => Iff.rfl⟩ (fun k hk' => ?_) fun t r' htg ht k hf hc => ?_⟩
 ·rcases hk' with rfl | hk'
  ·exact ⟨zag hb1, hb2, hb3, fun y hy => hne y hy⟩
  ·exact hM k hk'
 ·rcases hc with rfl | hc
  ·exact hfp t _ ht hf
  ·exact h0.owns t g _ _ htg ht hk k hf hc
theorem Has.openBox {g b : Nat} {ty : TypeId} {r : Res} {S : Value → Prop} (hk : κ g = some (.own (zzi b ty r))) (hS : ∀ v H u C, r.P v H u C → S v) (h : Has F B O n κ a u) : ∃ x, S x ∧ Has F B (bx b [x] ty :: O) n (upd κ g (.own (AtV x r))) a u := by
 obtain ⟨H, fp, h⟩ := h
 obtain ⟨⟨x, C', h1, h2, h3, h4⟩, hM⟩ := h.slot g _ hk
 have hMb := hM b ((h4 b).2 (.inl rfl))
 have h5 := h.putR (d := g) (a' := a) (r := AtV x r) (C := C') rfl rfl (fun _ _ => rfl) h2 (fun k hk' => hM k ((h4 k).2 (.inr hk'))) fun t r' htg ht k hf hc => h.owns t g _ _ htg ht hk k hf ((h4 k).2 (.inr hc))
 refine ⟨x, hS _ _ _ _ h2, H, _, h5.size, h5.defers, h5.nodup, fun D hD => List.mem_cons_of_mem _ (h5.marks D hD), h5.lent, h5.keep, h5.sub, h5.base, h5.fresh, fun y hy => ?_, List.pairwise_cons.2 ⟨fun y hy => Ne.symm (hMb.2.2.2 y hy), h5.apart⟩, fun s k hs => ?_, h5.owns, h5.mono⟩
 ·rcases List.mem_cons.1 hy with rfl | hy
  ·exact ⟨h1, hMb.2.1, hMb.2.2.1⟩
  ·exact h5.boxes y hy
 ·have hh := h5.slot s k hs
  cases k with
  | is _ => exact hh
  | sat _ => exact hh
  | own r' =>
   refine ⟨hh.1, fun k hk' => ?_⟩
   obtain ⟨g1, g2, g3, g4⟩ := hh.2 k hk'
   refine ⟨g1, g2, g3, fun y hy => ?_⟩
   rcases List.mem_cons.1 hy with rfl | hy
   ·rintro rfl
    by_cases hsg : s = g
    ·subst hsg; rw [zhf] at hk'; exact h3 hk'
    ·rw [zex _ _ hsg] at hk'
     rw [zac _ _ hsg] at hs
     exact h.owns s g _ _ hsg hs hk _ hk' ((h4 _).2 (.inl rfl))
   ·exact g4 y hy
theorem zyf (t g : Nat) {r : Res} {c : Code} (S : Value → Prop) (hk : κ t = some (.own r)) (hS : ∀ v H u C, r.P v H u C → S v) (h : ∀ x, S x → V P F B n O (upd (upd (upd κ t zed) g (.own (AtV x r))) t (.is x)) c Q) : V P F B n O κ c Q := fun a u hh => let ⟨x, hx, h'⟩ := hh.detach (g := g) hk hS; h x hx a u h'
theorem zs8 (t g : Nat) {r : Res} (S : Value → Prop) (hk : κ t = some (.own r)) (hS : ∀ v H u C, r.P v H u C → S v) (h : ∀ x, S x → VO P F B n O ops (upd (upd (upd κ t zed) g (.own (AtV x r))) t (.is x)) os Q) : VO P F B n O ops κ os Q := fun a u hh => let ⟨x, hx, h'⟩ := hh.detach (g := g) hk hS; h x hx a u h'
theorem zyg (t g : Nat) {x : Value} {r : Res} {c : Code} (hk : κ g = some (.own (AtV x r))) (ht : κ t = some (.is x)) (h : V P F B n O (upd (upd κ g zed) t (.own r)) c Q) : V P F B n O κ c Q := fun a u hh => h a u (hh.attach hk ht)
theorem zs9 (t g : Nat) {x : Value} {r : Res} (hk : κ g = some (.own (AtV x r))) (ht : κ t = some (.is x)) (h : VO P F B n O ops (upd (upd κ g zed) t (.own r)) os Q) : VO P F B n O ops κ os Q := fun a u hh => h a u (hh.attach hk ht)
theorem zs2 (g : Nat) {b : Nat} {x : Value} {ty : TypeId} {r : Res} {c : Code} (O1 : Boxes) {O2 : Boxes} (hO : O = O1 ++ bx b [x] ty :: O2) (hk : κ g = some (.own (AtV x r))) (h : V P F B n (O1 ++ O2) (upd κ g (.own (zzi b ty r))) c Q) : V P F B n O κ c Q := fun a u hh => h a u (hh.closeBox O1 O2 hO hk)
theorem zs3 (g : Nat) {b : Nat} {x : Value} {ty : TypeId} {r : Res} (O1 : Boxes) {O2 : Boxes} (hO : O = O1 ++ bx b [x] ty :: O2) (hk : κ g = some (.own (AtV x r))) (h : N F B n (O1 ++ O2) (upd κ g (.own (zzi b ty r))) Q) : N F B n O κ Q := fun a u hh => h a u (hh.closeBox O1 O2 hO hk)
theorem zow (g : Nat) {b : Nat} {ty : TypeId} {r : Res} {c : Code} (S : Value → Prop) (hk : κ g = some (.own (zzi b ty r))) (hS : ∀ v H u C, r.P v H u C → S v) (h : ∀ x, S x → V P F B n (bx b [x] ty :: O) (upd κ g (.own (AtV x r))) c Q) : V P F B n O κ c Q := fun a u hh => let ⟨x, hx, h'⟩ := hh.openBox hk hS; h x hx a u h'
theorem Has.seen {t : Nat} {x : Value} (φ : Value → Heap → Prop) (hk : κ t = some (.is x)) (hm : Kn.mono (.sat φ)) (hx : φ x B) (h : Has F B O n κ a u) : Has F B O n (upd κ t (.sat φ)) a u := by
 obtain ⟨H, fp, h⟩ := h
 refine ⟨H, fp, h.size, h.defers, h.nodup, h.marks, h.lent, h.keep, h.sub, h.base, h.fresh, h.boxes, h.apart, fun s k hs => ?_, fun s q r1 r2 hsq h1 h2 => ?_, fun s k hs => ?_⟩
 ·by_cases hst : s = t
  ·subst hst; rw [zad] at hs; cases hs
   have : a.eval (.tmp s) = x := h.slot s _ hk
   rw [this]
   exact hm _ _ _ hx h.base
  ·rw [zac _ _ hst] at hs; exact h.slot s k hs
 ·have key : ∀ x r, upd κ t (.sat φ) x = some (.own r) → κ x = some (.own r) := fun x r hx => by
   by_cases hxd : x = t
   ·subst hxd; rw [zad] at hx; cases hx
   ·rw [zac _ _ hxd] at hx; exact hx
  exact h.owns s q r1 r2 hsq (key _ _ h1) (key _ _ h2)
 ·by_cases hst : s = t
  ·subst hst; rw [zad] at hs; cases hs; exact hm
  ·rw [zac _ _ hst] at hs; exact h.mono s k hs
theorem zaq (t : Nat) {x : Value} (φ : Value → Heap → Prop) {c : Code} (hk : κ t = some (.is x)) (hm : Kn.mono (.sat φ)) (hx : φ x B) (h : V P F B n O (upd κ t (.sat φ)) c Q) : V P F B n O κ c Q := fun a u hh => h a u (hh.seen φ hk hm hx)
theorem zfg (t : Nat) {x : Value} (φ : Value → Heap → Prop) (hk : κ t = some (.is x)) (hm : Kn.mono (.sat φ)) (hx : φ x B) (h : VO P F B n O ops (upd κ t (.sat φ)) os Q) : VO P F B n O ops κ os Q := fun a u hh => h a u (hh.seen φ hk hm hx)
theorem SlR.shape {e : TypeId} {s m : Nat} {xs : List Value} : ∀ v H u C, (SlR e s m xs).P v H u C → ∃ p c, v = .slice p m c := fun v _ _ _ ⟨_, h⟩ => by
 rcases h with ⟨rfl, rfl, _⟩ | ⟨b, cap, rest, rfl, _⟩
 ·exact ⟨_, _, rfl⟩
 ·exact ⟨_, _, rfl⟩
theorem zmy {f : FuncId} {fn : Func} {c : Code} {args : List Value} {w : World} {B : Heap} {φ : Value → Heap → World → Prop} {C : Nat → Prop} (i : Nat) {x : Value} (r : Res) (hi : args[i]? = some x) (hf : P.funcs[f]? = some fn) (hb : fn.body = some c) (hn : fn.ntmps = n)
  (hs : args.length ≤ n) (hB : B.Le (hp w)) (hr : r.P x B w C) (hC : ∀ k, C k → k < w.heap.size ∧ B k = none) (h : V P ⟨w, none, [], C⟩ B n [] (upd (zku 0 args) i (.own r)) c (bodyPostM Fence.wide 0 P fn (zga w B C φ))) : RetL P f args w B C φ := by
 refine zf7 hf hb (h _ w ?_)
 subst hn
 have h0 := zhd (B := B) C (fun k hk => (hC k hk).1) hs hB (fun _ => noL)
 have hk : ∀ (vs : List Value) (j t : Nat) (v : Value), vs[t]? = some v → zku j vs (j + t) = some (.is v) := by
  intro vs
  induction vs with
  | nil => intro j t v hv; cases hv
  | cons y vs ih =>
   intro j t v hv
   cases t with
   | zero => simp only [List.getElem?_cons_zero, Option.some.injEq] at hv; subst hv; exact zad _ _ _
   | succ t =>
    simp only [List.getElem?_cons_succ] at hv
    show upd (zku (j + 1) vs) j (.is y) (j + (t + 1)) = _
    rw [zac _ _ (by omega), show j + (t + 1) = (j + 1) + t by omega]
    exact ih (j + 1) t v hv
 have hx := h0.slot i _ (by have := hk args 0 i x hi; rwa [Nat.zero_add] at this)
 exact ⟨B, _, h0.putR (d := i) (r := r) rfl rfl (fun _ _ => rfl) (by rw [show _ = x from hx]; exact hr) (fun k hk => ⟨(hC k hk).1, (hC k hk).2, .inr hk, fun y hy => by cases hy⟩) fun t r' _ ht => by
  obtain ⟨v, hv, _⟩ := zd3 _ _ _ _ ht
  cases hv⟩
theorem z3h (L : Tabs P) {fn : Func} {B0 : Heap} {φ : Value → Heap → Prop} {rs : List ResultVar} (hrs : fn.results = rs.toArray) (hQ : ∀ a u, bodyPostM Fence.wide 0 P fn (zga F.w0 B0 F.L fun v H _ => φ v H) .ret a u → Q .ret a u) (hs : Since F B0 B)
  (h : ∀ O' u H, H.Le (hp u) → B.Le H → zpw L { F with ds := [] } B O' κ H rs [] (fun vs => φ (tup vs) H)) : V P F B n O κ .ret Q :=
 zrf hQ hs fun O' a u H fp _ hh => by
  obtain ⟨vs, h1, h2⟩ := zcs L hh hrs (h O' u H hh.sub hh.base)
  exact ⟨_, h1, h2⟩
end
end Go.V
set_option maxRecDepth 20000
namespace Go.V
open Go.RowKit
def zho {X : Type} (φ : X → Heap → Prop) : Prop := ∀ x H H', φ x H → Heap.Le H H' → φ x H'
def ExR {X : Type} (r : X → Res) (φ : X → Heap → Prop) (hφ : zho φ) : Res where
 P v H u C := ∃ x, φ x H ∧ (r x).P v H u C
 st := fun ⟨x, h1, h2⟩ hle hs hon hk => ⟨x, hφ _ _ _ h1 hle, (r x).st h2 hle hs hon hk⟩
section
variable {P : Program} {F : Fr} {B : Heap} {O : Boxes} {n : Nat} {ops : Array Oper} {κ : Kap} {a : Act} {u : World} {H : Heap} {fp : Nat → Nat → Prop} {os : List Oper} {Q : Exit → Act → World → Prop}
theorem HasH.turnR {t : Nat} {r r' : Res} (h : HasH F B O n κ a u H fp) (hk : κ t = some (.own r)) (hr : r'.P (a.eval (.tmp t)) H u (fp t)) : HasH F B O n (upd κ t (.own r')) a u H fp := by
 refine ⟨h.size, h.defers, h.nodup, h.marks, h.lent, h.keep, h.sub, h.base, h.fresh, h.boxes, h.apart, fun s k hs => ?_, fun s q r1 r2 hsq h1 h2 => ?_, fun s k hs => ?_⟩
 ·by_cases hst : s = t
  ·subst hst; rw [zad] at hs; cases hs; exact ⟨hr, (h.slot s _ hk).2⟩
  ·rw [zac _ _ hst] at hs; exact h.slot s k hs
 ·have key : ∀ x r, upd κ t (.own r') x = some (.own r) → ∃ r2, κ x = some (.own r2) := fun x r hx => by
   by_cases hxd : x = t
   ·subst hxd; exact ⟨_, hk⟩
   ·rw [zac _ _ hxd] at hx; exact ⟨_, hx⟩
  obtain ⟨_, k1⟩ := key _ _ h1
  obtain ⟨_, k2⟩ := key _ _ h2
  exact h.owns s q _ _ hsq k1 k2
 ·by_cases hst : s = t
  ·subst hst; rw [zad] at hs; cases hs; trivial
  ·rw [zac _ _ hst] at hs; exact h.mono s k hs
theorem Has.opnX {X : Type} {t : Nat} {r : X → Res} {φ : X → Heap → Prop} {hφ : zho φ} (hk : κ t = some (.own (ExR r φ hφ))) (h : Has F B O n κ a u) : ∃ x H, Since F B H ∧ φ x H ∧ Has F H O n (upd κ t (.own (r x))) a u := by
 obtain ⟨H, fp, h⟩ := h
 obtain ⟨⟨x, h1, h2⟩, _⟩ := h.slot t _ hk
 exact ⟨x, H, h.isSince, h1, H, fp, (h.turnR hk h2).rebase⟩
theorem Has.clsX {X : Type} {t : Nat} {r : X → Res} {φ : X → Heap → Prop} (hφ : zho φ) (x : X) (hx : φ x B) (hk : κ t = some (.own (r x))) (h : Has F B O n κ a u) : Has F B O n (upd κ t (.own (ExR r φ hφ))) a u := by
 obtain ⟨H, fp, h⟩ := h
 exact ⟨H, fp, h.turnR hk ⟨x, hφ _ _ _ hx h.base, (h.slot t _ hk).1⟩⟩
theorem ze0 {X : Type} (t : Nat) {r : X → Res} {φ : X → Heap → Prop} {hφ : zho φ} {c : Code} (hk : κ t = some (.own (ExR r φ hφ))) (h : ∀ x H, Since F B H → φ x H → V P F H n O (upd κ t (.own (r x))) c Q) : V P F B n O κ c Q := fun a u hh => by
 obtain ⟨x, H, hs, hx, hh'⟩ := hh.opnX hk
 exact h x H hs hx a u hh'
theorem zzf {X : Type} (t : Nat) {r : X → Res} {φ : X → Heap → Prop} (hφ : zho φ) (x : X) {c : Code} (hx : φ x B) (hk : κ t = some (.own (r x))) (h : V P F B n O (upd κ t (.own (ExR r φ hφ))) c Q) : V P F B n O κ c Q := fun a u hh => h a u (hh.clsX hφ x hx hk)
theorem zox {X : Type} (t : Nat) {r : X → Res} {φ : X → Heap → Prop} (hφ : zho φ) (x : X) (hx : φ x B) (hk : κ t = some (.own (r x))) (h : N F B n O (upd κ t (.own (ExR r φ hφ))) Q) : N F B n O κ Q := fun a u hh => h a u (hh.clsX hφ x hx hk)
end
theorem zde {α : Type} {f : α → List Value} {s : Nat} (hf : ∀ a, (f a).length = s) : ∀ (l : List α) (i : Nat) (a : α), l[i]? = some a → ((l.flatMap f).drop (i * s)).take s = f a
 | [], _, _, h => by simp at h
 | z :: l, 0, a, h => by simp at h; subst h; rw [Nat.zero_mul, List.drop_zero, List.flatMap_cons, List.take_append_of_le_length (by rw [hf]; exact Nat.le_refl _), List.take_of_length_le (by rw [hf]; exact Nat.le_refl _)]
 | z :: l, i + 1, a, h => by
  simp only [List.getElem?_cons_succ] at h
  rw [← zde hf l i a h, List.flatMap_cons]
  congr 1
  have e : (i + 1) * s = (f z).length + i * s := by rw [hf, Nat.succ_mul]; omega
  rw [e, ← List.drop_drop, List.drop_left]
theorem zcg {α : Type} {f : α → List Value} {s : Nat} (hf : ∀ a, (f a).length = s) (l : List α) : (l.flatMap f).length = l.length * s := by
 induction l with
 | nil => simp
 | cons a l ih => rw [List.flatMap_cons, List.length_append, ih, hf, List.length_cons, Nat.succ_mul, Nat.add_comm]
theorem zae {α : Type} {l : List α} {i : Nat} (h : i < l.length) : ∃ a, l[i]? = some a := ⟨l[i], List.getElem?_eq_getElem h⟩
theorem get_lt {α : Type} {l : List α} {i : Nat} {a : α} (h : l[i]? = some a) : i < l.length := by
 rcases Nat.lt_or_ge i l.length with h' | h'
 ·exact h'
 ·rw [List.getElem?_eq_none h'] at h; cases h
theorem zav {e : TypeId} {s n : Nat} {xs : List Value} {fu : Bool} {v : Value} {H : Heap} (h : SlV e s xs n fu v H) : ∃ p c, v = .slice p n c := by
 obtain ⟨_, ⟨h0, p, rfl⟩ | ⟨b, off, cap, cs, ty0, fr, rfl, _⟩⟩ := h
 ·exact ⟨p, 0, by rw [h0]⟩
 ·exact ⟨_, _, rfl⟩
theorem zqa {e : TypeId} {s n c : Nat} {xs : List Value} {fu : Bool} {H : Heap} (h : SlV e s xs n fu (.slice none n c) H) : n = 0 ∧ c = 0 := by
 obtain ⟨_, ⟨h0, p, e⟩ | ⟨b, off, cap, cs, ty0, fr, e, _⟩⟩ := h
 ·cases e; exact ⟨h0, rfl⟩
 ·cases e
end Go.V
set_option maxRecDepth 20000
namespace Go.V
open Go.RowKit
variable {P : Program} {F : Fr} {B : Heap} {n : Nat} {O : Boxes} {κ : Kap} {Q R : Exit → Act → World → Prop}
def z3q (P : Program) (F : Fr) (_ : Heap) (_ : Nat) (R : Exit → Act → World → Prop) (y : Code) (Q : Exit → Act → World → Prop) : Prop :=
 (∀ a u, R .normal a u → y.wpIn (FW F.r) 0 P Q a u) ∧ ∀ e a u, e ≠ .normal → R e a u → Q e a u
theorem zdv {T : Type} (Fk : T → List (Nat × Kn)) (I : T → Prop) (Ob : T → Boxes) {y : Code} (hy : ∀ t, I t → V P F B n (Ob t) (ofL (Fk t)) y Q) :
  z3q P F B n (Exit.then (fun a u => ∃ t, I t ∧ Has F B (Ob t) n (ofL (Fk t)) a u) Q) y Q :=
 ⟨fun a u ⟨t, hI, hh⟩ => hy t hI a u hh, fun e a u he h => by cases e <;> first | exact absurd rfl he | exact h⟩
theorem za5 {T : Type} {B0 : Heap} {Fk : T → List (Nat × Kn)} {I : T → Prop} {Ob : T → Boxes} (t : T) (hs : Since F B0 B) (hI : I t) (hO : O = Ob t) (hl : LiveOK (Fk t) κ) :
  N F B n O κ (Exit.then (fun a u => ∃ t, I t ∧ Has F B0 (Ob t) n (ofL (Fk t)) a u) Q) := fun _ _ hh => ⟨t, hI, hO ▸ (hh.live hl).since hs⟩
section
variable {ops : Array Oper} {ty : TypeId} {pos : String} {aft : Array Edge} {g : Option (Nat × Bool)}
theorem znv (L : Tabs P) {t t' : TypeId} {s q : Nat} {ag : Bool} {z : Nat} {cs : List Value} {φ : Value → Heap → Prop} {X : Type} (f : X → List Value) (ψ : X → Heap → Prop) (hψ : zho ψ)
  (hφ : ∀ v H, φ v H → ∃ x, ψ x H ∧ zau v = f x) (hf : ∀ x, (f x).length = z ∧ (f x).all zbo = true)
  (hg : gK ops κ ⟨none, .store t (.tmp s) (.tmp q), ty, pos, aft, g⟩ = some true) (hk : κ s = some (.own (Cell cs t'))) (hx : κ q = some (.sat φ))
  (hl : L.ld t = some (ag, z)) (hcs : cs.length = z) :
  StepOK P F B n ops O κ ⟨none, .store t (.tmp s) (.tmp q), ty, pos, aft, g⟩ s (.own (ExR (fun x => Cell (f x) t') ψ hψ)) := by
 rintro κ' a u hlk ⟨H, fp, hh⟩
 unfold After
 rw [if_pos (zaf hh hlk hg)]
 have e := hh.env hlk
 obtain ⟨x, hx1, hx2⟩ := hφ _ _ (e.sat_ q _ (by simp [Op.operands]) hx)
 have hks : κ' s = some (.own (Cell cs t')) := (hlk s (zdj (by simp [Op.operands]))).trans hk
 obtain ⟨⟨b, hes, hb, hC⟩, hM⟩ := hh.slot s _ hks
 have hrun : (execOp a.eval ⟨none, .store t (.tmp s) (.tmp q), ty, pos, aft, g⟩).run P u = .ok .skip (u.setRow b (f x).toArray) := by
  simp only [execOp, hes, Instr.storeAt, Instr.sureAddr, Sem.run_bind, Sem.run_pure, Result.andThen_ok]
  have := zbw (P := P) (off := 0) (v := a.eval (.tmp q)) (Tabs.ld_spec hl) hb (by rw [hx2]; exact (hf x).1) (by omega) (by rw [hx2]; exact (hf x).2)
  rw [this, hx2, List.drop_of_length_le (by omega)]
  simp
 rw [hrun]
 simp only [Upon, Act.put]
 have hset := setRow_heap u b cs.toArray (f x).toArray t' (0, 0) hb
 have hbm := hM b ((hC b).2 rfl)
 have := hh.usePut (d := s) (a' := a) (r' := ExR (fun x => Cell (f x) t') ψ hψ) (C := fun k => k = b) hks (zbh hh.sub hb ((hC b).2 rfl) hbm.2.1 _) rfl rfl (fun _ _ => rfl) ⟨x, hx1, b, hes, hset, fun _ => Iff.rfl⟩ (fun k hk => by
  subst hk; exact ⟨.inl ((hC k).2 rfl), by rw [setRow_size]; exact hbm.1, hbm.2.1⟩)
 rw [zbc] at this
 exact ⟨H, _, this⟩
end
end Go.V
set_option maxRecDepth 20000
namespace Go.V
open Go.RowKit
def okB (c : UInt8) : Bool := (97 ≤ c && c ≤ 122) || (48 ≤ c && c ≤ 57)
def chk (s : ByteArray) : Int := if 1 ≤ s.size ∧ s.size ≤ 16 ∧ s.data.toList.all okB = true then 0 else 6
theorem zbs (s : ByteArray) : chk s = 0 ∨ chk s = 6 := by unfold chk; split <;> simp
theorem zps {s : ByteArray} (h : ¬ (1 ≤ s.size ∧ s.size ≤ 16)) : chk s = 6 := by
 unfold chk; rw [if_neg]; intro h'; exact h ⟨h'.1, h'.2.1⟩
theorem zvu {s : ByteArray} (h1 : 1 ≤ s.size) (h2 : s.size ≤ 16) (h : s.data.toList.all okB = true) : chk s = 0 := by
 unfold chk; rw [if_pos ⟨h1, h2, h⟩]
theorem zlm {s : ByteArray} {k : Nat} {c : UInt8} (hc : s[k]? = some c) (h : okB c = false) : chk s = 6 := by
 unfold chk; rw [if_neg]
 rintro ⟨_, _, hall⟩
 have hm : c ∈ s.data.toList := by
  have : s.data[k]? = some c := hc
  exact Array.mem_toList_iff.2 (Array.mem_of_getElem? this)
 rw [List.all_eq_true] at hall
 rw [hall c hm] at h; cases h
theorem getElem?_lt {s : ByteArray} {k : Nat} (h : k < s.size) : ∃ c, s[k]? = some c := ⟨s[k], by rw [getElem?_pos]⟩
theorem ziv {s : ByteArray} {k : Nat} {c : UInt8} (hc : s[k]? = some c) (h : okB c = true) (ha : (s.data.toList.take k).all okB = true) : (s.data.toList.take (k + 1)).all okB = true := by
 have hd : s.data.toList[k]? = some c := by
  have : s.data[k]? = some c := hc
  simpa using this
 rw [List.take_add_one, hd]
 simp [List.all_append, ha, h]
theorem zbn (s : ByteArray) : s.data.toList.length = s.size := by rw [Array.length_toList]; rfl
theorem zrd {s : ByteArray} {k : Nat} (h : s.size ≤ k) (ha : (s.data.toList.take k).all okB = true) : s.data.toList.all okB = true := by
 rwa [List.take_of_length_le (by rw [zbn]; exact h)] at ha
theorem z1k (c : UInt8) : (c.toNat : Int) < 256 := by have := c.toNat_lt; omega
theorem z2d {c : UInt8} (h1 : (c.toNat : Int) < 97) (h2 : (c.toNat : Int) < 48) : okB c = false := by
 simp [okB, UInt8.le_iff_toNat_le]; omega
theorem z2c {c : UInt8} (h1 : (c.toNat : Int) < 97) (h2 : 57 < (c.toNat : Int)) : okB c = false := by
 simp [okB, UInt8.le_iff_toNat_le]; omega
theorem z2b {c : UInt8} (h1 : 122 < (c.toNat : Int)) : okB c = false := by
 simp [okB, UInt8.le_iff_toNat_le]; omega
theorem z2a {c : UInt8} (h1 : ¬ (c.toNat : Int) < 97) (h2 : ¬ 122 < (c.toNat : Int)) : okB c = true := by
 simp [okB, UInt8.le_iff_toNat_le]; omega
theorem z19 {c : UInt8} (h1 : ¬ (c.toNat : Int) < 48) (h2 : ¬ 57 < (c.toNat : Int)) : okB c = true := by
 simp [okB, UInt8.le_iff_toNat_le]; omega
theorem zyq {vs : List Value} {j : Nat} {v : Value} (h : vs[j]? = some v) : (vs.drop (j * 1)).take 1 = [v] := by
 obtain ⟨hl, he⟩ := List.getElem?_eq_some_iff.1 h
 rw [Nat.mul_one, List.drop_eq_getElem_cons hl, he]
 rfl
theorem z1n {l : List ByteArray} {j : Nat} {s : ByteArray} (h : l[j]? = some s) : ((l.map Value.string).drop (j * 1)).take 1 = [.string s] := zyq (by simp [h])
end Go.V
namespace Go.V
open Go.Proofs
set_option maxRecDepth 100000
theorem mixed : Tryz.prog.follows .mixedOrders = true := by kernel_rfl
def ldL : List (Nat × (Bool × Nat)) := [(1, (false, 1)), (2, (false, 1)), (3, (false, 1)), (4, (false, 1)), (5, (false, 1)), (6, (false, 1)), (7, (true, 4)), (8, (true, 4)), (9, (false, 1)), (10, (false, 1)), 
  (11, (false, 1)), (12, (false, 1)), (13, (true, 2)), (14, (true, 2)), (15, (false, 1)), (16, (false, 1)), (17, (false, 1)), (18, (true, 1)), (19, (true, 1)), (20, (false, 1)), 
  (21, (false, 1)), (22, (false, 1)), (23, (true, 1)), (24, (true, 1)), (25, (false, 1)), (26, (false, 1)), (27, (false, 1)), (28, (false, 1)), (29, (false, 1)), (30, (false, 1)), 
  (31, (true, 2)), (32, (true, 2)), (33, (true, 3)), (34, (true, 3)), (35, (false, 1)), (36, (false, 1)), (37, (false, 1)), (38, (false, 1)), (39, (false, 1)), (40, (true, 2)), 
  (41, (true, 2)), (42, (true, 2)), (43, (true, 2)), (44, (true, 4)), (45, (true, 4)), (46, (false, 1)), (48, (false, 1)), (49, (false, 1)), (50, (false, 1)), (51, (false, 1)), 
  (52, (false, 1)), (53, (false, 1)), (54, (false, 1)), (55, (false, 1)), (56, (false, 1)), (58, (false, 1)), (59, (false, 1)), (61, (false, 1)), (62, (false, 1)), (63, (false, 1)), 
  (64, (false, 1)), (65, (true, 1)), (66, (true, 1)), (67, (true, 1)), (68, (true, 1)), (69, (true, 5)), (70, (true, 5)), (71, (false, 1)), (72, (false, 1)), (73, (true, 2)), 
  (74, (true, 2)), (75, (false, 1)), (76, (false, 1)), (78, (false, 1)), (79, (false, 1)), (81, (false, 1)), (82, (false, 1)), (83, (false, 1)), (84, (false, 1)), (85, (false, 1)), 
  (86, (false, 1)), (87, (false, 1)), (88, (true, 2)), (89, (true, 2)), (90, (false, 1)), (91, (false, 1)), (92, (false, 1)), (93, (true, 4)), (94, (true, 4)), (95, (false, 1)), 
  (96, (false, 1)), (97, (false, 1)), (98, (false, 1)), (99, (false, 1)), (100, (false, 1)), (102, (false, 1)), (103, (false, 1)), (104, (false, 1)), (105, (false, 1)), 
  (107, (false, 1)), (108, (true, 2)), (109, (true, 2)), (110, (true, 3)), (111, (true, 3)), (112, (true, 3)), (113, (true, 6)), (114, (true, 6)), (116, (false, 1)), (117, (true, 7)), 
  (118, (true, 7)), (119, (true, 7)), (120, (true, 7)), (121, (false, 1)), (123, (false, 1)), (124, (false, 1)), (125, (false, 1)), (126, (false, 1)), (127, (false, 1)), 
  (129, (false, 1)), (131, (false, 1)), (133, (false, 1)), (134, (false, 1)), (135, (false, 1)), (136, (true, 2)), (137, (true, 2)), (138, (false, 1)), (139, (false, 1)), 
  (140, (false, 1)), (141, (false, 1)), (142, (false, 1)), (143, (false, 1)), (144, (false, 1)), (145, (false, 1)), (146, (false, 1)), (147, (false, 1)), (148, (true, 3)), 
  (149, (false, 1)), (150, (false, 1)), (151, (false, 1)), (152, (false, 1)), (153, (false, 1)), (154, (false, 1)), (155, (false, 1)), (156, (true, 0)), (157, (true, 6)), 
  (158, (true, 6)), (160, (false, 1)), (162, (false, 1)), (163, (false, 1)), (165, (false, 1)), (166, (false, 1)), (168, (false, 1)), (170, (false, 1)), (172, (false, 1)), 
  (173, (false, 1)), (175, (false, 1)), (177, (false, 1)), (178, (false, 1)), (179, (false, 1)), (180, (false, 1)), (181, (false, 1)), (182, (false, 1)), (183, (false, 1)), 
  (184, (false, 1)), (185, (true, 2)), (186, (false, 1)), (187, (false, 1)), (188, (false, 1)), (189, (false, 1)), (191, (false, 1)), (192, (false, 1)), (193, (false, 1)), 
  (194, (false, 1)), (195, (false, 1)), (196, (false, 1)), (197, (false, 1)), (198, (false, 1)), (199, (false, 1)), (200, (false, 1)), (201, (false, 1)), (202, (false, 1)), 
  (204, (false, 1)), (205, (false, 1)), (206, (false, 1)), (207, (true, 10)), (208, (true, 10)), (209, (false, 1)), (210, (false, 1)), (211, (false, 1)), (212, (false, 1)), 
  (213, (false, 1)), (214, (false, 1)), (215, (false, 1)), (216, (false, 1)), (217, (false, 1)), (218, (false, 1)), (219, (false, 1)), (220, (false, 1)), (221, (false, 1)), 
  (222, (false, 1)), (223, (false, 1)), (224, (false, 1)), (225, (false, 1)), (226, (false, 1)), (227, (false, 1)), (228, (false, 1)), (229, (false, 1)), (230, (false, 1)), 
  (231, (false, 1)), (232, (false, 1)), (233, (false, 1)), (234, (false, 1)), (235, (false, 1)), (236, (false, 1)), (237, (false, 1)), (238, (false, 1)), (239, (false, 1)), 
  (240, (false, 1)), (241, (false, 1)), (242, (false, 1)), (243, (false, 1)), (244, (false, 1)), (245, (false, 1)), (246, (false, 1)), (248, (false, 1)), (249, (false, 1)), 
  (250, (false, 1)), (251, (false, 1)), (252, (false, 1)), (253, (false, 1)), (254, (false, 1)), (255, (false, 1)), (256, (false, 1)), (257, (false, 1)), (258, (false, 1)), 
  (259, (false, 1)), (260, (false, 1)), (261, (false, 1)), (263, (false, 1)), (264, (false, 1)), (265, (false, 1)), (266, (true, 4)), (267, (true, 4)), (268, (true, 0)), 
  (269, (true, 0)), (270, (true, 0)), (271, (false, 1)), (272, (false, 1)), (273, (false, 1)), (274, (false, 1)), (275, (false, 1)), (276, (false, 1)), (277, (true, 11)), 
  (278, (true, 11)), (279, (false, 1))]
def slL : List (Nat × Nat) := [(22, 70), (28, 49), (30, 89), (36, 45), (37, 50), (50, 114), (64, 148), (72, 137), (79, 120), (95, 29), (96, 118), (154, 158), (250, 3), (253, 9)]
def stL : List (Nat × Unit) := [(9, ()), (10, ()), (11, ())]
def foL : List ((Nat × Nat) × Nat) := [((7, 0), 0), ((7, 1), 1), ((7, 2), 2), ((7, 3), 3), ((8, 0), 0), ((8, 1), 1), ((8, 2), 2), ((8, 3), 3), ((13, 0), 0), ((13, 1), 1), ((14, 0), 0), ((14, 1), 1), ((18, 0), 0), 
  ((19, 0), 0), ((23, 0), 0), ((24, 0), 0), ((31, 0), 0), ((31, 1), 1), ((32, 0), 0), ((32, 1), 1), ((33, 0), 0), ((33, 1), 1), ((34, 0), 0), ((34, 1), 1), ((40, 0), 0), ((40, 1), 1), 
  ((41, 0), 0), ((41, 1), 1), ((42, 0), 0), ((43, 0), 0), ((44, 0), 0), ((44, 1), 2), ((45, 0), 0), ((45, 1), 2), ((65, 0), 0), ((66, 0), 0), ((67, 0), 0), ((68, 0), 0), ((69, 0), 0), 
  ((69, 1), 1), ((69, 2), 2), ((69, 3), 3), ((69, 4), 4), ((70, 0), 0), ((70, 1), 1), ((70, 2), 2), ((70, 3), 3), ((70, 4), 4), ((73, 0), 0), ((73, 1), 1), ((74, 0), 0), ((74, 1), 1), 
  ((88, 0), 0), ((88, 1), 1), ((89, 0), 0), ((89, 1), 1), ((93, 0), 0), ((93, 1), 1), ((93, 2), 2), ((94, 0), 0), ((94, 1), 1), ((94, 2), 2), ((108, 0), 0), ((108, 1), 1), 
  ((109, 0), 0), ((109, 1), 1), ((110, 0), 0), ((110, 1), 2), ((111, 0), 0), ((111, 1), 2), ((112, 0), 0), ((112, 1), 2), ((113, 0), 0), ((113, 1), 3), ((114, 0), 0), ((114, 1), 3), 
  ((117, 0), 0), ((117, 1), 6), ((118, 0), 0), ((118, 1), 6), ((119, 0), 0), ((119, 1), 6), ((120, 0), 0), ((120, 1), 6), ((136, 0), 0), ((136, 1), 1), ((137, 0), 0), ((137, 1), 1), 
  ((157, 0), 0), ((158, 0), 0), ((207, 0), 0), ((207, 1), 6), ((207, 2), 7), ((207, 3), 8), ((207, 4), 9), ((208, 0), 0), ((208, 1), 6), ((208, 2), 7), ((208, 3), 8), ((208, 4), 9), 
  ((266, 0), 0), ((266, 1), 1), ((266, 2), 2), ((266, 3), 3), ((267, 0), 0), ((267, 1), 1), ((267, 2), 2), ((267, 3), 3), ((277, 0), 0), ((277, 1), 1), ((277, 2), 2), ((277, 3), 3), 
  ((277, 4), 4), ((277, 5), 5), ((277, 6), 6), ((277, 7), 7), ((277, 8), 8), ((277, 9), 9), ((277, 10), 10), ((278, 0), 0), ((278, 1), 1), ((278, 2), 2), ((278, 3), 3), ((278, 4), 4), 
  ((278, 5), 5), ((278, 6), 6), ((278, 7), 7), ((278, 8), 8), ((278, 9), 9), ((278, 10), 10)]
def zrL : List (Nat × Value) := [(1, .nilFunc), (2, .int .i64 0), (3, .int .i64 0), (4, .bool false), (5, .int .u8 0), (6, .int .u8 0), (7, .agg #[.int .i64 0, .int .i64 0, .bool false, .int .u8 0]), 
  (8, .agg #[.int .i64 0, .int .i64 0, .bool false, .int .u8 0]), (9, .string ⟨#[]⟩), (10, .string ⟨#[]⟩), (11, .string ⟨#[]⟩), (12, .int .u64 0), 
  (13, .agg #[.string ⟨#[]⟩, .int .u64 0]), (14, .agg #[.string ⟨#[]⟩, .int .u64 0]), (15, .pointer none), (16, .pointer none), (17, .pointer none), (18, .agg #[.pointer none]), 
  (19, .agg #[.pointer none]), (20, .nilIface), (21, .int .i32 0), (22, .slice none 0 0), (23, .agg #[.slice none 0 0]), (24, .agg #[.slice none 0 0]), (25, .pointer none), 
  (26, .nilFunc), (27, .nilFunc), (28, .slice none 0 0), (29, .pointer none), (30, .slice none 0 0), (31, .agg #[.slice none 0 0, .slice none 0 0]), 
  (32, .agg #[.slice none 0 0, .slice none 0 0]), (33, .agg #[.pointer none, .slice none 0 0, .slice none 0 0]), (34, .agg #[.pointer none, .slice none 0 0, .slice none 0 0]), 
  (35, .nilFunc), (36, .slice none 0 0), (37, .slice none 0 0), (38, .nilFunc), (39, .pointer none), (40, .agg #[.nilFunc, .pointer none]), (41, .agg #[.nilFunc, .pointer none]), 
  (42, .agg #[.nilFunc, .pointer none]), (43, .agg #[.nilFunc, .pointer none]), (44, .agg #[.nilFunc, .pointer none, .nilFunc, .pointer none]), 
  (45, .agg #[.nilFunc, .pointer none, .nilFunc, .pointer none]), (46, .int .i64 0), (48, .nilFunc), (49, .int .u64 0), (50, .slice none 0 0), (51, .nilFunc), (52, .nilFunc), 
  (53, .nilFunc), (54, .nilFunc), (55, .nilFunc), (56, .nilFunc), (58, .nilFunc), (59, .nilFunc), (61, .nilFunc), (62, .nilFunc), (63, .nilFunc), (64, .slice none 0 0), 
  (65, .agg #[.slice none 0 0]), (66, .agg #[.slice none 0 0]), (67, .agg #[.slice none 0 0]), (68, .agg #[.slice none 0 0]), 
  (69, .agg #[.int .u8 0, .slice none 0 0, .slice none 0 0, .int .u8 0, .int .i64 0]), (70, .agg #[.int .u8 0, .slice none 0 0, .slice none 0 0, .int .u8 0, .int .i64 0]), 
  (71, .nilFunc), (72, .slice none 0 0), (73, .agg #[.slice none 0 0, .int .i64 0]), (74, .agg #[.slice none 0 0, .int .i64 0]), (75, .nilFunc), (76, .nilFunc), (78, .nilFunc), 
  (79, .slice none 0 0), (81, .nilFunc), (82, .nilFunc), (83, .nilFunc), (84, .nilFunc), (85, .nilFunc), (86, .nilFunc), (87, .nilFunc), (88, .agg #[.bool false, .slice none 0 0]), 
  (89, .agg #[.bool false, .slice none 0 0]), (90, .nilFunc), (91, .nilFunc), (92, .map none), (93, .agg #[.int .u64 0, .map none, .slice none 0 0, .int .i64 0]), 
  (94, .agg #[.int .u64 0, .map none, .slice none 0 0, .int .i64 0]), (95, .slice none 0 0), (96, .slice none 0 0), (97, .nilFunc), (98, .nilFunc), (99, .nilFunc), (100, .nilFunc), 
  (102, .nilFunc), (103, .nilFunc), (104, .nilFunc), (105, .nilFunc), (107, .nilFunc), (108, .agg #[.string ⟨#[]⟩, .string ⟨#[]⟩]), (109, .agg #[.string ⟨#[]⟩, .string ⟨#[]⟩]), 
  (110, .agg #[.string ⟨#[]⟩, .string ⟨#[]⟩, .string ⟨#[]⟩]), (111, .agg #[.string ⟨#[]⟩, .string ⟨#[]⟩, .string ⟨#[]⟩]), (112, .agg #[.string ⟨#[]⟩, .string ⟨#[]⟩, .string ⟨#[]⟩]), 
  (113, .agg #[.string ⟨#[]⟩, .string ⟨#[]⟩, .string ⟨#[]⟩, .string ⟨#[]⟩, .string ⟨#[]⟩, .string ⟨#[]⟩]), 
  (114, .agg #[.string ⟨#[]⟩, .string ⟨#[]⟩, .string ⟨#[]⟩, .string ⟨#[]⟩, .string ⟨#[]⟩, .string ⟨#[]⟩]), (116, .nilFunc), 
  (117, .agg #[.string ⟨#[]⟩, .string ⟨#[]⟩, .string ⟨#[]⟩, .string ⟨#[]⟩, .string ⟨#[]⟩, .string ⟨#[]⟩, .bool false]), 
  (118, .agg #[.string ⟨#[]⟩, .string ⟨#[]⟩, .string ⟨#[]⟩, .string ⟨#[]⟩, .string ⟨#[]⟩, .string ⟨#[]⟩, .bool false]), 
  (119, .agg #[.string ⟨#[]⟩, .string ⟨#[]⟩, .string ⟨#[]⟩, .string ⟨#[]⟩, .string ⟨#[]⟩, .string ⟨#[]⟩, .bool false]), 
  (120, .agg #[.string ⟨#[]⟩, .string ⟨#[]⟩, .string ⟨#[]⟩, .string ⟨#[]⟩, .string ⟨#[]⟩, .string ⟨#[]⟩, .bool false]), (121, .nilFunc), (123, .nilFunc), (124, .nilFunc), 
  (125, .nilFunc), (126, .nilFunc), (127, .nilFunc), (129, .nilFunc), (131, .nilFunc), (133, .nilFunc), (134, .nilFunc), (135, .nilFunc), (136, .agg #[.int .u64 0, .int .i64 0]), 
  (137, .agg #[.int .u64 0, .int .i64 0]), (138, .nilFunc), (139, .nilFunc), (140, .nilFunc), (141, .nilFunc), (142, .nilFunc), (143, .nilFunc), (144, .nilFunc), (145, .nilFunc), 
  (146, .nilFunc), (147, .nilFunc), (148, .agg #[.int .u8 0, .int .u8 0, .int .u8 0]), (149, .nilFunc), (150, .nilFunc), (151, .nilFunc), (152, .nilFunc), (153, .int .u64 0), 
  (154, .slice none 0 0), (155, .nilFunc), (156, .agg #[]), (157, .agg #[.string ⟨#[]⟩, .string ⟨#[]⟩, .string ⟨#[]⟩, .string ⟨#[]⟩, .string ⟨#[]⟩, .string ⟨#[]⟩]), 
  (158, .agg #[.string ⟨#[]⟩, .string ⟨#[]⟩, .string ⟨#[]⟩, .string ⟨#[]⟩, .string ⟨#[]⟩, .string ⟨#[]⟩]), (160, .nilFunc), (162, .nilFunc), (163, .nilFunc), (165, .nilFunc), 
  (166, .nilFunc), (168, .nilFunc), (170, .nilFunc), (172, .nilFunc), (173, .nilFunc), (175, .nilFunc), (177, .nilFunc), (178, .nilFunc), (179, .nilFunc), (180, .nilFunc), 
  (181, .nilFunc), (182, .nilFunc), (183, .nilFunc), (184, .nilFunc), (185, .agg #[.int .u8 0, .int .u8 0]), (186, .nilFunc), (187, .nilFunc), (188, .nilFunc), (189, .int .i64 0), 
  (191, .nilFunc), (192, .nilFunc), (193, .nilFunc), (194, .nilFunc), (195, .nilFunc), (196, .nilFunc), (197, .int .u32 0), (198, .nilFunc), (199, .nilFunc), (200, .nilFunc), 
  (201, .nilFunc), (202, .nilFunc), (204, .nilFunc), (205, .nilFunc), (206, .nilFunc), 
  (207, .agg #[.string ⟨#[]⟩, .string ⟨#[]⟩, .string ⟨#[]⟩, .string ⟨#[]⟩, .string ⟨#[]⟩, .string ⟨#[]⟩, .pointer none, .pointer none, .int .i64 0, .int .i64 0]), 
  (208, .agg #[.string ⟨#[]⟩, .string ⟨#[]⟩, .string ⟨#[]⟩, .string ⟨#[]⟩, .string ⟨#[]⟩, .string ⟨#[]⟩, .pointer none, .pointer none, .int .i64 0, .int .i64 0]), (209, .nilFunc), 
  (210, .nilFunc), (211, .nilFunc), (212, .nilFunc), (213, .nilFunc), (214, .nilFunc), (215, .nilFunc), (216, .nilFunc), (217, .nilFunc), (218, .nilFunc), (219, .nilFunc), 
  (220, .nilFunc), (221, .nilFunc), (222, .nilFunc), (223, .nilFunc), (224, .nilFunc), (225, .nilFunc), (226, .nilFunc), (227, .nilFunc), (228, .nilFunc), (229, .nilFunc), 
  (230, .nilFunc), (231, .nilFunc), (232, .nilFunc), (233, .int .u64 0), (234, .nilFunc), (235, .nilFunc), (236, .pointer none), (237, .nilFunc), (238, .nilFunc), (239, .nilFunc), 
  (240, .nilFunc), (241, .nilFunc), (242, .nilFunc), (243, .nilFunc), (244, .nilFunc), (245, .nilFunc), (246, .nilFunc), (248, .nilFunc), (249, .nilFunc), (250, .slice none 0 0), 
  (251, .nilFunc), (252, .nilFunc), (253, .slice none 0 0), (254, .pointer none), (255, .nilFunc), (256, .nilFunc), (257, .nilFunc), (258, .nilFunc), (259, .nilFunc), (260, .nilFunc), 
  (261, .nilFunc), (263, .nilFunc), (264, .nilFunc), (265, .nilFunc), (266, .agg #[.pointer none, .pointer none, .pointer none, .string ⟨#[]⟩]), 
  (267, .agg #[.pointer none, .pointer none, .pointer none, .string ⟨#[]⟩]), (268, .agg #[]), (269, .agg #[]), (270, .agg #[]), (271, .int .u8 0), (272, .int .u8 0), (273, .nilFunc), 
  (274, .pointer none), (275, .int .i32 0), (276, .int .i32 0), 
  (277, .agg #[.int .u64 0, .int .u64 0, .int .u32 0, .int .u8 0, .int .u8 0, .int .u8 0, .int .u8 0, .nilFunc, .pointer none, .int .i32 0, .int .i32 0]), 
  (278, .agg #[.int .u64 0, .int .u64 0, .int .u32 0, .int .u8 0, .int .u8 0, .int .u8 0, .int .u8 0, .nilFunc, .pointer none, .int .i32 0, .int .i32 0])]
def fnL : List (Nat × Unit) := [(3, ()), (4, ()), (5, ()), (6, ()), (7, ()), (8, ()), (9, ()), (10, ()), (11, ()), (12, ()), (13, ()), (14, ()), (15, ()), (16, ()), (17, ()), (18, ()), (19, ()), (20, ()), 
  (21, ()), (22, ()), (23, ()), (24, ()), (25, ()), (26, ()), (27, ()), (28, ()), (29, ()), (30, ()), (31, ()), (32, ()), (33, ()), (34, ()), (35, ()), (36, ()), (37, ()), (38, ()), 
  (39, ()), (40, ()), (41, ()), (42, ()), (43, ()), (44, ()), (45, ()), (46, ()), (47, ()), (48, ()), (49, ()), (50, ()), (51, ()), (52, ()), (53, ()), (54, ()), (55, ()), (56, ()), 
  (57, ()), (58, ()), (59, ()), (60, ()), (61, ()), (62, ()), (63, ()), (64, ()), (65, ()), (66, ()), (67, ()), (68, ()), (69, ()), (70, ()), (71, ()), (72, ()), (73, ()), (74, ()), 
  (75, ()), (76, ()), (77, ()), (78, ()), (79, ()), (80, ()), (81, ()), (82, ()), (83, ()), (84, ()), (85, ()), (86, ()), (87, ()), (88, ()), (89, ()), (90, ()), (91, ()), (92, ()), 
  (93, ()), (94, ()), (95, ()), (96, ()), (97, ()), (98, ()), (99, ()), (100, ()), (101, ()), (102, ()), (103, ()), (104, ()), (105, ()), (106, ()), (107, ()), (108, ()), (109, ()), 
  (110, ()), (111, ()), (112, ()), (113, ()), (114, ()), (115, ()), (116, ()), (117, ()), (118, ()), (119, ()), (120, ()), (121, ()), (122, ()), (123, ()), (124, ()), (125, ()), 
  (126, ()), (127, ()), (128, ()), (129, ()), (130, ()), (131, ()), (132, ()), (133, ()), (134, ()), (135, ()), (136, ()), (137, ()), (138, ()), (139, ()), (140, ()), (141, ()), 
  (142, ()), (143, ()), (144, ()), (145, ()), (146, ()), (147, ()), (148, ()), (149, ()), (150, ()), (151, ()), (152, ()), (153, ()), (154, ()), (156, ()), (157, ()), (158, ()), 
  (159, ()), (160, ()), (161, ()), (162, ()), (163, ()), (164, ()), (165, ()), (166, ()), (167, ()), (168, ()), (169, ()), (170, ()), (171, ()), (172, ()), (173, ()), (174, ()), 
  (175, ()), (176, ()), (177, ()), (178, ()), (180, ()), (181, ()), (182, ()), (183, ()), (184, ()), (186, ())]
theorem z2m : ldL.all (fun p => ldI Tryz.prog p.1 == some p.2) = true := by kernel_rfl
theorem z1q : slL.all (fun p => slI Tryz.prog p.1 == some p.2) = true := by kernel_rfl
theorem z1o : stL.all (fun p => stI Tryz.prog p.1 == some p.2) = true := by kernel_rfl
theorem z2w : foL.all (fun p => foI Tryz.prog p.1 == some p.2) = true := by kernel_rfl
theorem z1i : zrL.map (fun p => zrI Tryz.prog p.1) = zrL.map (fun p => some p.2) := by kernel_rfl
theorem z2x : fnL.all (fun p => match Tryz.prog.funcs[p.1]? with | some fn => fn.body.isSome && fn.name != "runtime.NumGoroutine" | none => false) = true := by kernel_rfl
def L : Tabs Tryz.prog := ⟨ldL, slL, stL, foL, zrL, fnL, z2m, z1q, z1o, z2w, z1i, z2x⟩
theorem z0n : elI Tryz.prog 49 = some (1, 8) := by kernel_rfl
theorem z4r : elI Tryz.prog 89 = some (2, 32) := by kernel_rfl
theorem zms : elI Tryz.prog 114 = some (6, 96) := by kernel_rfl
theorem z4s : elI Tryz.prog 118 = some (7, 104) := by kernel_rfl
theorem zss : elI Tryz.prog 120 = some (7, 104) := by kernel_rfl
theorem zir : elI Tryz.prog 137 = some (2, 16) := by kernel_rfl
theorem z23 : elI Tryz.prog 158 = some (6, 104) := by kernel_rfl
theorem z1z : PL Tryz.prog 32 [(0, 1), (1, 1)] [.slice none 0 0, .slice none 0 0] := ⟨by kernel_rfl, .agg #[.slice none 0 0, .slice none 0 0], by kernel_rfl, rfl⟩
theorem z5p : PL Tryz.prog 34 [(0, 1), (1, 2)] [.pointer none, .slice none 0 0, .slice none 0 0] := ⟨by kernel_rfl, .agg #[.pointer none, .slice none 0 0, .slice none 0 0], by kernel_rfl, rfl⟩
theorem z5o : PL Tryz.prog 41 [(0, 1), (1, 1)] [.nilFunc, .pointer none] := ⟨by kernel_rfl, .agg #[.nilFunc, .pointer none], by kernel_rfl, rfl⟩
theorem z3w : PL Tryz.prog 43 [(0, 2)] [.nilFunc, .pointer none] := ⟨by kernel_rfl, .agg #[.nilFunc, .pointer none], by kernel_rfl, rfl⟩
theorem zrz : PL Tryz.prog 45 [(0, 2), (2, 2)] [.nilFunc, .pointer none, .nilFunc, .pointer none] := ⟨by kernel_rfl, .agg #[.nilFunc, .pointer none, .nilFunc, .pointer none], by kernel_rfl, rfl⟩
theorem z1y : PL Tryz.prog 74 [(0, 1), (1, 1)] [.slice none 0 0, .int .i64 0] := ⟨by kernel_rfl, .agg #[.slice none 0 0, .int .i64 0], by kernel_rfl, rfl⟩
theorem z37 : PL Tryz.prog 89 [(0, 1), (1, 1)] [.bool false, .slice none 0 0] := ⟨by kernel_rfl, .agg #[.bool false, .slice none 0 0], by kernel_rfl, rfl⟩
theorem z5n : PL Tryz.prog 94 [(0, 1), (1, 1), (2, 2)] [.int .u64 0, .map none, .slice none 0 0, .int .i64 0] := ⟨by kernel_rfl, .agg #[.int .u64 0, .map none, .slice none 0 0, .int .i64 0], by kernel_rfl, rfl⟩
theorem zpc : PL Tryz.prog 109 [(0, 1), (1, 1)] [.string ⟨#[]⟩, .string ⟨#[]⟩] := ⟨by kernel_rfl, .agg #[.string ⟨#[]⟩, .string ⟨#[]⟩], by kernel_rfl, rfl⟩
theorem z16 : PL Tryz.prog 111 [(0, 2), (2, 1)] [.string ⟨#[]⟩, .string ⟨#[]⟩, .string ⟨#[]⟩] := ⟨by kernel_rfl, .agg #[.string ⟨#[]⟩, .string ⟨#[]⟩, .string ⟨#[]⟩], by kernel_rfl, rfl⟩
theorem z15 : PL Tryz.prog 112 [(0, 2), (2, 1)] [.string ⟨#[]⟩, .string ⟨#[]⟩, .string ⟨#[]⟩] := ⟨by kernel_rfl, .agg #[.string ⟨#[]⟩, .string ⟨#[]⟩, .string ⟨#[]⟩], by kernel_rfl, rfl⟩
theorem zfd : PL Tryz.prog 114 [(0, 3), (3, 3)] [.string ⟨#[]⟩, .string ⟨#[]⟩, .string ⟨#[]⟩, .string ⟨#[]⟩, .string ⟨#[]⟩, .string ⟨#[]⟩] := ⟨by kernel_rfl, .agg #[.string ⟨#[]⟩, .string ⟨#[]⟩, .string ⟨#[]⟩, .string ⟨#[]⟩, .string ⟨#[]⟩, .string ⟨#[]⟩], by kernel_rfl, rfl⟩
theorem z14 : PL Tryz.prog 118 [(0, 6), (6, 1)] [.string ⟨#[]⟩, .string ⟨#[]⟩, .string ⟨#[]⟩, .string ⟨#[]⟩, .string ⟨#[]⟩, .string ⟨#[]⟩, .bool false] := ⟨by kernel_rfl, .agg #[.string ⟨#[]⟩, .string ⟨#[]⟩, .string ⟨#[]⟩, .string ⟨#[]⟩, .string ⟨#[]⟩, .string ⟨#[]⟩, .bool false], by kernel_rfl, rfl⟩
theorem zma : PL Tryz.prog 120 [(0, 6), (6, 1)] [.string ⟨#[]⟩, .string ⟨#[]⟩, .string ⟨#[]⟩, .string ⟨#[]⟩, .string ⟨#[]⟩, .string ⟨#[]⟩, .bool false] := ⟨by kernel_rfl, .agg #[.string ⟨#[]⟩, .string ⟨#[]⟩, .string ⟨#[]⟩, .string ⟨#[]⟩, .string ⟨#[]⟩, .string ⟨#[]⟩, .bool false], by kernel_rfl, rfl⟩
theorem z39 : PL Tryz.prog 137 [(0, 1), (1, 1)] [.int .u64 0, .int .i64 0] := ⟨by kernel_rfl, .agg #[.int .u64 0, .int .i64 0], by kernel_rfl, rfl⟩
theorem z13 : PL Tryz.prog 156 [] [] := ⟨by kernel_rfl, .agg #[], by kernel_rfl, rfl⟩
theorem z11 : PL Tryz.prog 158 [(0, 6), (6, 0)] [.string ⟨#[]⟩, .string ⟨#[]⟩, .string ⟨#[]⟩, .string ⟨#[]⟩, .string ⟨#[]⟩, .string ⟨#[]⟩] := ⟨by kernel_rfl, .agg #[.string ⟨#[]⟩, .string ⟨#[]⟩, .string ⟨#[]⟩, .string ⟨#[]⟩, .string ⟨#[]⟩, .string ⟨#[]⟩], by kernel_rfl, rfl⟩
theorem z10 : PL Tryz.prog 185 [(0, 1), (1, 1)] [.int .u8 0, .int .u8 0] := ⟨by kernel_rfl, .agg #[.int .u8 0, .int .u8 0], by kernel_rfl, rfl⟩
theorem z38 : PL Tryz.prog 208 [(0, 6), (6, 1), (7, 1), (8, 1), (9, 1)] [.string ⟨#[]⟩, .string ⟨#[]⟩, .string ⟨#[]⟩, .string ⟨#[]⟩, .string ⟨#[]⟩, .string ⟨#[]⟩, .pointer none, .pointer none, .int .i64 0, .int .i64 0] := ⟨by kernel_rfl, .agg #[.string ⟨#[]⟩, .string ⟨#[]⟩, .string ⟨#[]⟩, .string ⟨#[]⟩, .string ⟨#[]⟩, .string ⟨#[]⟩, .pointer none, .pointer none, .int .i64 0, .int .i64 0], by kernel_rfl, rfl⟩
theorem bt4 : Tryz.prog.underlying 4 = some .bool := by kernel_rfl
theorem z5r : nkI Tryz.prog 29 = some 0 := by kernel_rfl
theorem z5q : nkI Tryz.prog 38 = some 3 := by kernel_rfl
theorem z4c : nkI Tryz.prog 39 = some 0 := by kernel_rfl
theorem z5b : nkI Tryz.prog 72 = some 1 := by kernel_rfl
theorem z5a : nkI Tryz.prog 79 = some 1 := by kernel_rfl
theorem z4q : EqT Tryz.prog 109 [0, 0] := ⟨by kernel_rfl, by kernel_rfl, by kernel_rfl⟩
theorem z22 : EqT Tryz.prog 111 [0, 0, 0] := ⟨by kernel_rfl, by kernel_rfl, by kernel_rfl⟩
theorem zxq : EqT Tryz.prog 114 [0, 0, 0, 0, 0, 0] := ⟨by kernel_rfl, by kernel_rfl, by kernel_rfl⟩
theorem z21 : EqT Tryz.prog 120 [0, 0, 0, 0, 0, 0, 2] := ⟨by kernel_rfl, by kernel_rfl, by kernel_rfl⟩
theorem zb8 : (Tryz.prog.underlying 3).isSome = true ∧ ikI Tryz.prog 49 = some .u64 := ⟨by kernel_rfl, by kernel_rfl⟩
theorem zbl : (Tryz.prog.underlying 3).isSome = true ∧ ikI Tryz.prog 153 = some .u64 := ⟨by kernel_rfl, by kernel_rfl⟩
theorem zvq : (Tryz.prog.underlying 3).isSome = true ∧ ikI Tryz.prog 233 = some .u64 := ⟨by kernel_rfl, by kernel_rfl⟩
theorem zxt : (Tryz.prog.underlying 5).isSome = true ∧ ikI Tryz.prog 3 = some .i64 := ⟨by kernel_rfl, by kernel_rfl⟩
theorem zy4 : (Tryz.prog.underlying 5).isSome = true ∧ ikI Tryz.prog 49 = some .u64 := ⟨by kernel_rfl, by kernel_rfl⟩
theorem zbm : (Tryz.prog.underlying 153).isSome = true ∧ ikI Tryz.prog 3 = some .i64 := ⟨by kernel_rfl, by kernel_rfl⟩
theorem zs1 : arI Tryz.prog 148 = some (3, 5) := by kernel_rfl
theorem z3f : arI Tryz.prog 185 = some (2, 5) := by kernel_rfl
end Go.V
set_option maxRecDepth 20000
namespace Go.V
open Go.Proofs Go.RowKit
structure _root_.Go.V.Wr (B : Prop) : Prop where
 h : B
theorem _root_.Go.V.Z1 {A B : Prop} (h : B) (t : Wr B → A := by intro h; refine z7 (zd rfl rfl rfl) rfl ?_; exact h.h) : A := t ⟨h⟩
theorem _root_.Go.V.Z2 {A B : Prop} (h : B) (t : Wr B → A := by intro h; refine z7 (zg rfl rfl rfl) rfl ?_; exact h.h) : A := t ⟨h⟩
theorem _root_.Go.V.Z5 {A B : Prop} (h : B) (t : Wr B → A := by intro h; refine z7 (zn rfl (zk rfl) rfl) rfl ?_; exact h.h) : A := t ⟨h⟩
theorem _root_.Go.V.Z7 {A B : Prop} (h : B) (t : Wr B → A := by intro h; refine z7 (qe rfl rfl rfl rfl) rfl ?_; exact h.h) : A := t ⟨h⟩
theorem _root_.Go.V.Z8 {A B : Prop} (h : B) (t : Wr B → A := by intro h; refine z7 (qq rfl rfl rfl rfl (decide_eq_true (by omega))) rfl ?_; exact h.h) : A := t ⟨h⟩
theorem _root_.Go.V.Z9 {A B : Prop} (h : B) (t : Wr B → A := by intro h; refine zo rfl ?_; exact h.h) : A := t ⟨h⟩
theorem _root_.Go.V.Z11 {A B : Prop} (h : B) (t : Wr B → A := by intro h; refine z7 (qq rfl rfl rfl rfl (decide_eq_false (by omega))) rfl ?_; exact h.h) : A := t ⟨h⟩
theorem _root_.Go.V.Z12 {A B : Prop} (h : B) (t : Wr B → A := by intro h; refine qf rfl ?_; exact h.h) : A := t ⟨h⟩
theorem _root_.Go.V.Z15 {A B : Prop} (h : B) (t : Wr B → A := by intro h; refine zf (id := 0) ?_; exact h.h) : A := t ⟨h⟩
theorem _root_.Go.V.Z19 {A B : Prop} (h : B) (t : Wr B → A := by intro h; refine zf (id := 1) ?_; exact h.h) : A := t ⟨h⟩
theorem _root_.Go.V.Z21 {A B : Prop} (h : B) (t : Wr B → A := by intro h; refine z7 (y7 rfl rfl rfl rfl (zaa (by omega) (by omega))) rfl ?_; exact h.h) : A := t ⟨h⟩
theorem _root_.Go.V.Z27 {A B : Prop} (h : B) (t : Wr B → A := by intro h; refine zf (id := 4) ?_; exact h.h) : A := t ⟨h⟩
theorem _root_.Go.V.Z28 {A B : Prop} (h : B) (t : Wr B → A := by intro h; refine zf (id := 3) ?_; exact h.h) : A := t ⟨h⟩
theorem _root_.Go.V.Z29 {A B : Prop} (h : B) (t : Wr B → A := by intro h; refine zf (id := 2) ?_; exact h.h) : A := t ⟨h⟩
theorem _root_.Go.V.Z32 {A B : Prop} (h : B) (t : Wr B → A := by intro h; refine z7 (yr rfl rfl rfl rfl (decide_eq_false (by omega))) rfl ?_; exact h.h) : A := t ⟨h⟩
theorem _root_.Go.V.Z37 {A B : Prop} (h : B) (t : Wr B → A := by intro h; refine zf (id := 5) ?_; exact h.h) : A := t ⟨h⟩
theorem _root_.Go.V.Z38 {A B : Prop} (h : B) (t : Wr B → A := by intro h; refine z7 (yr rfl rfl rfl rfl (decide_eq_true (by omega))) rfl ?_; exact h.h) : A := t ⟨h⟩
theorem _root_.Go.V.Z40 {A B : Prop} (h : B) (t : Wr B → A := by intro h; refine zf (id := 7) ?_; exact h.h) : A := t ⟨h⟩
theorem _root_.Go.V.Z43 {A B : Prop} (h : B) (t : Wr B → A := by intro h; refine zf (id := 6) ?_; exact h.h) : A := t ⟨h⟩
theorem _root_.Go.V.Z50 {A B : Prop} (h : B) (t : Wr B → A := by intro h; refine z7 (zz7 L rfl rfl rfl rfl) rfl ?_; exact h.h) : A := t ⟨h⟩
theorem _root_.Go.V.Z54 {A B : Prop} (h : B) (t : Wr B → A := by intro h; refine z7 (zny L rfl rfl rfl rfl rfl (by assumption)) rfl ?_; exact h.h) : A := t ⟨h⟩
theorem _root_.Go.V.Z56 {A B : Prop} (h : B) (t : Wr B → A := by intro h; refine zf (id := 8) ?_; exact h.h) : A := t ⟨h⟩
theorem _root_.Go.V.Z60 {A B : Prop} (h : B) (t : Wr B → A := by intro h; refine zf (id := 9) ?_; exact h.h) : A := t ⟨h⟩
theorem _root_.Go.V.Z135 {A B : Prop} (h : B) (t : Wr B → A := by intro h; refine zi ?_; refine zj ?_; exact h.h) : A := t ⟨h⟩
theorem _root_.Go.V.Z136 {A B : Prop} (h : B) (t : Wr B → A := by intro h; refine Z2 ?_; refine Z135 ?_; exact h.h) : A := t ⟨h⟩
theorem _root_.Go.V.Z137 {A B : Prop} (h : B) (t : Wr B → A := by intro h; refine zh ?_; refine zh ?_; exact h.h) : A := t ⟨h⟩
theorem _root_.Go.V.Z138 {A B : Prop} (h : B) (t : Wr B → A := by intro h; refine Z1 ?_; refine Z1 ?_; exact h.h) : A := t ⟨h⟩
theorem _root_.Go.V.Z139 {A B : Prop} (h : B) (t : Wr B → A := by intro h; refine Z135 ?_; refine Z9 ?_; exact h.h) : A := t ⟨h⟩
theorem _root_.Go.V.Z140 {A B : Prop} (h : B) (t : Wr B → A := by intro h; refine zz ?_; refine zj ?_; exact h.h) : A := t ⟨h⟩
theorem _root_.Go.V.Z141 {A B : Prop} (h : B) (t : Wr B → A := by intro h; refine Z135 ?_; refine Z12 ?_; exact h.h) : A := t ⟨h⟩
theorem _root_.Go.V.Z142 {A B : Prop} (h : B) (t : Wr B → A := by intro h; refine Z136 ?_; refine zh ?_; exact h.h) : A := t ⟨h⟩
theorem _root_.Go.V.Z144 {A B : Prop} (h : B) (t : Wr B → A := by intro h; refine zh ?_; refine Z15 ?_; exact h.h) : A := t ⟨h⟩
theorem _root_.Go.V.Z145 {A B : Prop} (h : B) (t : Wr B → A := by intro h; refine Z136 ?_; refine Z137 ?_; exact h.h) : A := t ⟨h⟩
theorem _root_.Go.V.Z146 {A B : Prop} (h : B) (t : Wr B → A := by intro h; refine Z140 ?_; refine zh ?_; exact h.h) : A := t ⟨h⟩
theorem _root_.Go.V.Z149 {A B : Prop} (h : B) (t : Wr B → A := by intro h; refine ql ?_; refine zh ?_; exact h.h) : A := t ⟨h⟩
theorem _root_.Go.V.Z151 {A B : Prop} (h : B) (t : Wr B → A := by intro h; refine Z5 ?_; refine Z5 ?_; exact h.h) : A := t ⟨h⟩
theorem _root_.Go.V.Z152 {A B : Prop} (h : B) (t : Wr B → A := by intro h; refine Z141 ?_; refine zh ?_; exact h.h) : A := t ⟨h⟩
theorem _root_.Go.V.Z154 {A B : Prop} (h : B) (t : Wr B → A := by intro h; refine Z145 ?_; refine Z19 ?_; exact h.h) : A := t ⟨h⟩
theorem _root_.Go.V.Z157 {A B : Prop} (h : B) (t : Wr B → A := by intro h; refine Z135 ?_; refine zh ?_; exact h.h) : A := t ⟨h⟩
theorem _root_.Go.V.Z159 {A B : Prop} (h : B) (t : Wr B → A := by intro h; refine Z139 ?_; refine Z140 ?_; exact h.h) : A := t ⟨h⟩
theorem _root_.Go.V.Z161 {A B : Prop} (h : B) (t : Wr B → A := by intro h; refine yc ?_; refine zj ?_; exact h.h) : A := t ⟨h⟩
theorem _root_.Go.V.Z162 {A B : Prop} (h : B) (t : Wr B → A := by intro h; refine yw ?_; refine y9 ?_; exact h.h) : A := t ⟨h⟩
theorem _root_.Go.V.Z163 {A B : Prop} (h : B) (t : Wr B → A := by intro h; refine Z162 ?_; refine y9 ?_; exact h.h) : A := t ⟨h⟩
theorem _root_.Go.V.Z164 {A B : Prop} (h : B) (t : Wr B → A := by intro h; refine Z163 ?_; refine yv ?_; exact h.h) : A := t ⟨h⟩
theorem _root_.Go.V.Z165 {A B : Prop} (h : B) (t : Wr B → A := by intro h; refine Z159 ?_; refine Z137 ?_; exact h.h) : A := t ⟨h⟩
theorem _root_.Go.V.Z166 {A B : Prop} (h : B) (t : Wr B → A := by intro h; refine Z146 ?_; refine Z149 ?_; exact h.h) : A := t ⟨h⟩
theorem _root_.Go.V.Z172 {A B : Prop} (h : B) (t : Wr B → A := by intro h; refine Z138 ?_; refine Z1 ?_; exact h.h) : A := t ⟨h⟩
theorem _root_.Go.V.Z173 {A B : Prop} (h : B) (t : Wr B → A := by intro h; refine Z28 ?_; refine Z1 ?_; exact h.h) : A := t ⟨h⟩
theorem _root_.Go.V.Z176 {A B : Prop} (h : B) (t : Wr B → A := by intro h; refine Z37 ?_; refine Z1 ?_; exact h.h) : A := t ⟨h⟩
theorem _root_.Go.V.Z179 {A B : Prop} (h : B) (t : Wr B → A := by intro h; refine Z1 ?_; refine Z151 ?_; exact h.h) : A := t ⟨h⟩
theorem _root_.Go.V.Z185 {A B : Prop} (h : B) (t : Wr B → A := by intro h; refine Z5 ?_; refine Z7 ?_; exact h.h) : A := t ⟨h⟩
theorem _root_.Go.V.Z189 {A B : Prop} (h : B) (t : Wr B → A := by intro h; refine Z154 ?_; refine Z1 ?_; exact h.h) : A := t ⟨h⟩
theorem _root_.Go.V.Z193 {A B : Prop} (h : B) (t : Wr B → A := by intro h; refine Z139 ?_; refine zz ?_; exact h.h) : A := t ⟨h⟩
theorem _root_.Go.V.Z212 {A B : Prop} (h : B) (t : Wr B → A := by intro h; refine Z151 ?_; refine Z7 ?_; exact h.h) : A := t ⟨h⟩
theorem _root_.Go.V.Z214 {A B : Prop} (h : B) (t : Wr B → A := by intro h; refine Z157 ?_; refine Z12 ?_; exact h.h) : A := t ⟨h⟩
theorem _root_.Go.V.Z215 {A B : Prop} (h : B) (t : Wr B → A := by intro h; refine Z193 ?_; refine Z161 ?_; exact h.h) : A := t ⟨h⟩
theorem _root_.Go.V.Z219 {A B : Prop} (h : B) (t : Wr B → A := by intro h; refine Z8 ?_; refine Z214 ?_; exact h.h) : A := t ⟨h⟩
theorem _root_.Go.V.Z220 {A B : Prop} (h : B) (t : Wr B → A := by intro h; refine Z219 ?_; refine Z166 ?_; exact h.h) : A := t ⟨h⟩
theorem _root_.Go.V.Z223 {A B : Prop} (h : B) (t : Wr B → A := by intro h; refine Z152 ?_; refine Z29 ?_; exact h.h) : A := t ⟨h⟩
theorem _root_.Go.V.Z254 {A B : Prop} (h : B) (t : Wr B → A := by intro h; refine Z179 ?_; refine Z185 ?_; exact h.h) : A := t ⟨h⟩
theorem _root_.Go.V.Z263 {A B : Prop} (h : B) (t : Wr B → A := by intro h; refine Z1 ?_; refine zi ?_; exact h.h) : A := t ⟨h⟩
theorem _root_.Go.V.Z274 {A B : Prop} (h : B) (t : Wr B → A := by intro h; refine Z135 ?_; refine ql ?_; exact h.h) : A := t ⟨h⟩
theorem _root_.Go.V.Z275 {A B : Prop} (h : B) (t : Wr B → A := by intro h; refine Z172 ?_; refine Z54 ?_; exact h.h) : A := t ⟨h⟩
theorem _root_.Go.V.Z280 {A B : Prop} (h : B) (t : Wr B → A := by intro h; refine Z43 ?_; refine Z138 ?_; exact h.h) : A := t ⟨h⟩
theorem _root_.Go.V.Z281 {A B : Prop} (h : B) (t : Wr B → A := by intro h; refine Z179 ?_; refine Z151 ?_; exact h.h) : A := t ⟨h⟩
theorem _root_.Go.V.Z284 {A B : Prop} (h : B) (t : Wr B → A := by intro h; refine Z144 ?_; refine Z189 ?_; exact h.h) : A := t ⟨h⟩
theorem _root_.Go.V.Z285 {A B : Prop} (h : B) (t : Wr B → A := by intro h; refine Z157 ?_; refine Z9 ?_; exact h.h) : A := t ⟨h⟩
theorem _root_.Go.V.Z286 {A B : Prop} (h : B) (t : Wr B → A := by intro h; refine Z285 ?_; refine Z164 ?_; exact h.h) : A := t ⟨h⟩
theorem _root_.Go.V.Z294 {A B : Prop} (h : B) (t : Wr B → A := by intro h; refine zh ?_; refine Z27 ?_; exact h.h) : A := t ⟨h⟩
theorem _root_.Go.V.Z296 {A B : Prop} (h : B) (t : Wr B → A := by intro h; refine Z32 ?_; refine Z7 ?_; exact h.h) : A := t ⟨h⟩
theorem _root_.Go.V.Z297 {A B : Prop} (h : B) (t : Wr B → A := by intro h; refine Z21 ?_; refine Z263 ?_; exact h.h) : A := t ⟨h⟩
theorem _root_.Go.V.Z298 {A B : Prop} (h : B) (t : Wr B → A := by intro h; refine Z11 ?_; refine Z286 ?_; exact h.h) : A := t ⟨h⟩
theorem _root_.Go.V.Z311 {A B : Prop} (h : B) (t : Wr B → A := by intro h; refine Z298 ?_; refine zj ?_; exact h.h) : A := t ⟨h⟩
theorem _root_.Go.V.Z312 {A B : Prop} (h : B) (t : Wr B → A := by intro h; refine Z1 ?_; refine Z274 ?_; exact h.h) : A := t ⟨h⟩
theorem _root_.Go.V.Z313 {A B : Prop} (h : B) (t : Wr B → A := by intro h; refine Z281 ?_; refine Z151 ?_; exact h.h) : A := t ⟨h⟩
theorem _root_.Go.V.Z321 {A B : Prop} (h : B) (t : Wr B → A := by intro h; refine Z311 ?_; refine zh ?_; exact h.h) : A := t ⟨h⟩
theorem _root_.Go.V.Z322 {A B : Prop} (h : B) (t : Wr B → A := by intro h; refine Z179 ?_; refine Z212 ?_; exact h.h) : A := t ⟨h⟩
theorem _root_.Go.V.Z323 {A B : Prop} (h : B) (t : Wr B → A := by intro h; refine Z223 ?_; refine Z136 ?_; exact h.h) : A := t ⟨h⟩
theorem _root_.Go.V.Z389 {A B : Prop} (h : B) (t : Wr B → A := by intro h; refine Z294 ?_; refine Z220 ?_; exact h.h) : A := t ⟨h⟩
theorem _root_.Go.V.Z390 {A B : Prop} (h : B) (t : Wr B → A := by intro h; refine Z40 ?_; refine Z136 ?_; exact h.h) : A := t ⟨h⟩
theorem _root_.Go.V.Z391 {A B : Prop} (h : B) (t : Wr B → A := by intro h; refine Z7 ?_; refine Z7 ?_; exact h.h) : A := t ⟨h⟩
attribute [local irreducible] V N X VO Par StepOK Has Ret RetL Src
set_option maxHeartbeats 400000 in
theorem zop (s : ByteArray) (hs : s.size ≤ 9223372036854775807) {w : World} {B : Heap} (hB : B.Le (hp w)) :
  Ret Tryz.prog 175 [.string s] w B (fun v _ => v = .int .i64 (chk s)) := by
 refine yi Tryz.func175 rfl Tryz.ntmps175 (Nat.le_of_ble_eq_true rfl) hB ?_
 by_cases h1 : 1 ≤ s.size
 ·by_cases h2 : s.size ≤ 16
  ·refine Z284 ?_; refine Z50 ?_; refine Z11 ?_; refine Z138 ?_; refine Z50 ?_; refine Z296 ?_; refine Z165 ?_; refine Z173 ?_; refine Z50 ?_; refine Z312 ?_
   refine zai (fun k : Nat => [(0, .is (.string s)), (13, .is (.int .i64 s.size)), (14, .is (.int .i64 k))])
    (fun k => k ≤ s.size ∧ (s.data.toList.take k).all okB = true) (fun k => s.size - k) 0 ⟨Nat.zero_le _, by simp⟩ ⟨rfl, rfl, rfl, trivial⟩ ?_
   rintro k ⟨hk, hall⟩
   by_cases hlt : k < s.size
   ·obtain ⟨c, hc⟩ := getElem?_lt hlt
    have hu := z1k c
    by_cases a1 : (c.toNat : Int) < 97
    ·by_cases a2 : (c.toNat : Int) < 48
     ·refine Z389 ?_; refine Z176 ?_; refine Z142 ?_; refine Z280 ?_; refine Z54 ?_; refine Z8 ?_; refine Z322 ?_; refine Z275 ?_; refine Z8 ?_; refine Z322 ?_; refine Z7 ?_; refine Z152 ?_; refine Z390 ?_
      refine yf L (rs := [.tmp 2]) rfl (fun _ _ h => h) Since.refl fun u H hH hle => ?_
      exact congrArg _ (zlm hc (z2d a1 a2)).symm
     ·by_cases a3 : 57 < (c.toNat : Int)
      ·refine Z389 ?_; refine Z176 ?_; refine Z142 ?_; refine Z280 ?_; refine Z54 ?_; refine Z8 ?_; refine Z322 ?_; refine Z275 ?_; refine Z11 ?_; refine Z275 ?_; refine Z38 ?_; refine Z391 ?_; refine Z152 ?_; refine Z390 ?_
       refine yf L (rs := [.tmp 2]) rfl (fun _ _ h => h) Since.refl fun u H hH hle => ?_
       exact congrArg _ (zlm hc (z2c a1 a3)).symm
      ·refine Z389 ?_; refine Z176 ?_; refine Z142 ?_; refine Z280 ?_; refine Z54 ?_; refine Z8 ?_; refine Z322 ?_; refine Z275 ?_; refine Z11 ?_; refine Z275 ?_; refine Z296 ?_; refine Z7 ?_; refine Z215 ?_; refine Z56 ?_; refine Z297 ?_
       refine yk (k + 1) ⟨hlt, ziv hc (z19 a2 a3) hall⟩ (by omega) ⟨rfl, rfl, rfl, trivial⟩
    ·by_cases a4 : 122 < (c.toNat : Int)
     ·have a5 : 57 < (c.toNat : Int) := by omega
      refine Z389 ?_; refine Z176 ?_; refine Z142 ?_; refine Z280 ?_; refine Z54 ?_; refine Z11 ?_; refine Z275 ?_; refine Z38 ?_; refine Z7 ?_; refine Z275 ?_; refine Z11 ?_; refine Z275 ?_; refine Z38 ?_; refine Z391 ?_; refine Z152 ?_; refine Z390 ?_
      refine yf L (rs := [.tmp 2]) rfl (fun _ _ h => h) Since.refl fun u H hH hle => ?_
      exact congrArg _ (zlm hc (z2b a4)).symm
     ·refine Z389 ?_; refine Z176 ?_; refine Z142 ?_; refine Z280 ?_; refine Z54 ?_; refine Z11 ?_; refine Z275 ?_; refine Z296 ?_; refine Z313 ?_; refine Z151 ?_; refine Z212 ?_; refine Z215 ?_; refine Z56 ?_; refine Z297 ?_
      refine yk (k + 1) ⟨hlt, ziv hc (z2a a1 a4) hall⟩ (by omega) ⟨rfl, rfl, rfl, trivial⟩
   ·refine Z294 ?_; refine Z321 ?_; refine Z60 ?_; refine Z136 ?_
    refine yf L (rs := [.tmp 2]) rfl (fun _ _ h => h) Since.refl fun u H hH hle => ?_
    exact congrArg _ (zvu h1 h2 (zrd (by omega) hall)).symm
  ·refine Z284 ?_; refine Z50 ?_; refine Z11 ?_; refine Z138 ?_; refine Z50 ?_; refine Z38 ?_; refine Z7 ?_; refine Z323 ?_
   refine yf L (rs := [.tmp 2]) rfl (fun _ _ h => h) Since.refl fun u H hH hle => ?_
   exact congrArg _ (zps (by omega)).symm
 ·refine Z284 ?_; refine Z50 ?_; refine Z8 ?_; refine Z254 ?_; refine Z323 ?_
  refine yf L (rs := [.tmp 2]) rfl (fun _ _ h => h) Since.refl fun u H hH hle => ?_
  exact congrArg _ (zps (by omega)).symm
end Go.V
set_option maxRecDepth 20000
namespace Go.V
open Go.Proofs Go.RowKit
theorem _root_.Go.V.Z4 {A B : Prop} (h : B) (t : Wr B → A := by intro h; refine z7 (zm rfl rfl rfl) rfl ?_; exact h.h) : A := t ⟨h⟩
theorem _root_.Go.V.Z10 {A B : Prop} (h : B) (t : Wr B → A := by intro h; refine z7 (y8 L rfl rfl rfl rfl) rfl ?_; exact h.h) : A := t ⟨h⟩
theorem _root_.Go.V.Z22 {A B : Prop} (h : B) (t : Wr B → A := by intro h; refine z7 (yq rfl rfl rfl rfl (decide_eq_false (by omega))) rfl ?_; exact h.h) : A := t ⟨h⟩
theorem _root_.Go.V.Z39 {A B : Prop} (h : B) (t : Wr B → A := by intro h; refine z7 (yq rfl rfl rfl rfl (decide_eq_true (by omega))) rfl ?_; exact h.h) : A := t ⟨h⟩
theorem _root_.Go.V.Z58 {A B : Prop} (h : B) (t : Wr B → A := by intro h; refine z7 (znx L rfl rfl rfl rfl rfl) rfl ?_; exact h.h) : A := t ⟨h⟩
theorem _root_.Go.V.Z148 {A B : Prop} (h : B) (t : Wr B → A := by intro h; refine Z4 ?_; refine Z10 ?_; exact h.h) : A := t ⟨h⟩
theorem _root_.Go.V.Z156 {A B : Prop} (h : B) (t : Wr B → A := by intro h; refine Z27 ?_; refine Z1 ?_; exact h.h) : A := t ⟨h⟩
theorem _root_.Go.V.Z187 {A B : Prop} (h : B) (t : Wr B → A := by intro h; refine Z43 ?_; refine Z1 ?_; exact h.h) : A := t ⟨h⟩
theorem _root_.Go.V.Z205 {A B : Prop} (h : B) (t : Wr B → A := by intro h; refine Z39 ?_; refine Z152 ?_; exact h.h) : A := t ⟨h⟩
theorem _root_.Go.V.Z276 {A B : Prop} (h : B) (t : Wr B → A := by intro h; refine Z154 ?_; refine Z148 ?_; exact h.h) : A := t ⟨h⟩
theorem _root_.Go.V.Z324 {A B : Prop} (h : B) (t : Wr B → A := by intro h; refine Z144 ?_; refine Z276 ?_; exact h.h) : A := t ⟨h⟩
theorem _root_.Go.V.Z367 {A B : Prop} (h : B) (t : Wr B → A := by intro h; refine Z56 ?_; refine Z136 ?_; exact h.h) : A := t ⟨h⟩
theorem _root_.Go.V.Z392 {A B : Prop} (h : B) (t : Wr B → A := by intro h; refine Z142 ?_; refine Z176 ?_; exact h.h) : A := t ⟨h⟩
attribute [local irreducible] V N X VO Par StepOK Has Ret RetL Src
def zcx : List ByteArray → Int
 | [] => 0
 | s :: l => if chk s = 0 then zcx l else chk s
theorem zov : ∀ (l : List ByteArray) (s : ByteArray), zcx l = 0 → zcx (l ++ [s]) = chk s
 | [], s, _ => by simp only [List.nil_append, zcx]; split <;> simp_all
 | x :: l, s, h => by
  simp only [List.cons_append, zcx] at h ⊢
  by_cases hx : chk x = 0
  ·rw [if_pos hx] at h ⊢; exact zov l s h
  ·rw [if_neg hx] at h; exact absurd h hx
theorem zre : ∀ (l : List ByteArray) (k : Nat) (s : ByteArray), zcx (l.take k) = 0 → l[k]? = some s → chk s ≠ 0 → zcx l = chk s
 | [], k, s, _, h, _ => by simp at h
 | x :: l, 0, s, _, h, hc => by simp at h; subst h; simp [zcx, hc]
 | x :: l, k + 1, s, ha, h, hc => by
  simp only [List.take_succ_cons, zcx] at ha
  simp only [List.getElem?_cons_succ] at h
  by_cases hx : chk x = 0
  ·rw [if_pos hx] at ha
   simp only [zcx, if_pos hx]
   exact zre l k s ha h hc
  ·rw [if_neg hx] at ha; exact absurd ha hx
set_option maxHeartbeats 400000 in
theorem zv4 (l : List ByteArray) (hl : ∀ s ∈ l, s.size ≤ 9223372036854775807) (hlen : l.length ≤ 1000) {e : TypeId} {fu : Bool} {v : Value} {w : World} {B : Heap} (hB : B.Le (hp w)) (hv : SlV e 1 (l.map Value.string) l.length fu v B) :
  Ret Tryz.prog 161 [v] w B (fun v _ => v = .int .i64 (zcx l)) := by
 refine yi Tryz.func161 rfl Tryz.ntmps161 (Nat.le_of_ble_eq_true rfl) hB ?_
 refine zaq 0 (SlV e 1 (l.map Value.string) l.length fu) rfl SlV.mono hv ?_
 refine Z324 ?_; refine Z312 ?_
 refine zai (fun k : Nat => [(6, .sat (SlV e 1 (l.map Value.string) l.length fu)), (7, .is (.int .i64 l.length)), (8, .is (.int .i64 k))])
  (fun k => k ≤ l.length ∧ zcx (l.take k) = 0) (fun k => l.length - k) 0 ⟨Nat.zero_le _, by simp [zcx]⟩ ⟨rfl, rfl, rfl, trivial⟩ ?_
 rintro k ⟨hk, hall⟩
 by_cases hlt : k < l.length
 ·have hs : l[k]? = some l[k] := List.getElem?_eq_getElem hlt
  generalize l[k] = s at hs
  have hsz : s.size ≤ 9223372036854775807 := hl s (List.mem_of_getElem? hs)
  have hc := z1n hs
  by_cases h0 : chk s = 0
  ·refine zh ?_; refine Z29 ?_; refine Z220 ?_; refine Z28 ?_; refine z7 (qs L _ rfl rfl rfl rfl rfl rfl rfl (by first | omega | decide) (by assumption)) rfl ?_; refine Z58 ?_; refine Z142 ?_; refine Z156 ?_; refine z7 (zw L rfl rfl (zk rfl) rfl rfl rfl (fun u H hH _ _ => zop _ (by first | omega | decide) hH)) rfl ?_; refine Z392 ?_; refine Z22 ?_; refine Z215 ?_; refine Z40 ?_; refine Z297 ?_
   refine yk (k + 1) ⟨hlt, ?_⟩ (by omega) ⟨rfl, rfl, rfl, trivial⟩
   rw [List.take_add_one, hs]
   show zcx (l.take k ++ [s]) = 0
   rw [zov _ _ hall, h0]
  ·refine zh ?_; refine Z29 ?_; refine Z220 ?_; refine Z28 ?_; refine z7 (qs L _ rfl rfl rfl rfl rfl rfl rfl (by first | omega | decide) (by assumption)) rfl ?_; refine Z58 ?_; refine Z142 ?_; refine Z156 ?_; refine z7 (zw L rfl rfl (zk rfl) rfl rfl rfl (fun u H hH _ _ => zop _ (by first | omega | decide) hH)) rfl ?_; refine Z392 ?_; refine Z205 ?_; refine Z187 ?_; refine Z136 ?_
   refine yf L (rs := [.tmp 2]) rfl (fun _ _ h => h) Since.refl fun u H hH hle => ?_
   exact congrArg _ (zre l k s hall hs h0).symm
 ·refine zh ?_; refine Z29 ?_; refine Z321 ?_; refine Z367 ?_
  refine yf L (rs := [.tmp 2]) rfl (fun _ _ h => h) Since.refl fun u H hH hle => ?_
  have : l.take k = l := List.take_of_length_le (by omega)
  exact congrArg _ (this ▸ hall).symm
end Go.V
namespace Go.Proofs
open Go.Shelf
def Tryz.lays213_ren : Go.Shelf.Ren := ⟨fun | 213 => 179 | 265 => 185 | n => n, fun | 9 => 9 | 3 => 3 | n => n, fun | n => n⟩
theorem Tryz.lays213 : Go.Proofs.Lays.n213 Tryz.prog Tryz.lays213_ren := {
 mixed := by kernel_rfl
 f213 := Tryz.func179.trans (congrArg some (by kernel_rfl))
 f265 := Tryz.func185.trans (congrArg some (by kernel_rfl))
 t3 := Tryz.underlying3
 a3 := Tryz.isAgg3
 z3 := Tryz.sizeOf3
 v3 := Tryz.zeroValue3
 t9 := Tryz.underlying9
 a9 := Tryz.isAgg9
 z9 := Tryz.sizeOf9
 v9 := Tryz.zeroValue9 }
open Go.RowKit in
theorem Tryz.bytealg_CompareString (a b : ByteArray) (w : World) :
  Calls Tryz.prog 179 #[.string a, .string b] w fun e w' => e = .returned (.int .i64 (Lib.compareBytes a.data.toList b.data.toList)) ∧ w' = w := Any.bytealg_CompareString Tryz.lays213 a b w
def Tryz.lays106_ren : Go.Shelf.Ren := ⟨fun | 106 => 166 | 213 => 179 | 265 => 185 | n => n, fun | 9 => 9 | 3 => 3 | n => n, fun | n => n⟩
theorem Tryz.lays106 : Go.Proofs.Lays.n106 Tryz.prog Tryz.lays106_ren := {
 mixed := by kernel_rfl
 f106 := Tryz.func166.trans (congrArg some (by kernel_rfl))
 f213 := Tryz.func179.trans (congrArg some (by kernel_rfl))
 f265 := Tryz.func185.trans (congrArg some (by kernel_rfl))
 t3 := Tryz.underlying3
 a3 := Tryz.isAgg3
 z3 := Tryz.sizeOf3
 v3 := Tryz.zeroValue3
 t9 := Tryz.underlying9
 a9 := Tryz.isAgg9
 z9 := Tryz.sizeOf9
 v9 := Tryz.zeroValue9 }
open Go.RowKit in
theorem Tryz.strings_Compare (a b : ByteArray) (w : World) :
  Calls Tryz.prog 166 #[.string a, .string b] w fun e w' => e = .returned (.int .i64 (Lib.compareBytes a.data.toList b.data.toList)) ∧ w' = w := Any.strings_Compare Tryz.lays106 a b w
def Tryz.lays129_ren : Go.Shelf.Ren := ⟨fun | 129 => 111 | n => n, fun | 53 => 49 | 3 => 3 | 4 => 4 | 46 => 153 | 5 => 5 | 9 => 9 | n => n, fun | n => n⟩
theorem Tryz.lays129 : Go.Proofs.Lays.n129 Tryz.prog Tryz.lays129_ren := {
 mixed := by kernel_rfl
 f129 := Tryz.func111.trans (congrArg some (by kernel_rfl))
 t3 := Tryz.underlying3
 a3 := Tryz.isAgg3
 z3 := Tryz.sizeOf3
 v3 := Tryz.zeroValue3
 t4 := Tryz.underlying4
 a4 := Tryz.isAgg4
 z4 := Tryz.sizeOf4
 v4 := Tryz.zeroValue4
 t5 := Tryz.underlying5
 a5 := Tryz.isAgg5
 z5 := Tryz.sizeOf5
 v5 := Tryz.zeroValue5
 t9 := Tryz.underlying9
 a9 := Tryz.isAgg9
 z9 := Tryz.sizeOf9
 v9 := Tryz.zeroValue9
 t46 := Tryz.underlying153
 a46 := Tryz.isAgg153
 z46 := Tryz.sizeOf153
 v46 := Tryz.zeroValue153
 t53 := Tryz.underlying49
 a53 := Tryz.isAgg49
 z53 := Tryz.sizeOf49
 v53 := Tryz.zeroValue49 }
theorem Tryz.bits_Len64 (x : Int) (w : World) (h0 : 0 ≤ x) (h1 : x ≤ 18446744073709551615) :
  Calls Tryz.prog 111 #[.int .u64 x] w fun e w' => e = .returned (.int .i64 (Lib.bitLen x.toNat)) ∧ w' = w := Any.bits_Len64 Tryz.lays129 x w h0 h1
end Go.Proofs
set_option maxRecDepth 20000
namespace Go.V
open Go.Proofs Go.RowKit
theorem _root_.Go.V.Z17 {A B : Prop} (h : B) (t : Wr B → A := by intro h; refine z7 (ym rfl rfl rfl rfl) rfl ?_; exact h.h) : A := t ⟨h⟩
theorem _root_.Go.V.Z18 {A B : Prop} (h : B) (t : Wr B → A := by intro h; refine z7 (qd L rfl rfl rfl rfl) rfl ?_; exact h.h) : A := t ⟨h⟩
theorem _root_.Go.V.Z34 {A B : Prop} (h : B) (t : Wr B → A := by intro h; refine z7 (yj L rfl rfl rfl rfl rfl rfl rfl rfl rfl) rfl ?_; exact h.h) : A := t ⟨h⟩
theorem _root_.Go.V.Z35 {A B : Prop} (h : B) (t : Wr B → A := by intro h; refine z7 (qk L (qn rfl) rfl rfl rfl rfl) rfl ?_; exact h.h) : A := t ⟨h⟩
theorem _root_.Go.V.Z36 {A B : Prop} (h : B) (t : Wr B → A := by intro h; refine z8 (zg rfl rfl rfl) rfl ?_; exact h.h) : A := t ⟨h⟩
theorem _root_.Go.V.Z47 {A B : Prop} (h : B) (t : Wr B → A := by intro h; refine z8 (qd L rfl rfl rfl rfl) rfl ?_; exact h.h) : A := t ⟨h⟩
theorem _root_.Go.V.Z57 {A B : Prop} (h : B) (t : Wr B → A := by intro h; refine z8 (qk L (qn rfl) rfl rfl rfl rfl) rfl ?_; exact h.h) : A := t ⟨h⟩
theorem _root_.Go.V.Z79 {A B : Prop} (h : B) (t : Wr B → A := by intro h; refine qg (id := 1) [] mixed (by kernel_rfl) ?_; exact h.h) : A := t ⟨h⟩
theorem _root_.Go.V.Z111 {A B : Prop} (h : B) (t : Wr B → A := by intro h; refine z8 (yj L rfl rfl rfl rfl rfl rfl rfl rfl rfl) rfl ?_; exact h.h) : A := t ⟨h⟩
theorem _root_.Go.V.Z147 {A B : Prop} (h : B) (t : Wr B → A := by intro h; refine qt ?_; refine zj ?_; exact h.h) : A := t ⟨h⟩
theorem _root_.Go.V.Z155 {A B : Prop} (h : B) (t : Wr B → A := by intro h; refine Z144 ?_; refine Z17 ?_; exact h.h) : A := t ⟨h⟩
theorem _root_.Go.V.Z158 {A B : Prop} (h : B) (t : Wr B → A := by intro h; refine Z139 ?_; refine Z146 ?_; exact h.h) : A := t ⟨h⟩
theorem _root_.Go.V.Z160 {A B : Prop} (h : B) (t : Wr B → A := by intro h; refine Z142 ?_; refine Z19 ?_; exact h.h) : A := t ⟨h⟩
theorem _root_.Go.V.Z175 {A B : Prop} (h : B) (t : Wr B → A := by intro h; refine Z36 ?_; refine Z147 ?_; exact h.h) : A := t ⟨h⟩
theorem _root_.Go.V.Z183 {A B : Prop} (h : B) (t : Wr B → A := by intro h; refine Z18 ?_; refine Z35 ?_; exact h.h) : A := t ⟨h⟩
theorem _root_.Go.V.Z184 {A B : Prop} (h : B) (t : Wr B → A := by intro h; refine Z144 ?_; refine Z160 ?_; exact h.h) : A := t ⟨h⟩
theorem _root_.Go.V.Z210 {A B : Prop} (h : B) (t : Wr B → A := by intro h; refine Z155 ?_; refine Z17 ?_; exact h.h) : A := t ⟨h⟩
theorem _root_.Go.V.Z216 {A B : Prop} (h : B) (t : Wr B → A := by intro h; refine Z56 ?_; refine Z1 ?_; exact h.h) : A := t ⟨h⟩
theorem _root_.Go.V.Z222 {A B : Prop} (h : B) (t : Wr B → A := by intro h; refine Z47 ?_; refine Z57 ?_; exact h.h) : A := t ⟨h⟩
theorem _root_.Go.V.Z255 {A B : Prop} (h : B) (t : Wr B → A := by intro h; refine Z37 ?_; refine Z138 ?_; exact h.h) : A := t ⟨h⟩
theorem _root_.Go.V.Z299 {A B : Prop} (h : B) (t : Wr B → A := by intro h; refine Z155 ?_; refine Z160 ?_; exact h.h) : A := t ⟨h⟩
theorem _root_.Go.V.Z340 {A B : Prop} (h : B) (t : Wr B → A := by intro h; refine Z155 ?_; refine Z154 ?_; exact h.h) : A := t ⟨h⟩
theorem _root_.Go.V.Z368 {A B : Prop} (h : B) (t : Wr B → A := by intro h; refine Z148 ?_; refine Z312 ?_; exact h.h) : A := t ⟨h⟩
theorem _root_.Go.V.Z369 {A B : Prop} (h : B) (t : Wr B → A := by intro h; refine Z142 ?_; refine Z79 ?_; exact h.h) : A := t ⟨h⟩
attribute [local irreducible] V N X VO Par StepOK Has Ret RetL Src
theorem zyb {a b : ByteArray} (ha : a.size ≤ 9223372036854775807) (hb : b.size ≤ 9223372036854775807) {w : World} {B : Heap} (hB : B.Le (hp w)) {t : Nat} {v : Value} (hv : SlB [.string a, .string b] t 2 v B) :
  Ret Tryz.prog 161 [v] w B (fun v _ => v = .int .i64 (zcx [a, b])) := by
 exact zv4 [a, b] (by intro s hs; simp at hs; rcases hs with rfl | rfl <;> assumption) (by simp) hB (hv.toV rfl)
theorem zya {a b c : ByteArray} (ha : a.size ≤ 9223372036854775807) (hb : b.size ≤ 9223372036854775807) (hc : c.size ≤ 9223372036854775807) {w : World} {B : Heap} (hB : B.Le (hp w)) {t : Nat} {v : Value} (hv : SlB [.string a, .string b, .string c] t 3 v B) :
  Ret Tryz.prog 161 [v] w B (fun v _ => v = .int .i64 (zcx [a, b, c])) := by
 exact zv4 [a, b, c] (by intro s hs; simp at hs; rcases hs with rfl | rfl | rfl <;> assumption) (by simp) hB (hv.toV rfl)
theorem zr8 {a b : ByteArray} (ha : a.size ≤ 9223372036854775807) (hb : b.size ≤ 9223372036854775807) {w : World} {B : Heap} (hB : B.Le (hp w)) :
  Ret Tryz.prog 162 [.agg #[.string a, .string b]] w B (fun v _ => v = .int .i64 (zcx [a, b])) := by
 refine yi Tryz.func162 rfl Tryz.ntmps162 (Nat.le_of_ble_eq_true rfl) hB ?_
 refine Z299 ?_; refine Z183 ?_; refine Z183 ?_; refine Z34 ?_; refine z7 (zw L rfl rfl (zk rfl) rfl rfl rfl (fun u H hH _ _ v hv => zyb (by first | assumption | omega | decide) (by first | assumption | omega | decide) hH hv)) rfl ?_; refine Z136 ?_
 refine yf L (rs := [.tmp 2]) rfl (fun _ _ h => h) Since.refl fun u H hH hle => ?_
 rfl
theorem zhe {a b c : ByteArray} (ha : a.size ≤ 9223372036854775807) (hb : b.size ≤ 9223372036854775807) (hc : c.size ≤ 9223372036854775807) {w : World} {B : Heap} (hB : B.Le (hp w)) :
  Ret Tryz.prog 136 [.agg #[.string a, .string b, .string c]] w B (fun v _ => v = .int .i64 (zcx [a, b, c])) := by
 refine yi Tryz.func136 rfl Tryz.ntmps136 (Nat.le_of_ble_eq_true rfl) hB ?_
 refine Z299 ?_; refine Z18 ?_; refine Z183 ?_; refine Z18 ?_; refine Z183 ?_; refine Z183 ?_; refine Z34 ?_; refine z7 (zw L rfl rfl (zk rfl) rfl rfl rfl (fun u H hH _ _ v hv => zya (by first | assumption | omega | decide) (by first | assumption | omega | decide) (by first | assumption | omega | decide) hH hv)) rfl ?_; refine Z136 ?_
 refine yf L (rs := [.tmp 2]) rfl (fun _ _ h => h) Since.refl fun u H hH hle => ?_
 rfl
def zgf (a b c : ByteArray) : Int := if c = ⟨#[]⟩ then zcx [a, b] else zcx [a, b, c]
theorem zjg {a b c : ByteArray} (ha : a.size ≤ 9223372036854775807) (hb : b.size ≤ 9223372036854775807) (hc : c.size ≤ 9223372036854775807) {w : World} {B : Heap} (hB : B.Le (hp w)) :
  Ret Tryz.prog 137 [.agg #[.string a, .string b, .string c]] w B (fun v _ => v = .int .i64 (zgf a b c)) := by
 refine yi Tryz.func137 rfl Tryz.ntmps137 (Nat.le_of_ble_eq_true rfl) hB ?_
 by_cases h : c = ⟨#[]⟩
 ·refine Z340 ?_; refine Z183 ?_; refine z7 (zuf rfl rfl rfl rfl (decide_eq_true (by assumption))) rfl ?_; refine Z223 ?_; refine Z18 ?_; refine z7 (qb L (vs := [_, _]) (qn rfl) rfl rfl rfl rfl ⟨_, rfl⟩) rfl ?_; refine z7 (zw L rfl rfl (zk rfl) rfl rfl rfl (fun u H hH _ _ => zr8 (by first | assumption | omega | decide) (by first | assumption | omega | decide) hH)) rfl ?_; refine Z136 ?_
  refine yf L (rs := [.tmp 2]) rfl (fun _ _ h => h) Since.refl fun u H hH hle => ?_
  exact congrArg (Value.int .i64) (show zcx [a, b] = zgf a b c from (if_pos h).symm)
 ·refine Z340 ?_; refine Z183 ?_; refine z7 (zuf rfl rfl rfl rfl (decide_eq_false (by assumption))) rfl ?_; refine Z158 ?_; refine Z28 ?_; refine z7 (qb L (vs := [_, _, _]) (qn rfl) rfl rfl rfl rfl ⟨_, rfl⟩) rfl ?_; refine z7 (zw L rfl rfl (zk rfl) rfl rfl rfl (fun u H hH _ _ => zhe (by first | assumption | omega | decide) (by first | assumption | omega | decide) (by first | assumption | omega | decide) hH)) rfl ?_; refine Z136 ?_
  refine yf L (rs := [.tmp 2]) rfl (fun _ _ h => h) Since.refl fun u H hH hle => ?_
  exact congrArg (Value.int .i64) (show zcx [a, b, c] = zgf a b c from (if_neg h).symm)
def zm1 (a b : ByteArray) : Int := Lib.compareBytes a.data.toList b.data.toList
theorem zly {a b : ByteArray} {w : World} {B : Heap} (hB : B.Le (hp w)) : Ret Tryz.prog 166 [.string a, .string b] w B (fun v _ => v = .int .i64 (zm1 a b)) := Ret.of_same hB (Tryz.strings_Compare a b w)
def orL : List Int → Int
 | [] => 0
 | x :: l => if x = 0 then orL l else x
theorem zt8 : ∀ (l : List Int) (k : Nat) (s : Int), (∀ x ∈ l.take k, x = 0) → l[k]? = some s → s ≠ 0 → orL l = s
 | [], k, s, _, h, _ => by simp at h
 | x :: l, 0, s, _, h, hc => by simp at h; subst h; simp [orL, hc]
 | x :: l, k + 1, s, ha, h, hc => by
  simp only [List.take_succ_cons] at ha
  simp only [List.getElem?_cons_succ] at h
  have hx := ha x (List.mem_cons_self ..)
  simp only [orL, if_pos hx]
  exact zt8 l k s (fun y hy => ha y (List.mem_cons_of_mem _ hy)) h hc
theorem zqh : ∀ (l : List Int), (∀ x ∈ l, x = 0) → orL l = 0
 | [], _ => rfl
 | x :: l, h => by simp only [orL, if_pos (h x (List.mem_cons_self ..))]; exact zqh l fun y hy => h y (List.mem_cons_of_mem _ hy)
set_option maxHeartbeats 400000 in
theorem z17 (l : List Int) (hlen : l.length ≤ 1000) {e : TypeId} {fu : Bool} {v : Value} {w : World} {B : Heap} (hB : B.Le (hp w)) (hv : SlV e 1 (l.map (Value.int .i64)) l.length fu v B) :
  Ret Tryz.prog 141 [v] w B (fun v _ => v = .int .i64 (orL l)) := by
 refine yi Tryz.func141 rfl Tryz.ntmps141 (Nat.le_of_ble_eq_true rfl) hB ?_
 refine zaq 0 (SlV e 1 (l.map (Value.int .i64)) l.length fu) rfl SlV.mono hv ?_
 refine Z184 ?_; refine Z145 ?_; refine Z29 ?_; refine Z368 ?_
 refine zai (fun k : Nat => [(3, .is (.int .i64 0)), (6, .sat (SlV e 1 (l.map (Value.int .i64)) l.length fu)), (7, .is (.int .i64 l.length)), (8, .is (.int .i64 k))])
  (fun k => k ≤ l.length ∧ ∀ x ∈ l.take k, x = 0) (fun k => l.length - k) 0 ⟨Nat.zero_le _, by simp⟩ ⟨rfl, rfl, rfl, rfl, trivial⟩ ?_
 rintro k ⟨hk, hall⟩
 by_cases hlt : k < l.length
 ·have hs : l[k]? = some l[k] := List.getElem?_eq_getElem hlt
  generalize l[k] = s at hs
  have hc : ((l.map (Value.int .i64)).drop (k * 1)).take 1 = [.int .i64 s] := zyq (by simp [hs])
  by_cases h0 : s = 0
  ·refine zh ?_; refine Z28 ?_; refine Z220 ?_; refine Z27 ?_; refine z7 (qs L _ rfl rfl rfl rfl rfl rfl rfl (by first | omega | decide) (by assumption)) rfl ?_; refine Z58 ?_; refine Z142 ?_; refine Z255 ?_; refine Z22 ?_; refine Z215 ?_; refine Z40 ?_; refine Z297 ?_
   refine yk (k + 1) ⟨hlt, ?_⟩ (by omega) ⟨rfl, rfl, rfl, rfl, trivial⟩
   rw [List.take_add_one, hs]
   intro x hx
   rcases List.mem_append.1 hx with hx | hx
   ·exact hall x hx
   ·simp at hx; rw [hx, h0]
  ·refine zh ?_; refine Z28 ?_; refine Z220 ?_; refine Z27 ?_; refine z7 (qs L _ rfl rfl rfl rfl rfl rfl rfl (by first | omega | decide) (by assumption)) rfl ?_; refine Z58 ?_; refine Z142 ?_; refine Z255 ?_; refine Z205 ?_; refine Z187 ?_; refine Z136 ?_
   refine yf L (rs := [.tmp 2]) rfl (fun _ _ h => h) Since.refl fun u H hH hle => ?_
   exact congrArg _ (zt8 l k s hall hs h0).symm
 ·refine zh ?_; refine Z28 ?_; refine Z321 ?_; refine Z216 ?_; refine Z136 ?_
  refine yf L (rs := [.tmp 2]) rfl (fun _ _ h => h) Since.refl fun u H hH hle => ?_
  have : l.take k = l := List.take_of_length_le (by omega)
  exact congrArg _ (zqh l (this ▸ hall)).symm
theorem zmc {x y : Int} {w : World} {B : Heap} (hB : B.Le (hp w)) {t : Nat} {v : Value} (hv : SlB [.int .i64 x, .int .i64 y] t 2 v B) :
  Ret Tryz.prog 141 [v] w B (fun v _ => v = .int .i64 (orL [x, y])) := by
 exact z17 [x, y] (by simp) hB (hv.toV rfl)
def zxw (a b c d : ByteArray) : Int := orL [zm1 a c, zm1 b d]
def zy8 (a b r c d s : ByteArray) : Int := orL [zxw a b c d, zm1 r s]
theorem zxv {a b c d : ByteArray} {w : World} {B : Heap} (hB : B.Le (hp w)) :
  Ret Tryz.prog 165 [.agg #[.string a, .string b], .agg #[.string c, .string d]] w B (fun v _ => v = .int .i64 (zxw a b c d)) := by
 refine yi Tryz.func165 rfl Tryz.ntmps165 (Nat.le_of_ble_eq_true rfl) hB ?_
 refine Z210 ?_; refine Z369 ?_; refine Z222 ?_; refine Z222 ?_; refine z8 (zw L rfl rfl (zk rfl) rfl rfl rfl (fun u H hH _ _ => zly hH)) rfl ?_; refine Z222 ?_; refine Z222 ?_; refine z8 (zw L rfl rfl (zk rfl) rfl rfl rfl (fun u H hH _ _ => zly hH)) rfl ?_; refine Z111 ?_; refine z8 (zw L rfl rfl (zk rfl) rfl rfl rfl (fun u H hH _ _ v hv => zmc hH hv)) rfl ?_; refine Z175 ?_
 refine yf L (rs := [.tmp 4]) rfl (fun _ _ h => h) Since.refl fun u H hH hle => ?_
 rfl
theorem zmt {a b r c d s : ByteArray} {w : World} {B : Heap} (hB : B.Le (hp w)) :
  Ret Tryz.prog 142 [.agg #[.string a, .string b, .string r], .agg #[.string c, .string d, .string s]] w B (fun v _ => v = .int .i64 (zy8 a b r c d s)) := by
 refine yi Tryz.func142 rfl Tryz.ntmps142 (Nat.le_of_ble_eq_true rfl) hB ?_
 refine Z210 ?_; refine Z369 ?_; refine Z47 ?_; refine z8 (qb L (vs := [_, _]) (qn rfl) rfl rfl rfl rfl ⟨_, rfl⟩) rfl ?_; refine Z47 ?_; refine z8 (qb L (vs := [_, _]) (qn rfl) rfl rfl rfl rfl ⟨_, rfl⟩) rfl ?_; refine z8 (zw L rfl rfl (zk rfl) rfl rfl rfl (fun u H hH _ _ => zxv hH)) rfl ?_; refine Z222 ?_; refine Z222 ?_; refine z8 (zw L rfl rfl (zk rfl) rfl rfl rfl (fun u H hH _ _ => zly hH)) rfl ?_; refine Z111 ?_; refine z8 (zw L rfl rfl (zk rfl) rfl rfl rfl (fun u H hH _ _ v hv => zmc hH hv)) rfl ?_; refine Z175 ?_
 refine yf L (rs := [.tmp 4]) rfl (fun _ _ h => h) Since.refl fun u H hH hle => ?_
 rfl
theorem cmpU_ret {a b r c d s : ByteArray} {w : World} {B : Heap} (hB : B.Le (hp w)) :
  Ret Tryz.prog 143 [.agg #[.string a, .string b, .string r], .agg #[.string c, .string d, .string s]] w B (fun v _ => v = .int .i64 (zy8 a b r c d s)) := by
 refine yi Tryz.func143 rfl Tryz.ntmps143 (Nat.le_of_ble_eq_true rfl) hB ?_
 refine Z210 ?_; refine Z160 ?_; refine z7 (qb L (vs := [_, _, _]) (qn rfl) rfl rfl rfl rfl ⟨_, rfl⟩) rfl ?_; refine z7 (qb L (vs := [_, _, _]) (qn rfl) rfl rfl rfl rfl ⟨_, rfl⟩) rfl ?_; refine z7 (zw L rfl rfl (zk rfl) rfl rfl rfl (fun u H hH _ _ => zmt hH)) rfl ?_; refine Z136 ?_
 refine yf L (rs := [.tmp 4]) rfl (fun _ _ h => h) Since.refl fun u H hH hle => ?_
 rfl
end Go.V
set_option maxRecDepth 20000
namespace Go.V
open Go.Proofs Go.RowKit
theorem _root_.Go.V.Z3 {A B : Prop} (h : B) (t : Wr B → A := by intro h; refine z8 (zd rfl rfl rfl) rfl ?_; exact h.h) : A := t ⟨h⟩
theorem _root_.Go.V.Z65 {A B : Prop} (h : B) (t : Wr B → A := by intro h; refine zf (id := 11) ?_; exact h.h) : A := t ⟨h⟩
theorem _root_.Go.V.Z67 {A B : Prop} (h : B) (t : Wr B → A := by intro h; refine zf (id := 10) ?_; exact h.h) : A := t ⟨h⟩
theorem _root_.Go.V.Z73 {A B : Prop} (h : B) (t : Wr B → A := by intro h; refine qg (id := 6) [] mixed (by kernel_rfl) ?_; exact h.h) : A := t ⟨h⟩
theorem _root_.Go.V.Z75 {A B : Prop} (h : B) (t : Wr B → A := by intro h; refine z8 (qq rfl rfl rfl rfl (decide_eq_true (by omega))) rfl ?_; exact h.h) : A := t ⟨h⟩
theorem _root_.Go.V.Z80 {A B : Prop} (h : B) (t : Wr B → A := by intro h; refine zf (id := 12) ?_; exact h.h) : A := t ⟨h⟩
theorem _root_.Go.V.Z88 {A B : Prop} (h : B) (t : Wr B → A := by intro h; refine z8 (qq rfl rfl rfl rfl (decide_eq_false (by omega))) rfl ?_; exact h.h) : A := t ⟨h⟩
theorem _root_.Go.V.Z89 {A B : Prop} (h : B) (t : Wr B → A := by intro h; refine z8 (yr rfl rfl rfl rfl (decide_eq_true (by omega))) rfl ?_; exact h.h) : A := t ⟨h⟩
theorem _root_.Go.V.Z92 {A B : Prop} (h : B) (t : Wr B → A := by intro h; refine z8 (yr rfl rfl rfl rfl (decide_eq_false (by omega))) rfl ?_; exact h.h) : A := t ⟨h⟩
theorem _root_.Go.V.Z98 {A B : Prop} (h : B) (t : Wr B → A := by intro h; refine qg (id := 4) [] mixed (by kernel_rfl) ?_; exact h.h) : A := t ⟨h⟩
theorem _root_.Go.V.Z99 {A B : Prop} (h : B) (t : Wr B → A := by intro h; refine z8 (zny L rfl rfl rfl rfl rfl (by assumption)) rfl ?_; exact h.h) : A := t ⟨h⟩
theorem _root_.Go.V.Z132 {A B : Prop} (h : B) (t : Wr B → A := by intro h; refine z7 (zgo rfl rfl rfl rfl z4q (by assumption) rfl) rfl ?_; exact h.h) : A := t ⟨h⟩
theorem _root_.Go.V.Z143 {A B : Prop} (h : B) (t : Wr B → A := by intro h; refine Z3 ?_; refine Z3 ?_; exact h.h) : A := t ⟨h⟩
theorem _root_.Go.V.Z150 {A B : Prop} (h : B) (t : Wr B → A := by intro h; refine Z2 ?_; refine zi ?_; exact h.h) : A := t ⟨h⟩
theorem _root_.Go.V.Z174 {A B : Prop} (h : B) (t : Wr B → A := by intro h; refine Z139 ?_; refine Z164 ?_; exact h.h) : A := t ⟨h⟩
theorem _root_.Go.V.Z180 {A B : Prop} (h : B) (t : Wr B → A := by intro h; refine Z147 ?_; refine Z9 ?_; exact h.h) : A := t ⟨h⟩
theorem _root_.Go.V.Z181 {A B : Prop} (h : B) (t : Wr B → A := by intro h; refine Z174 ?_; refine zj ?_; exact h.h) : A := t ⟨h⟩
theorem _root_.Go.V.Z190 {A B : Prop} (h : B) (t : Wr B → A := by intro h; refine Z21 ?_; refine Z150 ?_; exact h.h) : A := t ⟨h⟩
theorem _root_.Go.V.Z197 {A B : Prop} (h : B) (t : Wr B → A := by intro h; refine Z136 ?_; refine ql ?_; exact h.h) : A := t ⟨h⟩
theorem _root_.Go.V.Z211 {A B : Prop} (h : B) (t : Wr B → A := by intro h; refine Z147 ?_; refine Z12 ?_; exact h.h) : A := t ⟨h⟩
theorem _root_.Go.V.Z232 {A B : Prop} (h : B) (t : Wr B → A := by intro h; refine Z146 ?_; refine ql ?_; exact h.h) : A := t ⟨h⟩
theorem _root_.Go.V.Z235 {A B : Prop} (h : B) (t : Wr B → A := by intro h; refine Z29 ?_; refine Z138 ?_; exact h.h) : A := t ⟨h⟩
theorem _root_.Go.V.Z249 {A B : Prop} (h : B) (t : Wr B → A := by intro h; refine Z7 ?_; refine Z141 ?_; exact h.h) : A := t ⟨h⟩
theorem _root_.Go.V.Z256 {A B : Prop} (h : B) (t : Wr B → A := by intro h; refine Z154 ?_; refine Z18 ?_; exact h.h) : A := t ⟨h⟩
theorem _root_.Go.V.Z314 {A B : Prop} (h : B) (t : Wr B → A := by intro h; refine Z137 ?_; refine Z235 ?_; exact h.h) : A := t ⟨h⟩
theorem _root_.Go.V.Z315 {A B : Prop} (h : B) (t : Wr B → A := by intro h; refine Z67 ?_; refine Z1 ?_; exact h.h) : A := t ⟨h⟩
theorem _root_.Go.V.Z325 {A B : Prop} (h : B) (t : Wr B → A := by intro h; refine Z137 ?_; refine Z216 ?_; exact h.h) : A := t ⟨h⟩
theorem _root_.Go.V.Z326 {A B : Prop} (h : B) (t : Wr B → A := by intro h; refine Z28 ?_; refine Z183 ?_; exact h.h) : A := t ⟨h⟩
theorem _root_.Go.V.Z339 {A B : Prop} (h : B) (t : Wr B → A := by intro h; refine zz ?_; refine Z161 ?_; exact h.h) : A := t ⟨h⟩
theorem _root_.Go.V.Z341 {A B : Prop} (h : B) (t : Wr B → A := by intro h; refine Z232 ?_; refine Z137 ?_; exact h.h) : A := t ⟨h⟩
theorem _root_.Go.V.Z365 {A B : Prop} (h : B) (t : Wr B → A := by intro h; refine zh ?_; refine Z37 ?_; exact h.h) : A := t ⟨h⟩
theorem _root_.Go.V.Z393 {A B : Prop} (h : B) (t : Wr B → A := by intro h; refine Z143 ?_; refine Z99 ?_; exact h.h) : A := t ⟨h⟩
theorem zx2 : ∀ (a b : List UInt8), Lib.compareBytes a b = -1 ∨ Lib.compareBytes a b = 0 ∨ Lib.compareBytes a b = 1
 | [], [] => .inr (.inl rfl)
 | [], _ :: _ => .inl rfl
 | _ :: _, [] => .inr (.inr rfl)
 | a :: xs, b :: bs => by
  unfold Lib.compareBytes
  split
  ·exact .inl rfl
  ·split
   ·exact .inr (.inr rfl)
   ·exact zx2 xs bs
theorem zvx : ∀ (a : List UInt8), Lib.compareBytes a a = 0
 | [] => rfl
 | a :: xs => by
  unfold Lib.compareBytes
  rw [if_neg (UInt8.lt_irrefl a), if_neg (UInt8.lt_irrefl a)]
  exact zvx xs
theorem z3c : ∀ (a b : List UInt8), Lib.compareBytes a b = 0 → a = b
 | [], [], _ => rfl
 | [], _ :: _, h => by cases h
 | _ :: _, [], h => by cases h
 | a :: xs, b :: bs, h => by
  unfold Lib.compareBytes at h
  split at h
  ·cases h
  ·split at h
   ·cases h
   ·rename_i h1 h2
    have : a = b := UInt8.le_antisymm (UInt8.not_lt.1 h2) (UInt8.not_lt.1 h1)
    rw [this, z3c xs bs h]
theorem zvy : ∀ (a b : List UInt8), Lib.compareBytes b a = - Lib.compareBytes a b
 | [], [] => rfl
 | [], _ :: _ => rfl
 | _ :: _, [] => rfl
 | a :: xs, b :: bs => by
  unfold Lib.compareBytes
  by_cases h1 : a < b
  ·simp [h1, UInt8.lt_asymm h1]
  ·by_cases h2 : b < a
   ·simp [h1, h2]
   ·simp [h1, h2]; exact zvy xs bs
theorem zq8 : ∀ (a b c : List UInt8), Lib.compareBytes a b ≤ 0 → Lib.compareBytes b c ≤ 0 → Lib.compareBytes a c ≤ 0
 | [], _, [], _, _ => Int.le_refl _
 | [], _, _ :: _, _, _ => by unfold Lib.compareBytes; decide
 | _ :: _, [], _, h, _ => by unfold Lib.compareBytes at h; exact absurd h (by decide)
 | _ :: _, _ :: _, [], _, h => by unfold Lib.compareBytes at h; exact absurd h (by decide)
 | a :: xs, b :: bs, c :: cs, h1, h2 => by
  unfold Lib.compareBytes at h1 h2 ⊢
  by_cases ab : a < b
  ·by_cases bc : b < c
   ·rw [if_pos (UInt8.lt_trans ab bc)]; decide
   ·rw [if_neg bc] at h2
    by_cases cb : c < b
    ·rw [if_pos cb] at h2; exact absurd h2 (by decide)
    ·have : b = c := UInt8.le_antisymm (UInt8.not_lt.1 cb) (UInt8.not_lt.1 bc)
     subst this; rw [if_pos ab]; decide
  ·rw [if_neg ab] at h1
   by_cases ba : b < a
   ·rw [if_pos ba] at h1; exact absurd h1 (by decide)
   ·have : a = b := UInt8.le_antisymm (UInt8.not_lt.1 ba) (UInt8.not_lt.1 ab)
    subst this
    rw [if_neg ab] at h1
    by_cases ac : a < c
    ·rw [if_pos ac]; decide
    ·rw [if_neg ac] at h2 ⊢
     by_cases ca : c < a
     ·rw [if_pos ca] at h2; exact absurd h2 (by decide)
     ·rw [if_neg ca] at h2 ⊢
      exact zq8 xs bs cs h1 h2
structure Ord3 {α : Type} (c : α → α → Int) : Prop where
 refl : ∀ a, c a a = 0
 eq : ∀ a b, c a b = 0 → a = b
 anti : ∀ a b, c b a = - c a b
 trans : ∀ a b d, c a b ≤ 0 → c b d ≤ 0 → c a d ≤ 0
theorem z3e {a b : ByteArray} (h : a.data.toList = b.data.toList) : a = b := by
 obtain ⟨⟨x⟩⟩ := a; obtain ⟨⟨y⟩⟩ := b; simp at h; subst h; rfl
theorem cmpB_ord : Ord3 zm1 := ⟨fun a => zvx _, fun a b h => z3e (z3c _ _ h), fun a b => zvy _ _, fun a b d h1 h2 => zq8 _ _ _ h1 h2⟩
def zwb {α β : Type} (c : α → α → Int) (e : β → β → Int) (x y : α × β) : Int := orL [c x.1 y.1, e x.2 y.2]
theorem zt9 (x y : Int) : orL [x, y] = if x = 0 then y else x := by
 simp only [orL]
 by_cases hx : x = 0
 ·rw [if_pos hx, if_pos hx]; split <;> simp_all
 ·rw [if_neg hx, if_neg hx]
theorem Ord3.lt_of {α : Type} {c : α → α → Int} (h : Ord3 c) {a b d : α} (h1 : c a b ≤ 0) (h2 : c b d ≤ 0) (h3 : c a d = 0) : c a b = 0 ∧ c b d = 0 := by
 obtain rfl := h.eq _ _ h3
 have := h.anti a b
 constructor <;> omega
theorem Ord3.lex {α β : Type} {c : α → α → Int} {e : β → β → Int} (hc : Ord3 c) (he : Ord3 e) : Ord3 (zwb c e) := by
 refine ⟨fun a => ?_, fun a b h => ?_, fun a b => ?_, fun a b d h1 h2 => ?_⟩
 ·unfold zwb; rw [zt9, hc.refl, if_pos rfl, he.refl]
 ·unfold zwb at h
  rw [zt9] at h
  by_cases h0 : c a.1 b.1 = 0
  ·rw [if_pos h0] at h
   exact Prod.ext (hc.eq _ _ h0) (he.eq _ _ h)
  ·rw [if_neg h0] at h; exact absurd h h0
 ·unfold zwb
  rw [zt9, zt9, hc.anti a.1 b.1, he.anti a.2 b.2]
  by_cases h0 : c a.1 b.1 = 0
  ·rw [if_pos h0, if_pos (by omega)]
  ·rw [if_neg h0, if_neg (by omega)]
 ·unfold zwb at h1 h2 ⊢
  rw [zt9] at h1 h2 ⊢
  have l1 : c a.1 b.1 ≤ 0 := by split at h1 <;> omega
  have l2 : c b.1 d.1 ≤ 0 := by split at h2 <;> omega
  have l3 := hc.trans _ _ _ l1 l2
  by_cases h0 : c a.1 d.1 = 0
  ·obtain ⟨e1, e2⟩ := hc.lt_of l1 l2 h0
   rw [if_pos e1] at h1
   rw [if_pos e2] at h2
   rw [if_pos h0]
   exact he.trans _ _ _ h1 h2
  ·rw [if_neg h0]; exact l3
abbrev zyh := (ByteArray × ByteArray) × ByteArray
def z3b : zyh → zyh → Int := zwb (zwb zm1 zm1) zm1
theorem cmp3_ord : Ord3 z3b := (cmpB_ord.lex cmpB_ord).lex cmpB_ord
theorem zoo {a b c d : ByteArray} : zxw a b c d = 0 ↔ a = c ∧ b = d := by
 have h := cmpB_ord.lex cmpB_ord
 constructor
 ·intro e
  have := h.eq (a, b) (c, d) e
  cases this; exact ⟨rfl, rfl⟩
 ·rintro ⟨rfl, rfl⟩; exact h.refl (a, b)
theorem z3a {a b c d : ByteArray} (h : a ≠ c) : zxw a b c d = zm1 a c := by
 unfold zxw; rw [zt9, if_neg fun e => h (cmpB_ord.eq _ _ e)]
theorem z29 {a b c d : ByteArray} (h : a = c) : zxw a b c d = zm1 b d := by
 unfold zxw; rw [zt9, if_pos (by rw [h]; exact cmpB_ord.refl _)]
theorem zy7 {a b r c d s : ByteArray} (h : ¬ (a = c ∧ b = d)) : zy8 a b r c d s = zxw a b c d := by
 unfold zy8; rw [zt9, if_neg fun e => h (zoo.1 e)]
theorem zy6 {a b r c d s : ByteArray} (h : a = c ∧ b = d) : zy8 a b r c d s = zm1 r s := by
 unfold zy8; rw [zt9, if_pos (zoo.2 h)]
theorem zft {s : ByteArray} {k : Nat} {c : UInt8} (h : s[k]? = some c) : s.data.toList.drop k = c :: s.data.toList.drop (k + 1) := by
 have h' : s.data.toList[k]? = some c := by
  have : s.data[k]? = some c := h
  simpa using this
 obtain ⟨hl, he⟩ := List.getElem?_eq_some_iff.1 h'
 rw [List.drop_eq_getElem_cons hl, he]
theorem zi3 {s : ByteArray} {k : Nat} (h : s.size ≤ k) : s.data.toList.drop k = [] := List.drop_eq_nil_of_le (by rw [zbn]; exact h)
def zp3 (a b : ByteArray) (k : Nat) : Prop := zm1 a b = Lib.compareBytes (a.data.toList.drop k) (b.data.toList.drop k)
theorem zzj {a b : ByteArray} {k : Nat} {x y : UInt8} (h : zp3 a b k) (hx : a[k]? = some x) (hy : b[k]? = some y) (hl : (x.toNat : Int) < y.toNat) : zm1 a b = -1 := by
 unfold zp3 at h
 rw [h, zft hx, zft hy, Lib.compareBytes, if_pos (UInt8.lt_iff_toNat_lt.2 (by omega))]
theorem zzk {a b : ByteArray} {k : Nat} {x y : UInt8} (h : zp3 a b k) (hx : a[k]? = some x) (hy : b[k]? = some y) (hl : (y.toNat : Int) < x.toNat) : zm1 a b = 1 := by
 unfold zp3 at h
 have hl' : y < x := UInt8.lt_iff_toNat_lt.2 (by omega)
 rw [h, zft hx, zft hy, Lib.compareBytes, if_neg (UInt8.lt_asymm hl'), if_pos hl']
theorem ztc {a b : ByteArray} {k : Nat} {x y : UInt8} (h : zp3 a b k) (hx : a[k]? = some x) (hy : b[k]? = some y) (h1 : ¬ (x.toNat : Int) < y.toNat) (h2 : ¬ (y.toNat : Int) < x.toNat) : zp3 a b (k + 1) := by
 unfold zp3 at h ⊢
 rw [h, zft hx, zft hy, Lib.compareBytes, if_neg (fun e => h1 (by have := UInt8.lt_iff_toNat_lt.1 e; omega)), if_neg (fun e => h2 (by have := UInt8.lt_iff_toNat_lt.1 e; omega))]
theorem zrn {a b : ByteArray} {k : Nat} (h : zp3 a b k) (h1 : a.size ≤ k) (h2 : k < b.size) : zm1 a b = -1 := by
 unfold zp3 at h
 obtain ⟨y, hy⟩ := getElem?_lt h2
 rw [h, zi3 h1, zft hy, Lib.compareBytes]
theorem ztd {a b : ByteArray} {k : Nat} (h : zp3 a b k) (h1 : b.size ≤ k) (h2 : k < a.size) : zm1 a b = 1 := by
 unfold zp3 at h
 obtain ⟨y, hy⟩ := getElem?_lt h2
 rw [h, zi3 h1, zft hy, Lib.compareBytes]
theorem zte {a b : ByteArray} {k : Nat} (h : zp3 a b k) (h1 : a.size ≤ k) (h2 : b.size ≤ k) : zm1 a b = 0 := by
 unfold zp3 at h
 rw [h, zi3 h1, zi3 h2, Lib.compareBytes]
attribute [local irreducible] V N X VO Par StepOK Has Ret RetL Src
set_option maxHeartbeats 400000 in
theorem zf0 {a b : ByteArray} (ha : a.size ≤ 9223372036854775807) (hb : b.size ≤ 9223372036854775807) {w : World} {B : Heap} (hB : B.Le (hp w)) :
  Ret Tryz.prog 181 [.string a, .string b] w B (fun v _ => v = .int .i64 (zm1 a b)) := by
 refine yi Tryz.func181 rfl Tryz.ntmps181 (Nat.le_of_ble_eq_true rfl) hB ?_
 refine Z144 ?_; refine Z154 ?_; refine Z197 ?_
 refine zai (fun k : Nat => [(0, .is (.string a)), (1, .is (.string b)), (5, .is (.int .i64 k))])
  (fun k => k ≤ a.size ∧ k ≤ b.size ∧ zp3 a b k) (fun k => a.size - k) 0 ⟨Nat.zero_le _, Nat.zero_le _, rfl⟩ ⟨rfl, rfl, rfl, trivial⟩ ?_
 rintro k ⟨hk1, hk2, hall⟩
 by_cases h1 : k < a.size
 ·by_cases h2 : k < b.size
  ·obtain ⟨x, hx⟩ := getElem?_lt h1
   obtain ⟨y, hy⟩ := getElem?_lt h2
   by_cases hxy : (x.toNat : Int) < y.toNat
   ·refine Z314 ?_; refine Z50 ?_; refine Z8 ?_; refine Z172 ?_; refine Z50 ?_; refine Z8 ?_; refine Z249 ?_; refine Z341 ?_; refine Z98 ?_; refine Z393 ?_; refine Z393 ?_; refine Z75 ?_; refine Z211 ?_; refine Z365 ?_; refine Z136 ?_
    refine yf L (rs := [.tmp 4]) rfl (fun _ _ h => h) Since.refl fun u H hH hle => ?_
    exact congrArg _ (zzj hall hx hy hxy).symm
   ·by_cases hyx : (y.toNat : Int) < x.toNat
    ·refine Z314 ?_; refine Z50 ?_; refine Z8 ?_; refine Z172 ?_; refine Z50 ?_; refine Z8 ?_; refine Z249 ?_; refine Z341 ?_; refine Z98 ?_; refine Z393 ?_; refine Z393 ?_; refine Z88 ?_; refine Z180 ?_; refine Z146 ?_; refine Z73 ?_; refine Z393 ?_; refine Z393 ?_; refine Z89 ?_; refine Z211 ?_; refine zh ?_; refine Z390 ?_
     refine yf L (rs := [.tmp 4]) rfl (fun _ _ h => h) Since.refl fun u H hH hle => ?_
     exact congrArg _ (zzk hall hx hy hyx).symm
    ·refine Z314 ?_; refine Z50 ?_; refine Z8 ?_; refine Z172 ?_; refine Z50 ?_; refine Z8 ?_; refine Z249 ?_; refine Z341 ?_; refine Z98 ?_; refine Z393 ?_; refine Z393 ?_; refine Z88 ?_; refine Z180 ?_; refine Z146 ?_; refine Z73 ?_; refine Z393 ?_; refine Z393 ?_; refine Z92 ?_; refine Z180 ?_; refine Z339 ?_; refine Z173 ?_; refine Z190 ?_
     exact yk (k + 1) ⟨h1, h2, ztc hall hx hy hxy hyx⟩ (by omega) ⟨rfl, rfl, rfl, trivial⟩
  ·refine Z314 ?_; refine Z50 ?_; refine Z8 ?_; refine Z172 ?_; refine Z50 ?_; refine Z11 ?_; refine Z7 ?_; refine Z181 ?_; refine Z325 ?_; refine Z50 ?_; refine Z1 ?_; refine Z50 ?_; refine Z11 ?_; refine Z165 ?_; refine Z315 ?_; refine Z50 ?_; refine Z1 ?_; refine Z50 ?_; refine Z38 ?_; refine Z152 ?_; refine Z65 ?_; refine Z136 ?_
   refine yf L (rs := [.tmp 4]) rfl (fun _ _ h => h) Since.refl fun u H hH hle => ?_
   exact congrArg _ (ztd hall (by omega) h1).symm
 ·by_cases h2 : k < b.size
  ·refine Z314 ?_; refine Z50 ?_; refine Z11 ?_; refine Z322 ?_; refine Z181 ?_; refine Z325 ?_; refine Z50 ?_; refine Z1 ?_; refine Z50 ?_; refine Z8 ?_; refine Z152 ?_; refine Z60 ?_; refine Z136 ?_
   refine yf L (rs := [.tmp 4]) rfl (fun _ _ h => h) Since.refl fun u H hH hle => ?_
   exact congrArg _ (zrn hall (by omega) h2).symm
  ·refine Z314 ?_; refine Z50 ?_; refine Z11 ?_; refine Z322 ?_; refine Z181 ?_; refine Z325 ?_; refine Z50 ?_; refine Z1 ?_; refine Z50 ?_; refine Z11 ?_; refine Z165 ?_; refine Z315 ?_; refine Z50 ?_; refine Z1 ?_; refine Z50 ?_; refine Z32 ?_; refine Z158 ?_; refine Z80 ?_; refine Z136 ?_
   refine yf L (rs := [.tmp 4]) rfl (fun _ _ h => h) Since.refl fun u H hH hle => ?_
   exact congrArg _ (zte hall (by omega) (by omega)).symm
theorem znp {a b c d : ByteArray} (ha : a.size ≤ 9223372036854775807) (hb : b.size ≤ 9223372036854775807) (hc : c.size ≤ 9223372036854775807) (hd : d.size ≤ 9223372036854775807) {w : World} {B : Heap} (hB : B.Le (hp w)) :
  Ret Tryz.prog 180 [.agg #[.string a, .string b], .agg #[.string c, .string d]] w B (fun v _ => v = .int .i64 (zxw a b c d)) := by
 refine yi Tryz.func180 rfl Tryz.ntmps180 (Nat.le_of_ble_eq_true rfl) hB ?_
 by_cases h : a = c
 ·have h' : ¬ a ≠ c := fun e => e h
  refine Z210 ?_; refine Z154 ?_; refine Z183 ?_; refine Z183 ?_; refine z7 (zud rfl rfl rfl rfl (decide_eq_false (by assumption))) rfl ?_; refine Z158 ?_; refine Z326 ?_; refine Z183 ?_; refine z7 (zw L rfl rfl (zk rfl) rfl rfl rfl (fun u H hH _ _ => zf0 (by first | assumption | omega | decide) (by first | assumption | omega | decide) hH)) rfl ?_; refine Z136 ?_
  refine yf L (rs := [.tmp 4]) rfl (fun _ _ h => h) Since.refl fun u H hH hle => ?_
  exact congrArg _ (z29 h).symm
 ·have h' : a ≠ c := h
  refine Z210 ?_; refine Z154 ?_; refine Z183 ?_; refine Z183 ?_; refine z7 (zud rfl rfl rfl rfl (decide_eq_true (by assumption))) rfl ?_; refine Z223 ?_; refine Z183 ?_; refine Z183 ?_; refine z7 (zw L rfl rfl (zk rfl) rfl rfl rfl (fun u H hH _ _ => zf0 (by first | assumption | omega | decide) (by first | assumption | omega | decide) hH)) rfl ?_; refine Z136 ?_
  refine yf L (rs := [.tmp 4]) rfl (fun _ _ h => h) Since.refl fun u H hH hle => ?_
  exact congrArg _ (z3a h).symm
theorem zty {a b r c d s : ByteArray} (ha : a.size ≤ 9223372036854775807) (hb : b.size ≤ 9223372036854775807) (hr : r.size ≤ 9223372036854775807) (hc : c.size ≤ 9223372036854775807) (hd : d.size ≤ 9223372036854775807) (hs : s.size ≤ 9223372036854775807) {w : World} {B : Heap} (hB : B.Le (hp w)) :
  Ret Tryz.prog 167 [.agg #[.string a, .string b, .string r], .agg #[.string c, .string d, .string s]] w B (fun v _ => v = .int .i64 (zy8 a b r c d s)) := by
 refine yi Tryz.func167 rfl Tryz.ntmps167 (Nat.le_of_ble_eq_true rfl) hB ?_
 by_cases h : a = c ∧ b = d
 ·have h' := zxp (decide_eq_true h)
  refine Z210 ?_; refine Z256 ?_; refine z7 (qb L (vs := [_, _]) (qn rfl) rfl rfl rfl rfl ⟨_, rfl⟩) rfl ?_; refine Z18 ?_; refine z7 (qb L (vs := [_, _]) (qn rfl) rfl rfl rfl rfl ⟨_, rfl⟩) rfl ?_; refine Z132 ?_; refine Z158 ?_; refine Z326 ?_; refine Z183 ?_; refine z7 (zw L rfl rfl (zk rfl) rfl rfl rfl (fun u H hH _ _ => zf0 (by first | assumption | omega | decide) (by first | assumption | omega | decide) hH)) rfl ?_; refine Z136 ?_
  refine yf L (rs := [.tmp 4]) rfl (fun _ _ h => h) Since.refl fun u H hH hle => ?_
  exact congrArg _ (zy6 h).symm
 ·have h' := zxp (decide_eq_false h)
  refine Z210 ?_; refine Z256 ?_; refine z7 (qb L (vs := [_, _]) (qn rfl) rfl rfl rfl rfl ⟨_, rfl⟩) rfl ?_; refine Z18 ?_; refine z7 (qb L (vs := [_, _]) (qn rfl) rfl rfl rfl rfl ⟨_, rfl⟩) rfl ?_; refine Z132 ?_; refine Z223 ?_; refine Z18 ?_; refine z7 (qb L (vs := [_, _]) (qn rfl) rfl rfl rfl rfl ⟨_, rfl⟩) rfl ?_; refine Z18 ?_; refine z7 (qb L (vs := [_, _]) (qn rfl) rfl rfl rfl rfl ⟨_, rfl⟩) rfl ?_; refine z7 (zw L rfl rfl (zk rfl) rfl rfl rfl (fun u H hH _ _ => znp (by first | assumption | omega | decide) (by first | assumption | omega | decide) (by first | assumption | omega | decide) (by first | assumption | omega | decide) hH)) rfl ?_; refine Z136 ?_
  refine yf L (rs := [.tmp 4]) rfl (fun _ _ h => h) Since.refl fun u H hH hle => ?_
  exact congrArg _ (zy7 h).symm
theorem ztx {a b r c d s : ByteArray} (ha : a.size ≤ 9223372036854775807) (hb : b.size ≤ 9223372036854775807) (hr : r.size ≤ 9223372036854775807) (hc : c.size ≤ 9223372036854775807) (hd : d.size ≤ 9223372036854775807) (hs : s.size ≤ 9223372036854775807) {w : World} {B : Heap} (hB : B.Le (hp w)) :
  Ret Tryz.prog 168 [.agg #[.string a, .string b, .string r], .agg #[.string c, .string d, .string s]] w B (fun v _ => v = .int .i64 (zy8 a b r c d s)) := by
 refine yi Tryz.func168 rfl Tryz.ntmps168 (Nat.le_of_ble_eq_true rfl) hB ?_
 by_cases h : a = c ∧ b = d
 ·have h' := zxp (decide_eq_true h)
  refine Z210 ?_; refine Z256 ?_; refine z7 (qb L (vs := [_, _]) (qn rfl) rfl rfl rfl rfl ⟨_, rfl⟩) rfl ?_; refine Z18 ?_; refine z7 (qb L (vs := [_, _]) (qn rfl) rfl rfl rfl rfl ⟨_, rfl⟩) rfl ?_; refine Z132 ?_; refine Z158 ?_; refine Z326 ?_; refine Z183 ?_; refine z7 (zw L rfl rfl (zk rfl) rfl rfl rfl (fun u H hH _ _ => zf0 (by first | assumption | omega | decide) (by first | assumption | omega | decide) hH)) rfl ?_; refine Z136 ?_
  refine yf L (rs := [.tmp 4]) rfl (fun _ _ h => h) Since.refl fun u H hH hle => ?_
  exact congrArg _ (zy6 h).symm
 ·have h' := zxp (decide_eq_false h)
  refine Z210 ?_; refine Z256 ?_; refine z7 (qb L (vs := [_, _]) (qn rfl) rfl rfl rfl rfl ⟨_, rfl⟩) rfl ?_; refine Z18 ?_; refine z7 (qb L (vs := [_, _]) (qn rfl) rfl rfl rfl rfl ⟨_, rfl⟩) rfl ?_; refine Z132 ?_; refine Z223 ?_; refine Z18 ?_; refine z7 (qb L (vs := [_, _]) (qn rfl) rfl rfl rfl rfl ⟨_, rfl⟩) rfl ?_; refine Z18 ?_; refine z7 (qb L (vs := [_, _]) (qn rfl) rfl rfl rfl rfl ⟨_, rfl⟩) rfl ?_; refine z7 (zw L rfl rfl (zk rfl) rfl rfl rfl (fun u H hH _ _ => znp (by first | assumption | omega | decide) (by first | assumption | omega | decide) (by first | assumption | omega | decide) (by first | assumption | omega | decide) hH)) rfl ?_; refine Z136 ?_
  refine yf L (rs := [.tmp 4]) rfl (fun _ _ h => h) Since.refl fun u H hH hle => ?_
  exact congrArg _ (zy7 h).symm
end Go.V
set_option maxRecDepth 20000
namespace Go.V
open Go.Proofs Go.RowKit
section
variable {α : Type} {c : α → α → Int}
theorem Ord3.irr (h : Ord3 c) (a : α) : ¬ c a a < 0 := by rw [h.refl]; decide
theorem Ord3.asym (h : Ord3 c) {a b : α} (h1 : c a b < 0) : ¬ c b a < 0 := by have := h.anti a b; omega
theorem Ord3.tr (h : Ord3 c) {a b d : α} (h1 : c a b < 0) (h2 : c b d < 0) : c a d < 0 := by
 have h3 := h.trans a b d (by omega) (by omega)
 by_cases h4 : c a d = 0
 ·have := h.lt_of (a := a) (b := b) (d := d) (by omega) (by omega) h4; omega
 ·omega
theorem Ord3.ne (h : Ord3 c) {a b : α} (h1 : c a b < 0) : a ≠ b := fun e => by subst e; exact h.irr a h1
theorem Ord3.tri (h : Ord3 c) {a b : α} (h1 : ¬ c a b < 0) (h2 : a ≠ b) : c b a < 0 := by
 have := h.anti a b
 have h3 : c a b ≠ 0 := fun e => h2 (h.eq _ _ e)
 omega
def Sst (c : α → α → Int) (l : List α) : Prop := l.Pairwise fun x y => c x y < 0
theorem Sst.nil : Sst c [] := List.Pairwise.nil
theorem Sst.nodup (h : Ord3 c) {l : List α} (hs : Sst c l) : l.Nodup := hs.imp fun h1 => h.ne h1
theorem zel (h : Ord3 c) : ∀ {l m : List α}, Sst c l → Sst c m → (∀ z, z ∈ l ↔ z ∈ m) → l = m
 | [], [], _, _, _ => rfl
 | [], y :: m, _, _, e => by have := (e y).2 (List.mem_cons_self ..); cases this
 | y :: l, [], _, _, e => by have := (e y).1 (List.mem_cons_self ..); cases this
 | y :: l, x :: m, hl, hm, e => by
  have h1 := List.pairwise_cons.1 hl
  have h2 := List.pairwise_cons.1 hm
  have exy : y = x := by
   rcases List.mem_cons.1 ((e y).1 (List.mem_cons_self ..)) with e1 | e1
   ·exact e1
   ·rcases List.mem_cons.1 ((e x).2 (List.mem_cons_self ..)) with e2 | e2
    ·exact e2.symm
    ·exact absurd (h1.1 x e2) (h.asym (h2.1 y e1))
  subst exy
  congr 1
  refine zel h h1.2 h2.2 fun z => ?_
  constructor
  ·intro hz
   rcases List.mem_cons.1 ((e z).1 (List.mem_cons_of_mem _ hz)) with e1 | e1
   ·subst e1; exact absurd (h1.1 _ hz) (h.irr _)
   ·exact e1
  ·intro hz
   rcases List.mem_cons.1 ((e z).2 (List.mem_cons_of_mem _ hz)) with e1 | e1
   ·subst e1; exact absurd (h2.1 _ hz) (h.irr _)
   ·exact e1
def zhr (c : α → α → Int) (t : α) : List α → List α
 | [] => [t]
 | y :: l => if c t y < 0 then t :: y :: l else y :: zhr c t l
theorem zdi {t z : α} : ∀ {l : List α}, z ∈ zhr c t l ↔ z = t ∨ z ∈ l
 | [] => by simp [zhr]
 | y :: l => by
  simp only [zhr]
  split
  ·simp
  ·rw [List.mem_cons, zdi, List.mem_cons]
   constructor
   ·rintro (e | e | e)
    ·exact .inr (.inl e)
    ·exact .inl e
    ·exact .inr (.inr e)
   ·rintro (e | e | e)
    ·exact .inr (.inl e)
    ·exact .inl e
    ·exact .inr (.inr e)
theorem zcf (t : α) : ∀ (l : List α), (zhr c t l).length = l.length + 1
 | [] => rfl
 | y :: l => by
  simp only [zhr]
  split
  ·rfl
  ·simp only [List.length_cons, zcf t l]
theorem ze3 (h : Ord3 c) {t : α} : ∀ {l : List α}, Sst c l → t ∉ l → Sst c (zhr c t l)
 | [], _, _ => List.pairwise_singleton ..
 | y :: l, hs, ht => by
  have h1 := List.pairwise_cons.1 hs
  simp only [zhr]
  split
  ·rename_i hlt
   refine List.pairwise_cons.2 ⟨fun z hz => ?_, hs⟩
   rcases List.mem_cons.1 hz with rfl | hz
   ·exact hlt
   ·exact h.tr hlt (h1.1 z hz)
  ·rename_i hlt
   refine List.pairwise_cons.2 ⟨fun z hz => ?_, ze3 h h1.2 fun e => ht (List.mem_cons_of_mem _ e)⟩
   rcases zdi.1 hz with rfl | hz
   ·exact h.tri hlt fun e => ht (by rw [e]; exact List.mem_cons_self ..)
   ·exact h1.1 z hz
def zc8 (c : α → α → Int) (f : Bool → Bool → Bool) : Nat → List α → List α → List α
 | 0, _, _ => []
 | n + 1, [], [] => []
 | n + 1, a :: l, [] => (if f true false = true then [a] else []) ++ zc8 c f n l []
 | n + 1, [], b :: m => (if f false true = true then [b] else []) ++ zc8 c f n [] m
 | n + 1, a :: l, b :: m =>
  if c a b < 0 then (if f true false = true then [a] else []) ++ zc8 c f n l (b :: m)
  else if c a b > 0 then (if f false true = true then [b] else []) ++ zc8 c f n (a :: l) m
  else (if f true true = true then [a] else []) ++ zc8 c f n l m
def Tk (f : Bool → Bool → Bool) (l m : List α) (z : α) : Prop := (z ∈ l ∧ z ∉ m ∧ f true false = true) ∨ (z ∉ l ∧ z ∈ m ∧ f false true = true) ∨ (z ∈ l ∧ z ∈ m ∧ f true true = true)
theorem zc6 (h : Ord3 c) (f : Bool → Bool → Bool) {z : α} : ∀ {n : Nat} {l m : List α}, l.length + m.length ≤ n → Sst c l → Sst c m → (z ∈ zc8 c f n l m ↔ Tk f l m z)
 | 0, l, m, hn, _, _ => by
  have h1 : l = [] := List.eq_nil_of_length_eq_zero (by omega)
  have h2 : m = [] := List.eq_nil_of_length_eq_zero (by omega)
  subst h1 h2
  simp [zc8, Tk]
 | n + 1, [], [], _, _, _ => by simp [zc8, Tk]
 | n + 1, a :: l, [], hn, hl, hm => by
  have h1 := List.pairwise_cons.1 hl
  have ih := zc6 h f (z := z) (n := n) (l := l) (m := []) (by simp only [List.length_cons, List.length_nil] at hn ⊢; omega) h1.2 hm
  simp only [zc8, List.mem_append, ih, Tk, List.mem_cons, List.not_mem_nil, not_false_eq_true, true_and, false_and, and_false, or_false]
  by_cases hf : f true false = true
  ·simp [hf]
  ·simp [hf]
 | n + 1, [], b :: m, hn, hl, hm => by
  have h1 := List.pairwise_cons.1 hm
  have ih := zc6 h f (z := z) (n := n) (l := []) (m := m) (by simp only [List.length_cons, List.length_nil] at hn ⊢; omega) hl h1.2
  simp only [zc8, List.mem_append, ih, Tk, List.mem_cons, List.not_mem_nil, not_false_eq_true, true_and, false_and, and_false, or_false, false_or]
  by_cases hf : f false true = true
  ·simp [hf]
  ·simp [hf]
 | n + 1, a :: l, b :: m, hn, hl, hm => by
  have h1 := List.pairwise_cons.1 hl
  have h2 := List.pairwise_cons.1 hm
  have ha : a ∉ l := fun e => h.irr a (h1.1 a e)
  have hb : b ∉ m := fun e => h.irr b (h2.1 b e)
  simp only [List.length_cons] at hn
  simp only [zc8]
  by_cases h3 : c a b < 0
  ·have ih := zc6 h f (z := z) (n := n) (l := l) (m := b :: m) (by simp only [List.length_cons]; omega) h1.2 hm
   have hab : a ∉ b :: m := fun e => by
    rcases List.mem_cons.1 e with e | e
    ·exact h.ne h3 e
    ·exact h.irr a (h.tr h3 (h2.1 a e))
   rw [if_pos h3, List.mem_append, ih]
   unfold Tk
   by_cases hz : z = a
   ·subst hz
    by_cases hf : f true false = true <;> simp [hf, ha, hab]
   ·have e1 : z ∈ a :: l ↔ z ∈ l := by rw [List.mem_cons]; exact or_iff_right hz
    rw [e1]
    by_cases hf : f true false = true <;> simp [hf, hz]
  ·rw [if_neg h3]
   by_cases h4 : c a b > 0
   ·have h5 : c b a < 0 := by have := h.anti a b; omega
    have ih := zc6 h f (z := z) (n := n) (l := a :: l) (m := m) (by simp only [List.length_cons]; omega) hl h2.2
    have hba : b ∉ a :: l := fun e => by
     rcases List.mem_cons.1 e with e | e
     ·exact h.ne h5 e
     ·exact h.irr b (h.tr h5 (h1.1 b e))
    rw [if_pos h4, List.mem_append, ih]
    unfold Tk
    by_cases hz : z = b
    ·subst hz
     by_cases hf : f false true = true <;> simp [hf, hb, hba]
    ·have e1 : z ∈ b :: m ↔ z ∈ m := by rw [List.mem_cons]; exact or_iff_right hz
     rw [e1]
     by_cases hf : f false true = true <;> simp [hf, hz]
   ·have e : a = b := h.eq _ _ (by omega)
    subst e
    have ih := zc6 h f (z := z) (n := n) (l := l) (m := m) (by omega) h1.2 h2.2
    rw [if_neg h4, List.mem_append, ih]
    unfold Tk
    by_cases hz : z = a
    ·subst hz
     by_cases hf : f true true = true <;> simp [hf, ha, hb]
    ·have e1 : z ∈ a :: l ↔ z ∈ l := by rw [List.mem_cons]; exact or_iff_right hz
     have e2 : z ∈ a :: m ↔ z ∈ m := by rw [List.mem_cons]; exact or_iff_right hz
     rw [e1, e2]
     by_cases hf : f true true = true <;> simp [hf, hz]
theorem Tk.or {f : Bool → Bool → Bool} {l m : List α} {z : α} (h : Tk f l m z) : z ∈ l ∨ z ∈ m := by
 rcases h with ⟨h, _⟩ | ⟨_, h, _⟩ | ⟨h, _⟩
 ·exact .inl h
 ·exact .inr h
 ·exact .inl h
theorem zzp (p : Bool) (a : α) : Sst c (if p = true then [a] else []) := by
 split
 ·exact List.pairwise_singleton ..
 ·exact Sst.nil
theorem zg1 {p : Bool} {a : α} {r : List α} (hr : Sst c r) (hlt : ∀ z ∈ r, c a z < 0) : Sst c ((if p = true then [a] else []) ++ r) := by
 refine List.pairwise_append.2 ⟨zzp p a, hr, fun x hx z hz => ?_⟩
 split at hx
 ·rw [List.mem_singleton] at hx; subst hx; exact hlt z hz
 ·cases hx
theorem ze2 (h : Ord3 c) (f : Bool → Bool → Bool) : ∀ {n : Nat} {l m : List α}, l.length + m.length ≤ n → Sst c l → Sst c m → Sst c (zc8 c f n l m)
 | 0, _, _, _, _, _ => Sst.nil
 | n + 1, [], [], _, _, _ => Sst.nil
 | n + 1, a :: l, [], hn, hl, hm => by
  have h1 := List.pairwise_cons.1 hl
  have hn' : l.length + ([] : List α).length ≤ n := by simp only [List.length_cons, List.length_nil] at hn ⊢; omega
  refine zg1 (ze2 h f hn' h1.2 hm) fun z hz => ?_
  rcases ((zc6 h f hn' h1.2 hm).1 hz).or with e | e
  ·exact h1.1 z e
  ·cases e
 | n + 1, [], b :: m, hn, hl, hm => by
  have h1 := List.pairwise_cons.1 hm
  have hn' : ([] : List α).length + m.length ≤ n := by simp only [List.length_cons, List.length_nil] at hn ⊢; omega
  refine zg1 (ze2 h f hn' hl h1.2) fun z hz => ?_
  rcases ((zc6 h f hn' hl h1.2).1 hz).or with e | e
  ·cases e
  ·exact h1.1 z e
 | n + 1, a :: l, b :: m, hn, hl, hm => by
  have h1 := List.pairwise_cons.1 hl
  have h2 := List.pairwise_cons.1 hm
  simp only [List.length_cons] at hn
  simp only [zc8]
  split
  ·rename_i h3
   have hn' : l.length + (b :: m).length ≤ n := by simp only [List.length_cons]; omega
   refine zg1 (ze2 h f hn' h1.2 hm) fun z hz => ?_
   rcases ((zc6 h f hn' h1.2 hm).1 hz).or with e | e
   ·exact h1.1 z e
   ·rcases List.mem_cons.1 e with e | e
    ·rw [e]; exact h3
    ·exact h.tr h3 (h2.1 z e)
  ·split
   ·rename_i h4
    have h5 : c b a < 0 := by have := h.anti a b; omega
    have hn' : (a :: l).length + m.length ≤ n := by simp only [List.length_cons]; omega
    refine zg1 (ze2 h f hn' hl h2.2) fun z hz => ?_
    rcases ((zc6 h f hn' hl h2.2).1 hz).or with e | e
    ·rcases List.mem_cons.1 e with e | e
     ·rw [e]; exact h5
     ·exact h.tr h5 (h1.1 z e)
    ·exact h2.1 z e
   ·have e0 : a = b := h.eq _ _ (by omega)
    have hn' : l.length + m.length ≤ n := by omega
    refine zg1 (ze2 h f hn' h1.2 h2.2) fun z hz => ?_
    rcases ((zc6 h f hn' h1.2 h2.2).1 hz).or with e | e
    ·exact h1.1 z e
    ·rw [e0]; exact h2.1 z e
variable [DecidableEq α]
def zgg (c : α → α → Int) : List α → List α → List α
 | out, [] => out
 | out, t :: r => zgg c (if t ∈ out then out else zhr c t out) r
theorem zfl (h : Ord3 c) : ∀ {l out : List α}, Sst c out → Sst c (zgg c out l)
 | [], _, hs => hs
 | t :: r, out, hs => by
  simp only [zgg]
  refine zfl h ?_
  split
  ·exact hs
  ·rename_i ht; exact ze3 h hs ht
theorem zfp {z : α} : ∀ {l out : List α}, z ∈ zgg c out l ↔ z ∈ out ∨ z ∈ l
 | [], _ => by simp [zgg]
 | t :: r, out => by
  simp only [zgg]
  rw [zfp]
  split
  ·rename_i ht
   constructor
   ·rintro (e | e)
    ·exact .inl e
    ·exact .inr (List.mem_cons_of_mem _ e)
   ·rintro (e | e)
    ·exact .inl e
    ·rcases List.mem_cons.1 e with rfl | e
     ·exact .inl ht
     ·exact .inr e
  ·rw [zdi, List.mem_cons]
   constructor
   ·rintro ((e | e) | e)
    ·exact .inr (.inl e)
    ·exact .inl e
    ·exact .inr (.inr e)
   ·rintro (e | e | e)
    ·exact .inl (.inr e)
    ·exact .inl (.inl e)
    ·exact .inr e
theorem zfm : ∀ (l out : List α), (zgg c out l).length ≤ out.length + l.length
 | [], _ => Nat.le_refl _
 | t :: r, out => by
  have := zfm r (if t ∈ out then out else zhr c t out)
  simp only [zgg]
  refine Nat.le_trans this ?_
  split
  ·simp only [List.length_cons]; omega
  ·rw [zcf]; simp only [List.length_cons]; omega
end
end Go.V
set_option maxRecDepth 20000
namespace Go.V
open Go.RowKit
def zsL (P : Program) (e : TypeId) (k : Nat) : List Value := match P.info? e with
 | some i => match i.zero with
  | some z => (madeCells z.cells k).toList
  | none => []
 | none => []
theorem zkx {P : Program} {e : TypeId} {s by_ k : Nat} (h : elI P e = some (s, by_)) : (zsL P e k).length = k := by
 obtain ⟨i, z, hi, hz, _, _, _, _⟩ := zb7 h
 unfold zsL
 rw [hi]; dsimp only; rw [hz]
 simp [size_madeCells]
def SlE (e : TypeId) (s n : Nat) (xs : List Value) : Res where
 P x _ u C := xs.length = n * s ∧ ((n = 0 ∧ x = .slice none 0 0 ∧ ∀ k, ¬ C k) ∨ ∃ b, x = .slice (some ⟨b, 0, none⟩) n n ∧ u.heap[b]? = some (.cells xs.toArray e) ∧ n ≤ maxLen ∧ ∀ k, C k ↔ k = b)
 st := fun ⟨hl, h⟩ _ _ _ hk => ⟨hl, by
  rcases h with h | ⟨b, h1, h2, h3, h4⟩
  ·exact .inl h
  ·exact .inr ⟨b, h1, (hk b ((h4 b).2 rfl)).trans h2, h3, h4⟩⟩
section
variable {P : Program} {F : Fr} {B : Heap} {O : Boxes} {n : Nat} {ops : Array Oper} {κ : Kap} {d : Nat} {ty : TypeId} {pos : String} {aft : Array Edge} {g : Option (Nat × Bool)} {a : Act} {u : World} {H : Heap} {fp : Nat → Nat → Prop} {os : List Oper} {Q : Exit → Act → World → Prop} {ex : Exs}
theorem zw0 (L : Tabs P) {t e : TypeId} {x y : Operand} {kl kc : IntKind} {s by_ : Nat} (c : Nat) {p q : Int} (hn : Nat.blt d n = true) (hg : gK ops κ ⟨some d, .makeSlice t x y, ty, pos, aft, g⟩ = some true) (ht : L.sl t = some e) (he : elI P e = some (s, by_))
  (hx : evK κ x = some (.int kl q)) (hy : evK κ y = some (.int kc p)) (hq : q = c) (hp : p = c) (hb : by_ * c ≤ 281474976710656) (hc : c ≤ maxLen) : StepOK P F B n ops O κ ⟨some d, .makeSlice t x y, ty, pos, aft, g⟩ d (.own (SlE e s c (zsL P e (c * s)))) := by
 rintro κ' a u hl ⟨H, fp, hh⟩
 unfold After
 rw [if_pos (zaf hh hl hg)]
 have en := hh.env hl
 have hzl := zkx (k := c * s) he
 obtain ⟨i, z, hi, hz, hs1, hs2, hs3, hs4⟩ := zb7 he
 have h1 := en.is_ x _ (by simp [Op.operands]) hx
 have h2 := en.is_ y _ (by simp [Op.operands]) hy
 subst hp
 subst hq
 have hb' : (i.bytes : Int) * (c : Int) ≤ 281474976710656 := by
  have h : ((by_ * c : Nat) : Int) ≤ 281474976710656 := by omega
  rw [hs2]; rwa [Int.natCast_mul] at h
 have h63 : (c : Int) ≤ 9223372036854775807 := by simp [maxLen] at hc; omega
 have hr := run_make (P := P) u t e i z (Tabs.sl_spec ht) hi hz kl kc c c (by omega) (by omega) hb' h63
 simp only [Int.toNat_natCast] at hr
 have hrun : (execOp a.eval ⟨some d, .makeSlice t x y, ty, pos, aft, g⟩).run P u = .ok (.value (.slice (some ⟨u.heap.size, 0, none⟩) c c)) (u.alloc (.cells (madeCells z.cells (c * i.size)) e)) := by
  simp only [execOp, h1, h2, Sem.run_bind, hr, Result.andThen_ok]; rfl
 rw [hrun]
 simp only [Upon]
 have hzs : zsL P e (c * s) = (madeCells z.cells (c * i.size)).toList := by
  unfold zsL
  rw [hi]; dsimp only; rw [hz, hs1]
 have hg2 := hh.grow (Grow.hid hh.sub (.cells (madeCells z.cells (c * i.size)) e))
 refine ⟨H, _, hg2.putR (C := fun k => k = u.heap.size) (by simp [Act.put]) rfl (fun t ht => zal ht) ⟨hzl, .inr ⟨u.heap.size, zan (by rw [hh.size]; exact zk hn), by rw [zao, hzs], hc, fun _ => Iff.rfl⟩⟩ (fun k hk => ?_) fun t r' _ ht k hf hk => ?_⟩
 ·subst hk
  exact ⟨zag (zao u _), zbf hh.sub (Nat.le_refl _), .inl hh.keep.size, fun y hy e => by have := zag (hh.boxes y hy).1; omega⟩
 ·have := ((hh.slot t _ ht).2 k hf).1
  omega
theorem Has.boxE {t : Nat} {e : TypeId} {s m : Nat} {xs : List Value} (hm : 0 < m) (hk : κ t = some (.own (SlE e s m xs))) (h : Has F B O n κ a u) :
  ∃ b, (xs.length = m * s ∧ m ≤ maxLen) ∧ Has F B (bx b xs e :: O) n (upd κ t (.is (.slice (some ⟨b, 0, none⟩) m m))) a u := by
 obtain ⟨H, fp, h⟩ := h
 obtain ⟨⟨hl, hv⟩, hM⟩ := h.slot t _ hk
 rcases hv with ⟨h0, _, _⟩ | ⟨b, hv, hb, h4, hC⟩
 ·omega
 ·have := h.toBox hk hb ((hC b).2 rfl)
  rw [hv] at this
  exact ⟨b, ⟨hl, h4⟩, H, fp, this⟩
theorem Has.unboxE {t b m : Nat} {e : TypeId} {s : Nat} {xs : List Value} {O1 O2 : Boxes} (hO : O = O1 ++ bx b xs e :: O2) (hd : F.ds = []) (hk : κ t = some (.is (.slice (some ⟨b, 0, none⟩) m m))) (hl : xs.length = m * s) (h4 : m ≤ maxLen)
  (h : Has F B O n κ a u) : Has F B (O1 ++ O2) n (upd κ t (.own (SlE e s m xs))) a u := by
 obtain ⟨H, fp, h⟩ := h
 subst hO
 have hb := (h.boxes (bx b xs e) (by simp)).1
 exact ⟨H, _, h.ofBox (by rw [hd]; simp) ⟨hl, .inr ⟨b, h.slot t _ hk, hb, h4, fun _ => Iff.rfl⟩⟩⟩
theorem z3l (t : Nat) {e : TypeId} {s m : Nat} {xs : List Value} {c : Code} (hm : 0 < m) (hk : κ t = some (.own (SlE e s m xs)))
  (h : ∀ b, (xs.length = m * s ∧ m ≤ maxLen) → V P F B n (bx b xs e :: O) (upd κ t (.is (.slice (some ⟨b, 0, none⟩) m m))) c Q) : V P F B n O κ c Q := fun a u hh =>
 let ⟨b, h1, h'⟩ := hh.boxE hm hk; h b h1 a u h'
theorem zyc (t : Nat) {b m : Nat} {e : TypeId} {s : Nat} {xs : List Value} (O1 : Boxes) {O2 : Boxes} {c : Code} (hO : O = O1 ++ bx b xs e :: O2) (hk : κ t = some (.is (.slice (some ⟨b, 0, none⟩) m m))) (hl : xs.length = m * s) (h4 : m ≤ maxLen)
  (h : V P F B n (O1 ++ O2) (upd κ t (.own (SlE e s m xs))) c Q) (hd : F.ds = [] := by rfl) : V P F B n O κ c Q := fun a u hh => h a u (hh.unboxE hO hd hk hl h4)
theorem z1r {α : Type} {f : α → List Value} {s : Nat} (hf : ∀ a, (f a).length = s) (l : List α) (k m : Nat) (zs : List Value) (y : α) (hl : l.length = k) (hz : zs.length = (m - k) * s) (hk : k < m) :
  (l.flatMap f ++ zs).take (k * s) ++ (f y ++ (l.flatMap f ++ zs).drop (k * s + s)) = (l ++ [y]).flatMap f ++ zs.drop s := by
 have h1 : (l.flatMap f).length = k * s := by
  subst hl
  clear hz hk
  induction l with
  | nil => simp
  | cons x l ih => rw [List.flatMap_cons, List.length_append, hf, ih, List.length_cons, Nat.add_mul, Nat.one_mul]; omega
 have h2 : s ≤ zs.length := by rw [hz]; exact Nat.le_mul_of_pos_left _ (by omega)
 rw [← h1, List.take_left', List.drop_append]
 ·rw [List.drop_eq_nil_of_le (by omega), List.nil_append, show (l.flatMap f).length + s - (l.flatMap f).length = s by omega, List.flatMap_append]
  simp
 ·rfl
def z42 (w : World) (r : Res) (v : Value) (H : Heap) (u : World) : Prop := ∃ C : Nat → Prop, r.P v H u C ∧ ∀ k, C k → w.heap.size ≤ k ∧ k < u.heap.size ∧ H k = none
def RetO (P : Program) (f : FuncId) (args : List Value) (w : World) (B : Heap) (r : Res) : Prop := RetL P f args w B noL (z42 w r)
theorem zei (L : Tabs P) {o : Oper} {d f : Nat} {args : Array Operand} {at_ : Array TypeId} {cap : List Value} {r : Res} {fo : Operand}
  (hop : o.op = .call { callee := .value fo, args := args, argTypes := at_ }) (hd : o.dst = some d) (hn : d < n) (hg : gK ops κ o = some true)
  (hf : evK κ fo = some (.func (.func f) #[] cap.toArray)) (hfn : L.fn f = some ())
  (h : ∀ u H, H.Le (hp u) → B.Le H → Below F.w0.heap.size F.w0 F.w0 → Args κ H args.toList [] (fun vs => RetO P f (vs ++ cap) u H r)) :
  StepOK P F B n ops O κ o d (.own r) := by
 rintro κ' a u hl ⟨H, fp, hh⟩
 unfold After
 rw [if_pos (zaf hh hl hg)]
 have e := hh.env hl
 have hfe : a.eval fo = .func (.func f) #[] cap.toArray := e.is_ fo _ (by simp [hop, Op.operands, Call.operands]) hf
 have hc := Args.use e args.toList [] (fun x hx => by simp [hop, Op.operands, Call.operands] at hx ⊢; exact .inr hx) (h u H e.sub e.base (Below.refl _ _))
 simp only [List.reverse_nil, List.nil_append] at hc
 rw [zc2 L hop hfe hfn]
 simp only [Upon]
 refine Calls.mono hc fun e' u' hp => ?_
 obtain ⟨v, rfl, H', g', C, hv, hC⟩ := hp
 have h2 := hh.grow g'
 refine ⟨v, rfl, ?_⟩
 simp only [hd]
 refine ⟨H', _, h2.putR (C := C) (by simp [Act.put]) rfl (fun t ht => zal ht) (by rw [zan (by rw [hh.size]; exact hn)]; exact hv) (fun k hk => ?_) fun t r' _ ht k hf hk => ?_⟩
 ·obtain ⟨h3, h4, h5⟩ := hC k hk
  exact ⟨h4, h5, .inl (Nat.le_trans hh.keep.size h3), fun y hy e => by have := zag (hh.boxes y hy).1; omega⟩
 ·have h3 := (hC k hk).1
  have := ((hh.slot t _ ht).2 k hf).1
  omega
theorem zik {fn : Func} {B0 : Heap} {t : Nat} {r : Res} (hrs : fn.results = #[.tmp t]) (hQ : ∀ a u, bodyPostM Fence.wide 0 P fn (zga F.w0 B0 F.L (z42 F.w0 r)) .ret a u → Q .ret a u) (hs : Since F B0 B) (hk : κ t = some (.own r)) (hL : F.L = noL := by rfl) : V P F B n O κ .ret Q :=
 zrf hQ hs fun O' a u H fp _ hh => by
  obtain ⟨hown, hM⟩ := hh.slot t _ hk
  refine ⟨a.eval (.tmp t), ?_, fp t, hown, fun k hk => ?_⟩
  ·simp [results, hrs, Act.eval]
  ·obtain ⟨h1, h2, h3, _⟩ := hM k hk
   refine ⟨?_, h1, h2⟩
   rcases h3 with h3 | h3
   ·exact h3
   ·have h3' : F.L k := h3
    rw [hL] at h3'; exact h3'.elim
open Classical in
noncomputable def joinH (H : Heap) (u : World) (C : Nat → Prop) : Heap := fun k => if C k then hp u k else H k
theorem zhc {H : Heap} {u : World} {C : Nat → Prop} {k : Nat} (h : C k) : joinH H u C k = hp u k := if_pos h
theorem zea {H : Heap} {u : World} {C : Nat → Prop} {k : Nat} (h : ¬ C k) : joinH H u C k = H k := if_neg h
theorem zhb {H : Heap} {u : World} {C : Nat → Prop} (h : H.Le (hp u)) : (joinH H u C).Le (hp u) := fun k v hv => by
 by_cases hc : C k
 ·rwa [zhc hc] at hv
 ·rw [zea hc] at hv; exact h _ _ hv
theorem zmm {H : Heap} {u : World} {C : Nat → Prop} (h : ∀ k, C k → H k = none) : H.Le (joinH H u C) := fun k v hv => by
 by_cases hc : C k
 ·rw [h k hc] at hv; cases hv
 ·rwa [zea hc]
def z44 (r : Res) (φ : Value → Heap → Prop) : Prop := ∀ x H u C, r.P x H u C → φ x (joinH H u C)
theorem zmi {e : TypeId} {s m : Nat} {xs : List Value} : z44 (SlE e s m xs) (SlV e s xs m true) := fun x H u C ⟨hl, h⟩ => ⟨hl, by
 rcases h with ⟨h0, hv, _⟩ | ⟨b, hv, hb, h3, hC⟩
 ·exact .inl ⟨h0, _, hv⟩
 ·exact .inr ⟨b, 0, m, _, _, _, hv, (zhc ((hC b).2 rfl)).trans hb, by simp, Nat.le_refl _, fun _ => rfl⟩⟩
def zyw (q : Nat) (l : List Operand) : Bool := l.any fun x => match x with | .tmp t => Nat.beq t q | _ => false
theorem RetO.toRet {P : Program} {f : FuncId} {args : List Value} {w : World} {B : Heap} {r : Res} {φ : Value → Heap → Prop} (h : RetO P f args w B r) (hl : z44 r φ) : Ret P f args w B φ :=
 Calls.mono h fun _ u ⟨v, he, H, g, C, h1, h2⟩ => ⟨v, he, joinH H u C, ⟨g.keep, zhb g.sub, fun k x hx => zmm (fun k hk => (h2 k hk).2.2) _ _ (g.le _ _ hx), fun k hk hn => (zea fun hc => by have := (h2 k hc).1; omega).trans (g.fresh k hk hn)⟩, hl _ _ _ _ h1⟩
theorem zek {f : FuncId} {fn : Func} {c : Code} {args : List Value} {w : World} {B : Heap} {r : Res} (hf : P.funcs[f]? = some fn) (hb : fn.body = some c) (hn : fn.ntmps = n)
  (hs : args.length ≤ n) (hB : B.Le (hp w)) (h : V P (Fr.pure w) B n [] (zku 0 args) c (bodyPostM Fence.wide 0 P fn (zga w B noL (z42 w r)))) : RetO P f args w B r :=
 zf7 hf hb (h _ w ⟨B, fun _ => noL, by subst hn; exact zhd noL (fun _ h => h.elim) hs hB _⟩)
end
end Go.V
set_option maxRecDepth 20000
namespace Go.V
open Go.RowKit
def zaj (b : Nat) (cs : List Value) (ty : TypeId) : Res where
 P _ _ u C := u.heap[b]? = some (.cells cs.toArray ty) ∧ ∀ k, C k ↔ k = b
 st := fun ⟨h1, h2⟩ _ _ _ hk => ⟨(hk b ((h2 b).2 rfl)).trans h1, h2⟩
section
variable {P : Program} {F : Fr} {B : Heap} {O : Boxes} {n : Nat} {ops : Array Oper} {κ : Kap} {d : Nat} {ty : TypeId} {pos : String} {aft : Array Edge} {g : Option (Nat × Bool)} {a : Act} {u : World} {H : Heap} {fp : Nat → Nat → Prop} {os : List Oper} {Q : Exit → Act → World → Prop} {ex : Exs}
theorem Has.hold {t q : Nat} {cs : List Value} {ty : TypeId} (hk : κ t = some (.own (Cell cs ty))) (h : Has F B O n κ a u) : ∃ b, Has F B O n (upd (upd (upd κ t zed) q (.own (zaj b cs ty))) t (.is (.pointer (some ⟨b, 0, none⟩)))) a u := by
 obtain ⟨H, fp, h⟩ := h
 obtain ⟨⟨b, hv, hb, hC⟩, hM⟩ := h.slot t _ hk
 have h2 := h.usePut (d := q) (a' := a) (r' := zaj b cs ty) (C := fp t) hk ⟨Keep.refl _ _, h.sub, Heap.Le.refl _, fun _ _ _ => rfl⟩ rfl rfl (fun _ _ => rfl) ⟨hb, hC⟩ fun k hk => ⟨.inl hk, (hM k hk).1, (hM k hk).2.1⟩
 have h3 := h2.name t
 rw [hv] at h3
 exact ⟨b, H, _, h3⟩
theorem zri (t q : Nat) {cs : List Value} {ty : TypeId} {c : Code} (hk : κ t = some (.own (Cell cs ty))) (h : ∀ b, V P F B n O (upd (upd (upd κ t zed) q (.own (zaj b cs ty))) t (.is (.pointer (some ⟨b, 0, none⟩)))) c Q) : V P F B n O κ c Q := fun a u hh => let ⟨b, h'⟩ := hh.hold (q := q) hk; h b a u h'
def zdr (P : Program) (F : Fr) (B : Heap) (n : Nat) (ops : Array Oper) (O : Boxes) (κ : Kap) (o : Oper) (q d : Nat) (k : Kn) : Prop :=
 ∀ κ' a u, (∀ t ∈ o.looksAt ops, κ' t = κ t) → κ' q = κ q → Has F B O n κ' a u → After P ops o (fun a' u' => Has F B O n (upd κ' d k) a' u') a u
theorem yx {o : Oper} {q d : Nat} {k : Kn} (hs : zdr P F B n ops O κ o q d k) (h : VO P F B n O ops (upd κ d k) os Q) : VO P F B n O ops κ (o :: os) Q :=
 fun a u hh => After.mono (fun a' u' hh' => h a' u' hh') (hs κ a u (fun _ _ => rfl) rfl hh)
theorem qv {o : Oper} {q d : Nat} {k : Kn} (hs : zdr P F B n ops O κ o q d k) (hd : vd o = some d) (he : (exR ex o).contains q = true) (h : Par P F B n O ops ex (upd κ d k) os Q) : Par P F B n O ops ex κ (o :: os) Q := by
 have hm : q ∈ exR ex o := by simpa using he
 refine ⟨[(d, k)], fun p hp => ?_, fun κ' a u hl hh => hs κ' a u (fun t ht => hl t (List.mem_append_left _ ht)) (hl q (List.mem_append_right _ (List.mem_append_right _ hm))) hh, h⟩
 simp only [List.mem_cons, List.mem_nil_iff, or_false] at hp
 subst hp
 exact List.mem_append_left _ (by simp [hd])
def zfx (P : Program) (F : Fr) (B : Heap) (n : Nat) (ops : Array Oper) (O : Boxes) (κ : Kap) (o : Oper) (q : Nat) (k : Kn) : Prop :=
 ∀ κ' a u, (∀ t ∈ o.looksAt ops, κ' t = κ t) → κ' q = κ q → Has F B O n κ' a u → After P ops o (fun a' u' => Has F B O n (upd κ' q k) a' u') a u
theorem zcz {o : Oper} {q : Nat} {k : Kn} (hs : zfx P F B n ops O κ o q k) (h : VO P F B n O ops (upd κ q k) os Q) : VO P F B n O ops κ (o :: os) Q :=
 fun a u hh => After.mono (fun a' u' hh' => h a' u' hh') (hs κ a u (fun _ _ => rfl) rfl hh)
theorem x5 {o : Oper} {q : Nat} {k : Kn} (hs : zfx P F B n ops O κ o q k) (he : (exO ex o).contains q = true) (h : Par P F B n O ops ex (upd κ q k) os Q) : Par P F B n O ops ex κ (o :: os) Q := by
 have hm : q ∈ exO ex o := by simpa using he
 refine ⟨[(q, k)], fun p hp => ?_, fun κ' a u hl hh => hs κ' a u (fun t ht => hl t (List.mem_append_left _ ht)) (hl q (List.mem_append_right _ (List.mem_append_left _ hm))) hh, h⟩
 simp only [List.mem_cons, List.mem_nil_iff, or_false] at hp
 subst hp
 exact List.mem_append_right _ hm
theorem zbe (L : Tabs P) (q : Nat) {r : Res} {Φ : Heap → Prop} {o : Oper} {d f : Nat} {args : Array Operand} {at_ : Array TypeId} {cap : List Value} {c : Value} {fo : Operand}
  (hop : o.op = .call { callee := .value fo, args := args, argTypes := at_ }) (hd : o.dst = some d) (hn : d < n) (hg : gK ops κ o = some true)
  (hf : evK κ fo = some (.func (.func f) #[] cap.toArray)) (hfn : L.fn f = some ()) (hq : κ q = some (.own r)) (hm : zyw q o.op.operands.toList = false) (hl : ∀ v H u C, r.P v H u C → Φ (joinH H u C))
  (h : ∀ u H, H.Le (hp u) → B.Le H → Φ H → Args κ H args.toList [] (fun vs => Ret P f (vs ++ cap) u H (fun v _ => v = c))) :
  zdr P F B n ops O κ o q d (.is c) := by
 rintro κ' a u hlk hqk ⟨H, fp, hh⟩
 unfold After
 rw [if_pos (zaf hh hlk hg)]
 have e := hh.env hlk
 have hfe : a.eval fo = .func (.func f) #[] cap.toArray := e.is_ fo _ (by simp [hop, Op.operands, Call.operands]) hf
 obtain ⟨hown, hM⟩ := hh.slot q _ (hqk.trans hq)
 have hle : H.Le (joinH H u (fp q)) := zmm fun k hk => (hM k hk).2.1
 have hqo : ∀ t, Operand.tmp t ∈ o.op.operands → t ≠ q := fun t ht e => by
  subst e
  have : zyw t o.op.operands.toList = true := List.any_eq_true.2 ⟨Operand.tmp t, by simpa using ht, Nat.beq_refl t⟩
  rw [this] at hm; cases hm
 have e1 : Env F B O κ o a u (joinH H u (fp q)) fp := by
  refine ⟨e.is_, fun t ψ ht hk => ?_, fun t r' ht hk => ?_, zhb hh.sub, fun k v hv => hle _ _ (hh.base _ _ hv), fun y hy => ?_, hh.keep⟩
  ·have hk' : κ' t = some (.sat ψ) := (hlk t (zdj ht)).trans hk
   exact hh.mono t _ hk' _ _ _ (e.sat_ t ψ ht hk) hle
  ·obtain ⟨h1, h2⟩ := e.own_ t r' ht hk
   have hk' : κ' t = some (.own r') := (hlk t (zdj ht)).trans hk
   refine ⟨r'.st h1 hle (zhb hh.sub) ⟨rfl, rfl, rfl, Nat.le_refl _, Nat.le_refl _⟩ fun _ _ => rfl, fun k hk2 => ?_⟩
   obtain ⟨g1, g2, g3, g4⟩ := h2 k hk2
   exact ⟨g1, (zea (hh.owns t q r' _ (hqo t ht) hk' (hqk.trans hq) k hk2)).trans g2, g3, g4⟩
  ·obtain ⟨h1, h2, h3⟩ := e.boxes y hy
   exact ⟨h1, (zea fun hc => (hM _ hc).2.2.2 y hy rfl).trans h2, h3⟩
 have hc := Args.use e1 args.toList [] (fun x hx => by simp [hop, Op.operands, Call.operands] at hx ⊢; exact .inr hx) (h u (joinH H u (fp q)) e1.sub e1.base (hl _ _ _ _ hown))
 simp only [List.reverse_nil, List.nil_append] at hc
 rw [zc2 L hop hfe hfn]
 simp only [Upon]
 refine Calls.mono hc fun e' u' hp => ?_
 obtain ⟨v, rfl, H', g', hv⟩ := hp
 refine ⟨v, rfl, ?_⟩
 simp only [hd]
 have g2 : Grow noL u H u' H := ⟨g'.keep, fun k x hx => by
  have h1 := hh.sub _ _ hx
  exact (g'.keep.block k (zag h1) fun h => h).trans h1, Heap.Le.refl _, fun _ _ _ => rfl⟩
 exact ⟨H, fp, (hh.grow g2).put (k := .is c) hn trivial hv⟩
theorem zam (L : Tabs P) {x : Operand} {q b : Nat} {t t' : TypeId} {s off : Nat} {cs vs : List Value} (hx : evK κ x = some (.pointer (some ⟨b, off, none⟩))) (hq : κ q = some (.own (zaj b cs t'))) (hn : Nat.blt d n = true) (hg : gK ops κ ⟨some d, .load t x, ty, pos, aft, g⟩ = some true)
  (hl : L.ld t = some (true, s)) (hlen : vs.length = s) (hc : ∃ r, cs.drop off = vs ++ r) : zdr P F B n ops O κ ⟨some d, .load t x, ty, pos, aft, g⟩ q d (.is (.agg vs.toArray)) := by
 rintro κ' a u hlk hqk ⟨H, fp, hh⟩
 unfold After
 rw [if_pos (zaf hh hlk hg)]
 have e := hh.env hlk
 have h1 := e.is_ x _ (by simp [Op.operands]) hx
 obtain ⟨⟨h2, hC⟩, hM⟩ := hh.slot q _ (hqk.trans hq)
 obtain ⟨r, hc⟩ := hc
 have hrun : (execOp a.eval ⟨some d, .load t x, ty, pos, aft, g⟩).run P u = .ok (.value (.agg vs.toArray)) u := by
  simp only [execOp, h1, Instr.loadAt, Instr.sureAddr, Sem.run_bind, Sem.run_pure, Result.andThen_ok]
  rw [zbx (Tabs.ld_spec hl) u _ vs hlen (fun j v hj => by
   have h3 : cs[off + j]? = some v := by
    have := congrArg (·[j]?) hc
    simp only [List.getElem?_drop] at this
    rw [this, List.getElem?_append_left (by
     rcases Nat.lt_or_ge j vs.length with h | h
     ·exact h
     ·rw [List.getElem?_eq_none h] at hj; cases hj)]
    exact hj
   show u.cell? (Addr.add ⟨b, off, none⟩ j) = some v
   have : Addr.add ⟨b, off, none⟩ j = ⟨b, off + j, none⟩ := by simp [Addr.add]
   rw [this, za2 h2]; simpa using h3)]
  rfl
 rw [hrun]
 simp only [Upon]
 exact ⟨H, fp, hh.put (k := .is (.agg vs.toArray)) (zk hn) trivial rfl⟩
theorem qu (L : Tabs P) {x : Operand} {q b : Nat} {t t' : TypeId} {s off : Nat} {cs r : List Value} {v : Value} (hx : evK κ x = some (.pointer (some ⟨b, off, none⟩))) (hq : κ q = some (.own (zaj b cs t'))) (hn : Nat.blt d n = true) (hg : gK ops κ ⟨some d, .load t x, ty, pos, aft, g⟩ = some true)
  (hl : L.ld t = some (false, s)) (hc : cs.drop off = v :: r) : zdr P F B n ops O κ ⟨some d, .load t x, ty, pos, aft, g⟩ q d (.is v) := by
 rintro κ' a u hlk hqk ⟨H, fp, hh⟩
 unfold After
 rw [if_pos (zaf hh hlk hg)]
 have e := hh.env hlk
 have h1 := e.is_ x _ (by simp [Op.operands]) hx
 obtain ⟨⟨h2, hC⟩, hM⟩ := hh.slot q _ (hqk.trans hq)
 have h3 : cs[off]? = some v := by
  have := congrArg (·[0]?) hc
  simpa using this
 have hrun : (execOp a.eval ⟨some d, .load t x, ty, pos, aft, g⟩).run P u = .ok (.value v) u := by
  simp only [execOp, h1, Instr.loadAt, Instr.sureAddr, Sem.run_bind, Sem.run_pure, Result.andThen_ok]
  rw [zc0 (Tabs.ld_spec hl) u _ v (by rw [za2 h2]; simpa using h3)]
  rfl
 rw [hrun]
 simp only [Upon]
 exact ⟨H, fp, hh.put (k := .is v) (zk hn) trivial rfl⟩
theorem yy (L : Tabs P) {t t' : TypeId} {ag : Bool} {z b off q : Nat} {p x : Operand} {v : Value} {cs cs' : List Value} (hg : gK ops κ ⟨none, .store t p x, ty, pos, aft, g⟩ = some true) (hp : evK κ p = some (.pointer (some ⟨b, off, none⟩))) (hq : κ q = some (.own (zaj b cs t'))) (hx : evK κ x = some v)
  (hl : L.ld t = some (ag, z)) (hlen : (zau v).length = z) (hcs : Nat.ble (off + z) cs.length = true) (hpl : (zau v).all zbo = true) (hr : cs.take off ++ (zau v ++ cs.drop (off + z)) = cs') :
  zfx P F B n ops O κ ⟨none, .store t p x, ty, pos, aft, g⟩ q (.own (zaj b cs' t')) := by
 rintro κ' a u hlk hqk ⟨H, fp, hh⟩
 subst hr
 unfold After
 rw [if_pos (zaf hh hlk hg)]
 have e := hh.env hlk
 have hev := e.is_ x v (by simp [Op.operands]) hx
 have hes := e.is_ p _ (by simp [Op.operands]) hp
 have hqs := hqk.trans hq
 obtain ⟨⟨hb, hC⟩, hM⟩ := hh.slot q _ hqs
 have hrun : (execOp a.eval ⟨none, .store t p x, ty, pos, aft, g⟩).run P u = .ok .skip (u.setRow b (cs.take off ++ (zau v ++ cs.drop (off + z))).toArray) := by
  simp only [execOp, hes, hev, Instr.storeAt, Instr.sureAddr, Sem.run_bind, Sem.run_pure, Result.andThen_ok]
  have := zbw (P := P) (off := off) (Tabs.ld_spec hl) hb hlen (Nat.le_of_ble_eq_true hcs) hpl
  rw [this]
  simp
 rw [hrun]
 simp only [Upon, Act.put]
 have hset := setRow_heap u b cs.toArray (cs.take off ++ (zau v ++ cs.drop (off + z))).toArray t' (0, 0) hb
 have hbm := hM b ((hC b).2 rfl)
 have := hh.usePut (d := q) (a' := a) (r' := zaj b (cs.take off ++ (zau v ++ cs.drop (off + z))) t') (C := fun k => k = b) hqs (zbh hh.sub hb ((hC b).2 rfl) hbm.2.1 _) rfl rfl (fun _ _ => rfl) ⟨hset, fun _ => Iff.rfl⟩ (fun k hk => by
  subst hk; exact ⟨.inl ((hC k).2 rfl), by rw [setRow_size]; exact hbm.1, hbm.2.1⟩)
 rw [zbc] at this
 exact ⟨H, _, this⟩
def z3t (b : Nat) (ty : TypeId) (Φ : List Value → Heap → Prop) (hΦ : zho Φ) : Res := ExR (fun cs => zaj b cs ty) Φ hΦ
def StP (Φ : List Value → Heap → Prop) (φ : Value → Heap → Prop) (off z : Nat) : List Value → Heap → Prop := fun cs' H => ∃ cs v, Φ cs H ∧ φ v H ∧ cs' = cs.take off ++ (zau v ++ cs.drop (off + z))
theorem StP.mono {Φ : List Value → Heap → Prop} {φ : Value → Heap → Prop} {off z : Nat} (h1 : zho Φ) (h2 : Kn.mono (.sat φ)) : zho (StP Φ φ off z) := fun _ _ _ ⟨cs, v, a1, a2, a3⟩ hle => ⟨cs, v, h1 _ _ _ a1 hle, h2 _ _ _ a2 hle, a3⟩
theorem zck (L : Tabs P) {t e : TypeId} {x y : Operand} {s by_ m : Nat} {news : List Value} (hn : Nat.blt d n = true) (hg : gK ops κ ⟨some d, .call ⟨.builtin .append, #[x, y], #[t, t]⟩, ty, pos, aft, g⟩ = some true)
  (hx : evK κ x = some (.slice none 0 0)) (hy : Apd F B O κ y m news) (ht : L.sl t = some e) (he : elI P e = some (s, by_)) (hl : news.length = m * s) (h1 : news.all zbo = true) (hb : m * by_ ≤ 140737488355328) (h63 : m ≤ 9223372036854775807) :
  StepOK P F B n ops O κ ⟨some d, .call ⟨.builtin .append, #[x, y], #[t, t]⟩, ty, pos, aft, g⟩ d (.own (SlR e s m news)) := by
 rintro κ' a u hlk ⟨H, fp, hh⟩
 unfold After
 rw [if_pos (zaf hh hlk hg)]
 have en := hh.env hlk
 obtain ⟨i, z, hi, hz, hs1, hs2, hs3, hs4⟩ := zb7 he
 have hxe := en.is_ x _ (by simp [Op.operands, Call.operands]) hx
 obtain ⟨x', u', C', hr, hown', hgr, hC'⟩ := zkn (C := noL) (xs := []) (nn := 0) (x := .slice none 0 0) u (aty := ty) (Tabs.sl_spec ht) hi hz hs1 hs2 hs3 hs4 hh.sub ⟨by simp, .inl ⟨rfl, rfl, fun _ h => h⟩⟩ (fun k hk => hk.elim) (hy _ a u H fp (by simp [Op.operands, Call.operands]) en) hl (fun v hv => zc3 (List.all_eq_true.1 h1 v hv)) (by omega) (by rw [Nat.zero_add]; exact hb)
 rw [Nat.zero_add, List.nil_append] at hown'
 have hrun : (execOp a.eval ⟨some d, .call ⟨.builtin .append, #[x, y], #[t, t]⟩, ty, pos, aft, g⟩).run P u = .ok (.value x') u' := by
  simp only [execOp, resolve, invoke, builtin, Sem.run_bind, Sem.run_pure, Result.andThen_ok, List.map_toArray, List.map_cons, List.map_nil, hxe, hr]
 rw [hrun]
 simp only [Upon]
 have h2 := hh.grow hgr
 refine ⟨H, _, h2.putR (C := C') (by simp [Act.put]) rfl (fun t ht => zal ht) (by rw [zan (by rw [hh.size]; exact zk hn)]; exact hown') (fun k hk => ?_) fun t r' _ ht k hf hk => ?_⟩
 ·obtain ⟨h3, h4, h5⟩ := hC' k hk
  have h3' : u.heap.size ≤ k := h3.resolve_left fun h => h
  exact ⟨h4, h5, .inl (Nat.le_trans hh.keep.size h3'), fun y hy e => by have := zag (hh.boxes y hy).1; omega⟩
 ·have h3' : u.heap.size ≤ k := (hC' k hk).1.resolve_left fun h => h
  have := ((hh.slot t _ ht).2 k hf).1
  omega
end
end Go.V
set_option maxRecDepth 20000
namespace Go.V
open Go.Proofs Go.RowKit
section
variable {α : Type} [Inhabited α] {enc : α → List Value} {k : Nat}
end
section
variable {P : Program} {F : Fr} {B : Heap} {O : Boxes} {n : Nat} {ops : Array Oper} {κ : Kap} {ty : TypeId} {pos : String} {aft : Array Edge} {g : Option (Nat × Bool)}
end
end Go.V
set_option maxRecDepth 20000
namespace Go.V
open Go.Proofs Go.RowKit
section
variable {α : Type} [DecidableEq α]
def dd : List α → List α
 | [] => []
 | [x] => [x]
 | x :: y :: l => if x = y then dd (y :: l) else x :: dd (y :: l)
variable {c : α → α → Int}
end
theorem zec {α : Type} {l : List α} {i : Nat} {a : α} (h : l[i]? = some a) : l[i]'(get_lt h) = a := by
 have h1 := h
 rw [List.getElem?_eq_getElem (get_lt h)] at h1
 exact Option.some.inj h1
section
variable {α : Type} {c : α → α → Int}
def zgk (c : α → α → Int) (t : α) (l : List α) : Nat := (l.takeWhile fun x => decide (c x t < 0)).length
theorem zt1 (t : α) : ∀ (l : List α), zgk c t l ≤ l.length
 | [] => Nat.le_refl _
 | x :: l => by
  have := zt1 t l
  unfold zgk at this ⊢
  rw [List.takeWhile_cons]
  split
  ·simp only [List.length_cons]; omega
  ·simp
theorem zt2 (h : Ord3 c) {t : α} : ∀ {l : List α} {i : Nat}, Sst c l → (∀ (j : Nat) (x : α), j < i → l[j]? = some x → c x t < 0) → (∀ (j : Nat) (x : α), i ≤ j → l[j]? = some x → ¬ c x t < 0) → i ≤ l.length → zgk c t l = i
 | [], i, _, _, _, hi => by simp at hi; subst hi; rfl
 | x :: l, 0, _, _, h2, _ => by
  unfold zgk
  rw [List.takeWhile_cons, if_neg (by simpa using h2 0 x (Nat.le_refl _) rfl)]
  rfl
 | x :: l, i + 1, hs, h1, h2, hi => by
  have ih := zt2 h (t := t) (l := l) (i := i) (List.pairwise_cons.1 hs).2 (fun j y hj hy => h1 (j + 1) y (by omega) (by simpa using hy)) (fun j y hj hy => h2 (j + 1) y (by omega) (by simpa using hy)) (by simpa using hi)
  unfold zgk at ih ⊢
  rw [List.takeWhile_cons, if_pos (by simpa using h1 0 x (Nat.succ_pos _) rfl), List.length_cons, ih]
theorem zk1 (h : Ord3 c) {l : List α} (hs : Sst c l) {i j : Nat} {x y t : α} (hi : l[i]? = some x) (hj : l[j]? = some y) (hij : j ≤ i) (hx : c x t < 0) : c y t < 0 := by
 rcases Nat.lt_or_ge j i with hlt | hge
 ·have h1 := List.pairwise_iff_getElem.1 hs j i (get_lt hj) (get_lt hi) hlt
  rw [zec hj, zec hi] at h1
  exact h.tr h1 hx
 ·have : i = j := by omega
  subst this
  rw [hi] at hj; cases hj; exact hx
theorem z2j (h : Ord3 c) {t : α} {l : List α} (hs : Sst c l) {i : Nat} (h1 : ∀ (j : Nat) (x : α), j < i → l[j]? = some x → c x t < 0) {x : α} (hx : l[i]? = some x) (h2 : ∀ (j : Nat) (y : α), i ≤ j → l[j]? = some y → ¬ c y t < 0) : t ∈ l ↔ c x t = 0 := by
 constructor
 ·intro ht
  obtain ⟨j, hj⟩ := List.getElem?_of_mem ht
  rcases Nat.lt_trichotomy j i with hlt | he | hgt
  ·exact absurd (h1 j t hlt hj) (h.irr t)
  ·subst he; rw [hx] at hj; cases hj; exact h.refl t
  ·have h3 := List.pairwise_iff_getElem.1 hs i j (get_lt hx) (get_lt hj) hgt
   rw [zec hj, zec hx] at h3
   exact absurd h3 (h2 i x (Nat.le_refl _) hx)
 ·intro e
  have := h.eq _ _ e
  subst this
  exact List.mem_of_getElem? hx
theorem zpi (h : Ord3 c) {t : α} {l : List α} (h1 : ∀ (j : Nat) (x : α), j < l.length → l[j]? = some x → c x t < 0) : t ∉ l := fun ht => by
 obtain ⟨j, hj⟩ := List.getElem?_of_mem ht
 exact absurd (h1 j t (get_lt hj) hj) (h.irr t)
end
end Go.V
set_option maxRecDepth 20000
namespace Go.V.L10
open Go.Proofs Go.RowKit Go.V
def cP (a b : Int) : Int := if a < b then -1 else if b < a then 1 else 0
theorem zch : Ord3 cP := ⟨fun a => by unfold cP; simp, fun a b h => by unfold cP at h; split at h <;> (try split at h) <;> omega, fun a b => by unfold cP; split <;> (try split) <;> (try split) <;> omega, fun a b d h1 h2 => by
 unfold cP at h1 h2 ⊢
 split at h1 <;> (try split at h1) <;> split at h2 <;> (try split at h2) <;> split <;> (try split) <;> omega⟩
theorem zx3 {a b : Int} : cP a b < 0 ↔ a < b := by unfold cP; split <;> (try split) <;> omega
def zat (L : List Int) : List Int := zgg cP [] L
theorem zay {L : List Int} {z : Int} : z ∈ zat L ↔ z ∈ L := by unfold zat; rw [zfp]; simp
theorem za8 (L : List Int) : Sst cP (zat L) := zfl zch Sst.nil
theorem zdm (L : List Int) : (zat L).length ≤ L.length := by have := zfm (c := cP) L []; simpa [zat] using this
def zak (L : List Int) : List (Int × Int) := (zat L).map fun r => (r, (L.count r : Int))
theorem zc4 (L : List Int) : (zak L).length = (zat L).length := by unfold zak; simp
theorem znr {L : List Int} {i : Nat} {r : Int} (h : (zat L)[i]? = some r) : (zak L)[i]? = some (r, (L.count r : Int)) := by unfold zak; rw [List.getElem?_map, h]; rfl
section
variable {α : Type} {c : α → α → Int}
theorem zod (h : Ord3 c) {t : α} : ∀ {l : List α}, t ∉ l → zhr c t l = l.take (zgk c t l) ++ t :: l.drop (zgk c t l)
 | [], _ => rfl
 | y :: l, hn => by
  have hne : y ≠ t := fun e => hn (e ▸ List.mem_cons_self ..)
  have ih := zod h (l := l) (t := t) fun hm => hn (List.mem_cons_of_mem _ hm)
  unfold zhr zgk
  rw [List.takeWhile_cons]
  by_cases hc : c y t < 0
  ·rw [if_neg (h.asym hc), if_pos (by simpa using hc), List.length_cons, List.take_succ_cons, List.drop_succ_cons, ih]
   rfl
  ·rw [if_pos (h.tri hc hne), if_neg (by simpa using hc)]
   rfl
theorem zl8 (h : Ord3 c) {t : α} : ∀ {l : List α}, Sst c l → t ∈ l → l[zgk c t l]? = some t
 | [], _, hm => (by cases hm)
 | y :: l, hs, hm => by
  unfold zgk
  rw [List.takeWhile_cons]
  have h1 := List.pairwise_cons.1 hs
  by_cases hc : c y t < 0
  ·rcases List.mem_cons.1 hm with e | hm
   ·subst e; exact absurd hc (h.irr _)
   ·rw [if_pos (by simpa using hc), List.length_cons, List.getElem?_cons_succ]
    exact zl8 h h1.2 hm
  ·rw [if_neg (by simpa using hc)]
   rcases List.mem_cons.1 hm with e | hm
   ·subst e; rfl
   ·exact absurd (h1.1 t hm) hc
theorem ztm (h : Ord3 c) {l : List α} (hs : Sst c l) {i j : Nat} {x : α} (hi : l[i]? = some x) (hj : l[j]? = some x) : i = j := by
 have key : ∀ {i j : Nat}, i < j → l[i]? = some x → l[j]? = some x → False := fun {i j} hlt hi hj => by
  have h1 := List.pairwise_iff_getElem.1 hs i j (get_lt hi) (get_lt hj) hlt
  rw [zec hi, zec hj] at h1
  exact h.irr _ h1
 rcases Nat.lt_trichotomy i j with hlt | he | hlt
 ·exact (key hlt hi hj).elim
 ·exact he
 ·exact (key hlt hj hi).elim
theorem map_erase {β : Type} (f : α → β) (l : List α) (i : Nat) : (l.map f).eraseIdx i = (l.eraseIdx i).map f := by
 rw [List.eraseIdx_eq_take_drop_succ, List.eraseIdx_eq_take_drop_succ, List.map_append, List.map_take, List.map_drop]
theorem zok (h : Ord3 c) [BEq α] [LawfulBEq α] {t : α} {l : List α} (hs : Sst c l) (hm : t ∈ l) : l.erase t = l.eraseIdx (zgk c t l) := by
 induction l with
 | nil => cases hm
 | cons y l ih =>
  have h1 := List.pairwise_cons.1 hs
  unfold zgk
  rw [List.takeWhile_cons]
  by_cases hc : c y t < 0
  ·have hne : y ≠ t := h.ne hc
   rcases List.mem_cons.1 hm with e | hm
   ·exact absurd e.symm hne
   ·rw [if_pos (by simpa using hc), List.erase_cons_tail (by simpa using hne), List.length_cons, List.eraseIdx_cons_succ, ih h1.2 hm]
    rfl
  ·rw [if_neg (by simpa using hc)]
   rcases List.mem_cons.1 hm with e | hm
   ·subst e; simp
   ·exact absurd (h1.1 t hm) hc
end
theorem zkt {L : List Int} {r : Int} (h : r ∈ L) : zat (L ++ [r]) = zat L := zel zch (za8 _) (za8 _) fun z => by
 rw [zay, zay, List.mem_append, List.mem_singleton]
 exact ⟨fun h1 => h1.elim id fun e => e ▸ h, .inl⟩
theorem zsn {L : List Int} {r : Int} (h : r ∉ L) : zat (L ++ [r]) = (zat L).take (zgk cP r (zat L)) ++ r :: (zat L).drop (zgk cP r (zat L)) := by
 have hn : r ∉ zat L := fun hm => h (zay.1 hm)
 rw [← zod zch hn]
 exact zel zch (za8 _) (ze3 zch (za8 _) hn) fun z => by
  rw [zay, zdi, zay, List.mem_append, List.mem_singleton, or_comm]
theorem ziq {L : List Int} {r : Int} (h : 1 < L.count r) : zat (L.erase r) = zat L := zel zch (za8 _) (za8 _) fun z => by
 rw [zay, zay]
 by_cases e : z = r
 ·subst e
  have h1 : 0 < (L.erase z).count z := by rw [List.count_erase_self]; omega
  have h2 : 0 < L.count z := by omega
  exact ⟨fun _ => List.count_pos_iff.1 h2, fun _ => List.count_pos_iff.1 h1⟩
 ·exact List.mem_erase_of_ne e
theorem zkb {L : List Int} {r : Int} (h : L.count r = 1) : zat (L.erase r) = (zat L).eraseIdx (zgk cP r (zat L)) := by
 have hm : r ∈ L := List.count_pos_iff.1 (by omega)
 rw [← zok zch (za8 L) (zay.2 hm)]
 refine zel zch (za8 _) ((za8 L).sublist List.erase_sublist) fun z => ?_
 rw [zay, (Sst.nodup zch (za8 L)).mem_erase_iff, zay]
 by_cases e : z = r
 ·subst e
  have h1 : (L.erase z).count z = 0 := by rw [List.count_erase_self]; omega
  exact ⟨fun hz => absurd (List.count_pos_iff.2 hz) (by omega), fun hz => absurd rfl hz.1⟩
 ·rw [List.mem_erase_of_ne e]
  exact ⟨fun hz => ⟨e, hz⟩, fun hz => hz.2⟩
theorem zjy {L : List Int} {r : Int} (h : r ∈ L) : zak (L ++ [r]) = (zak L).set (zgk cP r (zat L)) (r, (L.count r : Int) + 1) := by
 have hp := zl8 zch (za8 L) (zay.2 h)
 apply List.ext_getElem?
 intro i
 unfold zak
 rw [zkt h, List.getElem?_set, List.getElem?_map, List.getElem?_map, List.length_map]
 by_cases e : zgk cP r (zat L) = i
 ·subst e
  rw [if_pos rfl, if_pos (get_lt hp), hp]
  simp [List.count_append]
 ·rw [if_neg e]
  cases hi : (zat L)[i]? with
  | none => rfl
  | some x =>
   have hxr : x ≠ r := fun hx => e (by subst hx; exact ztm zch (za8 L) hp hi)
   simp [List.count_append, List.count_cons, hxr.symm]
theorem zpd {L : List Int} {r : Int} (h : r ∉ L) : zak (L ++ [r]) = (zak L).take (zgk cP r (zat L)) ++ (r, 1) :: (zak L).drop (zgk cP r (zat L)) := by
 have key : ∀ l : List Int, (∀ x ∈ l, x ∈ L) → l.map (fun x => (x, ((L ++ [r]).count x : Int))) = l.map fun x => (x, (L.count x : Int)) := fun l hl => List.map_congr_left fun x hx => by
  have hxr : x ≠ r := fun e => h (e ▸ hl x hx)
  simp [List.count_append, List.count_cons, hxr.symm]
 unfold zak
 rw [zsn h, List.map_append, List.map_cons, List.map_take, List.map_drop, ← List.map_take, ← List.map_drop, key _ fun x hx => zay.1 (List.mem_of_mem_take hx), key _ fun x hx => zay.1 (List.mem_of_mem_drop hx), List.map_take, List.map_drop]
 congr 2
 simp [List.count_append, List.count_eq_zero.2 h]
theorem zh0 {L : List Int} {r : Int} (h : 1 < L.count r) : zak (L.erase r) = (zak L).set (zgk cP r (zat L)) (r, (L.count r : Int) - 1) := by
 have hm : r ∈ L := List.count_pos_iff.1 (by omega)
 have hp := zl8 zch (za8 L) (zay.2 hm)
 apply List.ext_getElem?
 intro i
 unfold zak
 rw [ziq h, List.getElem?_set, List.getElem?_map, List.getElem?_map, List.length_map]
 by_cases e : zgk cP r (zat L) = i
 ·subst e
  rw [if_pos rfl, if_pos (get_lt hp), hp]
  simp [List.count_erase_self]
  omega
 ·rw [if_neg e]
  cases hi : (zat L)[i]? with
  | none => rfl
  | some x =>
   have hxr : x ≠ r := fun hx => e (by subst hx; exact ztm zch (za8 L) hp hi)
   simp [List.count_erase_of_ne hxr]
theorem zin {L : List Int} {r : Int} (h : L.count r = 1) : zak (L.erase r) = (zak L).eraseIdx (zgk cP r (zat L)) := by
 unfold zak
 rw [zkb h, map_erase]
 refine List.map_congr_left fun x hx => ?_
 have hxr : x ≠ r := fun e => by
  subst e
  rw [← zok zch (za8 L) (zay.2 (List.count_pos_iff.1 (by omega)))] at hx
  exact ((Sst.nodup zch (za8 L)).mem_erase_iff.1 hx).1 rfl
 rw [List.count_erase_of_ne hxr]
def zfj (L : List Int) (r : Int) : List Int × Nat := if L.count r = 0 then ([], 8) else (L.erase r, 0)
def zdd (L revs : List Int) (keep : Nat) : List Int := (revs.take (revs.length - keep)).filter fun r => decide (L.count r = 0)
end Go.V.L10
set_option maxRecDepth 20000
namespace Go.V
open Go.Proofs Go.RowKit
attribute [local irreducible] V N X VO Par StepOK Has Ret RetL Src
def zhh (s : ByteArray) (c : UInt8) : ByteArray × ByteArray × Bool :=
 (⟨(Lib.cut s.data.toList [c]).1.toArray⟩, ⟨(Lib.cut s.data.toList [c]).2.1.toArray⟩, (Lib.cut s.data.toList [c]).2.2)
def zy2 (s : ByteArray) (c : UInt8) : Bool := decide (0 ≤ Lib.indexByte s.data.toList c)
def z1e (s : ByteArray) (c : UInt8) : Nat := Lib.countByte s.data.toList c
def zd9 (s : ByteArray) : Option (ByteArray × ByteArray × ByteArray × Bool) :=
 if ((zhh s 58).2.2 && !zy2 (zhh s 58).1 35 && !zy2 (zhh s 58).2.1 58) = true ∧ z1e (zhh s 58).2.1 35 ≤ 1 then
  some ((zhh s 58).1, (zhh (zhh s 58).2.1 35).1, (zhh (zhh s 58).2.1 35).2.1, (zhh (zhh s 58).2.1 35).2.2)
 else none
end Go.V
set_option maxRecDepth 20000
namespace Go.V
open Go.Proofs Go.RowKit
attribute [local irreducible] V N X VO Par StepOK Has Ret RetL Src
abbrev zds : ByteArray := ⟨#[]⟩
def poA (s : ByteArray) : ByteArray × ByteArray × Int :=
 match zd9 s with
 | none => (zds, zds, 5)
 | some (a, b, _, d) => if d = true then (zds, zds, 5) else if zcx [a, b] = 0 then (a, b, 0) else (zds, zds, zcx [a, b])
def pgA (s : ByteArray) : ByteArray × ByteArray × ByteArray × Int :=
 match zd9 s with
 | none => (zds, zds, zds, 5)
 | some (a, b, c, d) => if d = false then (zds, zds, zds, 5) else if zcx [a, b, c] = 0 then (a, b, c, 0) else (zds, zds, zds, zcx [a, b, c])
def psA (s : ByteArray) : ByteArray × ByteArray × ByteArray × Int :=
 match zd9 s with
 | none => (zds, zds, zds, 5)
 | some (a, b, c, d) => if zcx [a, b] = 0 then (if d = true then (if chk c = 0 then (a, b, c, 0) else (zds, zds, zds, chk c)) else (a, b, c, 0)) else (zds, zds, zds, zcx [a, b])
end Go.V
set_option maxRecDepth 20000
namespace Go.V.L2
open Go.Proofs Go.RowKit Go.V
abbrev U := zyh × zyh
def ucs (t : U) : List Value := [.string t.1.1.1, .string t.1.1.2, .string t.1.2, .string t.2.1.1, .string t.2.1.2, .string t.2.2]
theorem zlq (t : U) : (ucs t).length = 6 := rfl
def za7 : U → U → Int := zwb z3b z3b
theorem cmpT_ord : Ord3 za7 := cmp3_ord.lex cmp3_ord
theorem z5j {t v : U} : (t.1.1.1 = v.1.1.1 ∧ t.1.1.2 = v.1.1.2 ∧ t.1.2 = v.1.2 ∧ t.2.1.1 = v.2.1.1 ∧ t.2.1.2 = v.2.1.2 ∧ t.2.2 = v.2.2) ↔ t = v :=
 ⟨fun ⟨a, b, c, d, e, f⟩ => Prod.ext (Prod.ext (Prod.ext a b) c) (Prod.ext (Prod.ext d e) f), fun e => by subst e; exact ⟨rfl, rfl, rfl, rfl, rfl, rfl⟩⟩
instance memU (t : U) (l : List U) : Decidable (t ∈ l) := decidable_of_iff (l.any (fun x => decide (x = t)) = true) (by simp)
def tE (t : U) : Int := if zcx [t.1.1.1, t.1.1.2, t.1.2] = 0 then zgf t.2.1.1 t.2.1.2 t.2.2 else zcx [t.1.1.1, t.1.1.2, t.1.2]
def TZ (t : U) : Prop := (t.1.1.1.size ≤ 1099511627776 ∧ t.1.1.2.size ≤ 1099511627776 ∧ t.1.2.size ≤ 1099511627776) ∧ t.2.1.1.size ≤ 1099511627776 ∧ t.2.1.2.size ≤ 1099511627776 ∧ t.2.2.size ≤ 1099511627776
instance (t : U) : Decidable (TZ t) := inferInstanceAs (Decidable (_ ∧ _))
theorem zlw {α : Type} {c : α → α → Int} (h : Ord3 c) : ∀ {l : List α}, Sst c l ↔ ∀ (j : Nat) (a b : α), l[j]? = some a → l[j + 1]? = some b → c a b < 0
 | [] => ⟨fun _ j a b h1 _ => by simp at h1, fun _ => Sst.nil⟩
 | [x] => ⟨fun _ j a b _ h2 => by simp at h2, fun _ => List.pairwise_singleton ..⟩
 | x :: y :: l => by
  constructor
  ·intro hs j a b h1 h2
   have hp := List.pairwise_cons.1 hs
   cases j with
   | zero => simp at h1 h2; subst h1 h2; exact hp.1 _ (List.mem_cons_self ..)
   | succ j => exact (zlw h).1 hp.2 j a b (by simpa using h1) (by simpa using h2)
  ·intro hj
   have hl : Sst c (y :: l) := (zlw h).2 fun j a b h1 h2 => hj (j + 1) a b (by simpa using h1) (by simpa using h2)
   have hxy : c x y < 0 := hj 0 x y rfl rfl
   refine List.pairwise_cons.2 ⟨fun z hz => ?_, hl⟩
   rcases List.mem_cons.1 hz with rfl | hz
   ·exact hxy
   ·exact h.tr hxy ((List.pairwise_cons.1 hl).1 z hz)
instance {α : Type} (c : α → α → Int) (l : List α) : Decidable (Sst c l) := inferInstanceAs (Decidable (l.Pairwise _))
def isB (l : List U) : Bool := decide (Sst za7 l)
theorem z2v {l : List U} {j : Nat} {a b : U} (h1 : l[j]? = some a) (h2 : l[j + 1]? = some b) (h : ¬ za7 a b < 0) : isB l = false := decide_eq_false fun hs => h ((zlw cmpT_ord).1 hs j a b h1 h2)
theorem z0g {l : List U} (h : ∀ j a b, l[j]? = some a → l[j + 1]? = some b → za7 a b < 0) : isB l = true := decide_eq_true ((zlw cmpT_ord).2 h)
def ptA (s : ByteArray) : U × Int :=
 if (zhh s 64).2.2 = true ∧ zy2 (zhh s 64).2.1 64 = false then
  (if (pgA (zhh s 64).1).2.2.2 = 0 then
   (if (psA (zhh s 64).2.1).2.2.2 = 0 then
    (((((pgA (zhh s 64).1).1, (pgA (zhh s 64).1).2.1), (pgA (zhh s 64).1).2.2.1), (((psA (zhh s 64).2.1).1, (psA (zhh s 64).2.1).2.1), (psA (zhh s 64).2.1).2.2.1)), 0)
   else ((((⟨#[]⟩, ⟨#[]⟩), ⟨#[]⟩), ((⟨#[]⟩, ⟨#[]⟩), ⟨#[]⟩)), (psA (zhh s 64).2.1).2.2.2))
  else ((((⟨#[]⟩, ⟨#[]⟩), ⟨#[]⟩), ((⟨#[]⟩, ⟨#[]⟩), ⟨#[]⟩)), (pgA (zhh s 64).1).2.2.2))
 else ((((⟨#[]⟩, ⟨#[]⟩), ⟨#[]⟩), ((⟨#[]⟩, ⟨#[]⟩), ⟨#[]⟩)), 5)
end Go.V.L2
set_option maxRecDepth 20000
namespace Go.V.L2
open Go.Proofs Go.RowKit Go.V
theorem _root_.Go.V.Z31 {A B : Prop} (h : B) (t : Wr B → A := by intro h; refine z8 (zm rfl rfl rfl) rfl ?_; exact h.h) : A := t ⟨h⟩
theorem _root_.Go.V.Z59 {A B : Prop} (h : B) (t : Wr B → A := by intro h; refine z8 (yo rfl rfl rfl rfl (by assumption)) rfl ?_; exact h.h) : A := t ⟨h⟩
theorem _root_.Go.V.Z113 {A B : Prop} (h : B) (t : Wr B → A := by intro h; refine z8 (yz rfl rfl rfl rfl (decide_eq_true (by omega))) rfl ?_; exact h.h) : A := t ⟨h⟩
theorem _root_.Go.V.Z125 {A B : Prop} (h : B) (t : Wr B → A := by intro h; refine z8 (yz rfl rfl rfl rfl (decide_eq_false (by omega))) rfl ?_; exact h.h) : A := t ⟨h⟩
theorem _root_.Go.V.Z169 {A B : Prop} (h : B) (t : Wr B → A := by intro h; refine Z29 ?_; refine Z1 ?_; exact h.h) : A := t ⟨h⟩
theorem _root_.Go.V.Z170 {A B : Prop} (h : B) (t : Wr B → A := by intro h; refine Z8 ?_; refine Z141 ?_; exact h.h) : A := t ⟨h⟩
theorem _root_.Go.V.Z178 {A B : Prop} (h : B) (t : Wr B → A := by intro h; refine Z31 ?_; refine Z3 ?_; exact h.h) : A := t ⟨h⟩
theorem _root_.Go.V.Z191 {A B : Prop} (h : B) (t : Wr B → A := by intro h; refine Z148 ?_; refine Z170 ?_; exact h.h) : A := t ⟨h⟩
theorem _root_.Go.V.Z201 {A B : Prop} (h : B) (t : Wr B → A := by intro h; refine Z191 ?_; refine Z166 ?_; exact h.h) : A := t ⟨h⟩
theorem _root_.Go.V.Z206 {A B : Prop} (h : B) (t : Wr B → A := by intro h; refine Z11 ?_; refine Z181 ?_; exact h.h) : A := t ⟨h⟩
theorem _root_.Go.V.Z228 {A B : Prop} (h : B) (t : Wr B → A := by intro h; refine Z22 ?_; refine Z158 ?_; exact h.h) : A := t ⟨h⟩
theorem _root_.Go.V.Z239 {A B : Prop} (h : B) (t : Wr B → A := by intro h; refine Z142 ?_; refine Z169 ?_; exact h.h) : A := t ⟨h⟩
theorem _root_.Go.V.Z245 {A B : Prop} (h : B) (t : Wr B → A := by intro h; refine Z206 ?_; refine zh ?_; exact h.h) : A := t ⟨h⟩
theorem _root_.Go.V.Z265 {A B : Prop} (h : B) (t : Wr B → A := by intro h; refine Z148 ?_; refine Z245 ?_; exact h.h) : A := t ⟨h⟩
theorem _root_.Go.V.Z287 {A B : Prop} (h : B) (t : Wr B → A := by intro h; refine Z137 ?_; refine Z169 ?_; exact h.h) : A := t ⟨h⟩
abbrev uv (t : U) : Value := .agg #[.string t.1.1.1, .string t.1.1.2, .string t.1.2, .string t.2.1.1, .string t.2.1.2, .string t.2.2]
abbrev tyU : TypeId := 114
abbrev US (l : List U) (fu : Bool) : Value → Heap → Prop := SlV tyU 6 (l.flatMap ucs) l.length fu
theorem zfh {l : List U} {i : Nat} {t : U} (h : l[i]? = some t) : ((l.flatMap ucs).drop (i * 6)).take 6 = [.string t.1.1.1, .string t.1.1.2, .string t.1.2, .string t.2.1.1, .string t.2.1.2, .string t.2.2] := zde zlq l i t h
attribute [local irreducible] V N X VO Par StepOK Has Ret RetL Src
theorem zep {t : U} (hz : TZ t) {w : World} {B : Heap} (hB : B.Le (hp w)) : Ret Tryz.prog 91 [uv t] w B (fun v _ => v = .int .i64 (tE t)) := by
 obtain ⟨⟨z1, z2, z3⟩, z4, z5, z6⟩ := hz
 unfold tE
 refine yi Tryz.func91 rfl Tryz.ntmps91 (Nat.le_of_ble_eq_true rfl) hB ?_
 by_cases h : zcx [t.1.1.1, t.1.1.2, t.1.2] = 0
 ·rw [if_pos h]
  refine Z155 ?_; refine Z256 ?_; refine z7 (qb L (vs := [_, _, _]) (qn rfl) rfl rfl rfl rfl ⟨_, rfl⟩) rfl ?_; refine z7 (zw L rfl rfl (zk rfl) rfl rfl rfl (fun u H hH _ _ => zhe (by first | assumption | omega | decide) (by first | assumption | omega | decide) (by first | assumption | omega | decide) hH)) rfl ?_; refine Z239 ?_; refine Z228 ?_; refine Z27 ?_; refine Z18 ?_; refine z7 (qb L (vs := [_, _, _]) (qn rfl) rfl rfl rfl rfl ⟨_, rfl⟩) rfl ?_; refine z7 (zw L rfl rfl (zk rfl) rfl rfl rfl (fun u H hH _ _ => zjg (by first | assumption | omega | decide) (by first | assumption | omega | decide) (by first | assumption | omega | decide) hH)) rfl ?_; refine Z136 ?_
  refine yf L (rs := [.tmp 2]) rfl (fun _ _ h => h) Since.refl fun u H hH hle => ?_
  rfl
 ·rw [if_neg h]
  refine Z155 ?_; refine Z256 ?_; refine z7 (qb L (vs := [_, _, _]) (qn rfl) rfl rfl rfl rfl ⟨_, rfl⟩) rfl ?_; refine z7 (zw L rfl rfl (zk rfl) rfl rfl rfl (fun u H hH _ _ => zhe (by first | assumption | omega | decide) (by first | assumption | omega | decide) (by first | assumption | omega | decide) hH)) rfl ?_; refine Z239 ?_; refine Z205 ?_; refine Z173 ?_; refine Z136 ?_
  refine yf L (rs := [.tmp 2]) rfl (fun _ _ h => h) Since.refl fun u H hH hle => ?_
  rfl
theorem zdg {a b : U} {w : World} {B : Heap} (hB : B.Le (hp w)) : Ret Tryz.prog 93 [uv a, uv b] w B (fun v _ => v = .int .i64 (za7 a b)) := by
 refine yi Tryz.func93 rfl Tryz.ntmps93 (Nat.le_of_ble_eq_true rfl) hB ?_
 refine Z210 ?_; refine Z369 ?_; refine Z47 ?_; refine z8 (qb L (vs := [_, _, _]) (qn rfl) rfl rfl rfl rfl ⟨_, rfl⟩) rfl ?_; refine Z47 ?_; refine z8 (qb L (vs := [_, _, _]) (qn rfl) rfl rfl rfl rfl ⟨_, rfl⟩) rfl ?_; refine z8 (zw L rfl rfl (zk rfl) rfl rfl rfl (fun u H hH _ _ => zmt hH)) rfl ?_; refine Z47 ?_; refine z8 (qb L (vs := [_, _, _]) (qn rfl) rfl rfl rfl rfl ⟨_, rfl⟩) rfl ?_; refine Z47 ?_; refine z8 (qb L (vs := [_, _, _]) (qn rfl) rfl rfl rfl rfl ⟨_, rfl⟩) rfl ?_; refine z8 (zw L rfl rfl (zk rfl) rfl rfl rfl (fun u H hH _ _ => cmpU_ret hH)) rfl ?_; refine Z111 ?_; refine z8 (zw L rfl rfl (zk rfl) rfl rfl rfl (fun u H hH _ _ v hv => zmc hH hv)) rfl ?_; refine Z175 ?_
 refine yf L (rs := [.tmp 4]) rfl (fun _ _ h => h) Since.refl fun u H hH hle => ?_
 rfl
theorem zje {l : List U} {fu : Bool} (hl : l.length ≤ 1000000) {r : Bool} (hr : isB l = r) {v : Value} {w : World} {B : Heap} (hB : B.Le (hp w)) (hv : US l fu v B) :
  Ret Tryz.prog 159 [v] w B (fun v _ => v = .bool r) := by
 subst hr
 refine yi Tryz.func159 rfl Tryz.ntmps159 (Nat.le_of_ble_eq_true rfl) hB ?_
 refine zaq 0 (US l fu) rfl SlV.mono hv ?_
 refine Z144 ?_; refine Z154 ?_; refine Z197 ?_
 refine zai (fun i : Nat => [(0, .sat (US l fu)), (3, .is (.int .i64 (i + 1 : Nat)))])
  (fun i => ∀ j a b, j < i → l[j]? = some a → l[j + 1]? = some b → za7 a b < 0) (fun i => l.length - i) 0 (fun j a b h => by omega) ⟨rfl, rfl, trivial⟩ ?_
 rintro i hall
 by_cases hlt : i + 1 < l.length
 ·obtain ⟨a, ha⟩ := zae (show i < l.length by omega)
  obtain ⟨b, hb⟩ := zae hlt
  have hca := zfh ha
  have hcb := zfh hb
  have hsub : IntKind.i64.wrap (((i + 1 : Nat) : Int) - 1) = (i : Int) := zaa (by omega) (by omega) |>.trans (by omega)
  by_cases hc : za7 a b < 0
  ·refine Z287 ?_; refine Z201 ?_; refine Z98 ?_; refine Z178 ?_; refine Z59 ?_; refine z8 (qs L _ rfl rfl rfl rfl rfl rfl rfl (by first | omega | decide) (by assumption)) rfl ?_; refine z8 (yd L (vs := [_, _, _, _, _, _]) rfl rfl rfl rfl rfl ⟨_, rfl⟩) rfl ?_; refine Z178 ?_; refine z8 (qs L _ rfl rfl rfl rfl rfl rfl rfl (by first | omega | decide) (by assumption)) rfl ?_; refine z8 (yd L (vs := [_, _, _, _, _, _]) rfl rfl rfl rfl rfl ⟨_, rfl⟩) rfl ?_; refine z8 (zw L rfl rfl (zk rfl) rfl rfl rfl (fun u H hH _ _ => zdg hH)) rfl ?_; refine Z125 ?_; refine Z180 ?_; refine Z339 ?_; refine Z173 ?_; refine Z190 ?_
   exact yk (x := i) (i + 1) (fun j a' b' hj h1 h2 => by
    by_cases hji : j = i
    ·subst hji; rw [ha] at h1; rw [hb] at h2; cases h1; cases h2; exact hc
    ·exact hall j a' b' (by omega) h1 h2) (by omega) ⟨rfl, rfl, trivial⟩
  ·rw [z2v ha hb hc]
   refine Z287 ?_; refine Z201 ?_; refine Z98 ?_; refine Z178 ?_; refine Z59 ?_; refine z8 (qs L _ rfl rfl rfl rfl rfl rfl rfl (by first | omega | decide) (by assumption)) rfl ?_; refine z8 (yd L (vs := [_, _, _, _, _, _]) rfl rfl rfl rfl rfl ⟨_, rfl⟩) rfl ?_; refine Z178 ?_; refine z8 (qs L _ rfl rfl rfl rfl rfl rfl rfl (by first | omega | decide) (by assumption)) rfl ?_; refine z8 (yd L (vs := [_, _, _, _, _, _]) rfl rfl rfl rfl rfl ⟨_, rfl⟩) rfl ?_; refine z8 (zw L rfl rfl (zk rfl) rfl rfl rfl (fun u H hH _ _ => zdg hH)) rfl ?_; refine Z113 ?_; refine Z211 ?_; refine Z365 ?_; refine Z136 ?_
   refine yf L (rs := [.tmp 2]) rfl (fun _ _ h => h) Since.refl fun u H hH hle => ?_
   rfl
 ·rw [z0g fun j a b h1 h2 => hall j a b (by
   have : j + 1 < l.length := by
    rcases Nat.lt_or_ge (j + 1) l.length with h | h
    ·exact h
    ·rw [List.getElem?_eq_none h] at h2; cases h2
   omega) h1 h2]
  refine Z287 ?_; refine Z265 ?_; refine Z43 ?_; refine Z136 ?_
  refine yf L (rs := [.tmp 2]) rfl (fun _ _ h => h) Since.refl fun u H hH hle => ?_
  rfl
end Go.V.L2
set_option maxRecDepth 20000
namespace Go.V
open Go.Proofs Go.RowKit
theorem _root_.Go.V.Z41 {A B : Prop} (h : B) (t : Wr B → A := by intro h; refine z7 (yz rfl rfl rfl rfl (decide_eq_true (by omega))) rfl ?_; exact h.h) : A := t ⟨h⟩
theorem _root_.Go.V.Z46 {A B : Prop} (h : B) (t : Wr B → A := by intro h; refine z7 (yz rfl rfl rfl rfl (decide_eq_false (by omega))) rfl ?_; exact h.h) : A := t ⟨h⟩
theorem _root_.Go.V.Z72 {A B : Prop} (h : B) (t : Wr B → A := by intro h; refine z7 (zqj rfl rfl rfl rfl (decide_eq_false (by omega))) rfl ?_; exact h.h) : A := t ⟨h⟩
theorem _root_.Go.V.Z77 {A B : Prop} (h : B) (t : Wr B → A := by intro h; refine z7 (zqj rfl rfl rfl rfl (decide_eq_true (by omega))) rfl ?_; exact h.h) : A := t ⟨h⟩
theorem _root_.Go.V.Z202 {A B : Prop} (h : B) (t : Wr B → A := by intro h; refine Z28 ?_; refine Z138 ?_; exact h.h) : A := t ⟨h⟩
theorem _root_.Go.V.Z229 {A B : Prop} (h : B) (t : Wr B → A := by intro h; refine Z137 ?_; refine Z202 ?_; exact h.h) : A := t ⟨h⟩
theorem _root_.Go.V.Z236 {A B : Prop} (h : B) (t : Wr B → A := by intro h; refine Z1 ?_; refine Z185 ?_; exact h.h) : A := t ⟨h⟩
theorem _root_.Go.V.Z266 {A B : Prop} (h : B) (t : Wr B → A := by intro h; refine Z229 ?_; refine Z50 ?_; exact h.h) : A := t ⟨h⟩
theorem _root_.Go.V.Z316 {A B : Prop} (h : B) (t : Wr B → A := by intro h; refine Z184 ?_; refine Z1 ?_; exact h.h) : A := t ⟨h⟩
theorem _root_.Go.V.Z370 {A B : Prop} (h : B) (t : Wr B → A := by intro h; refine Z29 ?_; refine Z197 ?_; exact h.h) : A := t ⟨h⟩
theorem _root_.Go.V.Z371 {A B : Prop} (h : B) (t : Wr B → A := by intro h; refine Z150 ?_; refine Z161 ?_; exact h.h) : A := t ⟨h⟩
theorem _root_.Go.V.Z372 {A B : Prop} (h : B) (t : Wr B → A := by intro h; refine Z156 ?_; refine Z190 ?_; exact h.h) : A := t ⟨h⟩
attribute [local irreducible] V N X VO Par StepOK Has Ret RetL Src
set_option maxHeartbeats 1000000 in
theorem zeu {s : ByteArray} (hs : s.size ≤ 9223372036854775807) {w : World} {B : Heap} (hB : B.Le (hp w)) :
  Ret Tryz.prog 118 [.string s] w B (fun v _ => v = .int .i64 (chk s)) := by
 refine yi Tryz.func118 rfl Tryz.ntmps118 (Nat.le_of_ble_eq_true rfl) hB ?_
 by_cases h0 : 1 ≤ s.size ∧ s.size ≤ 16
 ·obtain ⟨h1, h2⟩ := h0
  refine Z316 ?_; refine Z50 ?_; refine Z38 ?_; refine Z138 ?_; refine Z50 ?_; refine Z77 ?_; refine Z7 ?_; refine Z145 ?_; refine Z370 ?_
  refine zai (fun p : Nat × Bool => [(0, .is (.string s)), (3, .is (.bool p.2)), (4, .is (.int .i64 p.1))])
   (fun p => p.1 ≤ s.size ∧ (p.2 = true → (s.data.toList.take p.1).all okB = true) ∧ (p.2 = false → chk s = 6)) (fun p => s.size - p.1) (0, true) ⟨Nat.zero_le _, fun _ => by simp, fun h => by cases h⟩ ⟨rfl, rfl, rfl, trivial⟩ ?_
  rintro ⟨k, b⟩ ⟨hk, hall, hbad⟩
  dsimp only at hk hall hbad ⊢
  by_cases hlt : k < s.size
  ·cases b with
   | false =>
    refine Z266 ?_; refine Z8 ?_; refine Z138 ?_; refine Z7 ?_; refine Z181 ?_; refine Z137 ?_; refine Z187 ?_; refine Z158 ?_; refine Z367 ?_
    refine yf L (rs := [.tmp 2]) rfl (fun _ _ h => h) Since.refl fun u H hH hle => ?_
    exact congrArg _ (hbad rfl).symm
   | true =>
    obtain ⟨c, hc⟩ := getElem?_lt hlt
    have hu := z1k c
    by_cases a1 : 97 ≤ (c.toNat : Int)
    ·by_cases a4 : (c.toNat : Int) ≤ 122
     ·refine Z266 ?_; refine Z8 ?_; refine Z138 ?_; refine Z249 ?_; refine Z232 ?_; refine Z255 ?_; refine Z54 ?_; refine Z41 ?_; refine Z275 ?_; refine Z77 ?_; refine Z7 ?_; refine Z313 ?_; refine Z151 ?_; refine Z212 ?_; refine Z371 ?_; refine Z372 ?_
      exact yk (x := (k, true)) (k + 1, true) ⟨hlt, fun _ => ziv hc (z2a (by omega) (by omega)) (hall rfl), fun h => (by cases h)⟩ (by dsimp only; omega) ⟨rfl, rfl, rfl, trivial⟩
     ·refine Z266 ?_; refine Z8 ?_; refine Z138 ?_; refine Z249 ?_; refine Z232 ?_; refine Z255 ?_; refine Z54 ?_; refine Z41 ?_; refine Z275 ?_; refine Z72 ?_; refine Z7 ?_; refine Z275 ?_; refine Z41 ?_; refine Z275 ?_; refine Z72 ?_; refine Z391 ?_; refine Z371 ?_; refine Z372 ?_
      exact yk (x := (k, true)) (k + 1, false) ⟨hlt, fun h => (by cases h), fun _ => zlm hc (z2b (by omega))⟩ (by dsimp only; omega) ⟨rfl, rfl, rfl, trivial⟩
    ·by_cases a2 : 48 ≤ (c.toNat : Int)
     ·by_cases a3 : (c.toNat : Int) ≤ 57
      ·refine Z266 ?_; refine Z8 ?_; refine Z138 ?_; refine Z249 ?_; refine Z232 ?_; refine Z255 ?_; refine Z54 ?_; refine Z46 ?_; refine Z322 ?_; refine Z275 ?_; refine Z41 ?_; refine Z275 ?_; refine Z77 ?_; refine Z391 ?_; refine Z371 ?_; refine Z372 ?_
       exact yk (x := (k, true)) (k + 1, true) ⟨hlt, fun _ => ziv hc (z19 (by omega) (by omega)) (hall rfl), fun h => (by cases h)⟩ (by dsimp only; omega) ⟨rfl, rfl, rfl, trivial⟩
      ·refine Z266 ?_; refine Z8 ?_; refine Z138 ?_; refine Z249 ?_; refine Z232 ?_; refine Z255 ?_; refine Z54 ?_; refine Z46 ?_; refine Z322 ?_; refine Z275 ?_; refine Z41 ?_; refine Z275 ?_; refine Z72 ?_; refine Z391 ?_; refine Z371 ?_; refine Z372 ?_
       exact yk (x := (k, true)) (k + 1, false) ⟨hlt, fun h => (by cases h), fun _ => zlm hc (z2c (by omega) (by omega))⟩ (by dsimp only; omega) ⟨rfl, rfl, rfl, trivial⟩
     ·refine Z266 ?_; refine Z8 ?_; refine Z138 ?_; refine Z249 ?_; refine Z232 ?_; refine Z255 ?_; refine Z54 ?_; refine Z46 ?_; refine Z322 ?_; refine Z275 ?_; refine Z46 ?_; refine Z322 ?_; refine Z7 ?_; refine Z371 ?_; refine Z372 ?_
      exact yk (x := (k, true)) (k + 1, false) ⟨hlt, fun h => (by cases h), fun _ => zlm hc (z2d (by omega) (by omega))⟩ (by dsimp only; omega) ⟨rfl, rfl, rfl, trivial⟩
  ·cases b with
   | false =>
    refine Z266 ?_; refine Z11 ?_; refine Z236 ?_; refine Z181 ?_; refine Z137 ?_; refine Z187 ?_; refine Z158 ?_; refine Z367 ?_
    refine yf L (rs := [.tmp 2]) rfl (fun _ _ h => h) Since.refl fun u H hH hle => ?_
    exact congrArg _ (hbad rfl).symm
   | true =>
    refine Z266 ?_; refine Z11 ?_; refine Z236 ?_; refine Z181 ?_; refine Z137 ?_; refine Z187 ?_; refine Z152 ?_; refine Z390 ?_
    refine yf L (rs := [.tmp 2]) rfl (fun _ _ h => h) Since.refl fun u H hH hle => ?_
    exact congrArg _ (zvu h1 h2 (zrd (by omega) (hall rfl))).symm
 ·have hbad := zps h0
  by_cases h1 : 1 ≤ s.size
  ·have h2 : 16 < s.size := by omega
   refine Z316 ?_; refine Z50 ?_; refine Z38 ?_; refine Z138 ?_; refine Z50 ?_; refine Z72 ?_; refine Z7 ?_; refine Z145 ?_; refine Z370 ?_
   refine zai (fun _ : Unit => [(0, .is (.string s)), (3, .is (.bool false)), (4, .is (.int .i64 0))]) (fun _ => True) (fun _ => 0) () trivial ⟨rfl, rfl, rfl, trivial⟩ ?_
   rintro _ _
   refine Z266 ?_; refine Z8 ?_; refine Z138 ?_; refine Z7 ?_; refine Z181 ?_; refine Z137 ?_; refine Z187 ?_; refine Z158 ?_; refine Z367 ?_
   refine yf L (rs := [.tmp 2]) rfl (fun _ _ h => h) Since.refl fun u H hH hle => ?_
   exact congrArg _ hbad.symm
  ·refine Z316 ?_; refine Z50 ?_; refine Z32 ?_; refine Z254 ?_; refine Z145 ?_; refine Z370 ?_
   refine zai (fun _ : Unit => [(0, .is (.string s)), (3, .is (.bool false)), (4, .is (.int .i64 0))]) (fun _ => True) (fun _ => 0) () trivial ⟨rfl, rfl, rfl, trivial⟩ ?_
   rintro _ _
   refine Z266 ?_; refine Z11 ?_; refine Z236 ?_; refine Z181 ?_; refine Z137 ?_; refine Z187 ?_; refine Z158 ?_; refine Z367 ?_
   refine yf L (rs := [.tmp 2]) rfl (fun _ _ h => h) Since.refl fun u H hH hle => ?_
   exact congrArg _ hbad.symm
theorem max2 (a b : ByteArray) : (if chk b > chk a then chk b else chk a) = zcx [a, b] := by
 simp only [zcx]
 rcases zbs a with h | h <;> rcases zbs b with h' | h' <;> simp [h, h']
theorem z4e (a b c : ByteArray) : (if chk c > zcx [a, b] then chk c else zcx [a, b]) = zcx [a, b, c] := by
 simp only [zcx]
 rcases zbs a with h | h <;> rcases zbs b with h' | h' <;> rcases zbs c with h'' | h'' <;> simp [h, h', h'']
theorem zd7 {a b : ByteArray} (ha : a.size ≤ 9223372036854775807) (hb : b.size ≤ 9223372036854775807) {w : World} {B : Heap} (hB : B.Le (hp w)) :
  Ret Tryz.prog 117 [.agg #[.string a, .string b]] w B (fun v _ => v = .int .i64 (zcx [a, b])) := by
 refine yi Tryz.func117 rfl Tryz.ntmps117 (Nat.le_of_ble_eq_true rfl) hB ?_
 refine Z155 ?_; refine Z369 ?_; refine Z222 ?_; refine z8 (zw L rfl rfl (zk rfl) rfl rfl rfl (fun u H hH _ _ => zeu (by first | omega | decide) hH)) rfl ?_; refine Z222 ?_; refine z8 (zw L rfl rfl (zk rfl) rfl rfl rfl (fun u H hH _ _ => zeu (by first | omega | decide) hH)) rfl ?_; refine z8 (zgc rfl rfl rfl rfl rfl) rfl ?_; refine Z175 ?_
 refine yf L (rs := [.tmp 2]) rfl (fun _ _ h => h) Since.refl fun u H hH hle => ?_
 exact congrArg _ (max2 a b)
theorem znn {a b c : ByteArray} (ha : a.size ≤ 9223372036854775807) (hb : b.size ≤ 9223372036854775807) (hc : c.size ≤ 9223372036854775807) {w : World} {B : Heap} (hB : B.Le (hp w)) :
  Ret Tryz.prog 171 [.agg #[.string a, .string b, .string c]] w B (fun v _ => v = .int .i64 (zcx [a, b, c])) := by
 refine yi Tryz.func171 rfl Tryz.ntmps171 (Nat.le_of_ble_eq_true rfl) hB ?_
 refine Z155 ?_; refine Z369 ?_; refine Z47 ?_; refine z8 (qb L (vs := [_, _]) (qn rfl) rfl rfl rfl rfl ⟨_, rfl⟩) rfl ?_; refine z8 (zw L rfl rfl (zk rfl) rfl rfl rfl (fun u H hH _ _ => zd7 (by first | assumption | omega | decide) (by first | assumption | omega | decide) hH)) rfl ?_; refine Z222 ?_; refine z8 (zw L rfl rfl (zk rfl) rfl rfl rfl (fun u H hH _ _ => zeu (by first | omega | decide) hH)) rfl ?_; refine z8 (zgc rfl rfl rfl rfl rfl) rfl ?_; refine Z175 ?_
 refine yf L (rs := [.tmp 2]) rfl (fun _ _ h => h) Since.refl fun u H hH hle => ?_
 exact congrArg _ (z4e a b c)
end Go.V
set_option maxRecDepth 20000
namespace Go.V
open Go.Proofs Go.RowKit
theorem _root_.Go.V.Z13 {A B : Prop} (h : B) (t : Wr B → A := by intro h; refine z7 (yb rfl rfl rfl rfl (decide_eq_false (by omega))) rfl ?_; exact h.h) : A := t ⟨h⟩
theorem _root_.Go.V.Z23 {A B : Prop} (h : B) (t : Wr B → A := by intro h; refine z7 (yb rfl rfl rfl rfl (decide_eq_true (by omega))) rfl ?_; exact h.h) : A := t ⟨h⟩
theorem _root_.Go.V.Z87 {A B : Prop} (h : B) (t : Wr B → A := by intro h; refine qg (id := 3) [] mixed (by kernel_rfl) ?_; exact h.h) : A := t ⟨h⟩
theorem _root_.Go.V.Z240 {A B : Prop} (h : B) (t : Wr B → A := by intro h; refine Z13 ?_; refine Z158 ?_; exact h.h) : A := t ⟨h⟩
attribute [local irreducible] V N X VO Par StepOK Has Ret RetL Src
theorem zwr {c : ByteArray} (h : c.size = 0) : c = ⟨#[]⟩ := by
 obtain ⟨⟨l⟩⟩ := c
 have h' : l.length = 0 := h
 rw [List.eq_nil_of_length_eq_zero h']
theorem zig {a b c : ByteArray} (ha : a.size ≤ 9223372036854775807) (hb : b.size ≤ 9223372036854775807) (hc : c.size ≤ 9223372036854775807) {w : World} {B : Heap} (hB : B.Le (hp w)) :
  Ret Tryz.prog 172 [.agg #[.string a, .string b, .string c]] w B (fun v _ => v = .int .i64 (zgf a b c)) := by
 refine yi Tryz.func172 rfl Tryz.ntmps172 (Nat.le_of_ble_eq_true rfl) hB ?_
 by_cases h : c.size = 0
 ·refine Z340 ?_; refine Z183 ?_; refine Z50 ?_; refine Z23 ?_; refine Z223 ?_; refine Z18 ?_; refine z7 (qb L (vs := [_, _]) (qn rfl) rfl rfl rfl rfl ⟨_, rfl⟩) rfl ?_; refine z7 (zw L rfl rfl (zk rfl) rfl rfl rfl (fun u H hH _ _ => zd7 (by first | assumption | omega | decide) (by first | assumption | omega | decide) hH)) rfl ?_; refine Z136 ?_
  refine yf L (rs := [.tmp 2]) rfl (fun _ _ h => h) Since.refl fun u H hH hle => ?_
  exact congrArg (Value.int .i64) (show zcx [a, b] = zgf a b c from (if_pos (zwr h)).symm)
 ·refine Z340 ?_; refine Z183 ?_; refine Z50 ?_; refine Z240 ?_; refine Z87 ?_; refine Z47 ?_; refine z8 (qb L (vs := [_, _]) (qn rfl) rfl rfl rfl rfl ⟨_, rfl⟩) rfl ?_; refine z8 (zw L rfl rfl (zk rfl) rfl rfl rfl (fun u H hH _ _ => zd7 (by first | assumption | omega | decide) (by first | assumption | omega | decide) hH)) rfl ?_; refine Z222 ?_; refine z8 (zw L rfl rfl (zk rfl) rfl rfl rfl (fun u H hH _ _ => zeu (by first | omega | decide) hH)) rfl ?_; refine z8 (zgc rfl rfl rfl rfl rfl) rfl ?_; refine Z175 ?_
  refine yf L (rs := [.tmp 2]) rfl (fun _ _ h => h) Since.refl fun u H hH hle => ?_
  exact congrArg (Value.int .i64) ((z4e a b c).trans (show zcx [a, b, c] = zgf a b c from (if_neg (fun e => h (by subst e; rfl))).symm))
end Go.V
set_option maxRecDepth 20000
namespace Go.V.L2
open Go.Proofs Go.RowKit Go.V
theorem _root_.Go.V.Z200 {A B : Prop} (h : B) (t : Wr B → A := by intro h; refine Z137 ?_; refine Z156 ?_; exact h.h) : A := t ⟨h⟩
theorem _root_.Go.V.Z230 {A B : Prop} (h : B) (t : Wr B → A := by intro h; refine Z22 ?_; refine Z165 ?_; exact h.h) : A := t ⟨h⟩
theorem _root_.Go.V.Z241 {A B : Prop} (h : B) (t : Wr B → A := by intro h; refine Z200 ?_; refine Z201 ?_; exact h.h) : A := t ⟨h⟩
theorem _root_.Go.V.Z257 {A B : Prop} (h : B) (t : Wr B → A := by intro h; refine Z176 ?_; refine Z190 ?_; exact h.h) : A := t ⟨h⟩
theorem _root_.Go.V.Z277 {A B : Prop} (h : B) (t : Wr B → A := by intro h; refine Z241 ?_; refine Z73 ?_; exact h.h) : A := t ⟨h⟩
theorem _root_.Go.V.Z373 {A B : Prop} (h : B) (t : Wr B → A := by intro h; refine Z28 ?_; refine Z197 ?_; exact h.h) : A := t ⟨h⟩
theorem _root_.Go.V.Z374 {A B : Prop} (h : B) (t : Wr B → A := by intro h; refine Z200 ?_; refine Z265 ?_; exact h.h) : A := t ⟨h⟩
theorem zi7 : ∀ (l : List ByteArray), zcx l = 0 ∨ zcx l = 6
 | [] => .inl rfl
 | s :: l => by
  simp only [zcx]
  split
  ·exact zi7 l
  ·rename_i h; exact .inr ((zbs s).resolve_left h)
theorem zm9 (a b c : ByteArray) : zgf a b c = 0 ∨ zgf a b c = 6 := by
 unfold zgf
 split <;> exact zi7 _
theorem zyr (t : U) : (if zgf t.2.1.1 t.2.1.2 t.2.2 > zcx [t.1.1.1, t.1.1.2, t.1.2] then zgf t.2.1.1 t.2.1.2 t.2.2 else zcx [t.1.1.1, t.1.1.2, t.1.2]) = tE t := by
 unfold tE
 rcases zi7 [t.1.1.1, t.1.1.2, t.1.2] with h | h <;> rcases zm9 t.2.1.1 t.2.1.2 t.2.2 with h' | h' <;> rw [h, h'] <;> decide
theorem eqU {t v : U} {r : Bool} (e : decide (t = v) = r) : zf6 [0, 0, 0, 0, 0, 0] [.string t.1.1.1, .string t.1.1.2, .string t.1.2, .string t.2.1.1, .string t.2.1.2, .string t.2.2] [.string v.1.1.1, .string v.1.1.2, .string v.1.2, .string v.2.1.1, .string v.2.1.2, .string v.2.2] = some r := by
 subst e
 simp only [zf6, eqC]
 have h := @z5j t v
 by_cases hh : t = v
 ·subst hh; simp
 ·rw [decide_eq_false hh]
  have h' := fun x => hh (h.1 x)
  by_cases a1 : t.1.1.1 = v.1.1.1
  ·by_cases a2 : t.1.1.2 = v.1.1.2
   ·by_cases a3 : t.1.2 = v.1.2
    ·by_cases a4 : t.2.1.1 = v.2.1.1
     ·by_cases a5 : t.2.1.2 = v.2.1.2
      ·by_cases a6 : t.2.2 = v.2.2
       ·exact absurd ⟨a1, a2, a3, a4, a5, a6⟩ h'
       ·simp [a6]
      ·simp [a5]
     ·simp [a4]
    ·simp [a3]
   ·simp [a2]
  ·simp [a1]
theorem eq3 {g h : zyh} {r : Bool} (e : decide (g = h) = r) : zf6 [0, 0, 0] [.string g.1.1, .string g.1.2, .string g.2] [.string h.1.1, .string h.1.2, .string h.2] = some r :=
 z4p (by rw [← e]; exact decide_eq_decide.2 ⟨fun ⟨a, b, c⟩ => Prod.ext (Prod.ext a b) c, fun e => by subst e; exact ⟨rfl, rfl, rfl⟩⟩)
theorem z28 {a b : U} (h : a.1 ≠ b.1) : za7 a b = z3b a.1 b.1 := by
 unfold za7 zwb; rw [zt9, if_neg fun e => h (cmp3_ord.eq _ _ e)]
theorem z27 {a b : U} (h : a.1 = b.1) : za7 a b = z3b a.2 b.2 := by
 unfold za7 zwb; rw [zt9, if_pos (by rw [h]; exact cmp3_ord.refl _)]
theorem zth {α : Type} {l : List α} {k : Nat} {g : α} (h : l[k]? = some g) : l.take (k + 1) = l.take k ++ [g] := by rw [List.take_add_one, h]; rfl
theorem zez {α : Type} {l : List α} {k : Nat} {g : α} (h : l[k]? = some g) : l.drop k = g :: l.drop (k + 1) := by
 obtain ⟨hl, he⟩ := List.getElem?_eq_some_iff.1 h
 rw [List.drop_eq_getElem_cons hl, he]
theorem zdt {κ : Kap} {s : Nat} {r : List U} {t : U} (h : κ s = some (.own (SlR tyU 6 (r.length + 1) (r.flatMap ucs ++ [.string t.1.1.1, .string t.1.1.2, .string t.1.2, .string t.2.1.1, .string t.2.1.2, .string t.2.2])))) : κ s = some (.own (SlR tyU 6 (r ++ [t]).length ((r ++ [t]).flatMap ucs))) := by
 rw [h, List.flatMap_append, List.length_append]; rfl
attribute [local irreducible] V N X VO Par StepOK Has Ret RetL Src
theorem zd6 {t : U} (hz : TZ t) {w : World} {B : Heap} (hB : B.Le (hp w)) : Ret Tryz.prog 157 [uv t] w B (fun v _ => v = .int .i64 (tE t)) := by
 obtain ⟨⟨z1, z2, z3⟩, z4, z5, z6⟩ := hz
 have hm := zyr t
 refine yi Tryz.func157 rfl Tryz.ntmps157 (Nat.le_of_ble_eq_true rfl) hB ?_
 refine Z155 ?_; refine Z369 ?_; refine Z47 ?_; refine z8 (qb L (vs := [_, _, _]) (qn rfl) rfl rfl rfl rfl ⟨_, rfl⟩) rfl ?_; refine z8 (zw L rfl rfl (zk rfl) rfl rfl rfl (fun u H hH _ _ => znn (by first | assumption | omega | decide) (by first | assumption | omega | decide) (by first | assumption | omega | decide) hH)) rfl ?_; refine Z47 ?_; refine z8 (qb L (vs := [_, _, _]) (qn rfl) rfl rfl rfl rfl ⟨_, rfl⟩) rfl ?_; refine z8 (zw L rfl rfl (zk rfl) rfl rfl rfl (fun u H hH _ _ => zig (by first | assumption | omega | decide) (by first | assumption | omega | decide) (by first | assumption | omega | decide) hH)) rfl ?_; refine z8 (zgc rfl rfl rfl rfl (by assumption)) rfl ?_; refine Z175 ?_
 refine yf L (rs := [.tmp 2]) rfl (fun _ _ h => h) Since.refl fun u H hH hle => ?_
 rfl
theorem znm {a b : U} (ha : TZ a) (hb : TZ b) {w : World} {B : Heap} (hB : B.Le (hp w)) : Ret Tryz.prog 144 [uv a, uv b] w B (fun v _ => v = .int .i64 (za7 a b)) := by
 obtain ⟨⟨z1, z2, z3⟩, z4, z5, z6⟩ := ha
 obtain ⟨⟨y1, y2, y3⟩, y4, y5, y6⟩ := hb
 refine yi Tryz.func144 rfl Tryz.ntmps144 (Nat.le_of_ble_eq_true rfl) hB ?_
 by_cases h : a.1 = b.1
 ·have hq := eq3 (decide_eq_true h)
  rw [z27 h]
  refine Z210 ?_; refine Z256 ?_; refine z7 (qb L (vs := [_, _, _]) (qn rfl) rfl rfl rfl rfl ⟨_, rfl⟩) rfl ?_; refine Z18 ?_; refine z7 (qb L (vs := [_, _, _]) (qn rfl) rfl rfl rfl rfl ⟨_, rfl⟩) rfl ?_; refine z7 (zgo rfl rfl rfl rfl z22 (by assumption) rfl) rfl ?_; refine Z158 ?_; refine Z28 ?_; refine Z18 ?_; refine z7 (qb L (vs := [_, _, _]) (qn rfl) rfl rfl rfl rfl ⟨_, rfl⟩) rfl ?_; refine Z18 ?_; refine z7 (qb L (vs := [_, _, _]) (qn rfl) rfl rfl rfl rfl ⟨_, rfl⟩) rfl ?_; refine z7 (zw L rfl rfl (zk rfl) rfl rfl rfl (fun u H hH _ _ => ztx (by first | assumption | omega | decide) (by first | assumption | omega | decide) (by first | assumption | omega | decide) (by first | assumption | omega | decide) (by first | assumption | omega | decide) (by first | assumption | omega | decide) hH)) rfl ?_; refine Z136 ?_
  refine yf L (rs := [.tmp 4]) rfl (fun _ _ h => h) Since.refl fun u H hH hle => ?_
  rfl
 ·have hq := eq3 (decide_eq_false h)
  rw [z28 h]
  refine Z210 ?_; refine Z256 ?_; refine z7 (qb L (vs := [_, _, _]) (qn rfl) rfl rfl rfl rfl ⟨_, rfl⟩) rfl ?_; refine Z18 ?_; refine z7 (qb L (vs := [_, _, _]) (qn rfl) rfl rfl rfl rfl ⟨_, rfl⟩) rfl ?_; refine z7 (zgo rfl rfl rfl rfl z22 (by assumption) rfl) rfl ?_; refine Z223 ?_; refine Z18 ?_; refine z7 (qb L (vs := [_, _, _]) (qn rfl) rfl rfl rfl rfl ⟨_, rfl⟩) rfl ?_; refine Z18 ?_; refine z7 (qb L (vs := [_, _, _]) (qn rfl) rfl rfl rfl rfl ⟨_, rfl⟩) rfl ?_; refine z7 (zw L rfl rfl (zk rfl) rfl rfl rfl (fun u H hH _ _ => zty (by first | assumption | omega | decide) (by first | assumption | omega | decide) (by first | assumption | omega | decide) (by first | assumption | omega | decide) (by first | assumption | omega | decide) (by first | assumption | omega | decide) hH)) rfl ?_; refine Z136 ?_
  refine yf L (rs := [.tmp 4]) rfl (fun _ _ h => h) Since.refl fun u H hH hle => ?_
  rfl
theorem za3 {l : List U} {t : U} {fu : Bool} (hl : l.length ≤ 1000000) {e : Int} (he : (if t ∈ l then 1 else 0 : Int) = e) {v : Value} {w : World} {B : Heap} (hB : B.Le (hp w)) (hv : US l fu v B) :
  Ret Tryz.prog 63 [v, uv t] w B (fun v _ => v = .int .i64 e) := by
 subst he
 refine yi Tryz.func63 rfl Tryz.ntmps63 (Nat.le_of_ble_eq_true rfl) hB ?_
 refine zaq 0 (US l fu) rfl SlV.mono hv ?_
 refine Z340 ?_; refine Z197 ?_
 refine zai (fun i : Nat => [(0, .sat (US l fu)), (3, .sat (At [.string t.1.1.1, .string t.1.1.2, .string t.1.2, .string t.2.1.1, .string t.2.1.2, .string t.2.2] tyU 0)), (5, .is (.int .i64 i))])
  (fun i => i ≤ l.length ∧ (t ∈ l ↔ t ∈ l.drop i)) (fun i => l.length - i) 0 ⟨Nat.zero_le _, Iff.rfl⟩ ⟨rfl, rfl, rfl, trivial⟩ ?_
 rintro i ⟨hi, he⟩
 by_cases hlt : i < l.length
 ·obtain ⟨y, hy⟩ := zae hlt
  have hc := zfh hy
  rw [zez hy] at he
  by_cases hyt : y = t
  ·have hq := eqU (decide_eq_true hyt)
   rw [if_pos (he.2 (by rw [hyt]; exact List.mem_cons_self ..))]
   refine Z287 ?_; refine Z201 ?_; refine Z98 ?_; refine Z178 ?_; refine z8 (qs L _ rfl rfl rfl rfl rfl rfl rfl (by first | omega | decide) (by assumption)) rfl ?_; refine z8 (yd L (vs := [_, _, _, _, _, _]) rfl rfl rfl rfl rfl ⟨_, rfl⟩) rfl ?_; refine z8 (qb L (vs := [_, _, _, _, _, _]) (qn rfl) rfl rfl rfl rfl ⟨_, rfl⟩) rfl ?_; refine z8 (zuv rfl rfl rfl rfl zxq (by assumption) rfl) rfl ?_; refine Z211 ?_; refine Z365 ?_; refine Z136 ?_
   refine yf L (rs := [.tmp 4]) rfl (fun _ _ h => h) Since.refl fun u H hH hle => ?_
   rfl
  ·have hq := eqU (decide_eq_false hyt)
   refine Z287 ?_; refine Z201 ?_; refine Z98 ?_; refine Z178 ?_; refine z8 (qs L _ rfl rfl rfl rfl rfl rfl rfl (by first | omega | decide) (by assumption)) rfl ?_; refine z8 (yd L (vs := [_, _, _, _, _, _]) rfl rfl rfl rfl rfl ⟨_, rfl⟩) rfl ?_; refine z8 (qb L (vs := [_, _, _, _, _, _]) (qn rfl) rfl rfl rfl rfl ⟨_, rfl⟩) rfl ?_; refine z8 (zuv rfl rfl rfl rfl zxq (by assumption) rfl) rfl ?_; refine Z180 ?_; refine Z339 ?_; refine Z173 ?_; refine Z190 ?_
   exact yk (x := i) (i + 1) ⟨hlt, he.trans ⟨fun h => (List.mem_cons.1 h).resolve_left fun e => hyt e.symm, fun h => List.mem_cons_of_mem _ h⟩⟩ (by omega) ⟨rfl, rfl, rfl, trivial⟩
 ·obtain rfl : i = l.length := by omega
  rw [List.drop_length] at he
  rw [if_neg fun h => by cases he.1 h]
  refine Z287 ?_; refine Z265 ?_; refine Z43 ?_; refine Z136 ?_
  refine yf L (rs := [.tmp 4]) rfl (fun _ _ h => h) Since.refl fun u H hH hle => ?_
  rfl
theorem zhv {a b : List U} {fa fb : Bool} (hla : a.length ≤ 1000000) (hlb : b.length ≤ 1000000) {e : Int} (he : (if a = b then 1 else 0 : Int) = e) {va vb : Value} {w : World} {B : Heap} (hB : B.Le (hp w)) (ha : US a fa va B) (hb : US b fb vb B) :
  Ret Tryz.prog 16 [va, vb] w B (fun v _ => v = .int .i64 e) := by
 subst he
 refine yi Tryz.func16 rfl Tryz.ntmps16 (Nat.le_of_ble_eq_true rfl) hB ?_
 refine zaq 0 (US a fa) rfl SlV.mono ha ?_
 refine zaq 1 (US b fb) rfl SlV.mono hb ?_
 by_cases hlen : a.length = b.length
 ·refine Z324 ?_; refine Z148 ?_; refine Z230 ?_; refine Z373 ?_
  refine zai (fun i : Nat => [(0, .sat (US a fa)), (1, .sat (US b fb)), (5, .is (.int .i64 i))])
   (fun i => i ≤ a.length ∧ a.take i = b.take i) (fun i => a.length - i) 0 ⟨Nat.zero_le _, rfl⟩ ⟨rfl, rfl, rfl, trivial⟩ ?_
  rintro i ⟨hi, he⟩
  by_cases hlt : i < a.length
  ·obtain ⟨x, hx⟩ := zae hlt
   obtain ⟨y, hy⟩ := zae (show i < b.length by omega)
   have hcx := zfh hx
   have hcy := zfh hy
   by_cases hxy : x = y
   ·have hq := eqU (decide_eq_true hxy)
    refine Z277 ?_; refine Z178 ?_; refine z8 (qs L _ rfl rfl rfl rfl rfl rfl rfl (by first | omega | decide) (by assumption)) rfl ?_; refine z8 (yd L (vs := [_, _, _, _, _, _]) rfl rfl rfl rfl rfl ⟨_, rfl⟩) rfl ?_; refine Z178 ?_; refine z8 (qs L _ rfl rfl rfl rfl rfl rfl rfl (by first | omega | decide) (by assumption)) rfl ?_; refine z8 (yd L (vs := [_, _, _, _, _, _]) rfl rfl rfl rfl rfl ⟨_, rfl⟩) rfl ?_; refine z8 (zgo rfl rfl rfl rfl zxq (by assumption) rfl) rfl ?_; refine Z180 ?_; refine Z339 ?_; refine Z257 ?_
    exact yk (x := i) (i + 1) ⟨hlt, by rw [zth hx, zth hy, he, hxy]⟩ (by omega) ⟨rfl, rfl, rfl, trivial⟩
   ·have hq := eqU (decide_eq_false hxy)
    have h1 : a ≠ b := fun e => by subst e; rw [hx] at hy; exact hxy (Option.some.inj hy)
    rw [if_neg h1]
    refine Z277 ?_; refine Z178 ?_; refine z8 (qs L _ rfl rfl rfl rfl rfl rfl rfl (by first | omega | decide) (by assumption)) rfl ?_; refine z8 (yd L (vs := [_, _, _, _, _, _]) rfl rfl rfl rfl rfl ⟨_, rfl⟩) rfl ?_; refine Z178 ?_; refine z8 (qs L _ rfl rfl rfl rfl rfl rfl rfl (by first | omega | decide) (by assumption)) rfl ?_; refine z8 (yd L (vs := [_, _, _, _, _, _]) rfl rfl rfl rfl rfl ⟨_, rfl⟩) rfl ?_; refine z8 (zgo rfl rfl rfl rfl zxq (by assumption) rfl) rfl ?_; refine Z211 ?_; refine zh ?_; refine Z390 ?_
    refine yf L (rs := [.tmp 4]) rfl (fun _ _ h => h) Since.refl fun u H hH hle => ?_
    rfl
  ·obtain rfl : i = a.length := by omega
   have h1 : a = b := by rw [List.take_length, hlen, List.take_length] at he; exact he
   rw [if_pos h1]
   refine Z374 ?_; refine Z367 ?_
   refine yf L (rs := [.tmp 4]) rfl (fun _ _ h => h) Since.refl fun u H hH hle => ?_
   rfl
 ·have h1 : a ≠ b := fun e => hlen (by rw [e])
  rw [if_neg h1]
  refine Z324 ?_; refine Z148 ?_; refine Z205 ?_; refine Z29 ?_; refine Z136 ?_
  refine yf L (rs := [.tmp 4]) rfl (fun _ _ h => h) Since.refl fun u H hH hle => ?_
  rfl
end Go.V.L2
set_option maxRecDepth 20000
namespace Go.V
open Go.RowKit
def noB (s : ByteArray) (c : UInt8) : Prop := c ∉ s.data.toList
theorem ze8 (r : List UInt8) (c : UInt8) : ∀ (l : List UInt8), c ∉ l → Lib.indexByte (l ++ c :: r) c = l.length
 | [], _ => by simp [Lib.indexByte]
 | b :: l, h => by
  have h1 : ¬ (b == c) = true := fun e => h (by rw [beq_iff_eq] at e; rw [e]; exact List.mem_cons_self ..)
  have ih := ze8 r c l (fun e => h (List.mem_cons_of_mem _ e))
  rw [List.cons_append, Lib.indexByte, if_neg h1, ih, if_neg (by rw [beq_iff_eq]; omega)]
  simp
theorem zfs (c : UInt8) : ∀ (l : List UInt8), c ∉ l → Lib.indexByte l c = -1
 | [], _ => rfl
 | b :: l, h => by
  have h1 : ¬ (b == c) = true := fun e => h (by rw [beq_iff_eq] at e; rw [e]; exact List.mem_cons_self ..)
  rw [Lib.indexByte, if_neg h1, zfs c l (fun e => h (List.mem_cons_of_mem _ e))]
  rfl
theorem z0o {l r : List UInt8} {c : UInt8} (h : c ∉ l) : Lib.cut (l ++ c :: r) [c] = (l, r, true) := by
 unfold Lib.cut
 rw [Lib.index_one, ze8 r c l h, if_pos (by omega)]
 simp
theorem z25 {l : List UInt8} {c : UInt8} (h : c ∉ l) : Lib.cut l [c] = (l, [], false) := by
 unfold Lib.cut
 rw [Lib.index_one, zfs c l h, if_neg (by omega)]
theorem zbu (a b : ByteArray) : (a ++ b).data.toList = a.data.toList ++ b.data.toList := by
 rw [ByteArray.data_append, Array.toList_append]
theorem zfv {a b : ByteArray} (h : a.data.toList = b.data.toList) : a = b := by
 obtain ⟨⟨x⟩⟩ := a; obtain ⟨⟨y⟩⟩ := b; simp at h; subst h; rfl
theorem zi4 {a b : ByteArray} {c : UInt8} (h : noB a c) : zhh (a ++ ⟨#[c]⟩ ++ b) c = (a, b, true) := by
 have e : (a ++ ⟨#[c]⟩ ++ b).data.toList = a.data.toList ++ c :: b.data.toList := by rw [zbu, zbu]; simp
 unfold zhh
 rw [e, z0o h]
theorem zpr {a : ByteArray} {c : UInt8} (h : noB a c) : zhh a c = (a, ⟨#[]⟩, false) := by
 unfold zhh
 rw [z25 h]
theorem zpm {a : ByteArray} {c : UInt8} (h : noB a c) : zy2 a c = false := by
 unfold zy2
 rw [zfs c _ h]; rfl
theorem z0p {a : ByteArray} {c : UInt8} (h : noB a c) : z1e a c = 0 := by
 unfold z1e Lib.countByte
 exact List.count_eq_zero_of_not_mem h
theorem z3g {a b : ByteArray} (h : zcx [a, b] = 0) : chk a = 0 ∧ chk b = 0 := by
 simp only [zcx] at h
 rcases zbs a with h1 | h1 <;> rcases zbs b with h2 | h2 <;> simp [h1, h2] at h ⊢
theorem zx9 {a b c : ByteArray} (h : zcx [a, b, c] = 0) : chk a = 0 ∧ chk b = 0 ∧ chk c = 0 := by
 simp only [zcx] at h
 rcases zbs a with h1 | h1 <;> rcases zbs b with h2 | h2 <;> rcases zbs c with h3 | h3 <;> simp [h1, h2, h3] at h ⊢
theorem zrq {a b c : ByteArray} (h : zgf a b c = 0) : chk a = 0 ∧ chk b = 0 ∧ (c = ⟨#[]⟩ ∨ chk c = 0) := by
 unfold zgf at h
 split at h
 ·rename_i hc; exact ⟨(z3g h).1, (z3g h).2, .inl hc⟩
 ·exact ⟨(zx9 h).1, (zx9 h).2.1, .inr (zx9 h).2.2⟩
end Go.V
set_option maxRecDepth 20000
namespace Go.V
open Go.Proofs Go.RowKit
theorem _root_.Go.V.Z14 {A B : Prop} (h : B) (t : Wr B → A := by intro h; refine z7 (qm rfl rfl rfl rfl) rfl ?_; exact h.h) : A := t ⟨h⟩
theorem _root_.Go.V.Z16 {A B : Prop} (h : B) (t : Wr B → A := by intro h; refine z7 (ya L rfl rfl rfl rfl rfl rfl rfl rfl) rfl ?_; exact h.h) : A := t ⟨h⟩
theorem _root_.Go.V.Z24 {A B : Prop} (h : B) (t : Wr B → A := by intro h; refine z7 (yh L rfl rfl rfl rfl) rfl ?_; exact h.h) : A := t ⟨h⟩
theorem _root_.Go.V.Z33 {A B : Prop} (h : B) (t : Wr B → A := by intro h; refine z8 (y7 rfl rfl rfl rfl (by assumption)) rfl ?_; exact h.h) : A := t ⟨h⟩
theorem _root_.Go.V.Z69 {A B : Prop} (h : B) (t : Wr B → A := by intro h; refine z7 (yo rfl rfl rfl rfl (zaa (by omega) (by omega))) rfl ?_; exact h.h) : A := t ⟨h⟩
theorem _root_.Go.V.Z94 {A B : Prop} (h : B) (t : Wr B → A := by intro h; refine qg (id := 8) [] mixed (by kernel_rfl) ?_; exact h.h) : A := t ⟨h⟩
theorem _root_.Go.V.Z109 {A B : Prop} (h : B) (t : Wr B → A := by intro h; refine z8 (ya L rfl rfl rfl rfl rfl rfl rfl rfl) rfl ?_; exact h.h) : A := t ⟨h⟩
theorem _root_.Go.V.Z123 {A B : Prop} (h : B) (t : Wr B → A := by intro h; refine qg (id := 5) [] mixed (by kernel_rfl) ?_; exact h.h) : A := t ⟨h⟩
theorem _root_.Go.V.Z131 {A B : Prop} (h : B) (t : Wr B → A := by intro h; refine qg (id := 7) [] mixed (by kernel_rfl) ?_; exact h.h) : A := t ⟨h⟩
theorem _root_.Go.V.Z167 {A B : Prop} (h : B) (t : Wr B → A := by intro h; refine Z14 ?_; refine Z14 ?_; exact h.h) : A := t ⟨h⟩
theorem _root_.Go.V.Z171 {A B : Prop} (h : B) (t : Wr B → A := by intro h; refine Z1 ?_; refine Z167 ?_; exact h.h) : A := t ⟨h⟩
theorem _root_.Go.V.Z182 {A B : Prop} (h : B) (t : Wr B → A := by intro h; refine Z2 ?_; refine Z136 ?_; exact h.h) : A := t ⟨h⟩
theorem _root_.Go.V.Z195 {A B : Prop} (h : B) (t : Wr B → A := by intro h; refine Z40 ?_; refine Z1 ?_; exact h.h) : A := t ⟨h⟩
theorem _root_.Go.V.Z198 {A B : Prop} (h : B) (t : Wr B → A := by intro h; refine Z2 ?_; refine Z142 ?_; exact h.h) : A := t ⟨h⟩
theorem _root_.Go.V.Z224 {A B : Prop} (h : B) (t : Wr B → A := by intro h; refine Z2 ?_; refine Z145 ?_; exact h.h) : A := t ⟨h⟩
theorem _root_.Go.V.Z242 {A B : Prop} (h : B) (t : Wr B → A := by intro h; refine Z171 ?_; refine Z198 ?_; exact h.h) : A := t ⟨h⟩
theorem _root_.Go.V.Z252 {A B : Prop} (h : B) (t : Wr B → A := by intro h; refine Z137 ?_; refine Z173 ?_; exact h.h) : A := t ⟨h⟩
theorem _root_.Go.V.Z253 {A B : Prop} (h : B) (t : Wr B → A := by intro h; refine Z41 ?_; refine Z141 ?_; exact h.h) : A := t ⟨h⟩
theorem _root_.Go.V.Z258 {A B : Prop} (h : B) (t : Wr B → A := by intro h; refine Z144 ?_; refine Z2 ?_; exact h.h) : A := t ⟨h⟩
theorem _root_.Go.V.Z278 {A B : Prop} (h : B) (t : Wr B → A := by intro h; refine Z24 ?_; refine Z2 ?_; exact h.h) : A := t ⟨h⟩
theorem _root_.Go.V.Z300 {A B : Prop} (h : B) (t : Wr B → A := by intro h; refine Z23 ?_; refine Z152 ?_; exact h.h) : A := t ⟨h⟩
theorem _root_.Go.V.Z327 {A B : Prop} (h : B) (t : Wr B → A := by intro h; refine Z152 ?_; refine Z27 ?_; exact h.h) : A := t ⟨h⟩
theorem _root_.Go.V.Z342 {A B : Prop} (h : B) (t : Wr B → A := by intro h; refine Z171 ?_; refine Z224 ?_; exact h.h) : A := t ⟨h⟩
def fi (c : UInt8) : List UInt8 → Nat
 | [] => 0
 | x :: l => if x = c then 0 else fi c l + 1
theorem z2z {c : UInt8} : ∀ {l : List UInt8}, c ∉ l → fi c l = l.length
 | [], _ => rfl
 | x :: l, h => by
  rw [fi, if_neg fun e => h (by rw [e]; exact List.mem_cons_self ..), z2z fun e => h (List.mem_cons_of_mem _ e), List.length_cons]
theorem zq1 {c : UInt8} {q : List UInt8} : ∀ {p : List UInt8}, c ∉ p → fi c (p ++ q) = p.length + fi c q
 | [], _ => by simp
 | x :: p, h => by
  rw [List.cons_append, fi, if_neg fun e => h (by rw [e]; exact List.mem_cons_self ..), zq1 fun e => h (List.mem_cons_of_mem _ e), List.length_cons]; omega
theorem z20 {c : UInt8} {q : List UInt8} : ∀ {p : List UInt8}, c ∈ p → fi c (p ++ q) < p.length
 | x :: p, h => by
  rw [List.cons_append, fi]
  split
  ·simp
  ·rename_i hx
   have := z20 (q := q) ((List.mem_cons.1 h).resolve_left fun e => hx e.symm)
   simp only [List.length_cons]; omega
theorem zjk (s : ByteArray) (c : UInt8) : noB s c ∨ ∃ a b, s = a ++ ⟨#[c]⟩ ++ b ∧ noB a c := by
 by_cases h : c ∈ s.data.toList
 ·obtain ⟨p, q, e, hp⟩ := List.eq_append_cons_of_mem h
  refine .inr ⟨⟨p.toArray⟩, ⟨q.toArray⟩, zfv ?_, by unfold noB; simpa using hp⟩
  rw [zbu, zbu, e]
  simp
 ·exact .inl h
theorem zh6 (p q r : ByteArray) (i j : Nat) (hi : i = p.size) (hj : j = p.size + q.size) : (p ++ q ++ r).extract i j = q := by
 subst hi hj
 apply zfv
 rw [ByteArray.data_extract, Array.toList_extract, List.extract, zbu, zbu]
 have h1 : p.data.toList.length = p.size := zbn p
 have h2 : q.data.toList.length = q.size := zbn q
 rw [List.append_assoc, ← h1, List.drop_left, List.take_left' (by omega)]
theorem zmp {a : ByteArray} {c : UInt8} (h : ¬ noB a c) : zy2 a c = true := by
 rcases zjk a c with h1 | ⟨p, q, rfl, hp⟩
 ·exact absurd h1 h
 ·unfold zy2
  have e : (p ++ ⟨#[c]⟩ ++ q).data.toList = p.data.toList ++ c :: q.data.toList := by rw [zbu, zbu]; simp
  rw [e, ze8 _ _ _ hp]
  simp
def rp1 (s : ByteArray) : ByteArray × ByteArray × ByteArray × Bool × Int :=
 match zd9 s with
 | none => (zds, zds, zds, false, 5)
 | some (x, y, z, d) => (x, y, z, d, if d = true then zcx [x, y, z] else zcx [x, y])
theorem ziy (a b : ByteArray) (c : UInt8) : (a ++ ⟨#[c]⟩ ++ b).data.toList = a.data.toList ++ c :: b.data.toList := by rw [zbu, zbu]; simp
theorem zme (a b : ByteArray) (c : UInt8) : (a ++ ⟨#[c]⟩ ++ b).size = a.size + 1 + b.size := by rw [ByteArray.size_append, ByteArray.size_append]; rfl
theorem zom {s : ByteArray} {c : UInt8} (h : ¬ noB s c) : 0 < s.data.toList.count c := List.count_pos_iff.2 (Classical.not_not.1 h)
attribute [local irreducible] V N X VO Par StepOK Has Ret RetL Src
set_option maxHeartbeats 1000000 in
theorem zcm {s : ByteArray} {c : UInt8} {a n : Nat} (ha : fi c s.data.toList = a) (hn : s.data.toList.count c = n) (hs : s.size ≤ 1000000) {w : World} {B : Heap} (hB : B.Le (hp w)) :
  Ret Tryz.prog 116 [.string s, .int .u8 c.toNat] w B (fun v _ => v = .tuple #[.int .i64 a, .int .i64 n]) := by
 subst ha hn
 have hlen := zbn s
 refine yi Tryz.func116 rfl Tryz.ntmps116 (Nat.le_of_ble_eq_true rfl) hB ?_
 refine Z258 ?_; refine Z160 ?_; refine Z1 ?_; refine Z50 ?_; refine Z224 ?_; refine Z169 ?_; refine Z50 ?_; refine Z69 ?_; refine Z197 ?_
 refine zai (fun x : Nat × Nat × Nat × Int => [(0, .is (.string s)), (1, .is (.int .u8 c.toNat)), (6, .is (.int .i64 x.2.1)), (7, .is (.int .i64 x.2.2.1)), (8, .is (.int .i64 x.2.2.2))])
  (fun x => x.1 ≤ s.size ∧ x.2.1 = x.1 + fi c (s.data.toList.drop x.1) ∧ x.2.2.1 = (s.data.toList.drop x.1).count c ∧ x.2.2.2 = (x.1 : Int) - 1 ∧ x.2.2.1 ≤ s.size - x.1) (fun x => x.1) (s.size, s.size, 0, (s.size : Int) - 1)
  ⟨Nat.le_refl _, by rw [List.drop_eq_nil_of_le (by omega)]; rfl, by rw [List.drop_eq_nil_of_le (by omega)]; rfl, rfl, Nat.zero_le _⟩ ⟨rfl, rfl, rfl, rfl, rfl, trivial⟩ ?_
 rintro ⟨i, a, n, z⟩ ⟨hi, ha, hn, hz, hb⟩
 dsimp only at hi ha hn hz hb ⊢
 cases i with
 | zero =>
  rw [List.drop_zero] at ha hn
  have hz0 : z < 0 := by omega
  obtain rfl : a = fi c s.data.toList := by omega
  subst hn
  refine Z252 ?_; refine Z46 ?_; refine Z181 ?_; refine zh ?_; refine Z56 ?_; refine Z138 ?_; refine Z182 ?_
  refine yf L (rs := [.tmp 4, .tmp 5]) rfl (fun _ _ h => h) Since.refl fun u H hH hle => ?_
  rfl
 | succ k =>
  obtain rfl : z = (k : Int) := by omega
  obtain ⟨x, hc⟩ := getElem?_lt (show k < s.size by omega)
  have hd : s.data.toList[k]? = some x := by
   have : s.data[k]? = some x := hc
   simpa using this
  have hdr : s.data.toList.drop k = x :: s.data.toList.drop (k + 1) := by
   have h1 : k < s.data.toList.length := by omega
   rw [List.drop_eq_getElem_cons h1]
   rw [List.getElem?_eq_getElem h1] at hd
   rw [Option.some.inj hd]
  by_cases hx : x = c
  ·subst hx
   refine Z252 ?_; refine Z253 ?_; refine Z166 ?_; refine Z255 ?_; refine Z54 ?_; refine Z1 ?_; refine Z300 ?_; refine Z187 ?_; refine Z136 ?_; refine Z195 ?_; refine Z190 ?_; refine Z161 ?_; refine Z156 ?_; refine Z69 ?_; refine Z150 ?_
   exact yk (x := (k + 1, a, n, (k : Int))) (k, k, n + 1, (k : Int) - 1) ⟨by dsimp only; omega, by dsimp only; rw [hdr, fi, if_pos rfl]; rfl, by dsimp only; rw [hdr, List.count_cons_self, hn], rfl, by dsimp only; omega⟩ (by dsimp only; omega) ⟨rfl, rfl, rfl, rfl, rfl, trivial⟩
  ·have hxc : (x.toNat : Int) ≠ (c.toNat : Int) := fun e => hx (UInt8.toNat_inj.1 (by omega))
   refine Z252 ?_; refine Z253 ?_; refine Z166 ?_; refine Z255 ?_; refine Z54 ?_; refine Z1 ?_; refine Z13 ?_; refine Z215 ?_; refine Z156 ?_; refine Z69 ?_; refine Z150 ?_
   exact yk (x := (k + 1, a, n, (k : Int))) (k, a, n, (k : Int) - 1) ⟨by dsimp only; omega, by dsimp only; rw [hdr, fi, if_neg hx, ha]; omega, by dsimp only; rw [hdr, List.count_cons_of_ne hx, hn], rfl, by dsimp only; omega⟩ (by dsimp only; omega) ⟨rfl, rfl, rfl, rfl, rfl, trivial⟩
set_option maxHeartbeats 2000000 in
theorem zpa {s : ByteArray} {r : ByteArray × ByteArray × ByteArray × Bool × Int} (hr : rp1 s = r) (hs : s.size ≤ 1000000) {w : World} {B : Heap} (hB : B.Le (hp w)) :
  Ret Tryz.prog 76 [.string s] w B (fun v _ => v = .tuple #[.agg #[.string r.1, .string r.2.1], .string r.2.2.1, .bool r.2.2.2.1, .int .i64 r.2.2.2.2]) := by
 subst hr
 have bad : zd9 s = none → ∀ {m k m2 k2 : Nat}, fi 58 s.data.toList = m → s.data.toList.count 58 = k → fi 35 s.data.toList = m2 → s.data.toList.count 35 = k2 → (k ≠ 1 ∨ 1 < k2 ∨ m2 < m) →
   Ret Tryz.prog 76 [.string s] w B (fun v _ => v = .tuple #[.agg #[.string (rp1 s).1, .string (rp1 s).2.1], .string (rp1 s).2.2.1, .bool (rp1 s).2.2.2.1, .int .i64 (rp1 s).2.2.2.2]) := by
  intro hp m k m2 k2 e1 e2 e3 e4 hor
  have hr1 : rp1 s = (zds, zds, zds, false, 5) := by unfold rp1; rw [hp]
  rw [hr1]
  refine yi Tryz.func76 rfl Tryz.ntmps76 (Nat.le_of_ble_eq_true rfl) hB ?_
  by_cases c1 : k = 1
  ·by_cases c2 : 1 < k2
   ·refine Z144 ?_; refine Z278 ?_; refine Z2 ?_; refine Z160 ?_; refine Z1 ?_; refine z7 (zw L rfl rfl (zk rfl) rfl rfl rfl (fun u H hH _ _ => zcm (c := 58) e1 e2 hs hH)) rfl ?_; refine Z242 ?_; refine Z169 ?_; refine z7 (zw L rfl rfl (zk rfl) rfl rfl rfl (fun u H hH _ _ => zcm (c := 35) e3 e4 hs hH)) rfl ?_; refine Z342 ?_; refine Z173 ?_; refine Z22 ?_; refine Z138 ?_; refine Z38 ?_; refine Z7 ?_; refine Z254 ?_; refine Z327 ?_; refine z7 (yu (cs := [_, _]) rfl rfl zpc rfl rfl) rfl ?_; refine Z16 ?_; refine Z2 ?_; refine Z182 ?_
    refine yf L (rs := [.cell 2 109, .tmp 3, .tmp 4, .tmp 5]) rfl (fun _ _ h => h) Since.refl fun u H hH hle => ?_
    exact ⟨_, yl rfl, rfl, rfl⟩
   ·have c3 : m2 < m := by omega
    refine Z144 ?_; refine Z278 ?_; refine Z2 ?_; refine Z160 ?_; refine Z1 ?_; refine z7 (zw L rfl rfl (zk rfl) rfl rfl rfl (fun u H hH _ _ => zcm (c := 58) e1 e2 hs hH)) rfl ?_; refine Z242 ?_; refine Z169 ?_; refine z7 (zw L rfl rfl (zk rfl) rfl rfl rfl (fun u H hH _ _ => zcm (c := 35) e3 e4 hs hH)) rfl ?_; refine Z342 ?_; refine Z173 ?_; refine Z22 ?_; refine Z138 ?_; refine Z296 ?_; refine Z172 ?_; refine Z8 ?_; refine Z7 ?_; refine Z327 ?_; refine z7 (yu (cs := [_, _]) rfl rfl zpc rfl rfl) rfl ?_; refine Z16 ?_; refine Z2 ?_; refine Z182 ?_
    refine yf L (rs := [.cell 2 109, .tmp 3, .tmp 4, .tmp 5]) rfl (fun _ _ h => h) Since.refl fun u H hH hle => ?_
    exact ⟨_, yl rfl, rfl, rfl⟩
  ·refine Z144 ?_; refine Z278 ?_; refine Z2 ?_; refine Z160 ?_; refine Z1 ?_; refine z7 (zw L rfl rfl (zk rfl) rfl rfl rfl (fun u H hH _ _ => zcm (c := 58) e1 e2 hs hH)) rfl ?_; refine Z242 ?_; refine Z169 ?_; refine z7 (zw L rfl rfl (zk rfl) rfl rfl rfl (fun u H hH _ _ => zcm (c := 35) e3 e4 hs hH)) rfl ?_; refine Z342 ?_; refine Z173 ?_; refine Z39 ?_; refine Z179 ?_; refine Z7 ?_; refine Z254 ?_; refine Z327 ?_; refine z7 (yu (cs := [_, _]) rfl rfl zpc rfl rfl) rfl ?_; refine Z16 ?_; refine Z2 ?_; refine Z182 ?_
   refine yf L (rs := [.cell 2 109, .tmp 3, .tmp 4, .tmp 5]) rfl (fun _ _ h => h) Since.refl fun u H hH hle => ?_
   exact ⟨_, yl rfl, rfl, rfl⟩
 rcases zjk s 58 with h58 | ⟨a, b, rfl, ha⟩
 ·refine bad ?_ rfl rfl rfl rfl (.inl ?_)
  ·unfold zd9; rw [zpr h58]; simp
  ·rw [List.count_eq_zero_of_not_mem h58]; decide
 ·have hcut : zhh (a ++ ⟨#[58]⟩ ++ b) 58 = (a, b, true) := zi4 ha
  have hls := ziy a b 58
  have hsz := zme a b 58
  by_cases hb : noB b 58
  ·have hf1 : fi 58 (a ++ ⟨#[58]⟩ ++ b).data.toList = a.size := by rw [hls, zq1 ha, zbn]; simp [fi]
   have hc1 : (a ++ ⟨#[58]⟩ ++ b).data.toList.count 58 = 1 := by rw [hls, List.count_append, List.count_cons_self, List.count_eq_zero_of_not_mem ha, List.count_eq_zero_of_not_mem hb]
   by_cases ha3 : noB a 35
   ·have hf2 : fi 35 (a ++ ⟨#[58]⟩ ++ b).data.toList = a.size + 1 + fi 35 b.data.toList := by rw [hls, zq1 ha3, zbn, fi, if_neg (by decide)]; omega
    have hc2 : (a ++ ⟨#[58]⟩ ++ b).data.toList.count 35 = b.data.toList.count 35 := by rw [hls, List.count_append, List.count_eq_zero_of_not_mem ha3, List.count_cons_of_ne (by decide)]; omega
    have hn1 := zpm ha3
    have hn2 := zpm hb
    have za : a.size ≤ 1099511627776 := by omega
    have zb : b.size ≤ 1099511627776 := by omega
    have hadd1 : IntKind.i64.wrap ((a.size : Int) + 1) = ((a.size + 1 : Nat) : Int) := zaa (by omega) (by omega) |>.trans (by omega)
    have x1 : (a ++ ⟨#[58]⟩ ++ b).extract 0 a.size = a := by
     have := zh6 ⟨#[]⟩ a (⟨#[58]⟩ ++ b) 0 a.size rfl (by show _ = 0 + _; omega)
     conv => rhs; rw [← this]
     congr 1; apply zfv; simp [zbu]
    rcases zjk b 35 with hb3 | ⟨c, e, rfl, hc3⟩
    ·have hp : zd9 (a ++ ⟨#[58]⟩ ++ b) = some (a, b, zds, false) := by
      unfold zd9; rw [hcut]
      simp only [hn1, hn2, z0p hb3, zpr hb3]
      simp
     have hr1 : rp1 (a ++ ⟨#[58]⟩ ++ b) = (a, b, zds, false, zcx [a, b]) := by unfold rp1; rw [hp]; rfl
     rw [hr1]
     have hf3 : fi 35 (a ++ ⟨#[58]⟩ ++ b).data.toList = a.size + 1 + b.size := by rw [hf2, z2z hb3, zbn]
     have hc3 : (a ++ ⟨#[58]⟩ ++ b).data.toList.count 35 = 0 := by rw [hc2, List.count_eq_zero_of_not_mem hb3]
     have x2 : (a ++ ⟨#[58]⟩ ++ b).extract (a.size + 1) (a.size + 1 + b.size) = b := by
      have := zh6 (a ++ ⟨#[58]⟩) b ⟨#[]⟩ (a.size + 1) (a.size + 1 + b.size) (by rw [ByteArray.size_append]; rfl) (by rw [ByteArray.size_append]; rfl)
      conv => rhs; rw [← this]
      congr 1; apply zfv; simp [zbu]
     generalize a ++ ⟨#[58]⟩ ++ b = s at *
     refine yi Tryz.func76 rfl Tryz.ntmps76 (Nat.le_of_ble_eq_true rfl) hB ?_
     refine Z144 ?_; refine Z278 ?_; refine Z2 ?_; refine Z160 ?_; refine Z1 ?_; refine z7 (zw L rfl rfl (zk rfl) rfl rfl rfl (fun u H hH _ _ => zcm (c := 58) hf1 hc1 hs hH)) rfl ?_; refine Z242 ?_; refine Z169 ?_; refine z7 (zw L rfl rfl (zk rfl) rfl rfl rfl (fun u H hH _ _ => zcm (c := 35) hf3 hc3 hs hH)) rfl ?_; refine Z342 ?_; refine Z173 ?_; refine Z22 ?_; refine Z138 ?_; refine Z296 ?_; refine Z172 ?_; refine Z11 ?_; refine Z7 ?_; refine Z158 ?_; refine Z123 ?_; refine Z143 ?_; refine z8 (zbp L (kl := .i64) (pl := 0) 0 a.size rfl rfl rfl rfl rfl ⟨rfl, rfl⟩ (by omega) (by omega) x1) rfl ?_; refine Z143 ?_; refine Z33 ?_; refine Z3 ?_; refine z8 (zbp L (a.size + 1) (a.size + 1 + b.size) rfl rfl rfl rfl ⟨rfl, rfl⟩ ⟨rfl, rfl⟩ (by omega) (by omega) x2) rfl ?_; refine z8 (yu (cs := [_, _]) rfl rfl zpc rfl rfl) rfl ?_; refine z8 (yh L rfl rfl rfl rfl) rfl ?_; refine Z109 ?_; refine Z147 ?_; refine Z137 ?_; refine Z187 ?_; refine Z300 ?_; refine Z131 ?_; refine z8 (qb L (vs := [_, _]) (yl rfl) rfl rfl rfl rfl ⟨_, rfl⟩) rfl ?_; refine z8 (qb L (vs := [_, _]) (yl rfl) rfl rfl rfl rfl ⟨_, rfl⟩) rfl ?_; refine z8 (zw L rfl rfl (zk rfl) rfl rfl rfl (fun u H hH _ _ => zd7 (by first | assumption | omega | decide) (by first | assumption | omega | decide) hH)) rfl ?_; refine Z109 ?_; refine Z36 ?_; refine Z36 ?_; refine Z175 ?_
     refine yf L (rs := [.cell 2 109, .tmp 3, .tmp 4, .tmp 5]) rfl (fun _ _ h => h) Since.refl fun u H hH hle => ?_
     exact ⟨_, yl rfl, rfl, rfl⟩
    ·have hls2 := ziy c e 35
     have hsz2 := zme c e 35
     by_cases he3 : noB e 35
     ·have hcn : (c ++ ⟨#[35]⟩ ++ e).data.toList.count 35 = 1 := by rw [hls2, List.count_append, List.count_cons_self, List.count_eq_zero_of_not_mem hc3, List.count_eq_zero_of_not_mem he3]
      have hp : zd9 (a ++ ⟨#[58]⟩ ++ (c ++ ⟨#[35]⟩ ++ e)) = some (a, c, e, true) := by
       unfold zd9; rw [hcut]
       have h4 : z1e (c ++ ⟨#[35]⟩ ++ e) 35 = 1 := hcn
       simp only [hn1, hn2, h4, zi4 hc3]
       simp
      have hr1 : rp1 (a ++ ⟨#[58]⟩ ++ (c ++ ⟨#[35]⟩ ++ e)) = (a, c, e, true, zcx [a, c, e]) := by unfold rp1; rw [hp]; rfl
      rw [hr1]
      have hf3 : fi 35 (a ++ ⟨#[58]⟩ ++ (c ++ ⟨#[35]⟩ ++ e)).data.toList = a.size + 1 + c.size := by rw [hf2, hls2, zq1 hc3, zbn]; simp [fi]
      have hc4 : (a ++ ⟨#[58]⟩ ++ (c ++ ⟨#[35]⟩ ++ e)).data.toList.count 35 = 1 := by rw [hc2, hcn]
      have x2 : (a ++ ⟨#[58]⟩ ++ (c ++ ⟨#[35]⟩ ++ e)).extract (a.size + 1) (a.size + 1 + c.size) = c := by
       have := zh6 (a ++ ⟨#[58]⟩) c (⟨#[35]⟩ ++ e) (a.size + 1) (a.size + 1 + c.size) (by rw [ByteArray.size_append]; rfl) (by rw [ByteArray.size_append]; rfl)
       conv => rhs; rw [← this]
       congr 1; apply zfv; simp [zbu]
      have x3 : (a ++ ⟨#[58]⟩ ++ (c ++ ⟨#[35]⟩ ++ e)).extract (a.size + 1 + c.size + 1) (a ++ ⟨#[58]⟩ ++ (c ++ ⟨#[35]⟩ ++ e)).size = e := by
       have := zh6 (a ++ ⟨#[58]⟩ ++ c ++ ⟨#[35]⟩) e ⟨#[]⟩ (a.size + 1 + c.size + 1) (a ++ ⟨#[58]⟩ ++ (c ++ ⟨#[35]⟩ ++ e)).size (by simp only [ByteArray.size_append]; rfl) (by simp only [ByteArray.size_append]; rw [show (⟨#[58]⟩ : ByteArray).size = 1 from rfl, show (⟨#[35]⟩ : ByteArray).size = 1 from rfl]; omega)
       conv => rhs; rw [← this]
       congr 1; apply zfv; simp [zbu]
      have hsz3 : (a ++ ⟨#[58]⟩ ++ (c ++ ⟨#[35]⟩ ++ e)).size = a.size + 1 + (c.size + 1 + e.size) := by rw [hsz, hsz2]
      have zc : c.size ≤ 1099511627776 := by omega
      have ze : e.size ≤ 1099511627776 := by omega
      have hadd2 : IntKind.i64.wrap (((a.size + 1 + c.size : Nat) : Int) + 1) = ((a.size + 1 + c.size + 1 : Nat) : Int) := zaa (by omega) (by omega) |>.trans (by omega)
      have hmx := z4e a c e
      generalize a ++ ⟨#[58]⟩ ++ (c ++ ⟨#[35]⟩ ++ e) = s at *
      refine yi Tryz.func76 rfl Tryz.ntmps76 (Nat.le_of_ble_eq_true rfl) hB ?_
      refine Z144 ?_; refine Z278 ?_; refine Z2 ?_; refine Z160 ?_; refine Z1 ?_; refine z7 (zw L rfl rfl (zk rfl) rfl rfl rfl (fun u H hH _ _ => zcm (c := 58) hf1 hc1 hs hH)) rfl ?_; refine Z242 ?_; refine Z169 ?_; refine z7 (zw L rfl rfl (zk rfl) rfl rfl rfl (fun u H hH _ _ => zcm (c := 35) hf3 hc4 hs hH)) rfl ?_; refine Z342 ?_; refine Z173 ?_; refine Z22 ?_; refine Z138 ?_; refine Z296 ?_; refine Z172 ?_; refine Z11 ?_; refine Z7 ?_; refine Z158 ?_; refine Z123 ?_; refine Z143 ?_; refine z8 (zbp L (kl := .i64) (pl := 0) 0 a.size rfl rfl rfl rfl rfl ⟨rfl, rfl⟩ (by omega) (by omega) x1) rfl ?_; refine Z143 ?_; refine Z33 ?_; refine Z3 ?_; refine z8 (zbp L (a.size + 1) (a.size + 1 + c.size) rfl rfl rfl rfl ⟨rfl, rfl⟩ ⟨rfl, rfl⟩ (by omega) (by omega) x2) rfl ?_; refine z8 (yu (cs := [_, _]) rfl rfl zpc rfl rfl) rfl ?_; refine z8 (yh L rfl rfl rfl rfl) rfl ?_; refine Z109 ?_; refine Z147 ?_; refine Z137 ?_; refine Z187 ?_; refine Z240 ?_; refine Z94 ?_; refine z8 (qb L (vs := [_, _]) (yl rfl) rfl rfl rfl rfl ⟨_, rfl⟩) rfl ?_; refine Z143 ?_; refine Z33 ?_; refine z8 (zbp L (kh := .i64) (ph := 0) (a.size + 1 + c.size + 1) _ rfl rfl rfl rfl ⟨rfl, rfl⟩ rfl (by omega) (by omega) x3) rfl ?_; refine z8 (qb L (vs := [_, _]) (yl rfl) rfl rfl rfl rfl ⟨_, rfl⟩) rfl ?_; refine z8 (zw L rfl rfl (zk rfl) rfl rfl rfl (fun u H hH _ _ => zd7 (by first | assumption | omega | decide) (by first | assumption | omega | decide) hH)) rfl ?_; refine Z143 ?_; refine Z33 ?_; refine z8 (zbp L (kh := .i64) (ph := 0) (a.size + 1 + c.size + 1) _ rfl rfl rfl rfl ⟨rfl, rfl⟩ rfl (by omega) (by omega) x3) rfl ?_; refine z8 (zw L rfl rfl (zk rfl) rfl rfl rfl (fun u H hH _ _ => zeu (by first | omega | decide) hH)) rfl ?_; refine z8 (zgc rfl rfl rfl rfl (by assumption)) rfl ?_; refine Z109 ?_; refine Z36 ?_; refine Z36 ?_; refine Z175 ?_
      refine yf L (rs := [.cell 2 109, .tmp 3, .tmp 4, .tmp 5]) rfl (fun _ _ h => h) Since.refl fun u H hH hle => ?_
      exact ⟨_, yl rfl, rfl, rfl⟩
     ·have hcn : 1 < (c ++ ⟨#[35]⟩ ++ e).data.toList.count 35 := by have := zom he3; rw [hls2, List.count_append, List.count_cons_self]; omega
      refine bad ?_ rfl rfl rfl rfl (.inr (.inl (by rw [hc2]; exact hcn)))
      unfold zd9; rw [hcut]
      have h4 : ¬ z1e (c ++ ⟨#[35]⟩ ++ e) 35 ≤ 1 := by unfold z1e Lib.countByte; omega
      simp only [h4, and_false, if_false]
   ·refine bad ?_ rfl rfl rfl rfl (.inr (.inr ?_))
    ·unfold zd9; rw [hcut]
     simp only [zmp ha3]
     simp
    ·rw [hf1, hls, ← zbn]
     exact z20 (Classical.not_not.1 ha3)
  ·refine bad ?_ rfl rfl rfl rfl (.inl ?_)
   ·unfold zd9; rw [hcut]
    simp only [zmp hb]
    simp
   ·have := zom hb
    rw [hls, List.count_append, List.count_cons_self]; omega
theorem zby {s x y z : ByteArray} {d : Bool} {e : Int} (hr : rp1 s = (x, y, z, d, e)) (hs : s.size ≤ 1000000) {w : World} {B : Heap} (hB : B.Le (hp w)) :
  Ret Tryz.prog 76 [.string s] w B (fun v _ => v = .tuple #[.agg #[.string x, .string y], .string z, .bool d, .int .i64 e]) := zpa hr hs hB
end Go.V
set_option maxRecDepth 20000
namespace Go.V.L2
open Go.Proofs Go.RowKit Go.V
theorem _root_.Go.V.Z20 {A B : Prop} (h : B) (t : Wr B → A := by intro h; refine z7 (y7 rfl rfl rfl rfl (by assumption)) rfl ?_; exact h.h) : A := t ⟨h⟩
theorem _root_.Go.V.Z49 {A B : Prop} (h : B) (t : Wr B → A := by intro h; refine z7 (zyz rfl rfl rfl rfl) rfl ?_; exact h.h) : A := t ⟨h⟩
theorem _root_.Go.V.Z74 {A B : Prop} (h : B) (t : Wr B → A := by intro h; refine zf (id := 14) ?_; exact h.h) : A := t ⟨h⟩
theorem _root_.Go.V.Z86 {A B : Prop} (h : B) (t : Wr B → A := by intro h; refine zf (id := 13) ?_; exact h.h) : A := t ⟨h⟩
theorem _root_.Go.V.Z95 {A B : Prop} (h : B) (t : Wr B → A := by intro h; refine zf (id := 15) ?_; exact h.h) : A := t ⟨h⟩
theorem _root_.Go.V.Z102 {A B : Prop} (h : B) (t : Wr B → A := by intro h; refine zf (id := 16) ?_; exact h.h) : A := t ⟨h⟩
theorem _root_.Go.V.Z103 {A B : Prop} (h : B) (t : Wr B → A := by intro h; refine zf (id := 18) ?_; exact h.h) : A := t ⟨h⟩
theorem _root_.Go.V.Z108 {A B : Prop} (h : B) (t : Wr B → A := by intro h; refine zf (id := 17) ?_; exact h.h) : A := t ⟨h⟩
theorem _root_.Go.V.Z117 {A B : Prop} (h : B) (t : Wr B → A := by intro h; refine z7 (yb rfl rfl rfl rfl rfl) rfl ?_; exact h.h) : A := t ⟨h⟩
theorem _root_.Go.V.Z199 {A B : Prop} (h : B) (t : Wr B → A := by intro h; refine Z24 ?_; refine Z16 ?_; exact h.h) : A := t ⟨h⟩
theorem _root_.Go.V.Z231 {A B : Prop} (h : B) (t : Wr B → A := by intro h; refine Z16 ?_; refine Z136 ?_; exact h.h) : A := t ⟨h⟩
theorem _root_.Go.V.Z259 {A B : Prop} (h : B) (t : Wr B → A := by intro h; refine Z65 ?_; refine Z1 ?_; exact h.h) : A := t ⟨h⟩
theorem _root_.Go.V.Z288 {A B : Prop} (h : B) (t : Wr B → A := by intro h; refine Z138 ?_; refine Z20 ?_; exact h.h) : A := t ⟨h⟩
theorem _root_.Go.V.Z301 {A B : Prop} (h : B) (t : Wr B → A := by intro h; refine Z86 ?_; refine Z1 ?_; exact h.h) : A := t ⟨h⟩
theorem _root_.Go.V.Z302 {A B : Prop} (h : B) (t : Wr B → A := by intro h; refine Z49 ?_; refine Z7 ?_; exact h.h) : A := t ⟨h⟩
theorem _root_.Go.V.Z343 {A B : Prop} (h : B) (t : Wr B → A := by intro h; refine Z144 ?_; refine Z24 ?_; exact h.h) : A := t ⟨h⟩
theorem _root_.Go.V.Z394 {A B : Prop} (h : B) (t : Wr B → A := by intro h; refine Z67 ?_; refine Z138 ?_; exact h.h) : A := t ⟨h⟩
theorem zzz (a : ByteArray) : pgA a = if (rp1 a).2.2.2.1 = false then (zds, zds, zds, 5) else if (rp1 a).2.2.2.2 = 0 then ((rp1 a).1, (rp1 a).2.1, (rp1 a).2.2.1, 0) else (zds, zds, zds, (rp1 a).2.2.2.2) := by
 unfold pgA rp1
 rcases zd9 a with _ | ⟨x, y, z, d⟩
 ·rfl
 ·cases d
  ·rfl
  ·simp only [if_true]
theorem z1v (a : ByteArray) : psA a = if (rp1 a).2.2.2.2 = 0 then ((rp1 a).1, (rp1 a).2.1, (rp1 a).2.2.1, 0) else (zds, zds, zds, (rp1 a).2.2.2.2) := by
 unfold psA rp1
 rcases zd9 a with _ | ⟨x, y, z, d⟩
 ·rfl
 ·dsimp only
  cases d
  ·simp
  ·simp only [if_true, zcx]
   rcases zbs x with h1 | h1 <;> rcases zbs y with h2 | h2 <;> rcases zbs z with h3 | h3 <;> simp [h1, h2, h3]
theorem z4w {l a b : List UInt8} {c : UInt8} {k : Nat} (e : l = a ++ c :: b) (ha : c ∉ a) (hb : c ∉ b) (hk : l[k]? = some c) : k = a.length := by
 subst e
 rcases Nat.lt_trichotomy k a.length with h | h | h
 ·rw [List.getElem?_append_left h] at hk
  exact absurd (List.mem_of_getElem? hk) ha
 ·exact h
 ·rw [List.getElem?_append_right (by omega), show k - a.length = (k - a.length - 1) + 1 by omega, List.getElem?_cons_succ] at hk
  exact absurd (List.mem_of_getElem? hk) hb
attribute [local irreducible] V N X VO Par StepOK Has Ret RetL Src
set_option maxHeartbeats 4000000 in
theorem zjt {s : ByteArray} {r : U × Int} (hr : ptA s = r) (hs : s.size ≤ 1000000) {w : World} {B : Heap} (hB : B.Le (hp w)) :
  Ret Tryz.prog 47 [.string s] w B (fun v _ => v = .tuple #[uv r.1, .int .i64 r.2]) := by
 subst hr
 have hlen := zbn s
 refine yi Tryz.func47 rfl Tryz.ntmps47 (Nat.le_of_ble_eq_true rfl) hB ?_
 refine Z343 ?_; refine Z160 ?_; refine Z224 ?_; refine Z370 ?_
 refine zai (fun x : Nat × Nat × Nat => [(0, .is (.string s)), (2, .own (Cell [.string ⟨#[]⟩, .string ⟨#[]⟩, .string ⟨#[]⟩, .string ⟨#[]⟩, .string ⟨#[]⟩, .string ⟨#[]⟩] tyU)), (4, .is (.int .i64 x.2.1)), (5, .is (.int .i64 x.2.2)), (6, .is (.int .i64 x.1))])
  (fun x => x.1 ≤ s.size ∧ x.2.2 = (s.data.toList.take x.1).count 64 ∧ x.2.2 ≤ x.1 ∧ (x.2.2 = 1 → x.2.1 < s.size ∧ s.data.toList[x.2.1]? = some 64)) (fun x => s.size - x.1) (0, 0, 0)
  ⟨Nat.zero_le _, by simp, Nat.le_refl _, fun h => by cases h⟩ ⟨rfl, rfl, rfl, rfl, rfl, trivial⟩ ?_
 rintro ⟨i, k, n⟩ ⟨hi, hn, hni, hk⟩
 dsimp only at hi hn hni hk ⊢
 by_cases hlt : i < s.size
 ·obtain ⟨x, hc⟩ := getElem?_lt hlt
  have hd : s.data.toList[i]? = some x := by
   have : s.data[i]? = some x := hc
   simpa using this
  have htk : s.data.toList.take (i + 1) = s.data.toList.take i ++ [x] := by rw [List.take_add_one, hd]; rfl
  by_cases hx : x = 64
  ·subst hx
   refine Z266 ?_; refine Z170 ?_; refine Z166 ?_; refine Z255 ?_; refine Z54 ?_; refine Z117 ?_; refine Z152 ?_; refine Z187 ?_; refine Z136 ?_; refine Z195 ?_; refine Z190 ?_; refine Z161 ?_; refine Z372 ?_
   exact yk (x := (i, k, n)) (i + 1, i, n + 1) ⟨hlt, by dsimp only; rw [htk, List.count_append, ← hn]; rfl, by dsimp only; omega, fun _ => ⟨hlt, hd⟩⟩ (by dsimp only; omega) ⟨rfl, rfl, rfl, rfl, rfl, trivial⟩
  ·have hxc : (x.toNat : Int) ≠ 64 := fun e => hx (UInt8.toNat_inj.1 (by show x.toNat = 64; omega))
   refine Z266 ?_; refine Z170 ?_; refine Z166 ?_; refine Z255 ?_; refine Z54 ?_; refine Z13 ?_; refine Z215 ?_; refine Z372 ?_
   exact yk (x := (i, k, n)) (i + 1, k, n) ⟨hlt, by dsimp only; rw [htk, List.count_append, ← hn, List.count_cons_of_ne hx]; rfl, by dsimp only; omega, hk⟩ (by dsimp only; omega) ⟨rfl, rfl, rfl, rfl, rfl, trivial⟩
 ·obtain rfl : i = s.size := by omega
  rw [List.take_of_length_le (by omega)] at hn
  by_cases h1 : n = 1
  ·obtain ⟨hk1, hk2⟩ := hk h1
   rcases zjk s 64 with h64 | ⟨a, b, rfl, ha⟩
   ·rw [List.count_eq_zero_of_not_mem h64] at hn; omega
   ·have hls := ziy a b 64
    have hsz := zme a b 64
    have hb : noB b 64 := fun hm => by
     have := List.count_pos_iff.2 hm
     rw [hls, List.count_append, List.count_cons_self] at hn
     omega
    obtain rfl : k = a.size := (z4w hls ha hb hk2).trans (zbn a)
    have hcut : zhh (a ++ ⟨#[64]⟩ ++ b) 64 = (a, b, true) := zi4 ha
    have x1 : (a ++ ⟨#[64]⟩ ++ b).extract 0 a.size = a := by
     have := zh6 ⟨#[]⟩ a (⟨#[64]⟩ ++ b) 0 a.size rfl (by show _ = 0 + _; omega)
     conv => rhs; rw [← this]
     congr 1; apply zfv; simp [zbu]
    have x2 : (a ++ ⟨#[64]⟩ ++ b).extract (a.size + 1) (a ++ ⟨#[64]⟩ ++ b).size = b := by
     have := zh6 (a ++ ⟨#[64]⟩) b ⟨#[]⟩ (a.size + 1) (a ++ ⟨#[64]⟩ ++ b).size (by rw [ByteArray.size_append]; rfl) (by rw [ByteArray.size_append])
     conv => rhs; rw [← this]
     congr 1; apply zfv; simp [zbu]
    have za : a.size ≤ 1000000 := by omega
    have zb : b.size ≤ 1000000 := by omega
    have hadd : IntKind.i64.wrap ((a.size : Int) + 1) = ((a.size + 1 : Nat) : Int) := zaa (by omega) (by omega) |>.trans (by omega)
    have hpt : ptA (a ++ ⟨#[64]⟩ ++ b) = if (pgA a).2.2.2 = 0 then (if (psA b).2.2.2 = 0 then (((((pgA a).1, (pgA a).2.1), (pgA a).2.2.1), (((psA b).1, (psA b).2.1), (psA b).2.2.1)), 0) else ((((⟨#[]⟩, ⟨#[]⟩), ⟨#[]⟩), ((⟨#[]⟩, ⟨#[]⟩), ⟨#[]⟩)), (psA b).2.2.2)) else ((((⟨#[]⟩, ⟨#[]⟩), ⟨#[]⟩), ((⟨#[]⟩, ⟨#[]⟩), ⟨#[]⟩)), (pgA a).2.2.2) := by
     unfold ptA
     rw [hcut]
     dsimp only
     rw [if_pos ⟨rfl, zpm hb⟩]
    clear hk hk2 hn hcut
    generalize a ++ ⟨#[64]⟩ ++ b = s at *
    rcases hra : rp1 a with ⟨o1, o2, rel, has, e⟩
    rcases hrb : rp1 b with ⟨p1, p2, rel2, has2, e2⟩
    cases has
    ·have g1 : pgA a = (zds, zds, zds, 5) := by rw [zzz, hra]; rfl
     rw [hpt, g1, if_neg (by decide)]
     by_cases h5 : e = 5
     ·skip
      refine Z266 ?_; refine Z206 ?_; refine Z325 ?_; refine Z228 ?_; refine Z394 ?_; refine z7 (zbp L (kl := .i64) (pl := 0) 0 a.size rfl rfl rfl rfl rfl ⟨rfl, rfl⟩ (by omega) (by omega) x1) rfl ?_; refine z7 (zw L rfl rfl (zk rfl) rfl rfl rfl (fun u H hH _ _ => zby hra za hH)) rfl ?_; refine Z171 ?_; refine Z167 ?_; refine Z199 ?_; refine Z2 ?_; refine Z224 ?_; refine Z259 ?_; refine Z22 ?_; refine Z179 ?_; refine Z7 ?_; refine Z165 ?_; refine Z301 ?_; refine Z205 ?_; refine Z74 ?_; refine z7 (yu (cs := [_, _, _, _, _, _]) rfl rfl zfd rfl rfl) rfl ?_; refine Z1 ?_; refine Z231 ?_
      refine yf L (rs := [.cell 2 114, .tmp 3]) rfl (fun _ _ h => h) Since.refl fun u H hH hle => ?_
      refine ⟨_, yl rfl, rfl, ?_⟩
      rw [h5]; rfl
     ·refine Z266 ?_; refine Z206 ?_; refine Z325 ?_; refine Z228 ?_; refine Z394 ?_; refine z7 (zbp L (kl := .i64) (pl := 0) 0 a.size rfl rfl rfl rfl rfl ⟨rfl, rfl⟩ (by omega) (by omega) x1) rfl ?_; refine z7 (zw L rfl rfl (zk rfl) rfl rfl rfl (fun u H hH _ _ => zby hra za hH)) rfl ?_; refine Z171 ?_; refine Z167 ?_; refine Z199 ?_; refine Z2 ?_; refine Z224 ?_; refine Z259 ?_; refine Z39 ?_; refine Z138 ?_; refine Z49 ?_; refine Z249 ?_; refine Z80 ?_; refine Z145 ?_; refine Z301 ?_; refine Z205 ?_; refine Z74 ?_; refine z7 (yu (cs := [_, _, _, _, _, _]) rfl rfl zfd rfl rfl) rfl ?_; refine Z1 ?_; refine Z231 ?_
      refine yf L (rs := [.cell 2 114, .tmp 3]) rfl (fun _ _ h => h) Since.refl fun u H hH hle => ?_
      exact ⟨_, yl rfl, rfl, rfl⟩
    ·by_cases h0 : e = 0
     ·have g1 : pgA a = (o1, o2, rel, 0) := by rw [zzz, hra]; dsimp only; rw [if_neg (by decide), if_pos h0]
      by_cases h02 : e2 = 0
      ·have g2 : psA b = (p1, p2, rel2, 0) := by rw [z1v, hrb]; dsimp only; rw [if_pos h02]
       rw [hpt, g1, g2, if_pos rfl, if_pos rfl]
       refine Z266 ?_; refine Z206 ?_; refine Z325 ?_; refine Z228 ?_; refine Z394 ?_; refine z7 (zbp L (kl := .i64) (pl := 0) 0 a.size rfl rfl rfl rfl rfl ⟨rfl, rfl⟩ (by omega) (by omega) x1) rfl ?_; refine z7 (zw L rfl rfl (zk rfl) rfl rfl rfl (fun u H hH _ _ => zby hra za hH)) rfl ?_; refine Z171 ?_; refine Z167 ?_; refine Z199 ?_; refine Z2 ?_; refine Z224 ?_; refine Z259 ?_; refine Z39 ?_; refine Z138 ?_; refine Z302 ?_; refine Z165 ?_; refine Z301 ?_; refine Z228 ?_; refine Z95 ?_; refine Z288 ?_; refine z7 (zbp L (kh := .i64) (ph := 0) (a.size + 1) _ rfl rfl rfl rfl ⟨rfl, rfl⟩ rfl (by omega) (by omega) x2) rfl ?_; refine z7 (zw L rfl rfl (zk rfl) rfl rfl rfl (fun u H hH _ _ => zby hrb zb hH)) rfl ?_; refine Z171 ?_; refine Z167 ?_; refine Z199 ?_; refine Z2 ?_; refine Z224 ?_; refine Z102 ?_; refine Z1 ?_; refine Z228 ?_; refine Z103 ?_; refine z7 (qb L (vs := [_, _]) (yl rfl) rfl rfl rfl rfl ⟨_, rfl⟩) rfl ?_; refine Z1 ?_; refine z7 (yu (cs := [_, _, _]) rfl rfl z16 rfl rfl) rfl ?_; refine z7 (qb L (vs := [_, _]) (yl rfl) rfl rfl rfl rfl ⟨_, rfl⟩) rfl ?_; refine Z1 ?_; refine z7 (yu (cs := [_, _, _]) rfl rfl z15 rfl rfl) rfl ?_; refine z7 (yu (cs := [_, _, _, _, _, _]) rfl rfl zfd rfl rfl) rfl ?_; refine Z231 ?_
       refine yf L (rs := [.cell 2 114, .tmp 3]) rfl (fun _ _ h => h) Since.refl fun u H hH hle => ?_
       exact ⟨_, yl rfl, rfl, rfl⟩
      ·have g2 : psA b = (zds, zds, zds, e2) := by rw [z1v, hrb]; dsimp only; rw [if_neg h02]
       rw [hpt, g1, g2, if_pos rfl, if_neg h02]
       refine Z266 ?_; refine Z206 ?_; refine Z325 ?_; refine Z228 ?_; refine Z394 ?_; refine z7 (zbp L (kl := .i64) (pl := 0) 0 a.size rfl rfl rfl rfl rfl ⟨rfl, rfl⟩ (by omega) (by omega) x1) rfl ?_; refine z7 (zw L rfl rfl (zk rfl) rfl rfl rfl (fun u H hH _ _ => zby hra za hH)) rfl ?_; refine Z171 ?_; refine Z167 ?_; refine Z199 ?_; refine Z2 ?_; refine Z224 ?_; refine Z259 ?_; refine Z39 ?_; refine Z138 ?_; refine Z302 ?_; refine Z165 ?_; refine Z301 ?_; refine Z228 ?_; refine Z95 ?_; refine Z288 ?_; refine z7 (zbp L (kh := .i64) (ph := 0) (a.size + 1) _ rfl rfl rfl rfl ⟨rfl, rfl⟩ rfl (by omega) (by omega) x2) rfl ?_; refine z7 (zw L rfl rfl (zk rfl) rfl rfl rfl (fun u H hH _ _ => zby hrb zb hH)) rfl ?_; refine Z171 ?_; refine Z167 ?_; refine Z199 ?_; refine Z2 ?_; refine Z224 ?_; refine Z102 ?_; refine Z1 ?_; refine Z205 ?_; refine Z108 ?_; refine z7 (yu (cs := [_, _, _, _, _, _]) rfl rfl zfd rfl rfl) rfl ?_; refine Z1 ?_; refine Z231 ?_
       refine yf L (rs := [.cell 2 114, .tmp 3]) rfl (fun _ _ h => h) Since.refl fun u H hH hle => ?_
       exact ⟨_, yl rfl, rfl, rfl⟩
     ·have g1 : pgA a = (zds, zds, zds, e) := by rw [zzz, hra]; dsimp only; rw [if_neg (by decide), if_neg h0]
      rw [hpt, g1, if_neg h0]
      by_cases h5 : e = 5
      ·refine Z266 ?_; refine Z206 ?_; refine Z325 ?_; refine Z228 ?_; refine Z394 ?_; refine z7 (zbp L (kl := .i64) (pl := 0) 0 a.size rfl rfl rfl rfl rfl ⟨rfl, rfl⟩ (by omega) (by omega) x1) rfl ?_; refine z7 (zw L rfl rfl (zk rfl) rfl rfl rfl (fun u H hH _ _ => zby hra za hH)) rfl ?_; refine Z171 ?_; refine Z167 ?_; refine Z199 ?_; refine Z2 ?_; refine Z224 ?_; refine Z259 ?_; refine Z22 ?_; refine Z179 ?_; refine Z7 ?_; refine Z165 ?_; refine Z301 ?_; refine Z205 ?_; refine Z74 ?_; refine z7 (yu (cs := [_, _, _, _, _, _]) rfl rfl zfd rfl rfl) rfl ?_; refine Z1 ?_; refine Z231 ?_
       refine yf L (rs := [.cell 2 114, .tmp 3]) rfl (fun _ _ h => h) Since.refl fun u H hH hle => ?_
       exact ⟨_, yl rfl, rfl, rfl⟩
      ·refine Z266 ?_; refine Z206 ?_; refine Z325 ?_; refine Z228 ?_; refine Z394 ?_; refine z7 (zbp L (kl := .i64) (pl := 0) 0 a.size rfl rfl rfl rfl rfl ⟨rfl, rfl⟩ (by omega) (by omega) x1) rfl ?_; refine z7 (zw L rfl rfl (zk rfl) rfl rfl rfl (fun u H hH _ _ => zby hra za hH)) rfl ?_; refine Z171 ?_; refine Z167 ?_; refine Z199 ?_; refine Z2 ?_; refine Z224 ?_; refine Z259 ?_; refine Z39 ?_; refine Z138 ?_; refine Z302 ?_; refine Z165 ?_; refine Z301 ?_; refine Z205 ?_; refine Z74 ?_; refine z7 (yu (cs := [_, _, _, _, _, _]) rfl rfl zfd rfl rfl) rfl ?_; refine Z1 ?_; refine Z231 ?_
       refine yf L (rs := [.cell 2 114, .tmp 3]) rfl (fun _ _ h => h) Since.refl fun u H hH hle => ?_
       exact ⟨_, yl rfl, rfl, rfl⟩
  ·have hpt : ptA s = ((((⟨#[]⟩, ⟨#[]⟩), ⟨#[]⟩), ((⟨#[]⟩, ⟨#[]⟩), ⟨#[]⟩)), 5) := by
    unfold ptA
    rw [if_neg]
    rintro ⟨hc1, hc2⟩
    rcases zjk s 64 with h64 | ⟨a, b, rfl, ha⟩
    ·rw [zpr h64] at hc1; cases hc1
    ·rw [zi4 ha] at hc2
     by_cases hb : noB b 64
     ·apply h1
      rw [hn, ziy, List.count_append, List.count_cons_self, List.count_eq_zero_of_not_mem ha, List.count_eq_zero_of_not_mem hb]
     ·rw [show zy2 b 64 = true from zmp hb] at hc2
      cases hc2
   rw [hpt]
   refine Z266 ?_; refine Z206 ?_; refine Z325 ?_; refine Z205 ?_; refine Z60 ?_; refine z7 (yu (cs := [_, _, _, _, _, _]) rfl rfl zfd rfl rfl) rfl ?_; refine Z231 ?_
   refine yf L (rs := [.cell 2 114, .tmp 3]) rfl (fun _ _ h => h) Since.refl fun u H hH hle => ?_
   exact ⟨_, yl rfl, rfl, rfl⟩
end Go.V.L2
set_option maxRecDepth 20000
namespace Go.V.L2
open Go.Proofs Go.RowKit Go.V
end Go.V.L2
set_option maxRecDepth 20000
namespace Go.V.L3
open Go.Proofs Go.RowKit Go.V Go.V.L2
abbrev FT := zyh × zyh × Bool
abbrev n3 : zyh := ((⟨#[]⟩, ⟨#[]⟩), ⟨#[]⟩)
end Go.V.L3
set_option maxRecDepth 20000
namespace Go.V.L3
open Go.Proofs Go.RowKit Go.V Go.V.L2
end Go.V.L3
