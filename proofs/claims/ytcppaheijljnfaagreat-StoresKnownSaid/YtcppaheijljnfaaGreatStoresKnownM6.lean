/- StoresKnown returns true: no condition. -/
import Derived.Test.YtcppaheijljnfaaGreatStoresKnownM5
import Derived.ProofKit
import Derived.HandedShaped
import Derived.OpenShut
import Derived.Carry
import Derived.Deep.Slices
import Derived.Test.YtcppaheijljnfaaGreatRows
set_option linter.unusedVariables false
set_option linter.unusedSimpArgs false
set_option maxRecDepth 20000
namespace Go.V.L2
open Go.Proofs Go.RowKit Go.V
theorem _root_.Go.V.Z60 {A B : Prop} (h : B) (t : Wr B → A := by intro h; refine z8 (ye L 0 rfl rfl rfl rfl rfl rfl rfl (by first | omega | decide) (by assumption)) rfl ?_; exact h.h) : A := t ⟨h⟩
theorem _root_.Go.V.Z68 {A B : Prop} (h : B) (t : Wr B → A := by intro h; refine z7 (ye L 0 rfl rfl rfl rfl rfl rfl rfl (by first | omega | decide) (by assumption)) rfl ?_; exact h.h) : A := t ⟨h⟩
theorem _root_.Go.V.Z98 {A B : Prop} (h : B) (t : Wr B → A := by intro h; refine qk (ok_append L rfl rfl rfl (apd_B rfl) rfl el114 rfl rfl (by omega) (by omega)) ?_; exact h.h) : A := t ⟨h⟩
theorem _root_.Go.V.Z279 {A B : Prop} (h : B) (t : Wr B → A := by intro h; refine Z139 ?_; refine Z37 ?_; exact h.h) : A := t ⟨h⟩
theorem _root_.Go.V.Z280 {A B : Prop} (h : B) (t : Wr B → A := by intro h; refine Z62 ?_; refine Z60 ?_; exact h.h) : A := t ⟨h⟩
theorem _root_.Go.V.Z297 {A B : Prop} (h : B) (t : Wr B → A := by intro h; refine Z131 ?_; refine Z42 ?_; exact h.h) : A := t ⟨h⟩
theorem _root_.Go.V.Z314 {A B : Prop} (h : B) (t : Wr B → A := by intro h; refine Z195 ?_; refine Z43 ?_; exact h.h) : A := t ⟨h⟩
theorem _root_.Go.V.Z315 {A B : Prop} (h : B) (t : Wr B → A := by intro h; refine Z314 ?_; refine Z124 ?_; exact h.h) : A := t ⟨h⟩
theorem _root_.Go.V.Z316 {A B : Prop} (h : B) (t : Wr B → A := by intro h; refine Z315 ?_; refine Z273 ?_; exact h.h) : A := t ⟨h⟩
theorem _root_.Go.V.Z317 {A B : Prop} (h : B) (t : Wr B → A := by intro h; refine Z316 ?_; refine Z139 ?_; exact h.h) : A := t ⟨h⟩
theorem _root_.Go.V.Z318 {A B : Prop} (h : B) (t : Wr B → A := by intro h; refine Z170 ?_; refine Z162 ?_; exact h.h) : A := t ⟨h⟩
theorem _root_.Go.V.Z319 {A B : Prop} (h : B) (t : Wr B → A := by intro h; refine Z318 ?_; refine Z219 ?_; exact h.h) : A := t ⟨h⟩
theorem _root_.Go.V.Z320 {A B : Prop} (h : B) (t : Wr B → A := by intro h; refine Z7 ?_; refine Z68 ?_; exact h.h) : A := t ⟨h⟩
theorem _root_.Go.V.Z321 {A B : Prop} (h : B) (t : Wr B → A := by intro h; refine Z162 ?_; refine Z236 ?_; exact h.h) : A := t ⟨h⟩
theorem _root_.Go.V.Z322 {A B : Prop} (h : B) (t : Wr B → A := by intro h; refine Z81 ?_; refine Z123 ?_; exact h.h) : A := t ⟨h⟩
theorem _root_.Go.V.Z324 {A B : Prop} (h : B) (t : Wr B → A := by intro h; refine Z214 ?_; refine zf (id := 19) ?_; exact h.h) : A := t ⟨h⟩
theorem tups2 {φ : Value → Heap → Prop} {a tv : Value} {H : Heap} (h : φ tv H) : TupS [φ, fun v _ => v = a] (.tuple #[tv, a]) H :=
  ⟨[tv, a], rfl, rfl, fun i ψ x hi hx => by
    rcases i with _ | _ | i
    · simp at hi hx; subst hi hx; exact h
    · simp at hi hx; subst hi hx; rfl
    · simp at hi⟩
theorem tups2_mono {φ : Value → Heap → Prop} {a : Value} (h : Kn.mono (.sat φ)) : Kn.mono (.sat (TupS [φ, fun v _ => v = a])) := TupS.mono fun ψ hψ => by
  rcases List.mem_cons.1 hψ with rfl | hψ
  · exact h
  · rw [List.mem_singleton] at hψ
    subst hψ
    exact fun _ _ _ h _ => h
theorem mrgS_length {α : Type} {c : α → α → Int} {f : Bool → Bool → Bool} : ∀ (n : Nat) (l m : List α), l.length + m.length ≤ n → (mrgS c f n l m).length ≤ l.length + m.length
  | 0, _, _, _ => by simp [mrgS]
  | n + 1, [], [], _ => by simp [mrgS]
  | n + 1, a :: l, [], h => by
    have := mrgS_length (c := c) (f := f) n l [] (by simp only [List.length_cons, List.length_nil] at h ⊢; omega)
    simp only [mrgS, List.length_append, List.length_cons, List.length_nil] at this ⊢
    split <;> simp only [List.length_cons, List.length_nil] <;> omega
  | n + 1, [], b :: m, h => by
    have := mrgS_length (c := c) (f := f) n [] m (by simp only [List.length_cons, List.length_nil] at h ⊢; omega)
    simp only [mrgS, List.length_append, List.length_cons, List.length_nil] at this ⊢
    split <;> simp only [List.length_cons, List.length_nil] <;> omega
  | n + 1, a :: l, b :: m, h => by
    simp only [List.length_cons] at h
    have h1 := mrgS_length (c := c) (f := f) n l (b :: m) (by simp only [List.length_cons]; omega)
    have h2 := mrgS_length (c := c) (f := f) n (a :: l) m (by simp only [List.length_cons]; omega)
    have h3 := mrgS_length (c := c) (f := f) n l m (by omega)
    simp only [List.length_cons] at h1 h2
    simp only [mrgS]
    split
    · rw [List.length_append]; split <;> simp only [List.length_cons, List.length_nil] <;> omega
    · split
      · rw [List.length_append]; split <;> simp only [List.length_cons, List.length_nil] <;> omega
      · rw [List.length_append]; split <;> simp only [List.length_cons, List.length_nil] <;> omega
def mrgR (f : Bool → Bool → Bool) (l m : List U) : List U × Int :=
  if 4096 < l.length ∨ 4096 < m.length then ([], 3) else if (isB l && isB m) = true then (mrgS cmpT f (l.length + m.length) l m, 0) else ([], 18)
abbrev LE (r : List U × Int) : Value → Heap → Prop := TupS [US r.1 true, fun v _ => v = .int .i64 r.2]
theorem LE.mono {r : List U × Int} : Kn.mono (.sat (LE r)) := tups2_mono SlV.mono
theorem tail_cut (a : U) (l : List U) : (((a :: l).flatMap ucs).drop (1 * 6)).take (((a :: l).length - 1) * 6) = l.flatMap ucs := by
  rw [List.flatMap_cons, List.drop_left' (by rfl), List.length_cons, Nat.add_sub_cancel, List.take_of_length_le (Nat.le_of_eq (flatMap_len ucs_len l))]
theorem us_snoc {κ : Kap} {s : Nat} {out : List U} {t : U} (h : κ s = some (.own (SlR tyU 6 (out.length + 1) (out.flatMap ucs ++ [.string t.1.1.1, .string t.1.1.2, .string t.1.2, .string t.2.1.1, .string t.2.1.2, .string t.2.2])))) : κ s = some (.own (SlR tyU 6 (out ++ [t]).length ((out ++ [t]).flatMap ucs))) := by
  rw [h, List.flatMap_append, List.length_append]; simp [ucs]
attribute [local irreducible] V N X VO Par StepOK Has Ret RetL Src
set_option maxHeartbeats 4000000 in
theorem merge_ret {f : Bool → Bool → Bool} {tf : Nat} (hfn : L.fn tf = some ()) (hf : ∀ (p q : Bool) (u : World) (H : Heap), H.Le (hp u) → Ret Tryz.prog tf [.bool p, .bool q] u H (fun v _ => v = .bool (f p q))) {l m : List U} {fa fb : Bool}
    {r : List U × Int} (hr : mrgR f l m = r) {v v2 : Value} {w : World} {B : Heap} (hB : B.Le (hp w)) (hv : US l fa v B) (hv2 : US m fb v2 B) :
    Ret Tryz.prog 131 [v, v2, .func (.func tf) #[] #[]] w B (LE r) := by
  subst hr
  unfold mrgR
  refine y7 Tryz.func131 rfl Tryz.ntmps131 (Nat.le_of_ble_eq_true rfl) hB ?_
  refine V_seen 0 (US l fa) rfl SlV.mono hv ?_
  refine V_seen 1 (US m fb) rfl SlV.mono hv2 ?_
  by_cases z1 : 4096 < l.length
  · rw [if_pos (.inl z1)]
    refine Z130 ?_; refine Z293 ?_; refine Z279 ?_; refine Z212 ?_; refine Z240 ?_; refine Z173 ?_
    refine y9 L (rs := [.tmp 6, .tmp 7]) rfl (fun _ _ h => h) Since.refl fun u H hH hle => ?_
    exact tups2 SlV.nil
  · by_cases z2 : 4096 < m.length
    · rw [if_pos (.inr z2)]
      refine Z130 ?_; refine Z293 ?_; refine Z139 ?_; refine Z29 ?_; refine Z1 ?_; refine Z279 ?_; refine Z9 ?_; refine Z240 ?_; refine Z173 ?_
      refine y9 L (rs := [.tmp 6, .tmp 7]) rfl (fun _ _ h => h) Since.refl fun u H hH hle => ?_
      exact tups2 SlV.nil
    · rw [if_neg (by omega)]
      cases h1 : isB l
      · rw [if_neg (by simp)]
        refine Z130 ?_; refine Z293 ?_; refine Z139 ?_; refine Z29 ?_; refine Z1 ?_; refine Z139 ?_; refine Z285 ?_; refine Z151 ?_; refine Z28 ?_; refine Z7 ?_; refine z7 (zp L rfl rfl (zk rfl) rfl rfl rfl (fun u H hH _ _ v1 hv1 => tis_ret (by omega) h1 hH hv1)) rfl ?_; refine Z49 ?_; refine Z212 ?_; refine Z138 ?_; refine Z34 ?_; refine Z173 ?_
        refine y9 L (rs := [.tmp 6, .tmp 7]) rfl (fun _ _ h => h) Since.refl fun u H hH hle => ?_
        exact tups2 SlV.nil
      · cases h2 : isB m
        · rw [if_neg (by simp)]
          refine Z130 ?_; refine Z293 ?_; refine Z139 ?_; refine Z29 ?_; refine Z1 ?_; refine Z139 ?_; refine Z285 ?_; refine Z151 ?_; refine Z28 ?_; refine Z7 ?_; refine z7 (zp L rfl rfl (zk rfl) rfl rfl rfl (fun u H hH _ _ v1 hv1 => tis_ret (by omega) h1 hH hv1)) rfl ?_; refine Z49 ?_; refine Z1 ?_; refine Z7 ?_; refine z7 (zp L rfl rfl (zk rfl) rfl rfl rfl (fun u H hH _ _ v1 hv1 => tis_ret (by omega) h2 hH hv1)) rfl ?_; refine Z49 ?_; refine Z9 ?_; refine Z138 ?_; refine Z34 ?_; refine Z173 ?_
          refine y9 L (rs := [.tmp 6, .tmp 7]) rfl (fun _ _ h => h) Since.refl fun u H hH hle => ?_
          exact tups2 SlV.nil
        · rw [if_pos (by rfl)]
          refine Z130 ?_; refine Z293 ?_; refine Z139 ?_; refine Z29 ?_; refine Z1 ?_; refine Z139 ?_; refine Z285 ?_; refine Z151 ?_; refine Z28 ?_; refine Z7 ?_; refine z7 (zp L rfl rfl (zk rfl) rfl rfl rfl (fun u H hH _ _ v1 hv1 => tis_ret (by omega) h1 hH hv1)) rfl ?_; refine Z49 ?_; refine Z1 ?_; refine Z7 ?_; refine z7 (zp L rfl rfl (zk rfl) rfl rfl rfl (fun u H hH _ _ v1 hv1 => tis_ret (by omega) h2 hH hv1)) rfl ?_; refine Z49 ?_; refine Z9 ?_; refine Z133 ?_; refine Z44 ?_; refine Z124 ?_; refine qe ?_
          refine V_imp 0 (US l false) rfl SlV.mono (fun _ _ h => h.nofu) ?_
          refine V_imp 1 (US m false) rfl SlV.mono (fun _ _ h => h.nofu) ?_
          refine V_nilR 8 tyU 6 rfl ?_
          refine V_loop (fun s : Nat × List U × List U × List U => [(0, .sat (US s.2.1 false)), (1, .sat (US s.2.2.1 false)), (2, .is (.func (.func tf) #[] #[])), (8, .own (SlR tyU 6 s.2.2.2.length (s.2.2.2.flatMap ucs)))])
            (fun s => s.2.1.length + s.2.2.1.length ≤ s.1 ∧ s.2.2.2 ++ mrgS cmpT f s.1 s.2.1 s.2.2.1 = mrgS cmpT f (l.length + m.length) l m ∧ s.2.2.2.length + s.2.1.length + s.2.2.1.length ≤ 8192) (fun s => s.1) (l.length + m.length, l, m, []) ⟨Nat.le_refl _, rfl, by simp only [List.length_nil]; omega⟩ ⟨rfl, rfl, rfl, rfl, trivial⟩ ?_
          generalize mrgS cmpT f (l.length + m.length) l m = R
          clear h1 h2 z1 z2 hv hv2
          rintro ⟨n, x, y, out⟩ ⟨hn, hR, hz⟩
          dsimp only at hn hR hz ⊢
          rcases x with _ | ⟨a, x⟩
          · rcases y with _ | ⟨b, y⟩
            · have hR : out = R := by rw [← hR]; cases n <;> simp [mrgS]
              subst hR
              have l0 : ([] : List U).length = 0 := rfl
              refine Z297 ?_; refine Z139 ?_; refine Z29 ?_; refine Z1 ?_; refine Z139 ?_; refine Z285 ?_; refine Z252 ?_
              refine V_pubR 8 rfl ?_
              refine zf (id := 22) ?_; refine Z7 ?_; refine Z139 ?_; refine Z139 ?_; refine Z104 ?_; refine Z52 ?_; refine Z122 ?_
              refine y9 L (rs := [.tmp 6, .tmp 7]) rfl (fun _ _ h => h) Since.refl fun u H hH hle => ?_
              exact fun v hv => tups2 hv
            · have l0 : ([] : List U).length = 0 := rfl
              have lb : (b :: y).length = y.length + 1 := rfl
              have hb := us_at (l := b :: y) (i := 0) (t := b) rfl
              have tb := tail_cut b y
              rcases n with _ | n
              · simp only [List.length_cons, List.length_nil] at hn; omega
              cases hft : f false true
              · have hR : out ++ mrgS cmpT f n [] y = R := by rw [← hR]; simp [mrgS, hft]
                have hfv : ∀ (u : World) (H : Heap), H.Le (hp u) → Ret Tryz.prog tf [.bool false, .bool true] u H (fun v _ => v = .bool false) := fun u H h => by have := hf false true u H h; rwa [hft] at this
                refine Z297 ?_; refine Z139 ?_; refine Z29 ?_; refine Z1 ?_; refine Z279 ?_; refine Z9 ?_; refine Z317 ?_; refine Z27 ?_; refine Z229 ?_; refine Z74 ?_; refine Z160 ?_; refine Z125 ?_; refine Z76 ?_; refine z7 (ym (cs := [_, _, _, _, _, _]) rfl rfl pl114 rfl rfl) rfl ?_; refine Z319 ?_; refine Z37 ?_; refine Z129 ?_; refine Z88 ?_; refine Z320 ?_; refine z7 (yn L (vs := [_, _, _, _, _, _]) rfl rfl rfl rfl rfl ⟨_, rfl⟩) rfl ?_; refine Z13 ?_; refine Z321 ?_; refine Z324 ?_; refine Z7 ?_; refine z7 (ok_sliceV L (kh := .i64) (ph := 0) (km := .i64) (pm := 0) 1 _ false rfl rfl rfl rfl rfl ⟨rfl, rfl⟩ ⟨rfl, rfl⟩ (fun h => by cases h) (by omega) (by omega) (by assumption)) rfl ?_; refine Z290 ?_; refine Z322 ?_; refine Z63 ?_; refine Z1 ?_; refine Z30 ?_; refine z7 (zp L rfl rfl (zk rfl) rfl rfl hfn (fun u H hH _ _ => hfv u H hH)) rfl ?_; refine Z183 ?_; refine qv ?_
                exact y8 (x := (n + 1, [], b :: y, out)) (n, [], y, out) ⟨by simp only [List.length_cons, List.length_nil] at hn ⊢; omega, hR, by simp only [List.length_cons, List.length_nil, List.length_append] at hz ⊢; omega⟩ (by dsimp only; omega) ⟨rfl, rfl, rfl, rfl, trivial⟩
              · have hR : out ++ [b] ++ mrgS cmpT f n [] y = R := by rw [← hR]; simp [mrgS, hft]
                have hfv : ∀ (u : World) (H : Heap), H.Le (hp u) → Ret Tryz.prog tf [.bool false, .bool true] u H (fun v _ => v = .bool true) := fun u H h => by have := hf false true u H h; rwa [hft] at this
                refine Z297 ?_; refine Z139 ?_; refine Z29 ?_; refine Z1 ?_; refine Z279 ?_; refine Z9 ?_; refine Z317 ?_; refine Z27 ?_; refine Z229 ?_; refine Z74 ?_; refine Z160 ?_; refine Z125 ?_; refine Z76 ?_; refine z7 (ym (cs := [_, _, _, _, _, _]) rfl rfl pl114 rfl rfl) rfl ?_; refine Z319 ?_; refine Z37 ?_; refine Z129 ?_; refine Z88 ?_; refine Z320 ?_; refine z7 (yn L (vs := [_, _, _, _, _, _]) rfl rfl rfl rfl rfl ⟨_, rfl⟩) rfl ?_; refine Z13 ?_; refine Z321 ?_; refine Z324 ?_; refine Z7 ?_; refine z7 (ok_sliceV L (kh := .i64) (ph := 0) (km := .i64) (pm := 0) 1 _ false rfl rfl rfl rfl rfl ⟨rfl, rfl⟩ ⟨rfl, rfl⟩ (fun h => by cases h) (by omega) (by omega) (by assumption)) rfl ?_; refine Z290 ?_; refine Z322 ?_; refine Z63 ?_; refine Z1 ?_; refine Z30 ?_; refine z7 (zp L rfl rfl (zk rfl) rfl rfl hfn (fun u H hH _ _ => hfv u H hH)) rfl ?_; refine Z129 ?_; refine Z101 ?_; refine qk (ok_moveO (.inl rfl) rfl rfl rfl rfl) ?_; refine z7 (zt L (vs := [_, _, _, _, _, _]) (y5 rfl) rfl rfl rfl rfl ⟨_, rfl⟩) rfl ?_; refine Z54 ?_; refine Z98 ?_; refine qk (ok_moveO (.inr rfl) rfl rfl rfl rfl) ?_; refine zi ?_; refine qv ?_
                exact y8 (x := (n + 1, [], b :: y, out)) (n, [], y, out ++ [b]) ⟨by simp only [List.length_cons, List.length_nil] at hn ⊢; omega, hR, by simp only [List.length_cons, List.length_nil, List.length_append] at hz ⊢; omega⟩ (by dsimp only; omega) ⟨rfl, rfl, rfl, us_snoc rfl, trivial⟩
          · have la : (a :: x).length = x.length + 1 := rfl
            have ha := us_at (l := a :: x) (i := 0) (t := a) rfl
            have ta := tail_cut a x
            rcases y with _ | ⟨b, y⟩
            · have l0 : ([] : List U).length = 0 := rfl
              rcases n with _ | n
              · simp only [List.length_cons, List.length_nil] at hn; omega
              cases hft : f true false
              · have hR : out ++ mrgS cmpT f n x [] = R := by rw [← hR]; simp [mrgS, hft]
                have hfv : ∀ (u : World) (H : Heap), H.Le (hp u) → Ret Tryz.prog tf [.bool true, .bool false] u H (fun v _ => v = .bool false) := fun u H h => by have := hf true false u H h; rwa [hft] at this
                refine Z297 ?_; refine Z279 ?_; refine Z212 ?_; refine Z317 ?_; refine Z237 ?_; refine Z64 ?_; refine Z139 ?_; refine Z27 ?_; refine Z229 ?_; refine Z80 ?_; refine Z160 ?_; refine Z125 ?_; refine Z76 ?_; refine z7 (ym (cs := [_, _, _, _, _, _]) rfl rfl pl114 rfl rfl) rfl ?_; refine Z319 ?_; refine Z29 ?_; refine Z127 ?_; refine zh ?_; refine Z92 ?_; refine Z320 ?_; refine z7 (yn L (vs := [_, _, _, _, _, _]) rfl rfl rfl rfl rfl ⟨_, rfl⟩) rfl ?_; refine Z230 ?_; refine Z100 ?_; refine Z7 ?_; refine z7 (ok_sliceV L (kh := .i64) (ph := 0) (km := .i64) (pm := 0) 1 _ false rfl rfl rfl rfl rfl ⟨rfl, rfl⟩ ⟨rfl, rfl⟩ (fun h => by cases h) (by omega) (by omega) (by assumption)) rfl ?_; refine Z52 ?_; refine Z321 ?_; refine Z39 ?_; refine Z133 ?_; refine Z322 ?_; refine Z66 ?_; refine Z1 ?_; refine Z39 ?_; refine z7 (zp L rfl rfl (zk rfl) rfl rfl hfn (fun u H hH _ _ => hfv u H hH)) rfl ?_; refine Z183 ?_; refine qv ?_
                exact y8 (x := (n + 1, a :: x, [], out)) (n, x, [], out) ⟨by simp only [List.length_cons, List.length_nil] at hn ⊢; omega, hR, by simp only [List.length_cons, List.length_nil, List.length_append] at hz ⊢; omega⟩ (by dsimp only; omega) ⟨rfl, rfl, rfl, rfl, trivial⟩
              · have hR : out ++ [a] ++ mrgS cmpT f n x [] = R := by rw [← hR]; simp [mrgS, hft]
                have hfv : ∀ (u : World) (H : Heap), H.Le (hp u) → Ret Tryz.prog tf [.bool true, .bool false] u H (fun v _ => v = .bool true) := fun u H h => by have := hf true false u H h; rwa [hft] at this
                refine Z297 ?_; refine Z279 ?_; refine Z212 ?_; refine Z317 ?_; refine Z237 ?_; refine Z64 ?_; refine Z139 ?_; refine Z27 ?_; refine Z229 ?_; refine Z80 ?_; refine Z160 ?_; refine Z125 ?_; refine Z76 ?_; refine z7 (ym (cs := [_, _, _, _, _, _]) rfl rfl pl114 rfl rfl) rfl ?_; refine Z319 ?_; refine Z29 ?_; refine Z127 ?_; refine zh ?_; refine Z92 ?_; refine Z320 ?_; refine z7 (yn L (vs := [_, _, _, _, _, _]) rfl rfl rfl rfl rfl ⟨_, rfl⟩) rfl ?_; refine Z230 ?_; refine Z100 ?_; refine Z7 ?_; refine z7 (ok_sliceV L (kh := .i64) (ph := 0) (km := .i64) (pm := 0) 1 _ false rfl rfl rfl rfl rfl ⟨rfl, rfl⟩ ⟨rfl, rfl⟩ (fun h => by cases h) (by omega) (by omega) (by assumption)) rfl ?_; refine Z52 ?_; refine Z321 ?_; refine Z39 ?_; refine Z133 ?_; refine Z322 ?_; refine Z66 ?_; refine Z1 ?_; refine Z39 ?_; refine z7 (zp L rfl rfl (zk rfl) rfl rfl hfn (fun u H hH _ _ => hfv u H hH)) rfl ?_; refine Z129 ?_; refine Z101 ?_; refine qk (ok_moveO (.inl rfl) rfl rfl rfl rfl) ?_; refine z7 (zt L (vs := [_, _, _, _, _, _]) (y5 rfl) rfl rfl rfl rfl ⟨_, rfl⟩) rfl ?_; refine Z54 ?_; refine Z98 ?_; refine qk (ok_moveO (.inr rfl) rfl rfl rfl rfl) ?_; refine zi ?_; refine qv ?_
                exact y8 (x := (n + 1, a :: x, [], out)) (n, x, [], out ++ [a]) ⟨by simp only [List.length_cons, List.length_nil] at hn ⊢; omega, hR, by simp only [List.length_cons, List.length_nil, List.length_append] at hz ⊢; omega⟩ (by dsimp only; omega) ⟨rfl, rfl, rfl, us_snoc rfl, trivial⟩
            · have lb : (b :: y).length = y.length + 1 := rfl
              have hb := us_at (l := b :: y) (i := 0) (t := b) rfl
              have tb := tail_cut b y
              by_cases c1 : cmpT a b < 0
              · rcases n with _ | n
                · simp only [List.length_cons, List.length_nil] at hn; omega
                cases hft : f true false
                · have hR : out ++ mrgS cmpT f n x (b :: y) = R := by rw [← hR]; simp [mrgS, c1, hft]
                  have hfv : ∀ (u : World) (H : Heap), H.Le (hp u) → Ret Tryz.prog tf [.bool true, .bool false] u H (fun v _ => v = .bool false) := fun u H h => by have := hf true false u H h; rwa [hft] at this
                  refine Z297 ?_; refine Z279 ?_; refine Z212 ?_; refine Z317 ?_; refine Z237 ?_; refine Z64 ?_; refine Z139 ?_; refine Z20 ?_; refine Z164 ?_; refine Z79 ?_; refine Z280 ?_; refine z8 (yn L (vs := [_, _, _, _, _, _]) rfl rfl rfl rfl rfl ⟨_, rfl⟩) rfl ?_; refine Z280 ?_; refine z8 (yn L (vs := [_, _, _, _, _, _]) rfl rfl rfl rfl rfl ⟨_, rfl⟩) rfl ?_; refine z8 (zp L rfl rfl (zk rfl) rfl rfl rfl (fun u H hH _ _ => tcmp_ret hH)) rfl ?_; refine Z47 ?_; refine ql ?_; refine Z284 ?_; refine Z76 ?_; refine z7 (ym (cs := [_, _, _, _, _, _]) rfl rfl pl114 rfl rfl) rfl ?_; refine Z319 ?_; refine Z29 ?_; refine Z127 ?_; refine zh ?_; refine Z92 ?_; refine Z320 ?_; refine z7 (yn L (vs := [_, _, _, _, _, _]) rfl rfl rfl rfl rfl ⟨_, rfl⟩) rfl ?_; refine Z230 ?_; refine Z100 ?_; refine Z7 ?_; refine z7 (ok_sliceV L (kh := .i64) (ph := 0) (km := .i64) (pm := 0) 1 _ false rfl rfl rfl rfl rfl ⟨rfl, rfl⟩ ⟨rfl, rfl⟩ (fun h => by cases h) (by omega) (by omega) (by assumption)) rfl ?_; refine Z52 ?_; refine Z321 ?_; refine Z39 ?_; refine Z133 ?_; refine Z322 ?_; refine Z66 ?_; refine Z1 ?_; refine Z39 ?_; refine z7 (zp L rfl rfl (zk rfl) rfl rfl hfn (fun u H hH _ _ => hfv u H hH)) rfl ?_; refine Z183 ?_; refine qv ?_
                  exact y8 (x := (n + 1, a :: x, b :: y, out)) (n, x, (b :: y), out) ⟨by simp only [List.length_cons, List.length_nil] at hn ⊢; omega, hR, by simp only [List.length_cons, List.length_nil, List.length_append] at hz ⊢; omega⟩ (by dsimp only; omega) ⟨rfl, rfl, rfl, rfl, trivial⟩
                · have hR : out ++ [a] ++ mrgS cmpT f n x (b :: y) = R := by rw [← hR]; simp [mrgS, c1, hft]
                  have hfv : ∀ (u : World) (H : Heap), H.Le (hp u) → Ret Tryz.prog tf [.bool true, .bool false] u H (fun v _ => v = .bool true) := fun u H h => by have := hf true false u H h; rwa [hft] at this
                  refine Z297 ?_; refine Z279 ?_; refine Z212 ?_; refine Z317 ?_; refine Z237 ?_; refine Z64 ?_; refine Z139 ?_; refine Z20 ?_; refine Z164 ?_; refine Z79 ?_; refine Z280 ?_; refine z8 (yn L (vs := [_, _, _, _, _, _]) rfl rfl rfl rfl rfl ⟨_, rfl⟩) rfl ?_; refine Z280 ?_; refine z8 (yn L (vs := [_, _, _, _, _, _]) rfl rfl rfl rfl rfl ⟨_, rfl⟩) rfl ?_; refine z8 (zp L rfl rfl (zk rfl) rfl rfl rfl (fun u H hH _ _ => tcmp_ret hH)) rfl ?_; refine Z47 ?_; refine ql ?_; refine Z284 ?_; refine Z76 ?_; refine z7 (ym (cs := [_, _, _, _, _, _]) rfl rfl pl114 rfl rfl) rfl ?_; refine Z319 ?_; refine Z29 ?_; refine Z127 ?_; refine zh ?_; refine Z92 ?_; refine Z320 ?_; refine z7 (yn L (vs := [_, _, _, _, _, _]) rfl rfl rfl rfl rfl ⟨_, rfl⟩) rfl ?_; refine Z230 ?_; refine Z100 ?_; refine Z7 ?_; refine z7 (ok_sliceV L (kh := .i64) (ph := 0) (km := .i64) (pm := 0) 1 _ false rfl rfl rfl rfl rfl ⟨rfl, rfl⟩ ⟨rfl, rfl⟩ (fun h => by cases h) (by omega) (by omega) (by assumption)) rfl ?_; refine Z52 ?_; refine Z321 ?_; refine Z39 ?_; refine Z133 ?_; refine Z322 ?_; refine Z66 ?_; refine Z1 ?_; refine Z39 ?_; refine z7 (zp L rfl rfl (zk rfl) rfl rfl hfn (fun u H hH _ _ => hfv u H hH)) rfl ?_; refine Z129 ?_; refine Z101 ?_; refine qk (ok_moveO (.inl rfl) rfl rfl rfl rfl) ?_; refine z7 (zt L (vs := [_, _, _, _, _, _]) (y5 rfl) rfl rfl rfl rfl ⟨_, rfl⟩) rfl ?_; refine Z54 ?_; refine Z98 ?_; refine qk (ok_moveO (.inr rfl) rfl rfl rfl rfl) ?_; refine zi ?_; refine qv ?_
                  exact y8 (x := (n + 1, a :: x, b :: y, out)) (n, x, (b :: y), out ++ [a]) ⟨by simp only [List.length_cons, List.length_nil] at hn ⊢; omega, hR, by simp only [List.length_cons, List.length_nil, List.length_append] at hz ⊢; omega⟩ (by dsimp only; omega) ⟨rfl, rfl, rfl, us_snoc rfl, trivial⟩
              · by_cases c2 : 0 < cmpT a b
                · rcases n with _ | n
                  · simp only [List.length_cons, List.length_nil] at hn; omega
                  cases hft : f false true
                  · have hR : out ++ mrgS cmpT f n (a :: x) y = R := by rw [← hR]; simp [mrgS, c1, c2, hft]
                    have hfv : ∀ (u : World) (H : Heap), H.Le (hp u) → Ret Tryz.prog tf [.bool false, .bool true] u H (fun v _ => v = .bool false) := fun u H h => by have := hf false true u H h; rwa [hft] at this
                    refine Z297 ?_; refine Z279 ?_; refine Z212 ?_; refine Z317 ?_; refine Z237 ?_; refine Z64 ?_; refine Z139 ?_; refine Z20 ?_; refine Z164 ?_; refine Z79 ?_; refine Z280 ?_; refine z8 (yn L (vs := [_, _, _, _, _, _]) rfl rfl rfl rfl rfl ⟨_, rfl⟩) rfl ?_; refine Z280 ?_; refine z8 (yn L (vs := [_, _, _, _, _, _]) rfl rfl rfl rfl rfl ⟨_, rfl⟩) rfl ?_; refine z8 (zp L rfl rfl (zk rfl) rfl rfl rfl (fun u H hH _ _ => tcmp_ret hH)) rfl ?_; refine Z47 ?_; refine ql ?_; refine Z284 ?_; refine Z76 ?_; refine z7 (ym (cs := [_, _, _, _, _, _]) rfl rfl pl114 rfl rfl) rfl ?_; refine Z319 ?_; refine Z37 ?_; refine Z129 ?_; refine Z88 ?_; refine Z320 ?_; refine z7 (yn L (vs := [_, _, _, _, _, _]) rfl rfl rfl rfl rfl ⟨_, rfl⟩) rfl ?_; refine Z13 ?_; refine Z321 ?_; refine Z324 ?_; refine Z7 ?_; refine z7 (ok_sliceV L (kh := .i64) (ph := 0) (km := .i64) (pm := 0) 1 _ false rfl rfl rfl rfl rfl ⟨rfl, rfl⟩ ⟨rfl, rfl⟩ (fun h => by cases h) (by omega) (by omega) (by assumption)) rfl ?_; refine Z290 ?_; refine Z322 ?_; refine Z63 ?_; refine Z1 ?_; refine Z30 ?_; refine z7 (zp L rfl rfl (zk rfl) rfl rfl hfn (fun u H hH _ _ => hfv u H hH)) rfl ?_; refine Z183 ?_; refine qv ?_
                    exact y8 (x := (n + 1, a :: x, b :: y, out)) (n, (a :: x), y, out) ⟨by simp only [List.length_cons, List.length_nil] at hn ⊢; omega, hR, by simp only [List.length_cons, List.length_nil, List.length_append] at hz ⊢; omega⟩ (by dsimp only; omega) ⟨rfl, rfl, rfl, rfl, trivial⟩
                  · have hR : out ++ [b] ++ mrgS cmpT f n (a :: x) y = R := by rw [← hR]; simp [mrgS, c1, c2, hft]
                    have hfv : ∀ (u : World) (H : Heap), H.Le (hp u) → Ret Tryz.prog tf [.bool false, .bool true] u H (fun v _ => v = .bool true) := fun u H h => by have := hf false true u H h; rwa [hft] at this
                    refine Z297 ?_; refine Z279 ?_; refine Z212 ?_; refine Z317 ?_; refine Z237 ?_; refine Z64 ?_; refine Z139 ?_; refine Z20 ?_; refine Z164 ?_; refine Z79 ?_; refine Z280 ?_; refine z8 (yn L (vs := [_, _, _, _, _, _]) rfl rfl rfl rfl rfl ⟨_, rfl⟩) rfl ?_; refine Z280 ?_; refine z8 (yn L (vs := [_, _, _, _, _, _]) rfl rfl rfl rfl rfl ⟨_, rfl⟩) rfl ?_; refine z8 (zp L rfl rfl (zk rfl) rfl rfl rfl (fun u H hH _ _ => tcmp_ret hH)) rfl ?_; refine Z47 ?_; refine ql ?_; refine Z284 ?_; refine Z76 ?_; refine z7 (ym (cs := [_, _, _, _, _, _]) rfl rfl pl114 rfl rfl) rfl ?_; refine Z319 ?_; refine Z37 ?_; refine Z129 ?_; refine Z88 ?_; refine Z320 ?_; refine z7 (yn L (vs := [_, _, _, _, _, _]) rfl rfl rfl rfl rfl ⟨_, rfl⟩) rfl ?_; refine Z13 ?_; refine Z321 ?_; refine Z324 ?_; refine Z7 ?_; refine z7 (ok_sliceV L (kh := .i64) (ph := 0) (km := .i64) (pm := 0) 1 _ false rfl rfl rfl rfl rfl ⟨rfl, rfl⟩ ⟨rfl, rfl⟩ (fun h => by cases h) (by omega) (by omega) (by assumption)) rfl ?_; refine Z290 ?_; refine Z322 ?_; refine Z63 ?_; refine Z1 ?_; refine Z30 ?_; refine z7 (zp L rfl rfl (zk rfl) rfl rfl hfn (fun u H hH _ _ => hfv u H hH)) rfl ?_; refine Z129 ?_; refine Z101 ?_; refine qk (ok_moveO (.inl rfl) rfl rfl rfl rfl) ?_; refine z7 (zt L (vs := [_, _, _, _, _, _]) (y5 rfl) rfl rfl rfl rfl ⟨_, rfl⟩) rfl ?_; refine Z54 ?_; refine Z98 ?_; refine qk (ok_moveO (.inr rfl) rfl rfl rfl rfl) ?_; refine zi ?_; refine qv ?_
                    exact y8 (x := (n + 1, a :: x, b :: y, out)) (n, (a :: x), y, out ++ [b]) ⟨by simp only [List.length_cons, List.length_nil] at hn ⊢; omega, hR, by simp only [List.length_cons, List.length_nil, List.length_append] at hz ⊢; omega⟩ (by dsimp only; omega) ⟨rfl, rfl, rfl, us_snoc rfl, trivial⟩
                · rcases n with _ | n
                  · simp only [List.length_cons, List.length_nil] at hn; omega
                  cases hft : f true true
                  · have hR : out ++ mrgS cmpT f n x y = R := by rw [← hR]; simp [mrgS, c1, c2, hft]
                    have hfv : ∀ (u : World) (H : Heap), H.Le (hp u) → Ret Tryz.prog tf [.bool true, .bool true] u H (fun v _ => v = .bool false) := fun u H h => by have := hf true true u H h; rwa [hft] at this
                    refine Z297 ?_; refine Z279 ?_; refine Z212 ?_; refine Z317 ?_; refine Z237 ?_; refine Z64 ?_; refine Z139 ?_; refine Z20 ?_; refine Z164 ?_; refine Z79 ?_; refine Z280 ?_; refine z8 (yn L (vs := [_, _, _, _, _, _]) rfl rfl rfl rfl rfl ⟨_, rfl⟩) rfl ?_; refine Z280 ?_; refine z8 (yn L (vs := [_, _, _, _, _, _]) rfl rfl rfl rfl rfl ⟨_, rfl⟩) rfl ?_; refine z8 (zp L rfl rfl (zk rfl) rfl rfl rfl (fun u H hH _ _ => tcmp_ret hH)) rfl ?_; refine Z47 ?_; refine ql ?_; refine Z284 ?_; refine Z76 ?_; refine z7 (ym (cs := [_, _, _, _, _, _]) rfl rfl pl114 rfl rfl) rfl ?_; refine Z319 ?_; refine Z29 ?_; refine Z127 ?_; refine zh ?_; refine Z92 ?_; refine Z320 ?_; refine z7 (yn L (vs := [_, _, _, _, _, _]) rfl rfl rfl rfl rfl ⟨_, rfl⟩) rfl ?_; refine Z230 ?_; refine Z100 ?_; refine Z7 ?_; refine z7 (ok_sliceV L (kh := .i64) (ph := 0) (km := .i64) (pm := 0) 1 _ false rfl rfl rfl rfl rfl ⟨rfl, rfl⟩ ⟨rfl, rfl⟩ (fun h => by cases h) (by omega) (by omega) (by assumption)) rfl ?_; refine Z52 ?_; refine Z321 ?_; refine Z324 ?_; refine Z7 ?_; refine z7 (ok_sliceV L (kh := .i64) (ph := 0) (km := .i64) (pm := 0) 1 _ false rfl rfl rfl rfl rfl ⟨rfl, rfl⟩ ⟨rfl, rfl⟩ (fun h => by cases h) (by omega) (by omega) (by assumption)) rfl ?_; refine Z290 ?_; refine Z322 ?_; refine Z66 ?_; refine Z1 ?_; refine Z30 ?_; refine z7 (zp L rfl rfl (zk rfl) rfl rfl hfn (fun u H hH _ _ => hfv u H hH)) rfl ?_; refine Z183 ?_; refine qv ?_
                    exact y8 (x := (n + 1, a :: x, b :: y, out)) (n, x, y, out) ⟨by simp only [List.length_cons, List.length_nil] at hn ⊢; omega, hR, by simp only [List.length_cons, List.length_nil, List.length_append] at hz ⊢; omega⟩ (by dsimp only; omega) ⟨rfl, rfl, rfl, rfl, trivial⟩
                  · have hR : out ++ [a] ++ mrgS cmpT f n x y = R := by rw [← hR]; simp [mrgS, c1, c2, hft]
                    have hfv : ∀ (u : World) (H : Heap), H.Le (hp u) → Ret Tryz.prog tf [.bool true, .bool true] u H (fun v _ => v = .bool true) := fun u H h => by have := hf true true u H h; rwa [hft] at this
                    refine Z297 ?_; refine Z279 ?_; refine Z212 ?_; refine Z317 ?_; refine Z237 ?_; refine Z64 ?_; refine Z139 ?_; refine Z20 ?_; refine Z164 ?_; refine Z79 ?_; refine Z280 ?_; refine z8 (yn L (vs := [_, _, _, _, _, _]) rfl rfl rfl rfl rfl ⟨_, rfl⟩) rfl ?_; refine Z280 ?_; refine z8 (yn L (vs := [_, _, _, _, _, _]) rfl rfl rfl rfl rfl ⟨_, rfl⟩) rfl ?_; refine z8 (zp L rfl rfl (zk rfl) rfl rfl rfl (fun u H hH _ _ => tcmp_ret hH)) rfl ?_; refine Z47 ?_; refine ql ?_; refine Z284 ?_; refine Z76 ?_; refine z7 (ym (cs := [_, _, _, _, _, _]) rfl rfl pl114 rfl rfl) rfl ?_; refine Z319 ?_; refine Z29 ?_; refine Z127 ?_; refine zh ?_; refine Z92 ?_; refine Z320 ?_; refine z7 (yn L (vs := [_, _, _, _, _, _]) rfl rfl rfl rfl rfl ⟨_, rfl⟩) rfl ?_; refine Z230 ?_; refine Z100 ?_; refine Z7 ?_; refine z7 (ok_sliceV L (kh := .i64) (ph := 0) (km := .i64) (pm := 0) 1 _ false rfl rfl rfl rfl rfl ⟨rfl, rfl⟩ ⟨rfl, rfl⟩ (fun h => by cases h) (by omega) (by omega) (by assumption)) rfl ?_; refine Z52 ?_; refine Z321 ?_; refine Z324 ?_; refine Z7 ?_; refine z7 (ok_sliceV L (kh := .i64) (ph := 0) (km := .i64) (pm := 0) 1 _ false rfl rfl rfl rfl rfl ⟨rfl, rfl⟩ ⟨rfl, rfl⟩ (fun h => by cases h) (by omega) (by omega) (by assumption)) rfl ?_; refine Z290 ?_; refine Z322 ?_; refine Z66 ?_; refine Z1 ?_; refine Z30 ?_; refine z7 (zp L rfl rfl (zk rfl) rfl rfl hfn (fun u H hH _ _ => hfv u H hH)) rfl ?_; refine Z129 ?_; refine Z101 ?_; refine qk (ok_moveO (.inl rfl) rfl rfl rfl rfl) ?_; refine z7 (zt L (vs := [_, _, _, _, _, _]) (y5 rfl) rfl rfl rfl rfl ⟨_, rfl⟩) rfl ?_; refine Z54 ?_; refine Z98 ?_; refine qk (ok_moveO (.inr rfl) rfl rfl rfl rfl) ?_; refine zi ?_; refine qv ?_
                    exact y8 (x := (n + 1, a :: x, b :: y, out)) (n, x, y, out ++ [a]) ⟨by simp only [List.length_cons, List.length_nil] at hn ⊢; omega, hR, by simp only [List.length_cons, List.length_nil, List.length_append] at hz ⊢; omega⟩ (by dsimp only; omega) ⟨rfl, rfl, rfl, us_snoc rfl, trivial⟩
end Go.V.L2
set_option maxRecDepth 20000
namespace Go.V.L2
open Go.Proofs Go.RowKit Go.V
abbrev fWo : Bool → Bool → Bool := fun _ b => !b
attribute [local irreducible] V N X VO Par StepOK Has Ret RetL RetO Src
theorem fWo_ret (p q : Bool) (w : World) (B : Heap) (hB : B.Le (hp w)) : Ret Tryz.prog 132 [.bool p, .bool q] w B (fun v _ => v = .bool (fWo p q)) := by
  refine y7 Tryz.func132 rfl Tryz.ntmps132 (Nat.le_of_ble_eq_true rfl) hB ?_
  refine Z251 ?_; refine Z49 ?_; refine Z122 ?_
  refine y9 L (rs := [.tmp 4]) rfl (fun _ _ h => h) Since.refl fun u H hH hle => ?_
  rfl
theorem withoutV_ret {l m : List U} {fa fb : Bool} {r : List U × Int} {v v2 : Value} {w : World} {B : Heap} (hr : mrgR fWo l m = r) (hB : B.Le (hp w)) (hv : US l fa v B) (hv2 : US m fb v2 B) : Ret Tryz.prog 89 [v, v2] w B (LE r) := by
  refine y7 Tryz.func89 rfl Tryz.ntmps89 (Nat.le_of_ble_eq_true rfl) hB ?_
  refine V_seen 0 (US l fa) rfl SlV.mono hv ?_
  refine V_seen 1 (US m fb) rfl SlV.mono hv2 ?_
  refine Z307 ?_; refine Z17 ?_; refine Z7 ?_; refine Z7 ?_; refine z7 (yr (φ := LE r) L rfl rfl (zk rfl) rfl rfl rfl LE.mono (fun u H hH _ _ v1 h1 v2 h2 => merge_ret rfl fWo_ret hr hH h1 h2)) rfl ?_; refine z7 (ok_extracts rfl rfl rfl rfl SlV.mono) rfl ?_; refine Z272 ?_; refine Z122 ?_
  refine y9 L (rs := [.tmp 4, .tmp 5]) rfl (fun _ _ h => h) Since.refl fun u H hH hle => ?_
  exact fun v hv => tups2 hv
end Go.V.L2
set_option maxRecDepth 20000
namespace Go.V.L8
open Go.Proofs Go.RowKit Go.V Go.V.L2 Go.V.L3 Go.V.L6
def betP (a b : List U) : List CH := normL ((mrgS cmpT fWo (a.length + b.length) a b).map (fun t => (t, true)) ++ (mrgS cmpT fWo (b.length + a.length) b a).map (fun t => (t, false)))
end Go.V.L8
set_option maxRecDepth 20000
namespace Go.V.L8
open Go.Proofs Go.RowKit Go.V Go.V.L2 Go.V.L3 Go.V.L6
attribute [local irreducible] V N X VO Par StepOK Has Ret RetL RetO RetT RetG Src
abbrev KE (m : List CH) (e : Int) : Value → Heap → Prop := TupS [KS tyC m true, fun v _ => v = .int .i64 e]
theorem KE.mono {m : List CH} {e : Int} : Kn.mono (.sat (KE m e)) := tups2_mono SlV.mono
end Go.V.L8
set_option maxRecDepth 20000
namespace Go.V.L8
open Go.Proofs Go.RowKit Go.V Go.V.L2 Go.V.L3 Go.V.L6
attribute [local irreducible] V N X VO Par StepOK Has Ret RetL RetO RetT RetG Src
end Go.V.L8
set_option maxRecDepth 20000
namespace Go.V.L8
open Go.Proofs Go.RowKit Go.V Go.V.L2 Go.V.L3 Go.V.L6
attribute [local irreducible] V N X VO Par StepOK Has Ret RetL RetO RetT RetG Src
end Go.V.L8
set_option maxRecDepth 20000
namespace Go.V.L8
open Go.Proofs Go.RowKit Go.V Go.V.L2 Go.V.L3 Go.V.L6
attribute [local irreducible] V N X VO Par StepOK Has Ret RetL RetO RetT RetG Src
end Go.V.L8
set_option maxRecDepth 20000
namespace Go.V.L8
open Go.Proofs Go.RowKit Go.V Go.V.L2 Go.V.L3 Go.V.L6
theorem wo_len (a b : List U) : (mrgS cmpT fWo (a.length + b.length) a b).length ≤ a.length + b.length := mrgS_length _ _ _ (Nat.le_refl _)
theorem mrgR_wo {a b : List U} (la : a.length ≤ 4096) (lb : b.length ≤ 4096) (sa : Sst cmpT a) (sb : Sst cmpT b) : mrgR fWo a b = (mrgS cmpT fWo (a.length + b.length) a b, 0) := by
  unfold mrgR
  have h1 : isB a = true := decide_eq_true sa
  have h2 : isB b = true := decide_eq_true sb
  rw [if_neg (by omega), h1, h2, if_pos (by decide)]
attribute [local irreducible] V N X VO Par StepOK Has Ret RetL RetO RetT RetG Src
set_option maxHeartbeats 4000000 in
theorem dbetween_ret {a b : List U} {m : List CH} (la : a.length ≤ 4096) (lb : b.length ≤ 4096) (sa : Sst cmpT a) (sb : Sst cmpT b) (hr : betP a b = m) {av bv : Value} {w : World} {B : Heap} (hB : B.Le (hp w)) (ha : SetV a av B) (hb : SetV b bv B) :
    Ret Tryz.prog 59 [av, bv] w B (KS tyC m true) := by
  subst hr
  obtain ⟨f1, p1, k1, q1, rfl, hp1⟩ := ha.shape
  obtain ⟨f2, p2, k2, q2, rfl, hp2⟩ := hb.shape
  have w1 := mrgR_wo la lb sa sb
  have w2 := mrgR_wo lb la sb sa
  have l1 := wo_len a b
  have l2 := wo_len b a
  have hbp : betP a b = normL ((mrgS cmpT fWo (a.length + b.length) a b).map (fun t => (t, true)) ++ (mrgS cmpT fWo (b.length + a.length) b a).map (fun t => (t, false))) := rfl
  rw [hbp]
  generalize mrgS cmpT fWo (a.length + b.length) a b = G at *
  generalize mrgS cmpT fWo (b.length + a.length) b a = K at *
  have mG : Kn.mono (.sat (US G true)) := SlV.mono
  have mK : Kn.mono (.sat (US K true)) := SlV.mono
  refine y7 Tryz.func59 rfl Tryz.ntmps59 (Nat.le_of_ble_eq_true rfl) hB ?_
  refine Z189 ?_; refine Z124 ?_; refine Z82 ?_; refine z8 (zt L (vs := [_, _, _, _]) (qt rfl) rfl rfl rfl rfl ⟨_, rfl⟩) rfl ?_; refine z8 (yr (φ := US a true) L rfl rfl (zk rfl) rfl rfl rfl SlV.mono (fun u H hH hle _ => slist_ret (by omega) hH (ha.le hle))) rfl ?_; refine z8 (zt L (vs := [_, _, _, _]) (qt rfl) rfl rfl rfl rfl ⟨_, rfl⟩) rfl ?_; refine z8 (yr (φ := US b true) L rfl rfl (zk rfl) rfl rfl rfl SlV.mono (fun u H hH hle _ => slist_ret (by omega) hH (hb.le hle))) rfl ?_; refine Z85 ?_; refine Z85 ?_; refine Z185 ?_; refine Z31 ?_; refine Z7 ?_; refine Z7 ?_; refine z7 (yr (φ := LE (G, 0)) L rfl rfl (zk rfl) rfl rfl rfl LE.mono (fun u H hH _ _ v1 h1 v2 h2 => withoutV_ret w1 hH h1 h2)) rfl ?_; refine Z292 ?_; refine Z124 ?_; refine Z28 ?_; refine Z7 ?_; refine Z7 ?_; refine z7 (yr (φ := LE (K, 0)) L rfl rfl (zk rfl) rfl rfl rfl LE.mono (fun u H hH _ _ v1 h1 v2 h2 => withoutV_ret w2 hH h1 h2)) rfl ?_; refine Z292 ?_; refine Z124 ?_; refine Z34 ?_; refine Z132 ?_
  refine V_nilR 11 tyC 7 rfl ?_
  refine Z44 ?_; refine Z304 ?_
  refine V_loop (fun i : Nat => [(9, .sat (US K true)), (11, .own (SlR tyC 7 ((G.take i).map fun t => ((t, true) : CH)).length (((G.take i).map fun t => ((t, true) : CH)).flatMap ccs))), (32, .sat (US G true)), (33, .is (.int .i64 G.length)), (34, .is (.int .i64 i))]) (fun i => i ≤ G.length) (fun i => G.length - i) 0 (Nat.zero_le _) ⟨rfl, rfl, rfl, rfl, rfl, trivial⟩ ?_
  rintro i hi
  have hli : ((G.take i).map fun t => ((t, true) : CH)).length ≤ 8192 := by rw [List.length_map, List.length_take]; omega
  by_cases hlt : i < G.length
  · obtain ⟨t, ht⟩ := get_some hlt
    have hct := us_at ht
    have e1 : ((G.take (i + 1)).map fun t => ((t, true) : CH)) = ((G.take i).map fun t => ((t, true) : CH)) ++ [(t, true)] := by rw [List.take_add_one, ht, List.map_append]; rfl
    refine Z301 ?_; refine Z193 ?_; refine Z43 ?_; refine z7 (ye L _ rfl rfl rfl rfl rfl rfl rfl (by first | omega | decide) (by assumption)) rfl ?_; refine z7 (yn L (vs := [_, _, _, _, _, _]) rfl rfl rfl rfl rfl ⟨_, rfl⟩) rfl ?_; refine Z170 ?_; refine Z121 ?_; refine Z57 ?_; refine qk (ok_moveO (.inl rfl) rfl rfl rfl rfl) ?_; refine z7 (zt L (vs := [_, _, _, _, _, _]) (y5 rfl) rfl rfl rfl rfl ⟨_, rfl⟩) rfl ?_; refine z7 (ym (cs := [_, _, _, _, _, _, _]) rfl rfl pl120 rfl rfl) rfl ?_; refine Z54 ?_; refine Z103 ?_; refine qk (ok_moveO (.inr rfl) rfl rfl rfl rfl) ?_; refine Z302 ?_; refine Z61 ?_; refine Z258 ?_
    exact y8 (x := i) (i + 1) hlt (by omega) ⟨rfl, by rw [e1]; exact ks_snoc rfl, rfl, rfl, rfl, trivial⟩
  · obtain rfl : i = G.length := by omega
    rw [List.take_length]
    have lG : (G.map fun t => ((t, true) : CH)).length ≤ 8192 := by rw [List.length_map]; omega
    refine Z301 ?_; refine Z259 ?_; refine zh ?_; refine Z74 ?_; refine Z304 ?_
    refine V_loop (fun j : Nat => [(11, .own (SlR tyC 7 ((G.map fun t => ((t, true) : CH)) ++ ((K.take j).map fun t => ((t, false) : CH))).length (((G.map fun t => ((t, true) : CH)) ++ ((K.take j).map fun t => ((t, false) : CH))).flatMap ccs))), (44, .sat (US K true)), (45, .is (.int .i64 K.length)), (46, .is (.int .i64 j))]) (fun j => j ≤ K.length) (fun j => K.length - j) 0 (Nat.zero_le _) ⟨by rw [List.take_zero, List.map_nil, List.append_nil]; rfl, rfl, rfl, rfl, trivial⟩ ?_
    rintro j hj
    have hlj : ((G.map fun t => ((t, true) : CH)) ++ ((K.take j).map fun t => ((t, false) : CH))).length ≤ 16384 := by rw [List.length_append, List.length_map, List.length_map, List.length_take]; omega
    by_cases hjl : j < K.length
    · obtain ⟨t, ht⟩ := get_some hjl
      have hct := us_at ht
      have e1 : ((G.map fun t => ((t, true) : CH)) ++ ((K.take (j + 1)).map fun t => ((t, false) : CH))) = ((G.map fun t => ((t, true) : CH)) ++ ((K.take j).map fun t => ((t, false) : CH))) ++ [(t, false)] := by rw [List.take_add_one, ht, List.map_append, List.append_assoc]; rfl
      refine zh ?_; refine Z64 ?_; refine Z193 ?_; refine Z80 ?_; refine z7 (ye L _ rfl rfl rfl rfl rfl rfl rfl (by first | omega | decide) (by assumption)) rfl ?_; refine z7 (yn L (vs := [_, _, _, _, _, _]) rfl rfl rfl rfl rfl ⟨_, rfl⟩) rfl ?_; refine Z170 ?_; refine Z121 ?_; refine Z76 ?_; refine qk (ok_moveO (.inl rfl) rfl rfl rfl rfl) ?_; refine z7 (zt L (vs := [_, _, _, _, _, _]) (y5 rfl) rfl rfl rfl rfl ⟨_, rfl⟩) rfl ?_; refine z7 (ym (cs := [_, _, _, _, _, _, _]) rfl rfl pl120 rfl rfl) rfl ?_; refine Z54 ?_; refine Z103 ?_; refine qk (ok_moveO (.inr rfl) rfl rfl rfl rfl) ?_; refine Z302 ?_; refine Z69 ?_; refine Z258 ?_
      exact y8 (x := j) (j + 1) hjl (by omega) ⟨by rw [e1]; exact ks_snoc rfl, rfl, rfl, rfl, trivial⟩
    · obtain rfl : j = K.length := by omega
      rw [List.take_length]
      rw [List.take_length] at hlj
      refine V_pubR 11 rfl ?_
      refine zh ?_; refine Z64 ?_; refine Z259 ?_; refine Z88 ?_; refine Z7 ?_; refine z7 (yr (φ := KS tyC (normL ((G.map fun t => ((t, true) : CH)) ++ (K.map fun t => ((t, false) : CH)))) true) L rfl rfl (zk rfl) rfl rfl rfl SlV.mono (fun u H hH _ _ v1 h1 => dnormal_ret rfl (by omega) hH h1)) rfl ?_; refine Z52 ?_; refine Z121 ?_
      refine y9 L (rs := [.tmp 4]) rfl (fun _ _ h => h) Since.refl fun u H hH hle => ?_
      exact fun v hv => hv
end Go.V.L8
set_option maxRecDepth 20000
namespace Go.V.L10
open Go.Proofs Go.RowKit Go.V Go.V.L2 Go.V.L8 Go.V.L6
theorem sto_mono (S : Sto) : MonoX fun (x : Nat × Value × Ent) (H : Heap) => MapOK x.2.2 S.R ∧ EsV x.2.2 H ∧ PsV (pinsOf S.P) x.2.1 H := fun _ _ _ ⟨h1, h2, h3⟩ hle => ⟨h1, h2.le hle, h3.le hle⟩
abbrev StG (b : Nat) (S : Sto) : GR := GEx (fun x : Nat × Value × Ent => StO b S.R.length x.1 x.2.1 S.P.length x.2.2) (fun x H => MapOK x.2.2 S.R ∧ EsV x.2.2 H ∧ PsV (pinsOf S.P) x.2.1 H) (sto_mono S)
theorem stg_res (b : Nat) (S : Sto) : (StG b S).res = ExR (fun x : Nat × Value × Ent => (StO b S.R.length x.1 x.2.1 S.P.length x.2.2).res) (fun x H => MapOK x.2.2 S.R ∧ EsV x.2.2 H ∧ PsV (pinsOf S.P) x.2.1 H) (sto_mono S) := rfl
theorem stg_mk {S : Sto} {b m : Nat} {s : Value} {es : Ent} {B : Heap} (hm : MapOK es S.R) (hes : EsV es B) (hps : PsV (pinsOf S.P) s B) : ∀ (v : Value) H u C, B.Le H → (StO b S.R.length m s S.P.length es).res.P v H u C → (StG b S).res.P v H u C := fun _ _ _ _ hle h => ⟨(m, s, es), ⟨hm, hes.le hle, hps.le hle⟩, h⟩
theorem EsV.snoc {es : Ent} {H : Heap} (h : EsV es H) {k : Int} {t : List U} {v : Value} (hv : SetV t v H) : EsV (es ++ [(k, (t, v))]) H := fun e he => by
  rcases List.mem_append.1 he with he | he
  · exact h e he
  · rw [List.mem_singleton.1 he]; exact hv
theorem retY_X {P : Program} {f : FuncId} {args : List Value} {w : World} {B : Heap} {C : Nat → Prop} {r : GR} {v : Value} (h : RetY P f args w B C r (fun x _ => x = v)) : RetX P f args w B C r v := RetL.mono h fun _ _ _ _ hp => hp
attribute [local irreducible] V N X VO Par StepOK Has Ret RetL RetO RetT RetG RetX RetY Src
set_option maxHeartbeats 4000000 in
set_option maxRecDepth 20000 in
theorem swrite_ret {S S' : Sto} {b : Nat} {l cs : List CH} {rev e : Int} {fl fc : Bool} (hI : StoI S) (hR : S.R.length ≤ 100000) (hn : S.R.length ≠ 0) (zl : ∀ c ∈ l, TM c.1) (zc : ∀ c ∈ cs, TM c.1) (ll : l.length ≤ 9223372036854775807) (lc : cs.length ≤ 9223372036854775807) (hw : writeS S l cs = (S', rev, e)) {lv cv : Value} {w : World} {B : Heap} {C : Nat → Prop} (hB : B.Le (hp w))
    (hl : KS tyM l fl lv B) (hc : KS tyC cs fc cv B) (hr : (StG b S).P B w C) (hC : ∀ k, C k → k < w.heap.size ∧ B k = none) :
    RetY Tryz.prog 19 [.pointer (some ⟨b, 0, none⟩), lv, cv] w B C (StG b S') (fun v _ => v = .tuple #[.int .u64 rev, .int .i64 e]) := by
  unfold RetY
  refine V_enterG 900 (StG b S) Tryz.func19 rfl Tryz.ntmps19 (Nat.le_of_ble_eq_true rfl) hB hr hC ?_
  refine V_seen 1 (KS tyM l fl) rfl SlV.mono hl ?_
  refine V_seen 2 (KS tyC cs fc) rfl SlV.mono hc ?_
  rw [stg_res]
  refine V_opnX 900 rfl fun x H hs0 hφ => ?_
  obtain ⟨m, s, es⟩ := x
  obtain ⟨hm, hes, hps⟩ := hφ
  dsimp only at hm hes hps ⊢
  obtain ⟨ps, pc, rfl⟩ := slv_shJ hps
  obtain ⟨t0, ht0⟩ : ∃ t0, kpt S.R S.R.length = some t0 := Option.isSome_iff_exists.1 hI.last
  have hA : atS S 0 = (t0, 0) := by unfold atS; rw [if_pos rfl, ht0]
  have ht4 := hI.tl _ _ ht0
  obtain ⟨⟨t1, made, e1⟩, hwr⟩ : ∃ x, writeR t0 l cs = x := ⟨_, rfl⟩
  unfold writeS at hw
  rw [hA, hwr] at hw
  dsimp only at hw
  refine Z307 ?_; refine Z140 ?_; refine yf (ok_callYR L 900 (WithP t0 0) (r := StO b S.R.length m _ S.P.length es) rfl rfl rfl rfl rfl WithP.mono (fun u H2 C2 hH hle hr2 hC2 => by have h := stoAt_ret (S := S) (r := 0) hm hn (hes.le hle) hH hr2 hC2; rw [hA] at h; exact h)) ?_; refine vo_opn 14 rfl fun v1 H1 hs1 hp1 => ?_; obtain ⟨sv, rfl, hsv⟩ := hp1; obtain ⟨f1, p1, f2, p2, rfl, hpl⟩ := hsv.shape; refine Z294 ?_; refine Z155 ?_; refine Z222 ?_; refine Z34 ?_; refine z7 (zt L (vs := [_, _, _, _]) (y5 rfl) rfl rfl rfl rfl ⟨_, rfl⟩) rfl ?_; refine Z7 ?_; refine Z7 ?_; refine z7 (yr L rfl rfl (zk rfl) rfl rfl rfl WriteP.mono (fun u H2 hH hle _ v1 h1 v2 h2 => write_ret zl zc ll lc ht4 hwr hH (hsv.le hle) h1 h2)) rfl ?_; refine vo_opn 24 rfl fun v3 H3 hs3 hp3 => ?_; obtain ⟨tv, mv, rfl, htv, hmv⟩ := hp3; obtain ⟨f3, p3, f4, p4, rfl, hpl4⟩ := htv.shape; refine Z147 ?_; refine Z6 ?_; refine Z242 ?_; refine Z163 ?_
  have hs13 := hs1.trans hs3
  have hes3 := hes.le hs13.le
  have hps3 := hps.le hs13.le
  by_cases he : e1 = 0
  · subst he
    rw [if_pos rfl] at hw
    have hlen := hm.len
    have hkl := hI.kl
    rw [sto_res]
    refine V_part 900 901 rfl (gres_any _) ?_
    by_cases hk : 1024 ≤ (keptL S.R).length
    · rw [if_pos hk] at hw
      cases hw
      refine Z166 ?_; refine Z254 ?_; refine Z176 ?_; refine Z238 ?_; refine yf (ok_lenB (q := 901) (vc := vcE) mpS rfl rfl rfl rfl rfl) ?_; refine Z287 ?_; refine Z57 ?_; refine Z173 ?_
      refine V_join2 900 901 rfl rfl (gres_any _) ?_
      refine V_turnO 900 (StG b S).res rfl (stg_mk hm hes3 hps3) ?_
      exact V_retY L 900 (r := StG b S) (rs := [.tmp 6, .tmp 7]) rfl (fun _ _ h => h) (hs0.trans hs13) rfl rfl (fun H hle => rfl)
    · rw [if_neg hk] at hw
      cases hw
      have hadd := hm.add t1 (.agg #[f3, .pointer p3, f4, .pointer p4])
      have hwn : IntKind.u64.wrap ((S.R.length : Int) + 1) = ((S.R.length + 1 : Nat) : Int) := wrap_u64 (by omega) (by omega)
      have hln : (S.R ++ [some t1]).length = S.R.length + 1 := by rw [List.length_append]; rfl
      refine Z166 ?_; refine Z254 ?_; refine Z176 ?_; refine Z238 ?_; refine yf (ok_lenB (q := 901) (vc := vcE) mpS rfl rfl rfl rfl rfl) ?_; refine Z312 ?_; refine Z61 ?_; refine Z1 ?_; refine Z238 ?_; refine Z12 ?_; refine Z223 ?_; refine Z234 ?_; refine Z238 ?_; refine Z12 ?_; refine Z178 ?_; refine vo_stepS (yh L (q := 900) (cs' := stc (S.R.length + 1) m (.slice ps (pinsOf S.P).length pc) S.P.length) rfl rfl rfl rfl rfl rfl rfl rfl rfl) ?_; refine Z137 ?_
      refine zy (id := 12) [(200053, [900]), (200057, [900]), (100053, [901])] mixed (by kernel_rfl) ?_; refine Z157 ?_; refine Z94 ?_; refine Z157 ?_; refine Z94 ?_; refine z8 (zt L (vs := [_, _, _, _]) (y5 rfl) rfl rfl rfl rfl ⟨_, rfl⟩) rfl ?_; refine yk (ok_mapUpdB (q := 901) (vc := vcE) ((S.R.length + 1 : Nat) : Int) (t1, .agg #[f3, .pointer p3, f4, .pointer p4]) mpS kyS rfl rfl rfl rfl rfl rfl hadd.2) rfl ?_; refine Z185 ?_
      refine Z269 ?_; refine Z238 ?_; refine Z173 ?_
      refine V_join2 900 901 rfl rfl (gres_any _) ?_
      refine V_turnO 900 (StG b ⟨S.R ++ [some t1], S.P⟩).res rfl (fun v H u C hle h => stg_mk (S := ⟨S.R ++ [some t1], S.P⟩) (by have h2 := hadd.1; rw [hadd.2] at h2; exact h2) (hes3.snoc htv) hps3 v H u C hle (by dsimp only; rw [hln]; exact h)) ?_
      exact V_retY L 900 (r := StG b ⟨S.R ++ [some t1], S.P⟩) (rs := [.tmp 6, .tmp 7]) rfl (fun _ _ h => h) (hs0.trans hs13) rfl rfl (fun H hle => rfl)
  · rw [if_neg he] at hw
    cases hw
    refine Z166 ?_; refine Z211 ?_; refine Z172 ?_; refine Z173 ?_
    refine V_turnO 900 (StG b S).res rfl (stg_mk hm hes3 hps3) ?_
    exact V_retY L 900 (r := StG b S) (rs := [.tmp 6, .tmp 7]) rfl (fun _ _ h => h) (hs0.trans hs13) rfl rfl (fun H hle => rfl)
set_option maxHeartbeats 4000000 in
set_option maxRecDepth 20000 in
theorem schange_ret {S : Sto} {b f : Nat} {r : Int} {P' : List Int} {e : Int} (hn : S.R.length ≠ 0) (hk : (kpt S.R r).isSome = true) (hfn : L.fn f = some ()) (hf : ∀ {s : Value} {u : World} {H : Heap}, H.Le (hp u) → PsV (pinsOf S.P) s H → Ret Tryz.prog f [pnv s S.P.length, .int .u64 r] u H (PinP P' e)) {w : World} {B : Heap} {C : Nat → Prop} (hB : B.Le (hp w))
    (hr : (StG b S).P B w C) (hC : ∀ k, C k → k < w.heap.size ∧ B k = none) :
    RetY Tryz.prog 50 [.pointer (some ⟨b, 0, none⟩), .int .u64 r, .func (.func f) #[] #[]] w B C (StG b (if e = 0 then ⟨S.R, P'⟩ else S)) (fun v _ => v = .int .i64 e) := by
  unfold RetY
  refine V_enterG 900 (StG b S) Tryz.func50 rfl Tryz.ntmps50 (Nat.le_of_ble_eq_true rfl) hB hr hC ?_
  rw [stg_res]
  refine V_opnX 900 rfl fun x H hs0 hφ => ?_
  obtain ⟨m, s, es⟩ := x
  obtain ⟨hm, hes, hps⟩ := hφ
  dsimp only at hm hes hps ⊢
  obtain ⟨ps, pc, rfl⟩ := slv_shJ hps
  rw [sto_res]
  refine V_part 900 901 rfl (gres_any _) ?_
  have hg := hm.get r
  obtain ⟨⟨t0, sv⟩, hgk⟩ : ∃ x, mget r es = some x := by
    rw [← hg, Option.isSome_map] at hk
    exact Option.isSome_iff_exists.1 hk
  have hsv : SetV t0 sv H := hes _ (mget_mem hgk)
  obtain ⟨f1, p1, f2, p2, rfl, hpl⟩ := hsv.shape
  have q1 : (mget r es).elim nilSet vcE = .agg #[f1, .pointer p1, f2, .pointer p2] := by rw [hgk]; rfl
  have q2 : (mget r es).isSome = true := by rw [hgk]; rfl
  refine Z227 ?_; refine yf (ok_callLendG L 900 (Φ := fun H => H b = some (.cells (stc S.R.length m _ S.P.length).toArray tyS)) (c := .bool false) rfl rfl (zk rfl) rfl rfl rfl rfl rfl lend_c (fun u H hH hle hb => none_ret hn hb hH)) ?_; refine Z151 ?_; refine Z158 ?_; refine Z238 ?_; refine Z1 ?_; refine yf (ok_lookupB (q := 901) (vc := vcE) r mpS kyS zrS rfl rfl rfl rfl rfl q1 q2) ?_; refine Z255 ?_; refine Z124 ?_; refine Z156 ?_; refine Z49 ?_; refine Z133 ?_; refine Z228 ?_; refine Z178 ?_; refine yf (ok_loadHA L (q := 900) (vs := [_, _]) rfl rfl rfl rfl rfl rfl ⟨_, rfl⟩) ?_; refine Z1 ?_; refine z7 (yr (φ := PinP P' e) L rfl rfl (zk rfl) rfl (cap := []) rfl hfn PinP.mono (fun u H2 hH hle _ => hf hH (hps.le hle))) rfl ?_; refine vo_opn 31 rfl fun v1 H1 hs1 hp1 => ?_; obtain ⟨s2, rfl, hs2⟩ := hp1; obtain ⟨p5, c5, rfl⟩ := slv_shJ hs2; refine Z147 ?_; refine Z170 ?_; refine Z132 ?_
  by_cases he : e = 0
  · subst he
    rw [if_pos rfl]
    refine Z176 ?_; refine Z27 ?_; refine Z129 ?_; refine Z197 ?_; refine z7 (zt L (vs := [_, _]) (y5 rfl) rfl rfl rfl rfl ⟨_, rfl⟩) rfl ?_; refine Z178 ?_; refine vo_stepS (yh L (q := 900) (cs' := stc S.R.length m (.slice p5 (pinsOf P').length c5) P'.length) rfl rfl rfl rfl rfl rfl rfl rfl rfl) ?_; refine Z137 ?_; refine Z61 ?_; refine Z1 ?_; refine Z122 ?_
    refine V_join2 900 901 rfl rfl (gres_any _) ?_
    refine V_turnO 900 (StG b ⟨S.R, P'⟩).res rfl (stg_mk (S := ⟨S.R, P'⟩) hm (hes.le hs1.le) hs2) ?_
    exact V_retY L 900 (r := StG b ⟨S.R, P'⟩) (rs := [.tmp 6]) rfl (fun _ _ h => h) (hs0.trans hs1) rfl rfl (fun H hle => rfl)
  · rw [if_neg he]
    refine Z176 ?_; refine Z223 ?_; refine Z61 ?_; refine Z1 ?_; refine Z122 ?_
    refine V_join2 900 901 rfl rfl (gres_any _) ?_
    refine V_turnO 900 (StG b S).res rfl (stg_mk hm (hes.le hs1.le) (hps.le hs1.le)) ?_
    exact V_retY L 900 (r := StG b S) (rs := [.tmp 6]) rfl (fun _ _ h => h) (hs0.trans hs1) rfl rfl (fun H hle => rfl)
set_option maxHeartbeats 4000000 in
theorem schangeN_ret {S : Sto} {b : Nat} {r : Int} {fv : Value} (hn : S.R.length ≠ 0) (hk : ¬ (kpt S.R r).isSome = true) {w : World} {B : Heap} {C : Nat → Prop} (hB : B.Le (hp w))
    (hr : (StG b S).P B w C) (hC : ∀ k, C k → k < w.heap.size ∧ B k = none) :
    RetY Tryz.prog 50 [.pointer (some ⟨b, 0, none⟩), .int .u64 r, fv] w B C (StG b S) (fun v _ => v = .int .i64 14) := by
  refine RetY.ex hr fun x hφ hr => ?_
  obtain ⟨m, s, es⟩ := x
  obtain ⟨hm, hes, hps⟩ := hφ
  dsimp only at hm hes hps hr ⊢
  unfold RetY
  refine V_enterG 900 (StO b S.R.length m s S.P.length es) Tryz.func50 rfl Tryz.ntmps50 (Nat.le_of_ble_eq_true rfl) hB hr hC ?_
  rw [sto_res]
  refine V_part 900 901 rfl (gres_any _) ?_
  have hg := hm.get r
  have hgk : mget r es = none := by
    rw [← hg, Option.isSome_map] at hk
    cases h : mget r es with
    | none => rfl
    | some y => rw [h] at hk; exact absurd rfl hk
  have q1 : (mget r es).elim nilSet vcE = nilSet := by rw [hgk]; rfl
  have q2 : (mget r es).isSome = false := by rw [hgk]; rfl
  refine Z227 ?_; refine yf (ok_callLendG L 900 (Φ := fun H => H b = some (.cells (stc S.R.length m _ S.P.length).toArray tyS)) (c := .bool false) rfl rfl (zk rfl) rfl rfl rfl rfl rfl lend_c (fun u H hH hle hb => none_ret hn hb hH)) ?_; refine Z151 ?_; refine Z158 ?_; refine Z238 ?_; refine Z1 ?_; refine yf (ok_lookupB (q := 901) (vc := vcE) r mpS kyS zrS rfl rfl rfl rfl rfl q1 q2) ?_; refine Z147 ?_; refine Z170 ?_; refine Z124 ?_; refine Z156 ?_; refine Z49 ?_; refine Z138 ?_; refine Z44 ?_; refine Z122 ?_
  refine V_join2 900 901 rfl rfl (gres_any _) ?_
  exact V_retY L 900 (r := StO b S.R.length m s S.P.length es) (rs := [.tmp 6]) rfl (fun _ _ h => h) Since.refl rfl rfl (fun H hle => rfl)
theorem spin_ret {S S' : Sto} {b : Nat} {r e : Int} (hn : S.R.length ≠ 0) (hz : S.P.length ≤ 1000) (hpn : pinS S r false = (S', e)) {w : World} {B : Heap} {C : Nat → Prop} (hB : B.Le (hp w)) (hr : (StG b S).P B w C) (hC : ∀ k, C k → k < w.heap.size ∧ B k = none) :
    RetY Tryz.prog 20 [.pointer (some ⟨b, 0, none⟩), .int .u64 r] w B C (StG b S') (fun v _ => v = .int .i64 e) := by
  unfold pinS at hpn
  unfold RetY
  refine V_enterG 900 (StG b S) Tryz.func20 rfl Tryz.ntmps20 (Nat.le_of_ble_eq_true rfl) hB hr hC ?_
  by_cases hk : (kpt S.R r).isSome = true
  · rw [if_pos hk] at hpn
    rw [if_neg (by decide)] at hpn
    cases hpn
    have hr0 : r ≠ 0 := by have := kpt_le hk; omega
    refine Z206 ?_; refine Z123 ?_; refine qk (yl L 900 (StG b ⟨S.R, S.P ++ [r]⟩) (.int .i64 0) (r := StG b S) rfl rfl rfl rfl rfl (fun u H2 C2 hH hle hr2 hC2 => by have h := schange_ret (P' := S.P ++ [r]) (e := 0) hn hk rfl (fun hH hv => pin_ret hr0 hz hH hv) hH hr2 hC2; rw [if_pos rfl] at h; exact retY_X h)) ?_; refine Z122 ?_
    exact V_retY L 900 (r := StG b ⟨S.R, S.P ++ [r]⟩) (rs := [.tmp 4]) rfl (fun _ _ h => h) Since.refl rfl rfl (fun H hle => rfl)
  · rw [if_neg hk] at hpn
    cases hpn
    refine Z206 ?_; refine Z123 ?_; refine yf (ok_callXR L 900 (.int .i64 14) (r := StG b S) rfl rfl rfl rfl rfl (fun u H2 C2 hH hle hr2 hC2 => schangeN_ret hn hk hH hr2 hC2)) ?_; refine Z122 ?_
    exact V_retY L 900 (r := StG b S) (rs := [.tmp 4]) rfl (fun _ _ h => h) Since.refl rfl rfl (fun H hle => rfl)
theorem sunpin_ret {S S' : Sto} {b : Nat} {r e : Int} (hn : S.R.length ≠ 0) (hz : S.P.length ≤ 1000) (hpn : pinS S r true = (S', e)) {w : World} {B : Heap} {C : Nat → Prop} (hB : B.Le (hp w)) (hr : (StG b S).P B w C) (hC : ∀ k, C k → k < w.heap.size ∧ B k = none) :
    RetY Tryz.prog 39 [.pointer (some ⟨b, 0, none⟩), .int .u64 r] w B C (StG b S') (fun v _ => v = .int .i64 e) := by
  unfold pinS at hpn
  unfold RetY
  refine V_enterG 900 (StG b S) Tryz.func39 rfl Tryz.ntmps39 (Nat.le_of_ble_eq_true rfl) hB hr hC ?_
  by_cases hk : (kpt S.R r).isSome = true
  · rw [if_pos hk] at hpn
    rw [if_pos rfl] at hpn
    obtain ⟨⟨P', e'⟩, hu⟩ : ∃ x, unpinR S.P r = x := ⟨_, rfl⟩
    rw [hu] at hpn
    dsimp only at hpn
    have hS : S' = (if ((e' : Nat) : Int) = 0 then ⟨S.R, P'⟩ else S) ∧ e = ((e' : Nat) : Int) := by
      by_cases h0 : e' = 0
      · subst h0; rw [if_pos rfl] at hpn; rw [if_pos (show ((0 : Nat) : Int) = 0 from rfl)]; cases hpn; exact ⟨rfl, rfl⟩
      · rw [if_neg h0] at hpn; rw [if_neg (by omega)]; cases hpn; exact ⟨rfl, rfl⟩
    obtain ⟨rfl, rfl⟩ := hS
    refine Z206 ?_; refine Z123 ?_; refine qk (yl L 900 (StG b (if ((e' : Nat) : Int) = 0 then ⟨S.R, P'⟩ else S)) (.int .i64 e') (r := StG b S) rfl rfl rfl rfl rfl (fun u H2 C2 hH hle hr2 hC2 => retY_X (schange_ret (P' := P') (e := e') hn hk rfl (fun hH hv => unpin_ret hu hz hH hv) hH hr2 hC2))) ?_; refine Z122 ?_
    exact V_retY L 900 (r := StG b (if ((e' : Nat) : Int) = 0 then ⟨S.R, P'⟩ else S)) (rs := [.tmp 4]) rfl (fun _ _ h => h) Since.refl rfl rfl (fun H hle => rfl)
  · rw [if_neg hk] at hpn
    cases hpn
    refine Z206 ?_; refine Z123 ?_; refine yf (ok_callXR L 900 (.int .i64 14) (r := StG b S) rfl rfl rfl rfl rfl (fun u H2 C2 hH hle hr2 hC2 => schangeN_ret hn hk hH hr2 hC2)) ?_; refine Z122 ?_
    exact V_retY L 900 (r := StG b S) (rs := [.tmp 4]) rfl (fun _ _ h => h) Since.refl rfl rfl (fun H hle => rfl)
end Go.V.L10
set_option maxRecDepth 20000
namespace Go.V.L10
open Go.Proofs Go.RowKit Go.V
theorem re_mk {φ : Value → Heap → Prop} {a tv : Value} {H : Heap} (h : φ tv H) : TupS [φ, fun v _ => v = a] (.tuple #[tv, a]) H := by
  refine ⟨[tv, a], rfl, rfl, fun i φ' x hi hx => ?_⟩
  rcases i with _ | _ | i
  · cases hi; cases hx; exact h
  · cases hi; cases hx; rfl
  · cases hi
theorem re_mono {φ : Value → Heap → Prop} {a : Value} (h : Kn.mono (.sat φ)) : Kn.mono (.sat (TupS [φ, fun v _ => v = a])) := TupS.mono fun ψ hψ => by
  simp only [List.mem_cons, List.mem_nil_iff, or_false] at hψ
  rcases hψ with rfl | rfl
  · exact h
  · exact fun _ _ _ h _ => h
attribute [local irreducible] V N X VO Par StepOK Has Ret RetL RetO RetT RetG RetX Src
def b01 (b : Bool) : Int := if b then 1 else 0
set_option maxHeartbeats 1000000 in
theorem rsame_ret {a b : List Int} {f : Bool} {fa fb : Bool} (hf : decide (a = b) = f) (ha : a.length ≤ 100000) (hb : b.length ≤ 100000) {v1 v2 : Value} {w : World} {B : Heap} (hB : B.Le (hp w)) (h1 : RsV a fa v1 B) (h2 : RsV b fb v2 B) :
    Ret Tryz.prog 22 [v1, v2] w B (fun v _ => v = .int .i64 (b01 f)) := by
  subst hf
  refine y7 Tryz.func22 rfl Tryz.ntmps22 (Nat.le_of_ble_eq_true rfl) hB ?_
  refine V_seen 0 (RsV a fa) rfl SlV.mono h1 ?_
  refine V_seen 1 (RsV b fb) rfl SlV.mono h2 ?_
  by_cases hl : a.length = b.length
  · refine Z130 ?_; refine Z204 ?_; refine Z139 ?_; refine Z139 ?_; refine Z254 ?_; refine Z28 ?_; refine Z203 ?_
    refine V_loop (fun i : Nat => [(0, .sat (RsV a fa)), (1, .sat (RsV b fb)), (5, .is (.int .i64 i))]) (fun i => i ≤ a.length ∧ a.take i = b.take i) (fun i => a.length - i) 0 ⟨Nat.zero_le _, rfl⟩ ⟨rfl, rfl, rfl, trivial⟩ ?_
    rintro i ⟨hi, ht⟩
    by_cases hlt : i < a.length
    · obtain ⟨x, hx⟩ := get_some hlt
      obtain ⟨y, hy⟩ := get_some (show i < b.length by omega)
      have hc1 := rs_at hx
      have hc2 := rs_at hy
      have hwk : IntKind.i64.wrap ((i : Int) + 1) = ((i + 1 : Nat) : Int) := wrap_i64 (by omega) (by omega)
      by_cases hxy : x = y
      · refine Z131 ?_; refine Z156 ?_; refine Z139 ?_; refine Z8 ?_; refine Z268 ?_; refine zy (id := 6) [] mixed (by kernel_rfl) ?_; refine Z286 ?_; refine z8 (ye L _ rfl rfl rfl rfl rfl rfl rfl (by first | omega | decide) (by assumption)) rfl ?_; refine z8 (ok_loadP1 L rfl rfl rfl rfl rfl) rfl ?_; refine Z286 ?_; refine z8 (ye L _ rfl rfl rfl rfl rfl rfl rfl (by first | omega | decide) (by assumption)) rfl ?_; refine z8 (ok_loadP1 L rfl rfl rfl rfl rfl) rfl ?_; refine z8 (yi rfl rfl rfl rfl (decide_eq_false (by omega))) rfl ?_; refine Z153 ?_; refine zx ?_; refine Z175 ?_; refine Z166 ?_; refine Z12 ?_; refine Z142 ?_
        exact y8 (x := i) (i + 1) ⟨hlt, by rw [take_snoc hx, take_snoc hy, ht, hxy]⟩ (by omega) ⟨rfl, rfl, rfl, trivial⟩
      · rw [decide_eq_false (at_ne hx hy hxy)]
        refine Z131 ?_; refine Z156 ?_; refine Z139 ?_; refine Z8 ?_; refine Z268 ?_; refine zy (id := 6) [] mixed (by kernel_rfl) ?_; refine Z286 ?_; refine z8 (ye L _ rfl rfl rfl rfl rfl rfl rfl (by first | omega | decide) (by assumption)) rfl ?_; refine z8 (ok_loadP1 L rfl rfl rfl rfl rfl) rfl ?_; refine Z286 ?_; refine z8 (ye L _ rfl rfl rfl rfl rfl rfl rfl (by first | omega | decide) (by assumption)) rfl ?_; refine z8 (ok_loadP1 L rfl rfl rfl rfl rfl) rfl ?_; refine z8 (yi rfl rfl rfl rfl (decide_eq_true (by omega))) rfl ?_; refine Z181 ?_; refine zh ?_; refine Z43 ?_; refine Z122 ?_
        refine y9 L (rs := [.tmp 4]) rfl (fun _ _ h => h) Since.refl fun u H hH hle => ?_
        rfl
    · obtain rfl : i = a.length := by omega
      have hab : a = b := by rw [List.take_length, hl, List.take_length] at ht; exact ht
      rw [decide_eq_true hab]
      refine Z131 ?_; refine Z156 ?_; refine Z139 ?_; refine Z232 ?_; refine Z57 ?_; refine Z122 ?_
      refine y9 L (rs := [.tmp 4]) rfl (fun _ _ h => h) Since.refl fun u H hH hle => ?_
      rfl
  · rw [decide_eq_false (len_ne hl)]
    refine Z130 ?_; refine Z204 ?_; refine Z139 ?_; refine Z139 ?_; refine Z211 ?_; refine Z31 ?_; refine Z122 ?_
    refine y9 L (rs := [.tmp 4]) rfl (fun _ _ h => h) Since.refl fun u H hH hle => ?_
    rfl
end Go.V.L10
set_option maxRecDepth 20000
namespace Go.V.L10
open Go.Proofs Go.RowKit Go.V Go.V.L2 Go.V.L8 Go.V.L6
def delE (es : Ent) (l : List Int) : Ent := l.foldl (fun e g => mdel g e) es
theorem delE_snoc {es : Ent} {l : List Int} {i : Nat} {g : Int} (h : l[i]? = some g) : delE es (l.take (i + 1)) = mdel g (delE es (l.take i)) := by unfold delE; rw [take_snoc h, List.foldl_append]; rfl
theorem MapOK.dels : ∀ {l : List Int} {es : Ent} {R : List (Option (List U))}, MapOK es R → (∀ g ∈ l, 0 < g) → MapOK (delE es l) (clrL R l)
  | [], _, _, h, _ => h
  | g :: l, _, _, h, hg => MapOK.dels (l := l) (h.del (hg g (List.mem_cons_self ..))) fun x hx => hg x (List.mem_cons_of_mem _ hx)
theorem EsV.dels : ∀ {l : List Int} {es : Ent} {H : Heap}, EsV es H → EsV (delE es l) H
  | [], _, _, h => h
  | g :: l, _, _, h => EsV.dels (l := l) fun e he => h e ((mdel_sub g _).subset he)
theorem goes_pos {P0 : List Int} {R : List (Option (List U))} {k : Nat} : ∀ g ∈ goesR P0 (keptL R) k, 0 < g := fun g hg => by
  unfold goesR at hg
  have h1 := List.mem_of_mem_take (List.mem_filter.1 hg).1
  exact (kpt_le (mem_keptL.1 h1)).1
theorem SetV.sst {l : List U} {v : Value} {H : Heap} (h : SetV l v H) : Sst cmpT l := by
  obtain ⟨_, _, _, _, ht, _⟩ := h
  exact ht.st
theorem lend_sto {b n m t : Nat} {s : Value} {es : Ent} : ∀ v H u C, (StO b n m s t es).res.P v H u C → joinH H u C b = some (.cells (stc n m s t).toArray tyS) := by rw [sto_res]; exact lend_both
theorem cell_sto {b n m t : Nat} {s : Value} {es : Ent} : ∀ v H u C, (StO b n m s t es).res.P v H u C → u.heap[b]? = some (.cells (stc n m s t).toArray tyS) := by rw [sto_res]; exact both_cell
def deltaS (S : Sto) (a b : Int) : List CH × Int := if (atS S a).2 = 0 then (if (atS S b).2 = 0 then (betP (atS S a).1 (atS S b).1, 0) else ([], (atS S b).2)) else ([], (atS S a).2)
theorem atS_len {S : Sto} (hI : StoI S) (r : Int) : (atS S r).1.length ≤ 4096 := by
  unfold atS
  split
  · rename_i t h; exact hI.tl _ _ h
  · exact Nat.zero_le _
attribute [local irreducible] V N X VO Par StepOK Has Ret RetL RetO RetT RetG RetX RetY Src
abbrev GoneP (g : List Int) (e : Int) : Value → Heap → Prop := TupS [RsV g true, fun v _ => v = .int .i64 e]
set_option maxHeartbeats 4000000 in
set_option maxRecDepth 20000 in
theorem scollect_ret {S : Sto} {b : Nat} {keep : Int} (hn : S.R.length ≠ 0) (hz : S.P.length ≤ 100000) (hR : S.R.length ≤ 100000) {w : World} {B : Heap} {C : Nat → Prop} (hB : B.Le (hp w)) (hr : (StG b S).P B w C) (hC : ∀ k, C k → k < w.heap.size ∧ B k = none) :
    RetY Tryz.prog 21 [.pointer (some ⟨b, 0, none⟩), .int .i64 keep] w B C (StG b (collS S keep).1) (GoneP (collS S keep).2.1 (collS S keep).2.2) := by
  unfold RetY
  refine V_enterG 900 (StG b S) Tryz.func21 rfl Tryz.ntmps21 (Nat.le_of_ble_eq_true rfl) hB hr hC ?_
  rw [stg_res]
  refine V_opnX 900 rfl fun x H hs0 hφ => ?_
  obtain ⟨m, s, es⟩ := x
  obtain ⟨hm, hes, hps⟩ := hφ
  dsimp only at hm hes hps ⊢
  obtain ⟨ps, pc, rfl⟩ := slv_shJ hps
  have hlen := hm.len
  have hkl := keptL_length S.R
  by_cases hk1 : keep < 1
  · have hS : collS S keep = (S, [], 4) := by unfold collS; rw [if_neg (by omega)]
    rw [hS]
    refine Z307 ?_; refine Z275 ?_; refine yf (ok_callLendG L 900 (Φ := fun H => H b = some (.cells (stc S.R.length m (.slice ps (pinsOf S.P).length pc) S.P.length).toArray tyS)) (c := .bool false) rfl rfl (zk rfl) rfl rfl rfl rfl rfl lend_sto (fun u H hH hle hb => none_ret hn hb hH)) ?_; refine Z187 ?_; refine Z158 ?_; refine Z8 ?_; refine Z171 ?_; refine Z9 ?_; refine Z229 ?_; refine Z256 ?_; refine Z173 ?_
    refine V_turnO 900 (StG b S).res rfl (stg_mk hm hes hps) ?_
    exact V_retY L 900 (r := StG b S) (rs := [.tmp 4, .tmp 5]) rfl (fun _ _ h => h) hs0 rfl rfl (fun H hle => re_mk SlV.nil)
  · by_cases hk2 : 1024 < keep
    · have hS : collS S keep = (S, [], 4) := by unfold collS; rw [if_neg (by omega)]
      rw [hS]
      refine Z307 ?_; refine Z275 ?_; refine yf (ok_callLendG L 900 (Φ := fun H => H b = some (.cells (stc S.R.length m (.slice ps (pinsOf S.P).length pc) S.P.length).toArray tyS)) (c := .bool false) rfl rfl (zk rfl) rfl rfl rfl rfl rfl lend_sto (fun u H hH hle hb => none_ret hn hb hH)) ?_; refine Z187 ?_; refine Z158 ?_; refine Z11 ?_; refine Z123 ?_; refine Z37 ?_; refine Z9 ?_; refine Z229 ?_; refine Z256 ?_; refine Z173 ?_
      refine V_turnO 900 (StG b S).res rfl (stg_mk hm hes hps) ?_
      exact V_retY L 900 (r := StG b S) (rs := [.tmp 4, .tmp 5]) rfl (fun _ _ h => h) hs0 rfl rfl (fun H hle => re_mk SlV.nil)
    · obtain ⟨k, rfl⟩ : ∃ k : Nat, keep = (k : Int) := ⟨keep.toNat, by omega⟩
      have hS : collS S k = (⟨clrL S.R (goesR S.P (keptL S.R) k), S.P⟩, goesR S.P (keptL S.R) k, 0) := by unfold collS; rw [if_pos (by omega)]; rfl
      rw [hS]
      have hgp : ∀ x ∈ goesR S.P (keptL S.R) k, 0 < x := goes_pos
      have hgl : (goesR S.P (keptL S.R) k).length ≤ 100000 := by
        unfold goesR
        refine Nat.le_trans (List.length_filter_le ..) ?_
        rw [List.length_take]; omega
      generalize hg : goesR S.P (keptL S.R) k = g at hgp hgl
      refine Z307 ?_; refine Z275 ?_; refine yf (ok_callLendG L 900 (Φ := fun H => H b = some (.cells (stc S.R.length m (.slice ps (pinsOf S.P).length pc) S.P.length).toArray tyS)) (c := .bool false) rfl rfl (zk rfl) rfl rfl rfl rfl rfl lend_sto (fun u H hH hle hb => none_ret hn hb hH)) ?_; refine Z187 ?_; refine Z158 ?_; refine Z11 ?_; refine Z123 ?_; refine Z285 ?_; refine Z164 ?_; refine zx ?_; refine Z284 ?_
      refine zy (id := 5) [(200022, [900]), (200024, [900])] mixed (by kernel_rfl) ?_; refine Z157 ?_; refine qg (ok_loadGA L (q := 900) (vs := [_, _]) rfl rfl cell_sto rfl rfl rfl rfl ⟨_, rfl⟩) rfl rfl ?_; refine Z3 ?_; refine qg (ok_callYR L 900 (RsV (keptL S.R) true) (r := StO b S.R.length m _ S.P.length es) rfl rfl rfl rfl rfl SlV.mono (fun u H2 C2 hH hle hr2 hC2 => (kept_ret hm hn (by omega) hH hr2 hC2).pubY lend_SlE)) rfl rfl ?_; refine Z3 ?_; refine z8 (yr (φ := RsV g true) L rfl rfl (zk rfl) rfl rfl rfl SlV.mono (fun u H2 hH hle _ v1 h1 => by rw [← hg]; exact goes_ret hz (by omega) (by omega) hH (hps.le hle) h1)) rfl ?_; refine Z85 ?_; refine Z185 ?_; refine zh ?_
      rw [sto_res]
      refine V_part 900 901 rfl (gres_any _) ?_
      refine Z42 ?_; refine Z304 ?_
      refine V_loop (fun y : Nat × Ent => [(0, .is (.pointer (some ⟨b, 0, none⟩))), (6, .sat (RsV g true)), (27, .sat (RsV g true)), (28, .is (.int .i64 g.length)), (29, .is (.int .i64 y.1)), (900, .own (HeldR b (stc S.R.length m (.slice ps (pinsOf S.P).length pc) S.P.length) tyS)), (901, .own (MapB m .u64 vcE y.2))])
        (fun y => y.1 ≤ g.length ∧ y.2 = delE es (g.take y.1)) (fun y => g.length - y.1) (0, es) ⟨Nat.zero_le _, rfl⟩ ⟨rfl, rfl, rfl, rfl, rfl, rfl, rfl, trivial⟩ ?_
      rintro ⟨i, ec⟩ ⟨hi, hec⟩
      dsimp only at hi hec ⊢
      by_cases hlt : i < g.length
      · obtain ⟨x, hx⟩ := get_some hlt
        have hc := rs_at hx
        have hnx := delE_snoc (es := es) hx
        have hwk : IntKind.i64.wrap ((i : Int) + 1) = ((i + 1 : Nat) : Int) := wrap_i64 (by omega) (by omega)
        refine zh ?_; refine Z43 ?_; refine Z193 ?_; refine Z57 ?_; refine z7 (ye L _ rfl rfl rfl rfl rfl rfl rfl (by first | omega | decide) (by assumption)) rfl ?_; refine Z102 ?_; refine Z122 ?_; refine Z61 ?_; refine Z1 ?_; refine Z238 ?_; refine Z1 ?_; refine vo_stepS (ok_deleteB (q := 901) (vc := vcE) x mpS kyS rfl rfl rfl rfl rfl) ?_; refine Z302 ?_; refine Z74 ?_; refine Z12 ?_; refine Z226 ?_
        exact y8 (x := (i, ec)) (i + 1, mdel x ec) ⟨hlt, by rw [hnx, hec]⟩ (by dsimp only; omega) ⟨rfl, rfl, rfl, rfl, rfl, rfl, rfl, trivial⟩
      · obtain rfl : i = g.length := by omega
        rw [List.take_length] at hec
        subst hec
        refine zh ?_; refine Z43 ?_; refine Z259 ?_; refine Z64 ?_; refine Z7 ?_; refine Z52 ?_; refine Z122 ?_
        refine V_join2 900 901 rfl rfl (gres_any _) ?_
        refine V_turnO 900 (StG b ⟨clrL S.R g, S.P⟩).res rfl (fun v H u C hle h => stg_mk (S := ⟨clrL S.R g, S.P⟩) (hm.dels hgp) hes.dels hps v H u C hle (by dsimp only; rw [clrL_length]; exact h)) ?_
        exact V_retY L 900 (r := StG b ⟨clrL S.R g, S.P⟩) (rs := [.tmp 4, .tmp 5]) rfl (fun _ _ h => h) hs0 rfl rfl (fun H hle => fun v hv => re_mk hv)
abbrev DelP (l : List CH) (e : Int) : Value → Heap → Prop := TupS [KS tyC l true, fun v _ => v = .int .i64 e]
set_option maxHeartbeats 4000000 in
set_option maxRecDepth 20000 in
theorem sdelta_ret {S : Sto} {b : Nat} {p q : Int} (hI : StoI S) (hn : S.R.length ≠ 0) {w : World} {B : Heap} {C : Nat → Prop} (hB : B.Le (hp w)) (hr : (StG b S).P B w C) (hC : ∀ k, C k → k < w.heap.size ∧ B k = none) :
    RetY Tryz.prog 28 [.pointer (some ⟨b, 0, none⟩), .int .u64 p, .int .u64 q] w B C (StG b S) (DelP (deltaS S p q).1 (deltaS S p q).2) := by
  refine RetY.ex hr fun x hφ hr => ?_
  obtain ⟨m, s, es⟩ := x
  obtain ⟨hm, hes, hps⟩ := hφ
  dsimp only at hm hes hps hr ⊢
  unfold RetY
  refine V_enterG 900 (StO b S.R.length m s S.P.length es) Tryz.func28 rfl Tryz.ntmps28 (Nat.le_of_ble_eq_true rfl) hB hr hC ?_
  have la := atS_len hI p
  have lb := atS_len hI q
  unfold deltaS
  obtain ⟨⟨ta, ea⟩, ha⟩ : ∃ x, atS S p = x := ⟨_, rfl⟩
  obtain ⟨⟨tb, eb⟩, hb⟩ : ∃ x, atS S q = x := ⟨_, rfl⟩
  rw [ha] at la ⊢
  rw [hb] at lb ⊢
  dsimp only at la lb ⊢
  refine Z307 ?_; refine Z17 ?_; refine Z123 ?_; refine yf (ok_callYR L 900 (WithP ta ea) (r := StO b S.R.length m _ S.P.length es) rfl rfl rfl rfl rfl WithP.mono (fun u H2 C2 hH hle hr2 hC2 => by have h := stoAt_ret (S := S) (r := p) hm hn (hes.le hle) hH hr2 hC2; rw [ha] at h; exact h)) ?_; refine vo_opn 14 rfl fun v1 H1 hs1 hp1 => ?_; obtain ⟨sv, rfl, hsv⟩ := hp1; obtain ⟨f1, p1, f2, p2, rfl, hpl⟩ := hsv.shape; refine Z294 ?_
  by_cases h1 : ea = 0
  · subst h1
    rw [if_pos rfl]
    have hes1 := hes.le hs1.le
    refine Z155 ?_; refine Z222 ?_; refine Z262 ?_; refine yf (ok_callYR L 900 (WithP tb eb) (r := StO b S.R.length m _ S.P.length es) rfl rfl rfl rfl rfl WithP.mono (fun u H2 C2 hH hle hr2 hC2 => by have h := stoAt_ret (S := S) (r := q) hm hn (hes1.le hle) hH hr2 hC2; rw [hb] at h; exact h)) ?_; refine vo_opn 23 rfl fun v2 H2 hs2 hp2 => ?_; obtain ⟨sw, rfl, hsw⟩ := hp2; obtain ⟨f3, p3, f4, p4, rfl, hpl2⟩ := hsw.shape; refine Z294 ?_
    by_cases h2 : eb = 0
    · subst h2
      rw [if_pos rfl]
      refine Z166 ?_; refine Z222 ?_; refine Z43 ?_; refine z7 (zt L (vs := [_, _, _, _]) (y5 rfl) rfl rfl rfl rfl ⟨_, rfl⟩) rfl ?_; refine z7 (zt L (vs := [_, _, _, _]) (y5 rfl) rfl rfl rfl rfl ⟨_, rfl⟩) rfl ?_; refine z7 (yr (φ := KS tyC (betP ta tb) true) L rfl rfl (zk rfl) rfl rfl rfl SlV.mono (fun u H3 hH hle _ => dbetween_ret la lb hsv.sst hsw.sst rfl hH (hsv.le (hs2.le.trans hle)) (hsw.le hle))) rfl ?_; refine Z52 ?_; refine Z122 ?_
      exact V_retY L 900 (r := StO b S.R.length m s S.P.length es) (rs := [.tmp 6, .tmp 7]) rfl (fun _ _ h => h) (hs1.trans hs2) rfl rfl (fun H hle => fun v hv => re_mk hv)
    · rw [if_neg h2]
      refine Z166 ?_; refine Z211 ?_; refine Z172 ?_; refine Z173 ?_
      exact V_retY L 900 (r := StO b S.R.length m s S.P.length es) (rs := [.tmp 6, .tmp 7]) rfl (fun _ _ h => h) (hs1.trans hs2) rfl rfl (fun H hle => re_mk SlV.nil)
  · rw [if_neg h1]
    refine Z155 ?_; refine Z211 ?_; refine Z158 ?_; refine Z173 ?_
    exact V_retY L 900 (r := StO b S.R.length m s S.P.length es) (rs := [.tmp 6, .tmp 7]) rfl (fun _ _ h => h) hs1 rfl rfl (fun H hle => re_mk SlV.nil)
end Go.V.L10
set_option maxRecDepth 20000
namespace Go.V
open Go.RowKit
def RefR {X : Type} (vf : X → Value) (g : X → GR) : Res where
  P v H u C := ∃ x, v = vf x ∧ (g x).P H u C
  st := fun ⟨x, h1, h2⟩ a b c d => ⟨x, h1, (g x).st h2 a b c d⟩
def MapVis {V : Type} (b : Nat) (kd : IntKind) (vc : V → Value) (l : List (Int × V)) (H : Heap) : Prop := ∃ es ck, H b = some (.map es ck) ∧ MiE kd vc l es.toList
theorem MapVis.le {V : Type} {b : Nat} {kd : IntKind} {vc : V → Value} {l : List (Int × V)} {H H' : Heap} (h : MapVis b kd vc l H) (hle : H.Le H') : MapVis b kd vc l H' := let ⟨es, ck, h1, h2⟩ := h; ⟨es, ck, hle _ _ h1, h2⟩
section
variable {P : Program} {F : Fr} {B : Heap} {O : Boxes} {n : Nat} {ops : Array Oper} {κ : Kap} {d : Nat} {ty : TypeId} {pos : String} {aft : Array Edge} {g : Option (Nat × Bool)} {Q : Exit → Act → World → Prop} {a : Act} {u : World} {os : List Oper}
theorem Has.holdRf {X : Type} {t q : Nat} {vf : X → Value} {gg : X → GR} (hk : κ t = some (.own (RefR vf gg))) (h : Has F B O n κ a u) : ∃ x, Has F B O n (upd (upd (upd κ t nilK) q (.own (gg x).res)) t (.is (vf x))) a u := by
  obtain ⟨H, fp, h⟩ := h
  obtain ⟨⟨x, hv, hx⟩, hM⟩ := h.slot t _ hk
  have h2 := h.usePut (d := q) (a' := a) (r' := (gg x).res) (C := fp t) hk ⟨Keep.refl _ _, h.sub, Heap.Le.refl _, fun _ _ _ => rfl⟩ rfl rfl (fun _ _ => rfl) hx fun k hk => ⟨.inl hk, (hM k hk).1, (hM k hk).2.1⟩
  have h3 := h2.name t
  rw [hv] at h3
  exact ⟨x, H, _, h3⟩
theorem V_holdRf (t q : Nat) {X : Type} {vf : X → Value} {gg : X → GR} {c : Code} (hk : κ t = some (.own (RefR vf gg))) (h : ∀ x, V P F B n O (upd (upd (upd κ t nilK) q (.own (gg x).res)) t (.is (vf x))) c Q) : V P F B n O κ c Q := fun a u hh => let ⟨x, h'⟩ := hh.holdRf (q := q) hk; h x a u h'
theorem Has.packRf {X : Type} {t q : Nat} {vf : X → Value} {gg : X → GR} (x : X) (hk : κ q = some (.own (gg x).res)) (ht : κ t = some (.is (vf x))) (h : Has F B O n κ a u) : Has F B O n (upd (upd κ q nilK) t (.own (RefR vf gg))) a u := by
  obtain ⟨H, fp, h⟩ := h
  obtain ⟨hx, hM⟩ := h.slot q _ hk
  have hv : a.eval (.tmp t) = vf x := h.slot t _ ht
  exact ⟨H, _, h.usePut (d := t) (a' := a) (r' := RefR vf gg) (C := fp q) hk ⟨Keep.refl _ _, h.sub, Heap.Le.refl _, fun _ _ _ => rfl⟩ rfl rfl (fun _ _ => rfl) ⟨x, hv, hx⟩ fun k hk => ⟨.inl hk, (hM k hk).1, (hM k hk).2.1⟩⟩
theorem V_packRf (t q : Nat) {X : Type} (vf : X → Value) (gg : X → GR) {c : Code} (x : X) (hk : κ q = some (.own (gg x).res)) (ht : κ t = some (.is (vf x))) (h : V P F B n O (upd (upd κ q nilK) t (.own (RefR vf gg))) c Q) : V P F B n O κ c Q := fun a u hh => h a u (hh.packRf x hk ht)
variable {Y : Type} {kd : IntKind} {vc : Y → Value} {l : List (Int × Y)}
end
end Go.V
set_option maxRecDepth 20000
namespace Go.V.L10
open Go.Proofs Go.RowKit Go.V Go.V.L2 Go.V.L8 Go.V.L6
abbrev ptrV (b : Nat) : Value := .pointer (some ⟨b, 0, none⟩)
abbrev StoRf (S : Sto) : Res := RefR ptrV fun b => StG b S
theorem mapOK_nil {Y : Type} : MapOK ([] : List (Int × (List U × Y))) [] := ⟨List.nodup_nil, fun r => by
  cases h : kpt ([] : List (Option (List U))) r with
  | none => rfl
  | some t => have := kpt_le (R := []) (r := r) (by rw [h]; rfl); simp at this; omega⟩
theorem mapOK_new : MapOK [((1 : Int), (([] : List U), nilSet))] newS.R := by
  have h := (mapOK_nil (Y := Value)).add [] nilSet
  have h2 := h.1
  rw [h.2] at h2
  exact h2
theorem mget_perm {Y : Type} {a b : List (Int × Y)} (hp : a.Perm b) (hn : (b.map Prod.fst).Nodup) (r : Int) : mget r a = mget r b := by
  have hna : (a.map Prod.fst).Nodup := ((hp.map Prod.fst).nodup_iff).2 hn
  cases ha : mget r a with
  | some y => exact (mget_of_mem hn (hp.mem_iff.1 (mget_mem ha))).symm
  | none =>
    cases hb : mget r b with
    | none => rfl
    | some y => rw [mget_of_mem hna (hp.mem_iff.2 (mget_mem hb))] at ha; cases ha
theorem MapOK.perm {Y : Type} {a b : List (Int × (List U × Y))} {R : List (Option (List U))} (h : MapOK b R) (hp : a.Perm b) : MapOK a R := ⟨((hp.map Prod.fst).nodup_iff).2 h.nd, fun r => by rw [mget_perm hp h.nd]; exact h.get r⟩
theorem EsV.perm {a b : Ent} {H : Heap} (h : EsV b H) (hp : a.Perm b) : EsV a H := fun e he => h e (hp.mem_iff.1 he)
attribute [local irreducible] V N X VO Par StepOK Has Ret RetL RetO RetT RetG RetX RetY Src
set_option maxHeartbeats 2000000 in
set_option maxRecDepth 20000 in
theorem snew_ret {w : World} {B : Heap} (hB : B.Le (hp w)) : RetO Tryz.prog 18 [] w B (StoRf newS) := by
  refine V_enterO Tryz.func18 rfl Tryz.ntmps18 (Nat.le_of_ble_eq_true rfl) hB ?_
  refine Z206 ?_; refine z7 (ok_makeMapB (hint := none) .u64 vcE rfl rfl) rfl ?_; refine vo_holdMb 1 901 rfl fun m => ?_; refine z7 (ym (cs := [_, _, _, _]) rfl rfl pl45 rfl rfl) rfl ?_; refine vo_stepS (ok_insertB (q := 901) (vc := vcE) 1 ([], nilSet) mpS kyS rfl rfl rfl rfl rfl rfl rfl) ?_; refine Z1 ?_; refine z7 (ym (cs := [_, _, _, _]) rfl rfl pl94 rfl rfl) rfl ?_; refine Z93 ?_; refine qk (ok_moveO (.inr rfl) rfl rfl rfl rfl) ?_; refine Z121 ?_
  refine V_hold 0 900 rfl fun b => ?_
  refine V_join2 900 901 rfl rfl (gres_any (GMap m .u64 vcE [((1 : Int), (([] : List U), nilSet))])) ?_
  refine V_turnO 900 (StG b newS).res rfl (fun v H u C hle h => stg_mk (S := newS) (s := .slice none 0 0) (m := m) (B := B) mapOK_new (fun e he => by rw [List.mem_singleton.1 he]; exact SetV.nil) SlV.nil v H u C hle h) ?_
  refine V_packRf 0 900 ptrV (fun b => StG b newS) b rfl rfl ?_
  exact V_retO rfl (fun _ _ h => h) Since.refl rfl
end Go.V.L10
set_option maxRecDepth 20000
namespace Go.V.L10
open Go.Proofs Go.RowKit Go.V Go.V.L2 Go.V.L8 Go.V.L6
abbrev SB := List U × (Value × Option Addr × Value × Option Addr)
abbrev sbv (b : SB) : Value := .agg #[b.2.1, .pointer b.2.2.1, b.2.2.2.1, .pointer b.2.2.2.2]
def SbOK (bs : List SB) (H : Heap) : Prop := ∀ b ∈ bs, SetV b.1 (sbv b) H
theorem SbOK.le {bs : List SB} {H H' : Heap} (h : SbOK bs H) (hle : H.Le H') : SbOK bs H' := fun b hb => (h b hb).le hle
def AscR (rs : List Int) : Prop := (0 :: rs).Pairwise (· < ·)
instance (rs : List Int) : Decidable (AscR rs) := inferInstanceAs (Decidable ((0 :: rs).Pairwise (· < ·)))
attribute [local irreducible] V N X VO Par StepOK Has Ret RetL RetO RetT RetG RetX RetY Src
end Go.V.L10
set_option maxRecDepth 20000
namespace Go.V.L10
open Go.Proofs Go.RowKit Go.V Go.V.L2 Go.V.L8 Go.V.L6
def StV (a n m : Nat) (s : Value) (t : Nat) (es : Ent) (H : Heap) : Prop := H a = some (.cells (stc n m s t).toArray tyS) ∧ MapVis m .u64 vcE es H
theorem StV.le {a n m t : Nat} {s : Value} {es : Ent} {H H' : Heap} (h : StV a n m s t es H) (hle : H.Le H') : StV a n m s t es H' := ⟨hle _ _ h.1, h.2.le hle⟩
attribute [local irreducible] V N X VO Par StepOK Has Ret RetL RetO RetT RetG RetX RetY Src
end Go.V.L10
set_option maxRecDepth 20000
namespace Go.V.L10
open Go.Proofs Go.RowKit Go.V Go.V.L2 Go.V.L8 Go.V.L6
abbrev tyRr : TypeId := 89
abbrev RRow := Option (List U) × Value
def rrc (z : RRow) : List Value := [.bool z.1.isSome, z.2]
def RowOK (zs : List RRow) (H : Heap) : Prop := ∀ z ∈ zs, US (z.1.getD []) false z.2 H
theorem RowOK.le {zs : List RRow} {H H' : Heap} (h : RowOK zs H) (hle : H.Le H') : RowOK zs H' := fun z hz => (h z hz).le hle
abbrev RwV (zs : List RRow) : Value → Heap → Prop := SlV tyRr 2 (zs.flatMap rrc) zs.length false
def RlV (R : List (Option (List U))) : Value → Heap → Prop := fun v H => ∃ zs : List RRow, zs.map (·.1) = R ∧ RowOK zs H ∧ RwV zs v H
theorem RlV.le {R : List (Option (List U))} {v : Value} {H H' : Heap} (h : RlV R v H) (hle : H.Le H') : RlV R v H' := let ⟨zs, h1, h2, h3⟩ := h; ⟨zs, h1, h2.le hle, h3.le hle⟩
def RsS (S : Sto) : Value → Heap → Prop := fun v H => ∃ lv pv, v = .agg #[lv, pv] ∧ RlV S.R lv H ∧ RsV S.P false pv H
theorem RsS.mono {S : Sto} : Kn.mono (.sat (RsS S)) := fun _ _ _ ⟨lv, pv, h1, h2, h3⟩ hle => ⟨lv, pv, h1, h2.le hle, h3.le hle⟩
theorem RsS.le {S : Sto} {v : Value} {H H' : Heap} (h : RsS S v H) (hle : H.Le H') : RsS S v H' := RsS.mono _ _ _ h hle
attribute [local irreducible] V N X VO Par StepOK Has Ret RetL RetO RetT RetG RetX RetY Src
end Go.V.L10
set_option maxRecDepth 20000
namespace Go.V.L10
open Go.Proofs Go.RowKit Go.V Go.V.L2 Go.V.L8 Go.V.L6
abbrev Wr10P (S : Sto) (rev e : Int) : Value → Heap → Prop := TupS [RsS S, fun v _ => v = .int .u64 rev, fun v _ => v = .int .i64 e]
theorem Wr10P.mono {S : Sto} {rev e : Int} : Kn.mono (.sat (Wr10P S rev e)) := TupS.mono fun ψ hψ => by
  simp only [List.mem_cons, List.mem_nil_iff, or_false] at hψ
  rcases hψ with rfl | rfl | rfl
  · exact RsS.mono
  · exact fun _ _ _ h _ => h
  · exact fun _ _ _ h _ => h
attribute [local irreducible] V N X VO Par StepOK Has Ret RetL RetO RetT RetG RetX RetY Src
abbrev Pn10P (S : Sto) (e : Int) : Value → Heap → Prop := TupS [RsS S, fun v _ => v = .int .i64 e]
theorem Pn10P.mono {S : Sto} {e : Int} : Kn.mono (.sat (Pn10P S e)) := re_mono RsS.mono
end Go.V.L10
set_option maxRecDepth 20000
namespace Go.V.L10
open Go.Proofs Go.RowKit Go.V Go.V.L2 Go.V.L8 Go.V.L6
def clrZ (zs : List RRow) (g : Int) : List RRow := zs.set (g - 1).toNat (none, .slice none 0 0)
def clrZL (zs : List RRow) (l : List Int) : List RRow := l.foldl clrZ zs
theorem RowOK.clr {zs : List RRow} {H : Heap} (h : RowOK zs H) (g : Int) : RowOK (clrZ zs g) H := fun z hz => by
  rcases List.mem_or_eq_of_mem_set hz with hz | rfl
  · exact h z hz
  · exact SlV.nil
theorem RowOK.clrL : ∀ {l : List Int} {zs : List RRow} {H : Heap}, RowOK zs H → RowOK (clrZL zs l) H
  | [], _, _, h => h
  | g :: l, _, _, h => RowOK.clrL (l := l) (h.clr g)
attribute [local irreducible] V N X VO Par StepOK Has Ret RetL RetO RetT RetG RetX RetY Src
def Cl10P (S : Sto) (g : List Int) (e : Int) : Value → Heap → Prop := fun v H => ∃ sv gv, v = .tuple #[sv, gv, .int .i64 e] ∧ RsS S sv H ∧ RsV g false gv H
theorem Cl10P.mono {S : Sto} {g : List Int} {e : Int} : Kn.mono (.sat (Cl10P S g e)) := fun _ _ _ ⟨a, b, h1, h2, h3⟩ hle => ⟨a, b, h1, h2.le hle, h3.le hle⟩
end Go.V.L10
set_option maxRecDepth 20000
namespace Go.V.L10
open Go.Proofs Go.RowKit Go.V Go.V.L2 Go.V.L8 Go.V.L6
def OvV (o : OO) (v : Value) (H : Heap) : Prop := ∃ mv cv, v = .agg #[.int .u8 o.wh, mv, cv, .int .u8 o.rv, .int .i64 o.kp] ∧ PS3 o.ms false mv H ∧ PS3 o.cs false cv H
theorem OvV.le {o : OO} {v : Value} {H H' : Heap} (h : OvV o v H) (hle : H.Le H') : OvV o v H' := let ⟨a, b, h1, h2, h3⟩ := h; ⟨a, b, h1, h2.le hle, h3.le hle⟩
structure OOK (o : OO) : Prop where
  wh : o.wh ≤ 255
  rv : o.rv ≤ 255
  ms : ∀ c ∈ o.ms, c.1 ≤ 255 ∧ c.2.1 ≤ 255 ∧ c.2.2 ≤ 255
  cs : ∀ c ∈ o.cs, c.1 ≤ 255 ∧ c.2.1 ≤ 255 ∧ c.2.2 ≤ 255
  lm : o.ms.length ≤ 9223372036854775807
  lc : o.cs.length ≤ 9223372036854775807
theorem OOK.rev {o : OO} (h : OOK o) : 0 ≤ o.rev ∧ o.rev < 18446744073709551616 := by
  have := h.rv
  unfold OO.rev
  split <;> omega
attribute [local irreducible] V N X VO Par StepOK Has Ret RetL RetO RetT RetG RetX RetY Src
theorem rev_ret {o : OO} (ho : OOK o) {mv cv : Value} (hp1 : plainV mv = true) (hp2 : plainV cv = true) {w : World} {B : Heap} (hB : B.Le (hp w)) :
    Ret Tryz.prog 36 [.agg #[.int .u8 o.wh, mv, cv, .int .u8 o.rv, .int .i64 o.kp]] w B (fun v _ => v = .int .u64 o.rev) := by
  have hrv := ho.rv
  unfold OO.rev
  refine y7 Tryz.func36 rfl Tryz.ntmps36 (Nat.le_of_ble_eq_true rfl) hB ?_
  by_cases h : o.rv = 255
  · rw [if_pos h]
    refine Z305 ?_; refine Z186 ?_; refine Z27 ?_; refine Z303 ?_
    refine y9 L (rs := [.tmp 2]) rfl (fun _ _ h => h) Since.refl fun u H hH hle => ?_
    rfl
  · rw [if_neg h]
    have hwu : IntKind.u64.wrap (o.rv : Int) = (o.rv : Int) := wrap_u64 (by omega) (by omega)
    refine Z305 ?_; refine Z186 ?_; refine Z223 ?_; refine Z28 ?_; refine Z186 ?_; refine z7 (ok_conv rfl rfl rfl cv5_49.1 cv5_49.2 (wrap_u64 (by omega) (by omega))) rfl ?_; refine Z122 ?_
    refine y9 L (rs := [.tmp 2]) rfl (fun _ _ h => h) Since.refl fun u H hH hle => ?_
    rfl
end Go.V.L10
set_option maxRecDepth 20000
namespace Go.V.L10
open Go.Proofs Go.RowKit Go.V Go.V.L2 Go.V.L8 Go.V.L6
abbrev Cl10S (S : Sto) (g : List Int) (e : Int) : Value → Heap → Prop := TupS [RsS S, RsV g false, fun v _ => v = .int .i64 e]
theorem Cl10S.mono {S : Sto} {g : List Int} {e : Int} : Kn.mono (.sat (Cl10S S g e)) := TupS.mono fun ψ hψ => by
  simp only [List.mem_cons, List.mem_nil_iff, or_false] at hψ
  rcases hψ with rfl | rfl | rfl
  · exact RsS.mono
  · exact SlV.mono
  · exact fun _ _ _ h _ => h
theorem Cl10P.tup {S : Sto} {g : List Int} {e : Int} {v : Value} {H : Heap} (h : Cl10P S g e v H) : Cl10S S g e v H := by
  obtain ⟨a, b, rfl, h1, h2⟩ := h
  refine ⟨[a, b, .int .i64 e], rfl, rfl, fun i ψ x hi hx => ?_⟩
  rcases i with _ | _ | _ | i
  · cases hi; cases hx; exact h1
  · cases hi; cases hx; exact h2
  · cases hi; cases hx; rfl
  · cases hi
attribute [local irreducible] V N X VO Par StepOK Has Ret RetL RetO RetT RetG RetX RetY Src
end Go.V.L10
set_option maxRecDepth 20000
namespace Go.V.L10
open Go.Proofs Go.RowKit Go.V Go.V.L2 Go.V.L8 Go.V.L6
attribute [local irreducible] V N X VO Par StepOK Has Ret RetL RetO RetT RetG RetX RetY Src
end Go.V.L10
set_option maxRecDepth 20000
namespace Go.V.L10
open Go.Proofs Go.RowKit Go.V Go.V.L2 Go.V.L8 Go.V.L6
theorem _root_.Go.V.Z323 {A B : Prop} (h : B) (t : Wr B → A := by intro h; refine Z9 ?_; refine Z1 ?_; exact h.h) : A := t ⟨h⟩
theorem sat_ret {S : Sto} {b : Nat} {r : Int} (hn : S.R.length ≠ 0) {w : World} {B : Heap} {C : Nat → Prop} (hB : B.Le (hp w)) (hr : (StG b S).P B w C) (hC : ∀ k, C k → k < w.heap.size ∧ B k = none) :
    RetY Tryz.prog 13 [ptrV b, .int .u64 r] w B C (StG b S) (WithP (atS S r).1 (atS S r).2) :=
  RetY.ex hr fun _ ⟨hm, hes, _⟩ hr => stoAt_ret hm hn hes hB hr hC
theorem skept_ret {S : Sto} {b : Nat} (hn : S.R.length ≠ 0) (hz : (keptL S.R).length ≤ 100000) {w : World} {B : Heap} {C : Nat → Prop} (hB : B.Le (hp w)) (hr : (StG b S).P B w C) (hC : ∀ k, C k → k < w.heap.size ∧ B k = none) :
    RetY Tryz.prog 12 [ptrV b] w B C (StG b S) (RsV (keptL S.R) true) :=
  RetY.ex hr fun _ ⟨hm, _, _⟩ hr => (kept_ret hm hn (by rw [hm.len]; exact hz) hB hr hC).pubY lend_SlE
theorem lend_stg {b : Nat} {S : Sto} : ∀ v H u C, (StG b S).res.P v H u C → ∃ m s, (∃ p k c, s = .slice p k c) ∧ joinH H u C b = some (.cells (stc S.R.length m s S.P.length).toArray tyS) := fun v H u C ⟨⟨m, s, es⟩, ⟨_, _, hp⟩, h⟩ => by
  obtain ⟨p, c, rfl⟩ := slv_shJ hp
  exact ⟨m, _, ⟨_, _, _, rfl⟩, lend_sto v H u C h⟩
abbrev PinsP (P0 : List Int) : Value → Heap → Prop := fun v H => ∃ s, v = pnv s P0.length ∧ PsV (pinsOf P0) s H
theorem PinsP.mono {P0 : List Int} : Kn.mono (.sat (PinsP P0)) := fun _ _ _ ⟨s, h1, h2⟩ hle => ⟨s, h1, h2.le hle⟩
attribute [local irreducible] V N X VO Par StepOK Has Ret RetL RetO RetT RetG RetX RetY Src
abbrev s1 : Sto := ⟨[some [], some [d0]], []⟩
abbrev s2 : Sto := ⟨[some [], some [d0], some [d2]], []⟩
abbrev s3 : Sto := ⟨[some [], some [d0], some [d2]], [2]⟩
abbrev s4 : Sto := ⟨[none, some [d0], some [d2]], [2]⟩
abbrev s5 : Sto := ⟨[none, some [d0], some [d2], some [d2]], [2]⟩
abbrev s6 : Sto := ⟨[none, some [d0], some [d2], some [d2]], []⟩
abbrev s7 : Sto := ⟨[none, none, none, some [d2]], []⟩
theorem l10w1 : writeS newS [] [(d0, false)] = (s1, 2, 0) := by kernel_rfl
theorem l10w2 : writeS s1 [(d0, false)] [(d2, false), (d0, true)] = (s2, 3, 0) := by kernel_rfl
theorem l10w3 : writeS s2 [(d0, false)] [] = (s2, 0, 13) := by kernel_rfl
theorem l10a2 : atS s2 2 = ([d0], 0) := by kernel_rfl
theorem l10a0 : atS s2 0 = ([d2], 0) := by kernel_rfl
theorem l10a4 : atS s2 4 = ([], 14) := by kernel_rfl
theorem l10p : pinS s2 2 false = (s3, 0) := by kernel_rfl
theorem l10c1 : collS s3 1 = (s4, [1], 0) := by kernel_rfl
theorem l10k : keptL s4.R = [2, 3] := by kernel_rfl
theorem l10a1 : atS s4 1 = ([], 14) := by kernel_rfl
theorem l10w4 : writeS s4 [] [] = (s5, 4, 0) := by kernel_rfl
theorem l10u1 : pinS s5 2 true = (s6, 0) := by kernel_rfl
theorem l10u2 : pinS s6 2 true = (s6, 8) := by kernel_rfl
theorem l10c2 : collS s6 1 = (s7, [2, 3], 0) := by kernel_rfl
theorem l10d : deltaS s7 4 0 = ([], 0) := by kernel_rfl
theorem l10c3 : collS s7 0 = (s7, [], 4) := by kernel_rfl
theorem l10z : pinS s7 0 false = (s7, 14) := by kernel_rfl
theorem jj_w {n : Nat} {S S' : Sto} {l cs : List CH} {r e : Int} (h : JJ n S) (hn : n ≤ 100) (hc : ∀ c ∈ cs, TZ c.1 ∧ tE c.1 = 0) (hl : cs.length ≤ 30) (hw : writeS S l cs = (S', r, e)) : JJ (n + 1) S' := by
  have h1 := jj_write h hn (l := l) hc hl
  rw [hw] at h1
  exact h1
theorem jj_p {n : Nat} {S S' : Sto} {r e : Int} {un : Bool} (h : JJ n S) (hw : pinS S r un = (S', e)) : JJ (n + 1) S' := by
  have h1 := jj_pin h r un
  rw [hw] at h1
  exact h1
theorem jj_c {n : Nat} {S S' : Sto} {k e : Int} {g : List Int} (h : JJ n S) (hw : collS S k = (S', g, e)) : JJ (n + 1) S' := by
  have h1 := jj_coll h k
  rw [hw] at h1
  exact h1
set_option maxHeartbeats 8000000 in
set_option maxRecDepth 20000 in
theorem lives10_ret {w : World} {B : Heap} (hB : B.Le (hp w)) : Ret Tryz.prog 17 [] w B (fun v _ => v = .bool true) := by
  have p0 : ptA ⟨#[100, 111, 99, 58, 97, 35, 118, 105, 101, 119, 101, 114, 64, 117, 115, 101, 114, 58, 120]⟩ = (d0, 0) := by decide +kernel
  have p2 : ptA ⟨#[100, 111, 99, 58, 98, 35, 118, 105, 101, 119, 101, 114, 64, 117, 115, 101, 114, 58, 120]⟩ = (d2, 0) := by decide +kernel
  have z0 : TZ d0 := tz_ofB (by decide)
  have z2 : TZ d2 := tz_ofB (by decide)
  have m0 := tz_tm z0
  have m2 := tz_tm z2
  have e0 : tE d0 = 0 := by decide +kernel
  have e2 : tE d2 = 0 := by decide +kernel
  have all : ∀ l : List CH, (∀ c ∈ l, c.1 = d0 ∨ c.1 = d2) → ∀ c ∈ l, TM c.1 := fun l h c hc => by
    rcases h c hc with e | e
    · rw [e]; exact m0
    · rw [e]; exact m2
  have ok : ∀ l : List CH, (∀ c ∈ l, c.1 = d0 ∨ c.1 = d2) → ∀ c ∈ l, TZ c.1 ∧ tE c.1 = 0 := fun l h c hc => by
    rcases h c hc with e | e
    · rw [e]; exact ⟨z0, e0⟩
    · rw [e]; exact ⟨z2, e2⟩
  have j0 := jj_new
  have j1 := jj_w j0 (by decide) (ok _ (by simp)) (by decide) l10w1
  have j2 := jj_w j1 (by decide) (ok _ (by simp)) (by decide) l10w2
  have j3 := jj_p j2 l10p
  have j4 := jj_c j3 l10c1
  have j5 := jj_w j4 (by decide) (ok _ (by simp)) (by decide) l10w4
  have j6 := jj_p j5 l10u1
  have j7 := jj_c j6 l10c2
  have k1 : Kn.mono (.sat (RsV [1] true)) := SlV.mono
  have k2 : Kn.mono (.sat (RsV [2, 3] true)) := SlV.mono
  have k3 : Kn.mono (.sat (RsV [] true)) := SlV.mono
  have k4 : Kn.mono (.sat (KS tyC [] true)) := SlV.mono
  refine y7 Tryz.func17 rfl Tryz.ntmps17 (Nat.le_of_ble_eq_true rfl) hB ?_
  refine Z206 ?_; refine z7 (zp L rfl rfl (zk rfl) rfl rfl rfl (fun u H hH _ _ => rtparse_ret p0 (Nat.le_of_ble_eq_true rfl) hH)) rfl ?_; refine Z147 ?_; refine Z170 ?_; refine Z124 ?_; refine Z31 ?_; refine z7 (zp L rfl rfl (zk rfl) rfl rfl rfl (fun u H hH _ _ => rtparse_ret p2 (Nat.le_of_ble_eq_true rfl) hH)) rfl ?_; refine Z147 ?_; refine Z170 ?_; refine Z124 ?_; refine Z28 ?_; refine z7 (zt L (vs := [_, _, _, _, _, _]) (y5 rfl) rfl rfl rfl rfl ⟨_, rfl⟩) rfl ?_; refine z7 (ym (cs := [_, _, _, _, _, _, _]) rfl rfl pl118 rfl rfl) rfl ?_; refine Z54 ?_; refine Z290 ?_; refine Z34 ?_; refine z7 (ok_callO L rfl rfl (zk rfl) rfl rfl rfl (fun u H hH hle _ => snew_ret hH)) rfl ?_; refine qk (ok_moveO (.inr rfl) rfl rfl rfl rfl) ?_; refine Z137 ?_
  refine V_holdRf 6 900 rfl fun b => ?_
  refine Z166 ?_; refine z7 (zt L (vs := [_, _, _, _, _, _]) (y5 rfl) rfl rfl rfl rfl ⟨_, rfl⟩) rfl ?_; refine z7 (ym (cs := [_, _, _, _, _, _, _]) rfl rfl pl120 rfl rfl) rfl ?_; refine Z54 ?_; refine qk (yl L 900 (StG b s1) (.tuple #[.int .u64 2, .int .i64 0]) (r := StG b newS) rfl rfl rfl rfl rfl (fun u H2 C2 hH hle hr2 hC2 v1 h1 => retY_X (swrite_ret (l := []) (cs := [(d0, false)]) (j0.I (by decide)) (by decide) j0.ne (all _ (by simp)) (all _ (by simp)) (by decide) (by decide) l10w1 hH (SlV.nil (fu := false)) (h1.toV (n := 1) rfl) hr2 hC2))) ?_; refine Z196 ?_
  refine Z172 ?_; refine Z7 ?_; refine z7 (zt L (vs := [_, _, _, _, _, _]) (y5 rfl) rfl rfl rfl rfl ⟨_, rfl⟩) rfl ?_; refine z7 (ym (cs := [_, _, _, _, _, _, _]) rfl rfl pl120 rfl rfl) rfl ?_; refine z7 (zt L (vs := [_, _, _, _, _, _]) (y5 rfl) rfl rfl rfl rfl ⟨_, rfl⟩) rfl ?_; refine z7 (ym (cs := [_, _, _, _, _, _, _]) rfl rfl pl120 rfl rfl) rfl ?_; refine Z54 ?_; refine qk (yl L 900 (StG b s2) (.tuple #[.int .u64 3, .int .i64 0]) (r := StG b s1) rfl rfl rfl rfl rfl (fun u H2 C2 hH hle hr2 hC2 v1 h1 v2 h2 => retY_X (swrite_ret (l := [(d0, false)]) (cs := [(d2, false), (d0, true)]) (j1.I (by decide)) (by decide) j1.ne (all _ (by simp)) (all _ (by simp)) (by decide) (by decide) l10w2 hH (h1.toV (n := 1) rfl) (h2.toV (n := 2) rfl) hr2 hC2))) ?_; refine Z196 ?_
  refine Z176 ?_; refine Z7 ?_; refine qk (yl L 900 (StG b s2) (.tuple #[.int .u64 0, .int .i64 13]) (r := StG b s2) rfl rfl rfl rfl rfl (fun u H2 C2 hH hle hr2 hC2 v1 h1 => retY_X (swrite_ret (l := [(d0, false)]) (cs := []) (j2.I (by decide)) (by decide) j2.ne (all _ (by simp)) (all _ (by simp)) (by decide) (by decide) l10w3 hH (h1.toV (n := 1) rfl) (SlV.nil (fu := false)) hr2 hC2))) ?_; refine Z196 ?_
  refine Z197 ?_; refine yf (ok_callYR L 900 (WithP [d0] 0) (r := StG b s2) rfl rfl rfl rfl rfl WithP.mono (fun u H2 C2 hH hle hr2 hC2 => by have h := sat_ret (r := 2) j2.ne hH hr2 hC2; rw [l10a2] at h; exact h)) ?_; refine vo_opn 62 rfl fun vx Kx hx hpx => ?_; obtain ⟨svx, rfl, hsvx⟩ := hpx; obtain ⟨fx, px, gx, qx, rfl, hplx⟩ := hsvx.shape; refine Z255 ?_; refine Z124 ?_; refine Z61 ?_; refine Z1 ?_; refine yf (ok_callYR L 900 (WithP [d2] 0) (r := StG b s2) rfl rfl rfl rfl rfl WithP.mono (fun u H2 C2 hH hle hr2 hC2 => by have h := sat_ret (r := 0) j2.ne hH hr2 hC2; rw [l10a0] at h; exact h)) ?_; refine vo_opn 67 rfl fun vy Ky hy hpy => ?_; obtain ⟨svy, rfl, hsvy⟩ := hpy; obtain ⟨fy, py, gy, qy, rfl, hply⟩ := hsvy.shape; refine Z255 ?_; refine Z124 ?_; refine Z74 ?_; refine Z1 ?_; refine yf (ok_callYR L 900 (WithP [] 14) (r := StG b s2) rfl rfl rfl rfl rfl WithP.mono (fun u H2 C2 hH hle hr2 hC2 => by have h := sat_ret (r := 4) j2.ne hH hr2 hC2; rw [l10a4] at h; exact h)) ?_; refine vo_opn 72 rfl fun vz Kz hz hpz => ?_; obtain ⟨svz, rfl, hsvz⟩ := hpz; obtain ⟨fz, pz, gz, qz, rfl, hplz⟩ := hsvz.shape; refine Z294 ?_
  have hsvx2 := hsvx.le (hy.le.trans hz.le)
  have hsvy2 := hsvy.le hz.le
  refine Z64 ?_; refine Z235 ?_; refine Z243 ?_; refine Z243 ?_; refine Z22 ?_; refine Z123 ?_; refine Z22 ?_; refine Z220 ?_; refine Z22 ?_; refine Z220 ?_; refine Z22 ?_; refine Z323 ?_; refine z7 (zt L (vs := [_, _, _, _]) (y5 rfl) rfl rfl rfl rfl ⟨_, rfl⟩) rfl ?_; refine z7 (zp L rfl rfl (zk rfl) rfl rfl rfl (fun u H hH hle _ => slen_ret (n := 1) rfl hH (hsvx2.le hle))) rfl ?_; refine Z22 ?_; refine Z323 ?_; refine z7 (zt L (vs := [_, _, _, _]) (y5 rfl) rfl rfl rfl rfl ⟨_, rfl⟩) rfl ?_; refine z7 (zt L (vs := [_, _, _, _, _, _]) (y5 rfl) rfl rfl rfl rfl ⟨_, rfl⟩) rfl ?_; refine z7 (zp L rfl rfl (zk rfl) rfl rfl rfl (fun u H hH hle _ => shas_ret (b := true) (by decide) hH (hsvx2.le hle))) rfl ?_; refine Z49 ?_; refine Z323 ?_; refine z7 (zt L (vs := [_, _, _, _]) (y5 rfl) rfl rfl rfl rfl ⟨_, rfl⟩) rfl ?_; refine z7 (zp L rfl rfl (zk rfl) rfl rfl rfl (fun u H hH hle _ => slen_ret (n := 1) rfl hH (hsvy2.le hle))) rfl ?_; refine Z22 ?_; refine Z323 ?_; refine z7 (zt L (vs := [_, _, _, _]) (y5 rfl) rfl rfl rfl rfl ⟨_, rfl⟩) rfl ?_; refine z7 (zt L (vs := [_, _, _, _, _, _]) (y5 rfl) rfl rfl rfl rfl ⟨_, rfl⟩) rfl ?_; refine z7 (zp L rfl rfl (zk rfl) rfl rfl rfl (fun u H hH hle _ => shas_ret (b := true) (by decide) hH (hsvy2.le hle))) rfl ?_; refine Z49 ?_; refine Z220 ?_; refine Z22 ?_; refine Z220 ?_; refine qk (yl L 900 (StG b s3) (.int .i64 0) (r := StG b s2) rfl rfl rfl rfl rfl (fun u H2 C2 hH hle hr2 hC2 => retY_X (spin_ret j2.ne (by decide) l10p hH hr2 hC2))) ?_; refine Z22 ?_; refine Z9 ?_; refine Z133 ?_; refine Z269 ?_; refine qk (ok_callYG L 900 (StG b s4) (GoneP [1] 0) (r := StG b s3) rfl rfl rfl rfl rfl (re_mono SlV.mono) (fun u H2 C2 hH hle hr2 hC2 => by have h := scollect_ret (keep := 1) j3.ne (by decide) (by decide) hH hr2 hC2; rw [l10c1] at h; exact h)) ?_; refine Z292 ?_; refine Z132 ?_
  refine Z219 ?_; refine Z22 ?_; refine Z1 ?_; refine Z7 ?_; refine Z54 ?_; refine z7 (zp L rfl rfl (zk rfl) rfl rfl rfl (fun u H hH hle _ v1 h1 v2 h2 => rsame_ret (a := [1]) (b := [1]) (f := true) (fb := true) rfl (by decide) (by decide) hH h1 (h2.toV rfl))) rfl ?_; refine Z108 ?_; refine Z220 ?_; refine yf (ok_callYR L 900 (RsV [2, 3] true) (r := StG b s4) rfl rfl rfl rfl rfl SlV.mono (fun u H2 C2 hH hle hr2 hC2 => by have h := skept_ret j4.ne (by decide) hH hr2 hC2; rw [l10k] at h; exact h)) ?_; refine Z54 ?_; refine z7 (zp L rfl rfl (zk rfl) rfl rfl rfl (fun u H hH hle _ v1 h1 v2 h2 => rsame_ret (a := [2, 3]) (b := [2, 3]) (f := true) (fb := true) rfl (by decide) (by decide) hH h1 (h2.toV rfl))) rfl ?_; refine Z108 ?_; refine Z9 ?_; refine Z133 ?_; refine Z92 ?_; refine Z1 ?_; refine yf (ok_callYR L 900 (WithP [] 14) (r := StG b s4) rfl rfl rfl rfl rfl WithP.mono (fun u H2 C2 hH hle hr2 hC2 => by have h := sat_ret (r := 1) j4.ne hH hr2 hC2; rw [l10a1] at h; exact h)) ?_; refine vo_opn 148 rfl fun vw Kw hw hpw => ?_; obtain ⟨svw, rfl, hsvw⟩ := hpw; obtain ⟨fw, pw, gw, qw, rfl, hplw⟩ := hsvw.shape; refine Z147 ?_; refine Z124 ?_; refine Z100 ?_; refine Z1 ?_; refine qk (yl L 900 (StG b s5) (.tuple #[.int .u64 4, .int .i64 0]) (r := StG b s4) rfl rfl rfl rfl rfl (fun u H2 C2 hH hle hr2 hC2 => retY_X (swrite_ret (l := []) (cs := []) (j4.I (by decide)) (by decide) j4.ne (all _ (by simp)) (all _ (by simp)) (by decide) (by decide) l10w4 hH (SlV.nil (fu := false)) (SlV.nil (fu := false)) hr2 hC2))) ?_; refine Z196 ?_; refine Z236 ?_; refine qk (yl L 900 (StG b s6) (.int .i64 0) (r := StG b s5) rfl rfl rfl rfl rfl (fun u H2 C2 hH hle hr2 hC2 => retY_X (sunpin_ret j5.ne (by decide) l10u1 hH hr2 hC2))) ?_; refine Z124 ?_; refine zf (id := 19) ?_; refine Z1 ?_; refine qk (yl L 900 (StG b s6) (.int .i64 8) (r := StG b s6) rfl rfl rfl rfl rfl (fun u H2 C2 hH hle hr2 hC2 => retY_X (sunpin_ret j6.ne (by decide) l10u2 hH hr2 hC2))) ?_; refine Z124 ?_; refine Z81 ?_; refine Z1 ?_; refine qk (ok_callYG L 900 (StG b s7) (GoneP [2, 3] 0) (r := StG b s6) rfl rfl rfl rfl rfl (re_mono SlV.mono) (fun u H2 C2 hH hle hr2 hC2 => by have h := scollect_ret (keep := 1) j6.ne (by decide) (by decide) hH hr2 hC2; rw [l10c2] at h; exact h)) ?_; refine Z292 ?_; refine Z124 ?_; refine Z101 ?_; refine Z1 ?_; refine yf (ok_callYR L 900 (DelP [] 0) (r := StG b s7) rfl rfl rfl rfl rfl (re_mono SlV.mono) (fun u H2 C2 hH hle hr2 hC2 => by have h := sdelta_ret (p := 4) (q := 0) (j7.I (by decide)) j7.ne hH hr2 hC2; rw [l10d] at h; exact h)) ?_; refine Z292 ?_; refine Z245 ?_; refine Z1 ?_; refine qk (ok_callYG L 900 (StG b s7) (GoneP [] 4) (r := StG b s7) rfl rfl rfl rfl rfl (re_mono SlV.mono) (fun u H2 C2 hH hle hr2 hC2 => by have h := scollect_ret (keep := 0) j7.ne (by decide) (by decide) hH hr2 hC2; rw [l10c3] at h; exact h)) ?_; refine Z292 ?_; refine Z124 ?_
  refine Z246 ?_; refine Z27 ?_; refine Z123 ?_; refine Z27 ?_; refine Z220 ?_; refine Z27 ?_; refine Z220 ?_; refine Z27 ?_; refine Z220 ?_; refine Z27 ?_; refine Z220 ?_; refine Z27 ?_; refine Z323 ?_; refine Z7 ?_; refine Z54 ?_; refine z7 (zp L rfl rfl (zk rfl) rfl rfl rfl (fun u H hH hle _ v1 h1 v2 h2 => rsame_ret (a := [2, 3]) (b := [2, 3]) (f := true) (fb := true) rfl (by decide) (by decide) hH h1 (h2.toV rfl))) rfl ?_; refine Z108 ?_; refine Z220 ?_; refine Z27 ?_; refine Z323 ?_; refine Z139 ?_; refine Z108 ?_; refine Z220 ?_; refine Z27 ?_; refine Z220 ?_; refine qk (yl L 900 (StG b s7) (.int .i64 14) (r := StG b s7) rfl rfl rfl rfl rfl (fun u H2 C2 hH hle hr2 hC2 => retY_X (spin_ret j7.ne (by decide) l10z hH hr2 hC2))) ?_; refine Z27 ?_; refine Z9 ?_; refine Z122 ?_
  refine y9 L (rs := [.tmp 0]) rfl (fun _ _ h => h) (hx.trans (hy.trans (hz.trans hw))) fun u H hH hle => ?_
  rfl
end Go.V.L10
set_option maxRecDepth 20000
namespace Go.V.L10
open Go.Proofs Go.RowKit Go.V Go.V.L2 Go.V.L8 Go.V.L6
abbrev ZO := OO × Value × Value
def OzOK (zs : List ZO) (H : Heap) : Prop := ∀ z ∈ zs, OOK z.1 ∧ PS3 z.1.ms false z.2.1 H ∧ PS3 z.1.cs false z.2.2 H
theorem OzOK.le {zs : List ZO} {H H' : Heap} (h : OzOK zs H) (hle : H.Le H') : OzOK zs H' := fun z hz => ⟨(h z hz).1, (h z hz).2.1.le hle, (h z hz).2.2.le hle⟩
attribute [local irreducible] V N X VO Par StepOK Has Ret RetL RetO RetT RetG RetX RetY Src
end Go.V.L10
set_option maxRecDepth 20000
namespace Go.V.L10
open Go.Proofs Go.RowKit Go.V Go.V.L2 Go.V.L8 Go.V.L6
abbrev WithT (l : List U) (e : Int) : Value → Heap → Prop := TupS [SetV l, fun v _ => v = .int .i64 e]
theorem WithT.mono {l : List U} {e : Int} : Kn.mono (.sat (WithT l e)) := re_mono SetV.mono
theorem WithP.tup {l : List U} {e : Int} {v : Value} {H : Heap} (h : WithP l e v H) : WithT l e v H := by
  obtain ⟨tv, rfl, h2⟩ := h
  exact re_mk h2
theorem lend_new {b : Nat} {S : Sto} (hn : S.R.length ≠ 0) {u : World} {H : Heap} (hH : H.Le (hp u)) (h : ∃ m s, (∃ p k c, s = .slice p k c) ∧ H b = some (.cells (stc S.R.length m s S.P.length).toArray tyS)) : Ret Tryz.prog 15 [ptrV b] u H (fun v _ => v = .int .u64 S.R.length) := by
  obtain ⟨m, s, _, hb⟩ := h
  exact newest_ret hn hb hH
attribute [local irreducible] V N X VO Par StepOK Has Ret RetL RetO RetT RetG RetX RetY Src
end Go.V.L10
set_option maxRecDepth 20000
namespace Go.V.L10
open Go.Proofs Go.RowKit Go.V Go.V.L2 Go.V.L8 Go.V.L6
def emp (m : Nat) : Sto := ⟨List.replicate m (some []), []⟩
theorem emp_len (m : Nat) : (emp m).R.length = m := List.length_replicate ..
theorem kpt_emp {m : Nat} {r : Int} (h : 0 < r ∧ r ≤ m) : kpt (emp m).R r = some [] := by
  unfold kpt emp
  rw [if_pos h.1]
  dsimp only
  rw [List.getElem?_replicate, if_pos (by omega)]
  rfl
theorem kpt_emps {m : Nat} {r : Int} {t : List U} (h : kpt (emp m).R r = some t) : t = [] := by
  have h1 := kpt_le (R := (emp m).R) (r := r) (by rw [h]; rfl)
  rw [emp_len] at h1
  rw [kpt_emp h1] at h
  cases h; rfl
theorem kept_emp (m : Nat) : (keptL (emp m).R).length = m := by
  unfold keptL
  rw [List.length_map, List.filter_eq_self.2, List.length_range, emp_len]
  intro i hi
  have := List.mem_range.1 hi
  rw [emp_len] at this
  unfold emp
  dsimp only
  rw [List.getElem?_replicate, if_pos this]
  rfl
theorem emp_I {m : Nat} (h1 : 1 ≤ m) (h2 : m ≤ 1024) : StoI (emp m) := ⟨by rw [emp_len, kpt_emp ⟨by omega, by omega⟩]; rfl, by rw [kept_emp]; exact h2, fun r hr => (by cases hr), fun r t ht => by rw [kpt_emps ht]; exact Nat.zero_le _⟩
theorem write_nil : writeR [] [] [] = ([], [], 0) := by kernel_rfl
theorem emp_w {m : Nat} (h1 : 1 ≤ m) (h2 : m < 1024) : writeS (emp m) [] [] = (emp (m + 1), ((m + 1 : Nat) : Int), 0) := by
  have ha : atS (emp m) 0 = ([], 0) := atS_last (by rw [emp_len]; exact kpt_emp ⟨by omega, by omega⟩)
  unfold writeS
  rw [ha, write_nil]
  dsimp only
  rw [if_pos rfl, kept_emp, if_neg (by omega), emp_len]
  unfold emp
  rw [List.replicate_succ']
theorem emp_wF : writeS (emp 1024) [] [] = (emp 1024, 0, 3) := by
  have ha : atS (emp 1024) 0 = ([], 0) := atS_last (by rw [emp_len]; exact kpt_emp ⟨by omega, by omega⟩)
  unfold writeS
  rw [ha, write_nil]
  dsimp only
  rw [if_pos rfl, kept_emp, if_pos (by omega)]
def k0 : Sto := emp 1024
def k1 : Sto := ⟨k0.R, [7]⟩
def k2 : Sto := ⟨k0.R, [7, 1024]⟩
theorem kp1 : pinS k0 7 false = (k1, 0) := by
  unfold pinS
  rw [if_pos (by unfold k0; rw [kpt_emp (by decide)]; rfl), if_neg (by decide)]
  rfl
theorem kp2 : pinS k1 1024 false = (k2, 0) := by
  unfold pinS
  rw [if_pos (by unfold k1 k0; rw [kpt_emp (by decide)]; rfl), if_neg (by decide)]
  rfl
theorem kp3 : pinS k2 1025 false = (k2, 14) := by
  unfold pinS
  rw [if_neg (fun h => by have := kpt_le h; unfold k2 k0 at this; dsimp only at this; rw [emp_len] at this; omega)]
theorem kc0 : collS k2 1024 = (k2, [], 0) := by
  have hk : (keptL k2.R).length = 1024 := kept_emp 1024
  unfold collS
  rw [if_pos (by decide)]
  unfold goesR
  rw [hk, show (1024 - (1024 : Int).toNat) = 0 from rfl, List.take_zero]
  rfl
theorem kept_ext {R : List (Option (List U))} {l : List Int} (hs : Sst cP l) (hm : ∀ r, r ∈ l ↔ (kpt R r).isSome = true) : keptL R = l := sst_ext cP_ord (sst_keptL R) hs fun z => by rw [mem_keptL, hm]
def fromN (a n : Nat) : List Int := (List.range n).map fun i => ((i + a : Nat) : Int)
theorem fromN_len (a n : Nat) : (fromN a n).length = n := by unfold fromN; rw [List.length_map, List.length_range]
theorem mem_fromN {a n : Nat} {r : Int} : r ∈ fromN a n ↔ (a : Int) ≤ r ∧ r < ((a + n : Nat) : Int) := by
  unfold fromN
  rw [List.mem_map]
  constructor
  · rintro ⟨i, hi, rfl⟩
    have := List.mem_range.1 hi
    omega
  · rintro ⟨h1, h2⟩
    exact ⟨(r - a).toNat, List.mem_range.2 (by omega), by omega⟩
theorem sst_fromN (a n : Nat) : Sst cP (fromN a n) := by
  unfold fromN Sst
  rw [List.pairwise_map]
  exact List.pairwise_lt_range.imp fun h => cP_lt.2 (by omega)
theorem fromN_take {a n m : Nat} (h : m ≤ n) : (fromN a n).take m = fromN a m := by
  unfold fromN
  rw [← List.map_take, List.take_range, Nat.min_eq_left h]
theorem k2_kept : keptL k2.R = fromN 1 1024 := kept_ext (sst_fromN _ _) fun r => by
  rw [mem_fromN]
  constructor
  · intro h; unfold k2 k0; dsimp only; rw [kpt_emp (by omega)]; rfl
  · intro h
    have := kpt_le h
    unfold k2 k0 at this
    dsimp only at this
    rw [emp_len] at this
    omega
def g1 : List Int := [1, 2, 3, 4, 5, 6, 8, 9, 10, 11, 12, 13, 14, 15, 16, 17, 18, 19, 20, 21, 22, 23, 24]
theorem mem_g1 {r : Int} : r ∈ g1 ↔ (1 ≤ r ∧ r ≤ 24) ∧ r ≠ 7 := by
  unfold g1
  simp only [List.mem_cons, List.mem_nil_iff, or_false]
  omega
def k3 : Sto := ⟨clrL k2.R g1, [7, 1024]⟩
theorem kc1 : collS k2 1000 = (k3, g1, 0) := by
  have hg : goesR k2.P (keptL k2.R) (1000 : Int).toNat = g1 := by
    unfold goesR
    rw [k2_kept, fromN_len, show (1024 - (1000 : Int).toNat) = 24 from rfl, fromN_take (by omega)]
    rfl
  unfold collS
  rw [if_pos (by decide), hg]
  rfl
theorem g1_pos : ∀ g ∈ g1, 0 < g := fun g hg => by have := mem_g1.1 hg; omega
theorem kpt_k2 {r : Int} (h : 0 < r ∧ r ≤ 1024) : kpt k2.R r = some [] := kpt_emp h
theorem kpt_k3 (r : Int) : kpt k3.R r = if r ∈ g1 then none else kpt k2.R r := kpt_clrL g1_pos
theorem k3_len : k3.R.length = 1024 := by unfold k3; rw [clrL_length]; exact emp_len 1024
theorem k2_len : k2.R.length = 1024 := emp_len 1024
theorem k3_some {r : Int} : (kpt k3.R r).isSome = true ↔ r = 7 ∨ 25 ≤ r ∧ r ≤ 1024 := by
  rw [kpt_k3]
  by_cases h : r ∈ g1
  · rw [if_pos h]
    have := mem_g1.1 h
    constructor
    · intro h; cases h
    · intro h; omega
  · rw [if_neg h]
    have hn : ¬ ((1 ≤ r ∧ r ≤ 24) ∧ r ≠ 7) := fun h2 => h (mem_g1.2 h2)
    constructor
    · intro h2
      have h3 := kpt_le h2
      rw [k2_len] at h3
      omega
    · intro h2
      rw [kpt_k2 (by omega)]
      rfl
theorem k3_val {r : Int} {t : List U} (h : kpt k3.R r = some t) : t = [] := by
  rw [kpt_k3] at h
  split at h
  · cases h
  · exact kpt_emps h
theorem k3_kept : keptL k3.R = 7 :: fromN 25 1000 := kept_ext (List.pairwise_cons.2 ⟨fun r hr => by have := mem_fromN.1 hr; exact cP_lt.2 (by omega), sst_fromN _ _⟩) fun r => by
  rw [k3_some, List.mem_cons, mem_fromN]
  omega
theorem k3_I : StoI k3 := ⟨by rw [k3_len, k3_some]; omega, by rw [k3_kept, List.length_cons, fromN_len]; omega, fun r hr => by
  rw [k3_some]
  unfold k3 at hr
  simp only [List.mem_cons, List.mem_nil_iff, or_false] at hr
  omega, fun r t ht => by rw [k3_val ht]; exact Nat.zero_le _⟩
def k4 : Sto := ⟨k3.R ++ [some []], [7, 1024]⟩
theorem kw4 : writeS k3 [] [] = (k4, 1025, 0) := by
  obtain ⟨t, ht⟩ := Option.isSome_iff_exists.1 k3_I.last
  have h0 := k3_val ht
  subst h0
  unfold writeS
  rw [atS_last ht, write_nil]
  dsimp only
  rw [if_pos rfl, k3_kept, List.length_cons, fromN_len, if_neg (by omega), k3_len]
  rfl
theorem k4_len : k4.R.length = 1025 := by unfold k4; rw [List.length_append, k3_len]; rfl
theorem kpt_k4 (r : Int) : kpt k4.R r = if r = 1025 then some [] else kpt k3.R r := by
  unfold k4
  rw [kpt_snoc, k3_len]
  rfl
theorem k4_some {r : Int} : (kpt k4.R r).isSome = true ↔ r = 7 ∨ 25 ≤ r ∧ r ≤ 1025 := by
  rw [kpt_k4]
  by_cases h : r = 1025
  · rw [if_pos h]; exact ⟨fun _ => by omega, fun _ => rfl⟩
  · rw [if_neg h, k3_some]; omega
theorem k4_kept : keptL k4.R = 7 :: fromN 25 1001 := kept_ext (List.pairwise_cons.2 ⟨fun r hr => by have := mem_fromN.1 hr; exact cP_lt.2 (by omega), sst_fromN _ _⟩) fun r => by
  rw [k4_some, List.mem_cons, mem_fromN]
  omega
def g2 : List Int := fromN 25 999
theorem k4_goes : goesR k4.P (keptL k4.R) (1 : Int).toNat = g2 := by
  have hc : ∀ r : Int, decide (([7, 1024] : List Int).count r = 0) = decide (r ≠ 7 ∧ r ≠ 1024) := fun r => by
    rw [decide_eq_decide]
    simp only [List.count_eq_zero, List.mem_cons, List.mem_nil_iff, or_false, not_or]
  have h1 : fromN 25 1000 = fromN 25 999 ++ [1024] := by
    unfold fromN
    rw [List.range_succ, List.map_append]
    rfl
  unfold goesR
  rw [k4_kept, List.length_cons, fromN_len, show (1001 + 1 - (1 : Int).toNat) = 1000 + 1 from rfl, List.take_succ_cons, fromN_take (by omega), h1]
  show List.filter (fun r => decide (([7, 1024] : List Int).count r = 0)) (7 :: (fromN 25 999 ++ [1024])) = g2
  rw [List.filter_cons, if_neg (by decide), List.filter_append, List.filter_eq_self.2 (fun r hr => by
    have := mem_fromN.1 hr
    rw [hc]
    exact decide_eq_true ⟨by omega, by omega⟩)]
  have h2 : List.filter (fun r => decide (([7, 1024] : List Int).count r = 0)) [(1024 : Int)] = [] := by decide
  rw [h2, List.append_nil]
  rfl
def k5 : Sto := ⟨clrL k4.R g2, [7, 1024]⟩
theorem kc5 : collS k4 1 = (k5, g2, 0) := by
  unfold collS
  rw [if_pos (by decide), k4_goes]
  rfl
theorem k5_len : k5.R.length = 1025 := by unfold k5; rw [clrL_length]; exact k4_len
theorem k5_kept : keptL k5.R = [7, 1024, 1025] := kept_ext (by decide) fun r => by
  have h1 : kpt k5.R r = if r ∈ g2 then none else kpt k4.R r := kpt_clrL fun g hg => by have := mem_fromN.1 hg; omega
  have h2 : r ∈ g2 ↔ 25 ≤ r ∧ r < 1024 := mem_fromN
  rw [h1]
  simp only [List.mem_cons, List.mem_nil_iff, or_false]
  by_cases h : r ∈ g2
  · rw [if_pos h]
    have := h2.1 h
    constructor
    · intro h3; omega
    · intro h3; cases h3
  · rw [if_neg h, k4_some]
    have : ¬ (25 ≤ r ∧ r < 1024) := fun h3 => h (h2.2 h3)
    omega
end Go.V.L10
set_option maxRecDepth 20000
namespace Go.V.L10
open Go.Proofs Go.RowKit Go.V Go.V.L2 Go.V.L8 Go.V.L6
theorem k0_len : k0.R.length = 1024 := emp_len 1024
theorem k0_P : k0.P = [] := rfl
theorem k1_len : k1.R.length = 1024 := emp_len 1024
theorem k1_P : k1.P.length = 1 := rfl
theorem k2_P : k2.P.length = 2 := rfl
theorem k3_P : k3.P.length = 2 := rfl
theorem k4_P : k4.P.length = 2 := rfl
theorem emp_1 : emp 1 = newS := rfl
theorem emp_k : emp 1024 = k0 := rfl
theorem g1_len : g1.length = 23 := rfl
theorem g2_len : g2.length = 999 := fromN_len _ _
attribute [local irreducible] V N X VO Par StepOK Has Ret RetL RetO RetT RetG RetX RetY Src emp k0 k1 k2 k3 k4 k5 g1 g2
set_option maxHeartbeats 4000000 in
set_option maxRecDepth 20000 in
theorem storesKnown_law {w : World} {B : Heap} (hB : B.Le (hp w)) : Ret Tryz.prog 4 [] w B (fun v _ => v = .bool true) := by
  have e1 := k0_len
  have e2 := k1_len
  have e3 := k2_len
  have e4 := k3_len
  have e5 := k4_len
  have e6 := k5_len
  have f1 : k0.P.length = 0 := by rw [k0_P]; rfl
  have f2 := k1_P
  have f3 := k2_P
  have f4 := k3_P
  have f5 := k4_P
  have l1 := g1_len
  have l2 := g2_len
  have m0 : Kn.mono (.sat (RsV [] true)) := SlV.mono
  have m1 : Kn.mono (.sat (RsV g1 true)) := SlV.mono
  have m2 : Kn.mono (.sat (RsV g2 true)) := SlV.mono
  refine y7 Tryz.func4 rfl Tryz.ntmps4 (Nat.le_of_ble_eq_true rfl) hB ?_
  refine Z206 ?_; refine z7 (ok_callO L rfl rfl (zk rfl) rfl rfl rfl (fun u H hH hle _ => snew_ret hH)) rfl ?_; refine qk (ok_moveO (.inr rfl) rfl rfl rfl rfl) ?_; refine Z162 ?_
  refine V_holdRf 1 900 rfl fun b => ?_
  refine Z31 ?_; refine Z203 ?_
  rw [← emp_1]
  refine V_loop (fun m : Nat => [(1, .is (ptrV b)), (2, .is (.int .i64 (m + 1 : Nat))), (900, .own (StG b (emp m)).res)]) (fun m => 1 ≤ m ∧ m ≤ 1024) (fun m => 1024 - m) 1 ⟨by omega, by omega⟩ ⟨rfl, rfl, rfl, trivial⟩ ?_
  rintro m ⟨h1, h2⟩
  dsimp only at h1 h2 ⊢
  have hml := emp_len m
  by_cases hlt : m < 1024
  · have hwk : IntKind.i64.wrap (((m + 1 : Nat) : Int) + 1) = ((m + 1 + 1 : Nat) : Int) := wrap_i64 (by omega) (by omega)
    have hwu : IntKind.u64.wrap ((m + 1 : Nat) : Int) = ((m + 1 : Nat) : Int) := wrap_u64 (by omega) (by omega)
    refine Z131 ?_; refine Z158 ?_; refine Z66 ?_; refine Z268 ?_; refine Z166 ?_; refine qk (yl L 900 (StG b (emp (m + 1))) (.tuple #[.int .u64 (m + 1 : Nat), .int .i64 0]) (r := StG b (emp m)) rfl rfl rfl rfl rfl (fun u H2 C2 hH hle hr2 hC2 => retY_X (swrite_ret (l := []) (cs := []) (emp_I h1 h2) (by omega) (by omega) (fun _ h => (by cases h)) (fun _ h => (by cases h)) (Nat.zero_le _) (Nat.zero_le _) (emp_w h1 hlt) hH (SlV.nil (fu := false)) (SlV.nil (fu := false)) hr2 hC2))) ?_; refine Z196 ?_; refine Z172 ?_; refine Z22 ?_; refine Z150 ?_; refine z7 (ok_conv rfl rfl rfl cv3_49.1 cv3_49.2 (wrap_u64 (by omega) (by omega))) rfl ?_; refine Z22 ?_; refine Z9 ?_; refine Z257 ?_; refine Z156 ?_; refine Z12 ?_; refine Z142 ?_
    exact y8 (x := m) (m + 1) ⟨by omega, by omega⟩ (by omega) ⟨rfl, rfl, rfl, trivial⟩
  · obtain rfl : m = 1024 := by omega
    refine Z131 ?_; refine Z158 ?_; refine Z63 ?_; refine Z252 ?_; refine Z197 ?_; refine qk (yl L 900 (StG b (emp 1024)) (.tuple #[.int .u64 0, .int .i64 3]) (r := StG b (emp 1024)) rfl rfl rfl rfl rfl (fun u H2 C2 hH hle hr2 hC2 => retY_X (swrite_ret (l := []) (cs := []) (emp_I (by omega) (by omega)) (by omega) (by omega) (fun _ h => (by cases h)) (fun _ h => (by cases h)) (Nat.zero_le _) (Nat.zero_le _) emp_wF hH (SlV.nil (fu := false)) (SlV.nil (fu := false)) hr2 hC2))) ?_; refine Z288 ?_
    rw [emp_k]
    refine Z61 ?_; refine Z1 ?_; refine Z22 ?_; refine Z123 ?_; refine yf (ok_callLendG L 900 (c := .int .u64 k0.R.length) rfl rfl (zk rfl) rfl rfl rfl rfl rfl lend_stg (fun u H hH hle hb => lend_new (by omega) hH hb)) ?_; refine Z22 ?_; refine Z220 ?_; refine qk (yl L 900 (StG b k1) (.int .i64 0) (r := StG b k0) rfl rfl rfl rfl rfl (fun u H2 C2 hH hle hr2 hC2 => retY_X (spin_ret (by omega) (by omega) kp1 hH hr2 hC2))) ?_; refine Z22 ?_; refine Z220 ?_; refine qk (yl L 900 (StG b k2) (.int .i64 0) (r := StG b k1) rfl rfl rfl rfl rfl (fun u H2 C2 hH hle hr2 hC2 => retY_X (spin_ret (by omega) (by omega) kp2 hH hr2 hC2))) ?_; refine Z22 ?_; refine Z220 ?_; refine qk (yl L 900 (StG b k2) (.int .i64 14) (r := StG b k2) rfl rfl rfl rfl rfl (fun u H2 C2 hH hle hr2 hC2 => retY_X (spin_ret (by omega) (by omega) kp3 hH hr2 hC2))) ?_; refine Z22 ?_; refine Z9 ?_; refine Z133 ?_
    refine Z234 ?_; refine qk (ok_callYG L 900 (StG b k2) (GoneP [] 0) (r := StG b k2) rfl rfl rfl rfl rfl (re_mono SlV.mono) (fun u H2 C2 hH hle hr2 hC2 => by have h := scollect_ret (S := k2) (keep := 1024) (by omega) (by omega) (by omega) hH hr2 hC2; rw [kc0] at h; exact h)) ?_; refine Z292 ?_; refine Z124 ?_; refine Z80 ?_; refine Z1 ?_; refine qk (ok_callYG L 900 (StG b k3) (GoneP g1 0) (r := StG b k2) rfl rfl rfl rfl rfl (re_mono SlV.mono) (fun u H2 C2 hH hle hr2 hC2 => by have h := scollect_ret (S := k2) (keep := 1000) (by omega) (by omega) (by omega) hH hr2 hC2; rw [kc1] at h; exact h)) ?_; refine Z292 ?_; refine Z124 ?_; refine Z269 ?_; refine qk (yl L 900 (StG b k4) (.tuple #[.int .u64 1025, .int .i64 0]) (r := StG b k3) rfl rfl rfl rfl rfl (fun u H2 C2 hH hle hr2 hC2 => retY_X (swrite_ret (l := []) (cs := []) (k3_I) (by omega) (by omega) (fun _ h => (by cases h)) (fun _ h => (by cases h)) (Nat.zero_le _) (Nat.zero_le _) kw4 hH (SlV.nil (fu := false)) (SlV.nil (fu := false)) hr2 hC2))) ?_; refine Z196 ?_
    refine Z219 ?_; refine qk (ok_callYG L 900 (StG b k5) (GoneP g2 0) (r := StG b k4) rfl rfl rfl rfl rfl (re_mono SlV.mono) (fun u H2 C2 hH hle hr2 hC2 => by have h := scollect_ret (S := k4) (keep := 1) (by omega) (by omega) (by omega) hH hr2 hC2; rw [kc5] at h; exact h)) ?_; refine Z292 ?_; refine Z124 ?_
    refine Z88 ?_; refine Z1 ?_; refine yf (ok_callYR L 900 (RsV [7, 1024, 1025] true) (r := StG b k5) rfl rfl rfl rfl rfl SlV.mono (fun u H2 C2 hH hle hr2 hC2 => by have h := skept_ret (S := k5) (by omega) (by rw [k5_kept]; decide) hH hr2 hC2; rw [k5_kept] at h; exact h)) ?_; refine Z290 ?_
    refine Z92 ?_; refine Z123 ?_; refine Z26 ?_; refine Z1 ?_; refine Z26 ?_; refine Z1 ?_; refine Z26 ?_; refine Z27 ?_; refine Z1 ?_; refine Z139 ?_; refine Z108 ?_; refine Z323 ?_; refine Z139 ?_; refine Z27 ?_; refine Z220 ?_; refine Z27 ?_; refine Z323 ?_; refine Z139 ?_; refine Z27 ?_; refine Z323 ?_; refine Z7 ?_; refine Z54 ?_; refine z7 (zp L rfl rfl (zk rfl) rfl rfl rfl (fun u H hH hle _ v1 h1 v2 h2 => rsame_ret (a := [7, 1024, 1025]) (b := [7, 1024, 1025]) (f := true) (fb := true) rfl (by decide) (by decide) hH h1 (h2.toV rfl))) rfl ?_; refine Z108 ?_; refine Z323 ?_; refine z7 (zp L rfl rfl (zk rfl) rfl rfl rfl (fun u H hH _ _ => lives10_ret hH)) rfl ?_; refine Z9 ?_; refine Z122 ?_
    refine y9 L (rs := [.tmp 0]) rfl (fun _ _ h => h) Since.refl fun u H hH hle => ?_
    rfl
end Go.V.L10
set_option maxRecDepth 20000
namespace Go.V
open Go.RowKit
inductive LeafK where
  | s
  | b
  | i (k : IntKind)
def LeafOK : LeafK → Value → Prop
  | .s, v => ∃ a : ByteArray, v = .string a ∧ a.size ≤ maxLen
  | .b, v => ∃ c, v = .bool c
  | .i k, v => ∃ n, v = .int k n ∧ (Lit.int k n).wf = true
def LeafsOK : List LeafK → List Value → Prop
  | [], [] => True
  | l :: ls, v :: vs => LeafOK l v ∧ LeafsOK ls vs
  | _, _ => False
theorem LeafsOK.append : ∀ {a b : List LeafK} {x y : List Value}, LeafsOK a x → LeafsOK b y → LeafsOK (a ++ b) (x ++ y)
  | [], _, [], _, _, h => h
  | [], _, _ :: _, _, h, _ => h.elim
  | _ :: _, _, [], _, h, _ => h.elim
  | _ :: _, _, _ :: _, _, h, k => ⟨h.1, LeafsOK.append h.2 k⟩
theorem LeafsOK.length : ∀ {a : List LeafK} {x : List Value}, LeafsOK a x → x.length = a.length
  | [], [], _ => rfl
  | [], _ :: _, h => h.elim
  | _ :: _, [], h => h.elim
  | _ :: _, _ :: _, h => by simp [LeafsOK.length h.2]
section
variable {P : Program} {H : Type} {enc : TypeId × Value → H} {W : World} {sp : Nat → Bool} {held : Bool} {base : Nat}
end
end Go.V
set_option maxRecDepth 20000
namespace Go.Proofs.YtcppaheijljnfaaGreat.storesKnown
open Go.ChangeShapes Go.WideShapes Go.ChangeAt Go.ChangeMaps Go.RowKit Go.V Go.V.L10
theorem own : ownKnob Tryz.prog.godebug = none := by kernel_rfl
theorem laidOut : laidOutB Tryz.prog = true := by kernel_rfl
set_option maxRecDepth 100000 in
theorem lifted (os : Os) (started : os.Started) (H : Type) (enc : TypeId × Value → H) :
    ReturnsInHanded {} Tryz.checked os 4 .any (Rows.storesKnownSpec.pre6 enc Tryz.prog Tryz.f4 Rows.storesKnownRow.domain false) (Rows.storesKnownSpec.post enc Tryz.prog Tryz.f4 false true false false) := by
  refine returnsInHanded_of_change_shaped (C := Tryz.checked) own started (by kernel_rfl) Tryz.func4
    (ChangeSpec.witness6 (enc := enc) (C := Tryz.checked) false ⟨#[], #[], []⟩ 8 (by kernel_rfl) (by kernel_rfl) (by kernel_rfl) (by kernel_rfl)) ?_
  intro W base args ds gs before hval0 hW hcnd _ hsh _
  have hval : ∀ (j : Nat) t v, Tryz.f4.params[j]? = some t → args[j]? = some v → Value.okWide Tryz.prog W .any base t v := hval0
  have hW' := hW
  obtain ⟨p, q, hA0, hV, rfl, hfz, hnd⟩ := hW
  have hA : DataW.TrodAll enc Tryz.prog W 0 (fun _ => true) true Tryz.f4.params.toList args.toList ds p := hA0
  rw [Tryz.params4] at hA hval
  obtain ⟨rfl, rfl, rfl⟩ := trodAll_none hA
  obtain ⟨rfl, rfl⟩ := trodVars_none hV
  clear hA0 hval0
  have hplc := hW'.lt
  simp only [List.append_nil] at hW'
  have hlaw := Go.V.L10.storesKnown_law (w := W) (B := hp W) (Heap.Le.refl _)
  unfold Ret at hlaw
  refine hlaw.mono fun e W' hp => ?_
  obtain ⟨v, rfl, H', g, rfl⟩ := hp
  exact ⟨_, rfl, _, _, _, [], [], [], hW', trodAll_cons_mk (shut_bool Tryz.underlying4 _) trodAll_mk0, trodAll_mk0, rfl, g.below.frame _, fun h => by cases h⟩
theorem proved : Rows.StoresKnownSaid :=
  OpenClaim.holds_of_wide 4 Tryz.f4 rfl rfl rfl rfl rfl rfl rfl ⟨rfl, rfl, rfl, rfl, rfl⟩ rfl rfl rfl rfl rfl (by kernel_rfl) Tryz.func4 (by kernel_rfl)
    (of_decide_eq_true (by kernel_rfl)) (by unfold Func.isWrapper; first | (rw [if_pos (by decide +kernel)]; kernel_rfl) | (rw [if_neg (by decide +kernel)]; exact ⟨rfl, rfl⟩))
    (fun os started H enc _ => lifted os started H enc)
#print axioms proved
end Go.Proofs.YtcppaheijljnfaaGreat.storesKnown
