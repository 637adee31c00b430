/- DeltasErrors returns true: every S, any list of changes, every D. -/
import Derived.Test.YtkmjfdeeahjfcaaDeltasErrorsM6
import Derived.Test.YtkmjfdeeahjfcaaRows
set_option linter.unusedVariables false
set_option linter.unusedSimpArgs false
/- What is handed in, as changes. -/
namespace Go.V.L8
open Go.Proofs Go.RowKit Go.V Go.V.L2 Go.V.L3 Go.V.L6
theorem triples8_of : ∀ (cs : List (List Value)), (∀ c ∈ cs, LeafsOK [.i .u8, .i .u8, .i .u8] c) → ∃ qs : List C3, cs.flatten = qs.flatMap qcs ∧ cs.length = qs.length ∧ ∀ c ∈ qs, c.1 ≤ 255 ∧ c.2.1 ≤ 255 ∧ c.2.2 ≤ 255
  | [], _ => ⟨[], rfl, rfl, fun n h => by cases h⟩
  | c :: cs, h => by
    obtain ⟨qs, h1, h2, h3⟩ := triples8_of cs fun x hx => h x (List.mem_cons_of_mem _ hx)
    have hc := h c (List.mem_cons_self ..)
    obtain ⟨n, r1, rfl, hw, hc⟩ := leaf_i hc
    obtain ⟨m, r2, rfl, hw2, hc⟩ := leaf_i hc
    obtain ⟨k, r3, rfl, hw3, hc⟩ := leaf_i hc
    obtain rfl := leaf_nil hc
    obtain ⟨n, rfl, hn⟩ := u8_of hw
    obtain ⟨m, rfl, hm⟩ := u8_of hw2
    obtain ⟨k, rfl, hk⟩ := u8_of hw3
    refine ⟨(n, m, k) :: qs, by rw [List.flatten_cons, List.flatMap_cons, h1]; rfl, by rw [List.length_cons, List.length_cons, h2], fun p hp => ?_⟩
    rcases List.mem_cons.1 hp with rfl | hp
    · exact ⟨hn, hm, hk⟩
    · exact h3 p hp
theorem cs8_of {cs : List (List Value)} (lcs : ∀ c ∈ cs, LeafsOK [.i .u8, .i .u8, .i .u8] c) (zcs : cs.length ≤ maxLen) {H : Heap} {v : Value} (hcs : SlV ty3 3 cs.flatten cs.length false v H) :
    ∃ qs : List C3, (∀ c ∈ qs, c.1 ≤ 255 ∧ c.2.1 ≤ 255 ∧ c.2.2 ≤ 255) ∧ qs.length ≤ 9223372036854775807 ∧ PS3 qs false v H := by
  obtain ⟨qs, h1, h2, h3⟩ := triples8_of cs lcs
  rw [h1, h2] at hcs
  exact ⟨qs, h3, by unfold maxLen at zcs; omega, hcs⟩
theorem changes8_of : ∀ (cs : List (List Value)), (∀ c ∈ cs, LeafsOK [.s, .s, .s, .s, .s, .s, .b] c) → ∃ l : List CH, cs.flatten = l.flatMap ccs ∧ cs.length = l.length ∧ ∀ t ∈ l, TM t.1
  | [], _ => ⟨[], rfl, rfl, fun t h => by cases h⟩
  | c :: cs, h => by
    obtain ⟨l, h1, h2, h3⟩ := changes8_of cs fun x hx => h x (List.mem_cons_of_mem _ hx)
    have hc := h c (List.mem_cons_self ..)
    obtain ⟨a1, r1, rfl, z1, hc⟩ := leaf_s hc
    obtain ⟨a2, r2, rfl, z2, hc⟩ := leaf_s hc
    obtain ⟨a3, r3, rfl, z3, hc⟩ := leaf_s hc
    obtain ⟨a4, r4, rfl, z4, hc⟩ := leaf_s hc
    obtain ⟨a5, r5, rfl, z5, hc⟩ := leaf_s hc
    obtain ⟨a6, r6, rfl, z6, hc⟩ := leaf_s hc
    obtain ⟨b, r7, rfl, k7⟩ := leaf_b hc
    obtain rfl := leaf_nil k7
    refine ⟨((((a1, a2), a3), ((a4, a5), a6)), b) :: l, by rw [List.flatten_cons, List.flatMap_cons, h1]; rfl, by rw [List.length_cons, List.length_cons, h2], fun t ht => ?_⟩
    rcases List.mem_cons.1 ht with rfl | ht
    · unfold maxLen at z1 z2 z3 z4 z5 z6
      unfold TM
      exact ⟨⟨by omega, by omega, by omega⟩, by omega, by omega, by omega⟩
    · exact h3 t ht
theorem ks8_of {ty : TypeId} {cs : List (List Value)} (lcs : ∀ c ∈ cs, LeafsOK [.s, .s, .s, .s, .s, .s, .b] c) (zcs : cs.length ≤ maxLen) {H : Heap} {v : Value} (hcs : SlV ty 7 cs.flatten cs.length false v H) :
    ∃ l : List CH, (∀ t ∈ l, TM t.1) ∧ l.length ≤ 9223372036854775807 ∧ KS ty l false v H := by
  obtain ⟨l, h1, h2, h3⟩ := changes8_of cs lcs
  rw [h1, h2] at hcs
  exact ⟨l, h3, by unfold maxLen at zcs; omega, hcs⟩
end Go.V.L8
/- What is handed in to the statements of chapter 7. -/
namespace Go.V.L8
open Go.Proofs Go.RowKit Go.V Go.V.L2 Go.V.L3 Go.V.L6
section
variable {ps cs : List (List Value)} (lps : ∀ c ∈ ps, LeafsOK [.i .u8, .i .u8] c) (zps : ps.length ≤ maxLen) {W : World} {v1 v2 : Value} (hps : SlV ty2 2 ps.flatten ps.length false v1 (hp W)) (lcs : ∀ c ∈ cs, LeafsOK [.i .u8, .i .u8, .i .u8] c) (zcs : cs.length ≤ maxLen) (hcs : SlV ty3 3 cs.flatten cs.length false v2 (hp W))
include lps zps hps lcs zcs hcs
theorem deltasErrors_in {ls zs : List (List Value)} {v3 v4 : Value} (lls : ∀ c ∈ ls, LeafsOK [.s, .s, .s, .s, .s, .s, .b] c) (zls : ls.length ≤ maxLen) (hls : SlV tyC 7 ls.flatten ls.length false v3 (hp W)) (lzs : ∀ c ∈ zs, LeafsOK [.i .u8, .i .u8, .i .u8] c) (zzs : zs.length ≤ maxLen) (hzs : SlV ty3 3 zs.flatten zs.length false v4 (hp W)) :
    Ret Try.prog 8 [.agg #[v1, v2], v3, .agg #[v4]] W (hp W) (fun v _ => v = .bool true) := by
  obtain ⟨p, a1, a2, a3⟩ := ps_of lps zps hps
  obtain ⟨c, b1, b2, b3⟩ := cs8_of lcs zcs hcs
  obtain ⟨l, d1, d2, d3⟩ := ks8_of lls zls hls
  obtain ⟨z, e1, e2, e3⟩ := cs8_of lzs zzs hzs
  exact deltasErrors_law a1 a2 b1 b2 d1 d2 e1 e2 (Heap.Le.refl _) a3 b3 d3 e3
end
end Go.V.L8
/- The kit's floor for rows: structs, in which slices of flat values lie, as they are handed in. -/
namespace Go.V
open Go.ChangeShapes Go.WideShapes Go.ChangeAt Go.ChangeMaps Go.RowKit
/-- A cell: a leaf, or a slice (its type, its elements' type and leaves). -/
inductive Sh where
  | l (k : LeafK)
  | s (t e : TypeId) (ls : List LeafK)
/-- What a slice of flat values reads as. -/
def SlOK (H : Heap) (e : TypeId) (ls : List LeafK) (v : Value) : Prop := ∃ cs : List (List Value), (∀ c ∈ cs, LeafsOK ls c) ∧ cs.length ≤ maxLen ∧ SlV e ls.length cs.flatten cs.length false v H
def ShOK (H : Heap) : List Sh → List Value → Prop
  | [], vs => vs = []
  | .l k :: r, vs => ∃ v w, vs = v :: w ∧ LeafsOK [k] [v] ∧ ShOK H r w
  | .s _ e ls :: r, vs => ∃ v w, vs = v :: w ∧ SlOK H e ls v ∧ ShOK H r w
theorem ShOK.append {H : Heap} : ∀ {a b : List Sh} {x y : List Value}, ShOK H a x → ShOK H b y → ShOK H (a ++ b) (x ++ y)
  | [], _, _, _, hx, hy => by cases hx; exact hy
  | .l k :: a, _, _, _, ⟨v, w, e, h1, h2⟩, hy => by subst e; exact ⟨v, _, rfl, h1, ShOK.append h2 hy⟩
  | .s t e ls :: a, _, _, _, ⟨v, w, e', h1, h2⟩, hy => by subst e'; exact ⟨v, _, rfl, h1, ShOK.append h2 hy⟩
theorem ShOK.leafs {H : Heap} : ∀ {ls : List LeafK} {vs : List Value}, LeafsOK ls vs → ShOK H (ls.map .l) vs
  | [], vs, h => leaf_nil h
  | k :: ls, [], h => by have := LeafsOK.length h; cases this
  | k :: ls, v :: vs, h => by
    cases k with
    | s => obtain ⟨a, r, e, h1, h2⟩ := leaf_s h; cases e; exact ⟨_, _, rfl, ⟨⟨a, rfl, h1⟩, trivial⟩, ShOK.leafs h2⟩
    | i k => obtain ⟨a, r, e, h1, h2⟩ := leaf_i h; cases e; exact ⟨_, _, rfl, ⟨⟨a, rfl, h1⟩, trivial⟩, ShOK.leafs h2⟩
    | b => obtain ⟨a, r, e, h2⟩ := leaf_b h; cases e; exact ⟨_, _, rfl, ⟨⟨a, rfl⟩, trivial⟩, ShOK.leafs h2⟩
def shF (P : Program) (rec : TypeId → Option (List Sh)) : List Field → Nat → Option (List Sh)
  | [], _ => some []
  | f :: fs, off => match rec f.type with
    | some ls => if f.offset = off ∧ P.cellsOf f.type = ls.length then
        match shF P rec fs (off + ls.length) with
        | some r => some (ls ++ r)
        | none => none
      else none
    | none => none
def shI (P : Program) : Nat → TypeId → Option (List Sh)
  | 0, _ => none
  | d + 1, t => match leafI P 20 t with
    | some ls => some (ls.map .l)
    | none => match P.underlying t with
      | some (.slice e) => match leafI P 20 e with
        | some ls => if P.cellsOf e = ls.length then some [.s t e ls] else none
        | none => none
      | some (.struct fs) => match shF P (shI P d) fs.toList 0 with
        | some ls => if P.cellsOf t = ls.length then some ls else none
        | none => none
      | _ => none
section
variable {P : Program} {H : Type} {enc : TypeId × Value → H} {W : World} {held : Bool}
/-- Each slice among the cells is one. -/
def CellsOK (P : Program) (W : World) (b0 : Nat) (shs : List Sh) (cs : List Value) : Prop := ∀ (i : Nat) t e ls v, shs[i]? = some (.s t e ls) → cs[i]? = some v → Cell.okWide P W .any b0 t v
theorem sh_of_trod {b0 : Nat} : ∀ (d : Nat) {t : TypeId} {ls : List Sh}, shI P d t = some ls → ∀ {fuel : Nat} {cs : List Value} {x : DataW H × List MemPlace},
    DataW.trod enc P W 0 (fun _ => true) held fuel t cs = some x → CellsOK P W b0 ls cs → ShOK (hp W) ls cs ∧ cs.length = ls.length
  | 0, _, _, h, _, _, _, _, _ => by cases h
  | d + 1, t, ls, h, fuel, cs, x, hx, hok => by
    have ih := @sh_of_trod b0 d
    rw [shI] at h
    cases hlf : leafI P 20 t with
    | some l0 =>
      rw [hlf] at h; cases h
      have h1 := (leaf_of_trod 20 hlf hx).1
      exact ⟨ShOK.leafs h1, by rw [h1.length, List.length_map]⟩
    | none =>
      rw [hlf] at h
      simp only at h
      cases hu : P.underlying t with
      | none => rw [hu] at h; cases h
      | some ds =>
        rw [hu] at h
        cases ds <;> first | (cases h; done) | skip
        · rename_i e
          simp only at h
          split at h
          · rename_i l1 hl1
            split at h
            · rename_i hc
              cases h
              have hone : ∃ v, cs = [v] := by
                rcases Deep.open_slice hu hx with ⟨h1, _⟩ | ⟨a, len, cap, _, _, _, _, h1, _⟩
                · exact ⟨_, h1⟩
                · exact ⟨_, h1⟩
              obtain ⟨v, rfl⟩ := hone
              have h0 : Cell.okWide P W .any b0 t v := hok 0 t e l1 v rfl rfl
              have hval : Value.okWide P W .any b0 t v := by unfold Value.okWide; rw [hu]; exact h0
              have hcl : v.cells = #[v] := by
                rcases Deep.open_slice hu hx with ⟨h1, _⟩ | ⟨a, len, cap, _, _, _, _, h1, _⟩
                · cases h1; rfl
                · cases h1; rfl
              have hd : DataW.Trod enc P W 0 (fun _ => true) held t v x.1 x.2 := ⟨fuel, by rw [hcl]; exact hx⟩
              exact ⟨⟨v, [], rfl, open_sl hu hl1 hc hval hd, rfl⟩, rfl⟩
            · cases h
          · cases h
        · rename_i fs
          simp only at h
          cases fuel with
          | zero => simp [DataW.trod] at hx
          | succ fuel =>
          unfold DataW.trod at hx
          rw [hu] at hx
          simp only at hx
          split at h
          · rename_i l1 hl1
            split at h
            · rename_i hc
              cases h
              split at hx
              · rename_i hlen
                obtain ⟨xs, hxs, rfl⟩ := Option.map_eq_some_iff.1 hx
                obtain ⟨_, _, hall, hback⟩ := mapM_all hxs
                have gen : ∀ (fl : List Field) (off : Nat) (ls : List Sh), (∀ f ∈ fl, f ∈ fs.toList) → shF P (shI P d) fl off = some ls → (∀ (i : Nat) t e l v, ls[i]? = some (.s t e l) → cs[off + i]? = some v → Cell.okWide P W .any b0 t v) →
                    ShOK (hp W) ls ((cs.drop off).take ls.length) := by
                  intro fl
                  induction fl with
                  | nil => intro off ls _ h _; cases h; simp [ShOK]
                  | cons f fl ihf =>
                    intro off ls hm h hk
                    simp only [shF] at h
                    split at h
                    · rename_i l2 hl2
                      split at h
                      · rename_i hc2
                        obtain ⟨rfl, hc3⟩ := hc2
                        split at h
                        · rename_i r hr
                          cases h
                          have g1 := ihf _ _ (fun g hg => hm g (List.mem_cons_of_mem _ hg)) hr fun i t e l v h1 h2 => hk (l2.length + i) t e l v (by rw [List.getElem?_append_right (by omega)]; simpa using h1) (by rw [← h2]; congr 1; omega)
                          rw [List.length_append, take_split]
                          refine ShOK.append ?_ g1
                          obtain ⟨y, hy, _⟩ := hall f (hm f (List.mem_cons_self ..))
                          rw [← hc3]
                          refine (ih hl2 hy fun i t e l v h1 h2 => ?_).1
                          have hlt : i < l2.length := by
                            rcases Nat.lt_or_ge i l2.length with h | h
                            · exact h
                            · rw [List.getElem?_eq_none h] at h1; cases h1
                          refine hk i t e l v (by rw [List.getElem?_append_left hlt]; exact h1) ?_
                          rw [List.getElem?_take_of_lt (by omega), List.getElem?_drop] at h2
                          exact h2
                        · cases h
                      · cases h
                    · cases h
                have g1 := gen fs.toList 0 _ (fun _ h => h) hl1 fun i t e l v h1 h2 => hok i t e l v h1 (by rw [← h2]; congr 1; omega)
                have hcl : cs.length = ls.length := by rw [← hc, ← hlen]
                rw [List.drop_zero, ← hcl, List.take_length] at g1
                exact ⟨g1, hcl⟩
              · cases hx
            · cases h
          · cases h
def shTy : List Sh → List TypeId → Bool
  | [], [] => true
  | .l _ :: r, _ :: ts => shTy r ts
  | .s t _ _ :: r, u :: ts => Nat.beq t u && shTy r ts
  | _, _ => false
theorem shTy_spec : ∀ {shs : List Sh} {ts : List TypeId}, shTy shs ts = true → shs.length = ts.length ∧ ∀ (i : Nat) t e ls, shs[i]? = some (.s t e ls) → ts[i]? = some t
  | [], [], _ => ⟨rfl, fun i t e ls h => by simp at h⟩
  | [], _ :: _, h => by cases h
  | .l _ :: _, [], h => by cases h
  | .s .. :: _, [], h => by cases h
  | .l k :: r, u :: ts, h => by
    obtain ⟨h1, h2⟩ := shTy_spec (shs := r) (ts := ts) h
    refine ⟨by simp [h1], fun i t e ls hi => ?_⟩
    cases i with
    | zero => simp at hi
    | succ i => simpa using h2 i t e ls (by simpa using hi)
  | .s t0 e0 l0 :: r, u :: ts, h => by
    simp only [shTy, Bool.and_eq_true] at h
    obtain ⟨h1, h2⟩ := shTy_spec (shs := r) (ts := ts) h.2
    refine ⟨by simp [h1], fun i t e ls hi => ?_⟩
    cases i with
    | zero =>
      simp only [List.getElem?_cons_zero, Option.some.injEq, Sh.s.injEq] at hi
      have := Nat.eq_of_beq_eq_true h.1
      simp only [List.getElem?_cons_zero, Option.some.injEq]
      rw [← hi.1, this]
    | succ i => simpa using h2 i t e ls (by simpa using hi)
theorem open_st {t : TypeId} {fs : Array Field} {ls : List Sh} {tys : List TypeId} {b0 : Nat} {v : Value} {dd : DataW H} {ps : List MemPlace} (h : shI P 20 t = some ls) (hu : P.underlying t = some (.struct fs)) (hct : P.cellTypes P.depth t = some tys) (hst : shTy ls tys = true)
    (hval : Value.okWide P W .any b0 t v) (hd : DataW.Trod enc P W 0 (fun _ => true) held t v dd ps) : ∃ cs : List Value, v = .agg cs.toArray ∧ ShOK (hp W) ls cs := by
  obtain ⟨fuel, hf⟩ := hd
  unfold Value.okWide at hval
  rw [hu] at hval
  obtain ⟨cs, rfl, _, ts, hts, _, hcell⟩ := hval
  rw [hct] at hts
  cases hts
  obtain ⟨h1, h2⟩ := shTy_spec hst
  refine ⟨cs.toList, by simp, (sh_of_trod (b0 := b0) 20 h hf fun i t' e l v hi hv => ?_).1⟩
  have hlt : i < ls.length := by
    rcases Nat.lt_or_ge i ls.length with h | h
    · exact h
    · rw [List.getElem?_eq_none h] at hi; cases hi
  obtain ⟨u, hu1, hu2⟩ := hcell i v (by simpa [Value.cells] using hv)
  rw [Nat.mod_eq_of_lt (by omega), h2 i t' e l hi] at hu1
  cases hu1
  exact hu2
theorem sh_s {Hh : Heap} {t e : TypeId} {ls : List LeafK} {r : List Sh} {vs : List Value} (h : ShOK Hh (.s t e ls :: r) vs) : ∃ v w, vs = v :: w ∧ SlOK Hh e ls v ∧ ShOK Hh r w := h
end
end Go.V
namespace Go.Proofs.Ytkmjfdeeahjfcaa.deltasErrors
open Go.ChangeShapes Go.WideShapes Go.ChangeAt Go.ChangeMaps Go.RowKit Go.V
theorem own : ownKnob Try.prog.godebug = none := by kernel_rfl
theorem laidOut : laidOutB Try.prog = true := by kernel_rfl
theorem lf0 : shI Try.prog 20 27 = some [.s 22 134 [.i .u8, .i .u8], .s 25 108 [.i .u8, .i .u8, .i .u8]] := by kernel_rfl
theorem lq0 : Try.prog.cellTypes Try.prog.depth 27 = some [22, 25] := by kernel_rfl
theorem lr1 : Try.prog.readableRec 27 = true := by kernel_rfl
theorem lt1 : 27 < Try.prog.types.size := of_decide_eq_true (by kernel_rfl)
theorem lf2 : leafI Try.prog 20 67 = some [.s, .s, .s, .s, .s, .s, .b] := by kernel_rfl
theorem lc2 : Try.prog.cellsOf 67 = ([.s, .s, .s, .s, .s, .s, .b] : List LeafK).length := by kernel_rfl
theorem lr3 : Try.prog.readableRec 65 = true := by kernel_rfl
theorem lt3 : 65 < Try.prog.types.size := of_decide_eq_true (by kernel_rfl)
theorem lu4 : Try.prog.underlying 65 = some (.slice 67) := by kernel_rfl
theorem lf5 : shI Try.prog 20 29 = some [.s 25 108 [.i .u8, .i .u8, .i .u8]] := by kernel_rfl
theorem lq5 : Try.prog.cellTypes Try.prog.depth 29 = some [25] := by kernel_rfl
theorem lr6 : Try.prog.readableRec 29 = true := by kernel_rfl
theorem lt6 : 29 < Try.prog.types.size := of_decide_eq_true (by kernel_rfl)
set_option maxRecDepth 100000 in
theorem lifted (os : Os) (started : os.Started) (H : Type) (enc : TypeId × Value → H) :
    ReturnsInHanded {} Try.checked os 8 .any (Rows.deltasErrorsSpec.pre6 enc Try.prog Try.f8 Rows.deltasErrorsRow.domain false) (Rows.deltasErrorsSpec.post enc Try.prog Try.f8 false true false false) := by
  refine returnsInHanded_of_change_shaped (C := Try.checked) own started (by kernel_rfl) Try.func8
    (ChangeSpec.witness6 (enc := enc) (C := Try.checked) false ⟨#[], #[.agg #[.slice none 0 0, .slice none 0 0], .slice none 0 0, .agg #[.slice none 0 0]], []⟩ 8 (by kernel_rfl) (by kernel_rfl) (by kernel_rfl) (by kernel_rfl)) ?_
  intro W base args ds gs before hval0 hW hcnd _ hsh _
  have hval : ∀ (j : Nat) t v, Try.f8.params[j]? = some t → args[j]? = some v → Value.okWide Try.prog W .any base t v := hval0
  have hW' := hW
  obtain ⟨p, q, hA0, hV, rfl, hfz, hnd⟩ := hW
  have hA : DataW.TrodAll enc Try.prog W 0 (fun _ => true) true Try.f8.params.toList args.toList ds p := hA0
  rw [Try.params8] at hA hval
  obtain ⟨v0, v1, v2, d0, d1, d2, p0, p1, p2, rfl, rfl, rfl, h0, h1, h2⟩ := trodAll_three hA
  obtain ⟨rfl, rfl⟩ := trodVars_none hV
  clear hA0 hval0
  obtain ⟨c0, rfl, l0⟩ := open_st lf0 Try.underlying27 lq0 rfl (hval 0 27 v0 rfl rfl) h0
  obtain ⟨wps, r0, rfl, ⟨ps, lps, zps, hps⟩, l0⟩ := sh_s l0
  obtain ⟨wcs, r0, rfl, ⟨cs, lcs, zcs, hcs⟩, l0⟩ := sh_s l0
  obtain rfl := l0
  obtain ⟨ls, lls, zls, hls⟩ := open_sl lu4 lf2 lc2 (hval 1 65 v1 rfl rfl) h1
  obtain ⟨c2, rfl, l2⟩ := open_st lf5 Try.underlying29 lq5 rfl (hval 2 29 v2 rfl rfl) h2
  obtain ⟨wzs, r2, rfl, ⟨zs, lzs, zzs, hzs⟩, l2⟩ := sh_s l2
  obtain rfl := l2
  have hplc := hW'.lt
  simp only [List.append_nil] at hW'
  have hlaw := Go.V.L8.deltasErrors_in lps zps hps lcs zcs hcs lls zls hls lzs zzs hzs
  unfold Ret at hlaw
  refine hlaw.mono fun e W' hp => ?_
  obtain ⟨v, rfl, H', g, rfl⟩ := hp
  refine ⟨_, rfl, _, _, _, [], p0 ++ (p1 ++ (p2 ++ ([]))), [], hW', trodAll_cons_mk (shut_bool Try.underlying4 _) trodAll_mk0, ?_, rfl, g.below.frame _, fun h => by cases h⟩
  exact trodAll_cons_mk (Below.trod laidOut lr1 lt1 h0 g.below (fun x hx => hplc x (by simp [hx]))) (trodAll_cons_mk (Below.trod laidOut lr3 lt3 h1 g.below (fun x hx => hplc x (by simp [hx]))) (trodAll_cons_mk (Below.trod laidOut lr6 lt6 h2 g.below (fun x hx => hplc x (by simp [hx]))) trodAll_mk0))
theorem proved : Rows.DeltasErrorsSaid :=
  OpenClaim.holds_of_wide 8 Try.f8 rfl rfl rfl rfl rfl rfl rfl ⟨rfl, rfl, rfl, rfl, rfl⟩ rfl rfl rfl rfl rfl (by kernel_rfl) Try.func8 (by kernel_rfl)
    (of_decide_eq_true (by kernel_rfl)) (by unfold Func.isWrapper; first | (rw [if_pos (by decide +kernel)]; kernel_rfl) | (rw [if_neg (by decide +kernel)]; exact ⟨rfl, rfl⟩))
    (fun os started H enc _ => lifted os started H enc)
#print axioms proved
end Go.Proofs.Ytkmjfdeeahjfcaa.deltasErrors
