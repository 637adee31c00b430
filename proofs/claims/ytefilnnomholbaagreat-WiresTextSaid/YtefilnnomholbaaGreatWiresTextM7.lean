/- WiresText returns true for every input, and leaves it as it was: no condition. -/
import Derived.Test.YtefilnnomholbaaGreatWiresTextM6
import Derived.Test.YtefilnnomholbaaGreatRows
set_option linter.unusedVariables false
set_option linter.unusedSimpArgs false
set_option maxRecDepth 20000
namespace Go.V
open Go.ChangeShapes Go.WideShapes Go.ChangeAt Go.ChangeMaps Go.RowKit
inductive Sh where
 | l (k:zek)
 | s (t e:TypeId) (ls:List zek)
def z6o (H:Heap) (e:TypeId) (ls:List zek) (v:Value):Prop:=∃ cs:List (List Value), (∀ c ∈ cs, LeafsOK ls c) ∧ cs.length ≤ maxLen ∧ SlV e ls.length cs.flatten cs.length false v H
def ShOK (H:Heap):List Sh → List Value → Prop
 | [], vs => vs = []
 | .l k :: r, vs => ∃ v w, vs = v :: w ∧ LeafsOK [k] [v] ∧ ShOK H r w
 | .s _ e ls :: r, vs => ∃ v w, vs = v :: w ∧ z6o H e ls v ∧ ShOK H r w
theorem ShOK.append {H:Heap}:∀ {a b:List Sh} {x y:List Value}, ShOK H a x → ShOK H b y → ShOK H (a ++ b) (x ++ y)
 | [], _, _, _, hx, hy => by cases hx; exact hy
 | .l k :: a, _, _, _, ⟨v, w, e, h1, h2⟩, hy => by subst e; exact ⟨v, _, rfl, h1, ShOK.append h2 hy⟩
 | .s t e ls :: a, _, _, _, ⟨v, w, e', h1, h2⟩, hy => by subst e'; exact ⟨v, _, rfl, h1, ShOK.append h2 hy⟩
theorem ShOK.leafs {H:Heap}:∀ {ls:List zek} {vs:List Value}, LeafsOK ls vs → ShOK H (ls.map .l) vs
 | [], vs, h => leaf_nil h
 | k :: ls, [], h => by have:=LeafsOK.length h; cases this
 | k :: ls, v :: vs, h => by
  cases k with
  | s => obtain ⟨a, r, e, h1, h2⟩:=leaf_s h; cases e; exact ⟨_, _, rfl, ⟨⟨a, rfl, h1⟩, trivial⟩, ShOK.leafs h2⟩
  | i k => obtain ⟨a, r, e, h1, h2⟩:=zl1 h; cases e; exact ⟨_, _, rfl, ⟨⟨a, rfl, h1⟩, trivial⟩, ShOK.leafs h2⟩
  | b => obtain ⟨a, r, e, h2⟩:=z38 h; cases e; exact ⟨_, _, rfl, ⟨⟨a, rfl⟩, trivial⟩, ShOK.leafs h2⟩
def shF (P:Program) (rec:TypeId → Option (List Sh)):List Field → Nat → Option (List Sh)
 | [], _ => some []
 | f :: fs, off => match rec f.type with
  | some ls => if f.offset = off ∧ P.cellsOf f.type = ls.length then
    match shF P rec fs (off + ls.length) with
    | some r => some (ls ++ r)
    | none => none
   else none
  | none => none
def shI (P:Program):Nat → TypeId → Option (List Sh)
 | 0, _ => none
 | d + 1, t => match leafI P 20 t with
  | some ls => some (ls.map .l)
  | none => match P.underlying t with
   | some (.slice e) => match leafI P 20 e with
    | some ls => if P.cellsOf e = ls.length then some [.s t e ls] else none
    | none => none
   | some (.struct fs) => match shF P (shI P d) fs.toList 0 with
    | some ls => if P.cellsOf t = ls.length then some ls else none
    | none => none
   | _ => none
section
variable {P:Program} {H:Type} {enc:TypeId × Value → H} {W:World} {held:Bool}
def z2t (P:Program) (W:World) (b0:Nat) (shs:List Sh) (cs:List Value):Prop:=∀ (i:Nat) t e ls v, shs[i]? = some (.s t e ls) → cs[i]? = some v → Cell.okWide P W .any b0 t v
theorem zlm {b0:Nat}:∀ (d:Nat) {t:TypeId} {ls:List Sh}, shI P d t = some ls → ∀ {fuel:Nat} {cs:List Value} {x:DataW H × List MemPlace},
  DataW.trod enc P W 0 (fun _ => true) held fuel t cs = some x → z2t P W b0 ls cs → ShOK (hp W) ls cs ∧ cs.length = ls.length
 | 0, _, _, h, _, _, _, _, _ => by cases h
 | d + 1, t, ls, h, fuel, cs, x, hx, hok => by
  have ih:=@zlm b0 d
  rw [shI] at h
  cases hlf:leafI P 20 t with
  | some l0 =>
   rw [hlf] at h; cases h
   have h1:=(zee 20 hlf hx).1
   exact ⟨ShOK.leafs h1, by rw [h1.length, List.length_map]⟩
  | none =>
   rw [hlf] at h
   simp only at h
   cases hu:P.underlying t with
   | none => rw [hu] at h; cases h
   | some ds =>
    rw [hu] at h
    cases ds <;> first | (cases h; done) | skip
    ·rename_i e
     simp only at h
     split at h
     ·rename_i l1 hl1
      split at h
      ·rename_i hc
       cases h
       have hone:∃ v, cs = [v]:=by
        rcases Deep.open_slice hu hx with ⟨h1, _⟩ | ⟨a, len, cap, _, _, _, _, h1, _⟩
        ·exact ⟨_, h1⟩
        ·exact ⟨_, h1⟩
       obtain ⟨v, rfl⟩:=hone
       have h0:Cell.okWide P W .any b0 t v:=hok 0 t e l1 v rfl rfl
       have hval:Value.okWide P W .any b0 t v:=by unfold Value.okWide; rw [hu]; exact h0
       have hcl:v.cells = #[v]:=by
        rcases Deep.open_slice hu hx with ⟨h1, _⟩ | ⟨a, len, cap, _, _, _, _, h1, _⟩
        ·cases h1; rfl
        ·cases h1; rfl
       have hd:DataW.Trod enc P W 0 (fun _ => true) held t v x.1 x.2:=⟨fuel, by rw [hcl]; exact hx⟩
       exact ⟨⟨v, [], rfl, z1l hu hl1 hc hval hd, rfl⟩, rfl⟩
      ·cases h
     ·cases h
    ·rename_i fs
     simp only at h
     cases fuel with
     | zero => simp [DataW.trod] at hx
     | succ fuel =>
     unfold DataW.trod at hx
     rw [hu] at hx
     simp only at hx
     split at h
     ·rename_i l1 hl1
      split at h
      ·rename_i hc
       cases h
       split at hx
       ·rename_i hlen
        obtain ⟨xs, hxs, rfl⟩:=Option.map_eq_some_iff.1 hx
        obtain ⟨_, _, hall, hback⟩:=zi9 hxs
        have gen:∀ (fl:List Field) (off:Nat) (ls:List Sh), (∀ f ∈ fl, f ∈ fs.toList) → shF P (shI P d) fl off = some ls → (∀ (i:Nat) t e l v, ls[i]? = some (.s t e l) → cs[off + i]? = some v → Cell.okWide P W .any b0 t v) →
          ShOK (hp W) ls ((cs.drop off).take ls.length):=by
         intro fl
         induction fl with
         | nil => intro off ls _ h _; cases h; simp [ShOK]
         | cons f fl ihf =>
          intro off ls hm h hk
          simp only [shF] at h
          split at h
          ·rename_i l2 hl2
           split at h
           ·rename_i hc2
            obtain ⟨rfl, hc3⟩:=hc2
            split at h
            ·rename_i r hr
             cases h
             have g1:=ihf _ _ (fun g hg => hm g (List.mem_cons_of_mem _ hg)) hr fun i t e l v h1 h2 => hk (l2.length + i) t e l v (by rw [List.getElem?_append_right (by omega)]; simpa using h1) (by rw [← h2]; congr 1; omega)
             rw [List.length_append, zf5]
             refine ShOK.append ?_ g1
             obtain ⟨y, hy, _⟩:=hall f (hm f (List.mem_cons_self ..))
             rw [← hc3]
             refine (ih hl2 hy fun i t e l v h1 h2 => ?_).1
             have hlt:i < l2.length:=by
              rcases Nat.lt_or_ge i l2.length with h | h
              ·exact h
              ·rw [List.getElem?_eq_none h] at h1; cases h1
             refine hk i t e l v (by rw [List.getElem?_append_left hlt]; exact h1) ?_
             rw [List.getElem?_take_of_lt (by omega), List.getElem?_drop] at h2
             exact h2
            ·cases h
           ·cases h
          ·cases h
        have g1:=gen fs.toList 0 _ (fun _ h => h) hl1 fun i t e l v h1 h2 => hok i t e l v h1 (by rw [← h2]; congr 1; omega)
        have hcl:cs.length = ls.length:=by rw [← hc, ← hlen]
        rw [List.drop_zero, ← hcl, List.take_length] at g1
        exact ⟨g1, hcl⟩
       ·cases hx
      ·cases h
     ·cases h
def z3e:List Sh → List TypeId → Bool
 | [], [] => true
 | .l _ :: r, _ :: ts => z3e r ts
 | .s t _ _ :: r, u :: ts => Nat.beq t u && z3e r ts
 | _, _ => false
theorem zjz:∀ {shs:List Sh} {ts:List TypeId}, z3e shs ts = true → shs.length = ts.length ∧ ∀ (i:Nat) t e ls, shs[i]? = some (.s t e ls) → ts[i]? = some t
 | [], [], _ => ⟨rfl, fun i t e ls h => by simp at h⟩
 | [], _ :: _, h => by cases h
 | .l _ :: _, [], h => by cases h
 | .s .. :: _, [], h => by cases h
 | .l k :: r, u :: ts, h => by
  obtain ⟨h1, h2⟩:=zjz (shs:=r) (ts:=ts) h
  refine ⟨by simp [h1], fun i t e ls hi => ?_⟩
  cases i with
  | zero => simp at hi
  | succ i => simpa using h2 i t e ls (by simpa using hi)
 | .s t0 e0 l0 :: r, u :: ts, h => by
  simp only [z3e, Bool.and_eq_true] at h
  obtain ⟨h1, h2⟩:=zjz (shs:=r) (ts:=ts) h.2
  refine ⟨by simp [h1], fun i t e ls hi => ?_⟩
  cases i with
  | zero =>
   simp only [List.getElem?_cons_zero, Option.some.injEq, Sh.s.injEq] at hi
   have:=Nat.eq_of_beq_eq_true h.1
   simp only [List.getElem?_cons_zero, Option.some.injEq]
   rw [← hi.1, this]
  | succ i => simpa using h2 i t e ls (by simpa using hi)
theorem open_st {t:TypeId} {fs:Array Field} {ls:List Sh} {tys:List TypeId} {b0:Nat} {v:Value} {dd:DataW H} {ps:List MemPlace} (h:shI P 20 t = some ls) (hu:P.underlying t = some (.struct fs)) (hct:P.cellTypes P.depth t = some tys) (hst:z3e ls tys = true)
  (hval:Value.okWide P W .any b0 t v) (hd:DataW.Trod enc P W 0 (fun _ => true) held t v dd ps):∃ cs:List Value, v = .agg cs.toArray ∧ ShOK (hp W) ls cs:=by
 obtain ⟨fuel, hf⟩:=hd
 unfold Value.okWide at hval
 rw [hu] at hval
 obtain ⟨cs, rfl, _, ts, hts, _, hcell⟩:=hval
 rw [hct] at hts
 cases hts
 obtain ⟨h1, h2⟩:=zjz hst
 refine ⟨cs.toList, by simp, (zlm (b0:=b0) 20 h hf fun i t' e l v hi hv => ?_).1⟩
 have hlt:i < ls.length:=by
  rcases Nat.lt_or_ge i ls.length with h | h
  ·exact h
  ·rw [List.getElem?_eq_none h] at hi; cases hi
 obtain ⟨u, hu1, hu2⟩:=hcell i v (by simpa [Value.cells] using hv)
 rw [Nat.mod_eq_of_lt (by omega), h2 i t' e l hi] at hu1
 cases hu1
 exact hu2
theorem sh_s {Hh:Heap} {t e:TypeId} {ls:List zek} {r:List Sh} {vs:List Value} (h:ShOK Hh (.s t e ls :: r) vs):∃ v w, vs = v :: w ∧ z6o Hh e ls v ∧ ShOK Hh r w:=h
end
end Go.V
set_option maxRecDepth 20000
namespace Go.Proofs.YtefilnnomholbaaGreat.wiresText
open Go.ChangeShapes Go.WideShapes Go.ChangeAt Go.ChangeMaps Go.RowKit Go.V Go.V.L11
theorem own : ownKnob Tryz.prog.godebug = none := by kernel_rfl
theorem laidOut : laidOutB Tryz.prog = true := by kernel_rfl
theorem lf0 : shI Tryz.prog 20 24 = some [.s 22 64 [.i .u8, .i .u8]] := by kernel_rfl
theorem lq0 : Tryz.prog.cellTypes Tryz.prog.depth 24 = some [22] := by kernel_rfl
theorem lr1 : Tryz.prog.readableRec 24 = true := by kernel_rfl
theorem lt1 : 24 < Tryz.prog.types.size := of_decide_eq_true (by kernel_rfl)
theorem lf2 : shI Tryz.prog 20 27 = some [.s 25 135 [.i .u8, .i .u8, .i .u8]] := by kernel_rfl
theorem lq2 : Tryz.prog.cellTypes Tryz.prog.depth 27 = some [25] := by kernel_rfl
theorem lr3 : Tryz.prog.readableRec 27 = true := by kernel_rfl
theorem lt3 : 27 < Tryz.prog.types.size := of_decide_eq_true (by kernel_rfl)
theorem lf4 : leafI Tryz.prog 20 34 = some [.s, .s, .s, .s, .s, .s] := by kernel_rfl
theorem la4 : (match Tryz.prog.underlying 34 with | some (.struct _) | some (.array _ _) => true | _ => false) = true := by kernel_rfl
theorem lr5 : Tryz.prog.readableRec 34 = true := by kernel_rfl
theorem lt5 : 34 < Tryz.prog.types.size := of_decide_eq_true (by kernel_rfl)
set_option maxRecDepth 100000 in
theorem lifted (os : Os) (started : os.Started) (H : Type) (enc : TypeId × Value → H) :
    ReturnsInHanded {} Tryz.checked os 3 .any (Rows.wiresTextSpec.pre6 enc Tryz.prog Tryz.f3 Rows.wiresTextRow.domain false) (Rows.wiresTextSpec.post enc Tryz.prog Tryz.f3 false true false false) := by
  refine returnsInHanded_of_change_shaped (C := Tryz.checked) own started (by kernel_rfl) Tryz.func3
    (ChangeSpec.witness6 (enc := enc) (C := Tryz.checked) false ⟨#[], #[.agg #[.slice none 0 0], .agg #[.slice none 0 0], .agg #[.string ⟨#[]⟩, .string ⟨#[]⟩, .string ⟨#[]⟩, .string ⟨#[]⟩, .string ⟨#[]⟩, .string ⟨#[]⟩]], []⟩ 8 (by kernel_rfl) (by kernel_rfl) (by kernel_rfl) (by kernel_rfl)) ?_
  intro W base args ds gs before hval0 hW hcnd _ hsh _
  have hval : ∀ (j : Nat) t v, Tryz.f3.params[j]? = some t → args[j]? = some v → Value.okWide Tryz.prog W .any base t v := hval0
  have hW' := hW
  obtain ⟨p, q, hA0, hV, rfl, hfz, hnd⟩ := hW
  have hA : DataW.TrodAll enc Tryz.prog W 0 (fun _ => true) true Tryz.f3.params.toList args.toList ds p := hA0
  rw [Tryz.params3] at hA hval
  obtain ⟨v0, v1, v2, d0, d1, d2, p0, p1, p2, rfl, rfl, rfl, h0, h1, h2⟩ := trodAll_three hA
  obtain ⟨rfl, rfl⟩ := trodVars_none hV
  clear hA0 hval0
  obtain ⟨c0, rfl, l0⟩ := open_st lf0 Tryz.underlying24 lq0 rfl (hval 0 24 v0 rfl rfl) h0
  obtain ⟨wps, r0, rfl, ⟨ps, lps, zps, hps⟩, l0⟩ := sh_s l0
  obtain rfl := l0
  obtain ⟨c1, rfl, l1⟩ := open_st lf2 Tryz.underlying27 lq2 rfl (hval 1 27 v1 rfl rfl) h1
  obtain ⟨wcs, r1, rfl, ⟨cs, lcs, zcs, hcs⟩, l1⟩ := sh_s l1
  obtain rfl := l1
  obtain ⟨c2, rfl, l2, rfl⟩ := open_agg lf4 la4 (hval 2 34 v2 rfl rfl) h2
  obtain ⟨a, r2, rfl, za, l2⟩ := leaf_s l2
  obtain ⟨b, r2, rfl, zb, l2⟩ := leaf_s l2
  obtain ⟨c, r2, rfl, zc, l2⟩ := leaf_s l2
  obtain ⟨d, r2, rfl, zd, l2⟩ := leaf_s l2
  obtain ⟨e, r2, rfl, ze, l2⟩ := leaf_s l2
  obtain ⟨f, r2, rfl, zf, l2⟩ := leaf_s l2
  obtain rfl := leaf_nil l2
  obtain ⟨m0, hm0⟩ := Tryz.laysM145.s1_3 W hsh
  have hglob := GlobM.of_cell hm0
  have hplc := hW'.lt
  simp only [List.append_nil] at hW'
  have hlaw := Go.V.L11.wiresText_in lps zps hps lcs zcs hcs za zb zc zd ze zf hglob
  unfold Ret at hlaw
  refine hlaw.mono fun e W' hp => ?_
  obtain ⟨v, rfl, H', g, rfl⟩ := hp
  refine ⟨_, rfl, _, _, _, [], p0 ++ (p1 ++ ([] ++ ([]))), [], hW', trodAll_cons_mk (shut_bool Tryz.underlying4 _) trodAll_mk0, ?_, rfl, g.below.frame _, fun h => by cases h⟩
  exact trodAll_cons_mk (Below.trod laidOut lr1 lt1 h0 g.below (fun x hx => hplc x (by simp [hx]))) (trodAll_cons_mk (Below.trod laidOut lr3 lt3 h1 g.below (fun x hx => hplc x (by simp [hx]))) (trodAll_cons_mk (Below.trod laidOut lr5 lt5 h2 g.below (fun x hx => by cases hx)) trodAll_mk0))
theorem j1 : (Rows.wiresTextRow.inPlace == Tryz.prog.inPlace 3) = true := by kernel_rfl
theorem j2 : (Rows.wiresTextRow.unfollowed == Tryz.prog.unfollowed 3) = true := by kernel_rfl
theorem j3 : (Rows.wiresTextRow.recurses == Tryz.prog.recurses 3) = true := by kernel_rfl
theorem j4 : (Rows.wiresTextRow.named == Tryz.prog.varsNamed 3) = true := by kernel_rfl
theorem j5 : Tryz.prog.stopsHeard = true := by kernel_rfl
theorem j6 : laidOutB Tryz.prog = true := by kernel_rfl
theorem joined : joinedFacts Tryz.prog 3 Tryz.f3 Rows.wiresTextSpec Rows.wiresTextRow = true := by
  unfold joinedFacts
  rw [j1, j2, j3, j4, j5, j6]
  kernel_rfl
theorem proved : Rows.WiresTextSaid :=
  OpenClaim.holds_of_wide 3 Tryz.f3 rfl rfl rfl rfl rfl rfl rfl ⟨rfl, rfl, rfl, rfl, rfl⟩ rfl rfl rfl rfl rfl (by kernel_rfl) Tryz.func3 joined
    (of_decide_eq_true (by kernel_rfl)) (by unfold Func.isWrapper; first | (rw [if_pos (by decide +kernel)]; kernel_rfl) | (rw [if_neg (by decide +kernel)]; exact ⟨rfl, rfl⟩))
    (fun os started H enc _ => lifted os started H enc)
#print axioms proved
end Go.Proofs.YtefilnnomholbaaGreat.wiresText
