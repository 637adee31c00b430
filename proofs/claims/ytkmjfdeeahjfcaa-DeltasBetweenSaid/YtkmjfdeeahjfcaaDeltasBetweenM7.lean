/- DeltasBetween returns true: every two S. -/
import Derived.Test.YtkmjfdeeahjfcaaDeltasBetweenM6
import Derived.ProofKit
import Derived.HandedShaped
import Derived.OpenShut
import Derived.Carry
import Derived.Deep.Slices
import Derived.Test.YtkmjfdeeahjfcaaRows
set_option linter.unusedVariables false
set_option linter.unusedSimpArgs false
/- What is passed is opened: flat values (strings, numbers, truth values, structs and arrays of such) by a list of their leaves. -/
namespace Go.V
open Go.RowKit
inductive LeafK where
  | s
  | b
  | i (k : IntKind)
def LeafOK : LeafK → Value → Prop
  | .s, v => ∃ a : ByteArray, v = .string a ∧ a.size ≤ maxLen
  | .b, v => ∃ c, v = .bool c
  | .i k, v => ∃ n, v = .int k n ∧ (Lit.int k n).wf = true
def LeafsOK : List LeafK → List Value → Prop
  | [], [] => True
  | l :: ls, v :: vs => LeafOK l v ∧ LeafsOK ls vs
  | _, _ => False
theorem LeafsOK.append : ∀ {a b : List LeafK} {x y : List Value}, LeafsOK a x → LeafsOK b y → LeafsOK (a ++ b) (x ++ y)
  | [], _, [], _, _, h => h
  | [], _, _ :: _, _, h, _ => h.elim
  | _ :: _, _, [], _, h, _ => h.elim
  | _ :: _, _, _ :: _, _, h, k => ⟨h.1, LeafsOK.append h.2 k⟩
theorem LeafsOK.length : ∀ {a : List LeafK} {x : List Value}, LeafsOK a x → x.length = a.length
  | [], [], _ => rfl
  | [], _ :: _, h => h.elim
  | _ :: _, [], h => h.elim
  | _ :: _, _ :: _, h => by simp [LeafsOK.length h.2]
theorem leaf_s {ls : List LeafK} {vs : List Value} (h : LeafsOK (.s :: ls) vs) : ∃ a r, vs = .string a :: r ∧ a.size ≤ maxLen ∧ LeafsOK ls r := by
  cases vs with
  | nil => exact h.elim
  | cons v vs => obtain ⟨⟨a, rfl, ha⟩, h⟩ := h; exact ⟨a, vs, rfl, ha, h⟩
theorem leaf_i {k : IntKind} {ls : List LeafK} {vs : List Value} (h : LeafsOK (.i k :: ls) vs) : ∃ n r, vs = .int k n :: r ∧ (Lit.int k n).wf = true ∧ LeafsOK ls r := by
  cases vs with
  | nil => exact h.elim
  | cons v vs => obtain ⟨⟨a, rfl, ha⟩, h⟩ := h; exact ⟨a, vs, rfl, ha, h⟩
theorem leaf_b {ls : List LeafK} {vs : List Value} (h : LeafsOK (.b :: ls) vs) : ∃ c r, vs = .bool c :: r ∧ LeafsOK ls r := by
  cases vs with
  | nil => exact h.elim
  | cons v vs => obtain ⟨⟨a, rfl⟩, h⟩ := h; exact ⟨a, vs, rfl, h⟩
theorem leaf_nil {vs : List Value} (h : LeafsOK [] vs) : vs = [] := by
  cases vs with
  | nil => rfl
  | cons _ _ => exact h.elim
def leafF (P : Program) (rec : TypeId → Option (List LeafK)) : List Field → Nat → Option (List LeafK)
  | [], _ => some []
  | f :: fs, off => match rec f.type with
    | some ls => if f.offset = off ∧ P.cellsOf f.type = ls.length then
        match leafF P rec fs (off + ls.length) with
        | some r => some (ls ++ r)
        | none => none
      else none
    | none => none
def repL (ls : List LeafK) : Nat → List LeafK
  | 0 => []
  | n + 1 => ls ++ repL ls n
def leafI (P : Program) : Nat → TypeId → Option (List LeafK)
  | 0, _ => none
  | d + 1, t => match P.underlying t with
    | some .string => some [.s]
    | some (.int k) => some [.i k]
    | some .bool => some [.b]
    | some (.struct fs) => match leafF P (leafI P d) fs.toList 0 with
      | some ls => if P.cellsOf t = ls.length then some ls else none
      | none => none
    | some (.array n e) => match leafI P d e with
      | some ls => if P.cellsOf e = ls.length ∧ P.cellsOf t = (repL ls n).length then some (repL ls n) else none
      | none => none
    | _ => none
theorem mapM_all {α β : Type} {f : α → Option β} : ∀ {l : List α} {ys : List β}, l.mapM f = some ys → ∃ g : List β, g = ys ∧ (∀ x ∈ l, ∃ y, f x = some y ∧ y ∈ ys) ∧ (∀ y ∈ ys, ∃ x ∈ l, f x = some y)
  | [], ys, h => by
    simp at h; subst h
    exact ⟨_, rfl, by simp, by simp⟩
  | x :: l, ys, h => by
    rw [List.mapM_cons] at h
    cases hx : f x with
    | none => rw [hx] at h; cases h
    | some y =>
      rw [hx] at h
      cases hl : l.mapM f with
      | none => rw [hl] at h; cases h
      | some zs =>
        rw [hl] at h
        cases h
        obtain ⟨_, _, h1, h2⟩ := mapM_all hl
        refine ⟨_, rfl, fun z hz => ?_, fun z hz => ?_⟩
        · rcases List.mem_cons.1 hz with rfl | hz
          · exact ⟨y, hx, List.mem_cons_self ..⟩
          · obtain ⟨w, hw, hm⟩ := h1 z hz; exact ⟨w, hw, List.mem_cons_of_mem _ hm⟩
        · rcases List.mem_cons.1 hz with rfl | hz
          · exact ⟨x, List.mem_cons_self .., hx⟩
          · obtain ⟨w, hw, hm⟩ := h2 z hz; exact ⟨w, List.mem_cons_of_mem _ hw, hm⟩
theorem take_split (cs : List Value) (off m r : Nat) : (cs.drop off).take (m + r) = (cs.drop off).take m ++ (cs.drop (off + m)).take r := by
  rw [List.take_add, List.drop_drop]
section
variable {P : Program} {H : Type} {enc : TypeId × Value → H} {W : World} {sp : Nat → Bool} {held : Bool} {base : Nat}
theorem leaf_of_trod : ∀ (d : Nat) {t : TypeId} {ls : List LeafK}, leafI P d t = some ls → ∀ {fuel : Nat} {cs : List Value} {x : DataW H × List MemPlace},
    DataW.trod enc P W base sp held fuel t cs = some x → LeafsOK ls cs ∧ x.2 = []
  | 0, _, _, h, _, _, _, _ => by cases h
  | d + 1, t, ls, h, fuel, cs, x, hx => by
    have ih := @leaf_of_trod d
    cases fuel with
    | zero => simp [DataW.trod] at hx
    | succ fuel =>
      rw [leafI] at h
      unfold DataW.trod at hx
      cases hu : P.underlying t with
      | none => rw [hu] at h; cases h
      | some ds =>
        rw [hu] at h hx
        cases ds <;> first | (cases h; done) | skip
        · cases h
          match cs, hx with
          | [.bool b], hx => cases hx; exact ⟨⟨⟨b, rfl⟩, trivial⟩, rfl⟩
        · rename_i k
          cases h
          match cs, hx with
          | [.int k' m], hx =>
            simp only at hx
            split at hx
            · rename_i hk
              obtain ⟨rfl, hw⟩ := hk
              cases hx; exact ⟨⟨⟨m, rfl, hw⟩, trivial⟩, rfl⟩
            · cases hx
        · cases h
          match cs, hx with
          | [.string s], hx =>
            simp only at hx
            split at hx
            · rename_i hs; cases hx; exact ⟨⟨⟨s, rfl, hs⟩, trivial⟩, rfl⟩
            · cases hx
        · rename_i n e
          simp only at h hx
          split at h
          · rename_i l1 hl1
            split at h
            · rename_i hc
              cases h
              split at hx
              · rename_i hlen
                obtain ⟨xs, hxs, rfl⟩ := Option.map_eq_some_iff.1 hx
                obtain ⟨_, _, hall, hback⟩ := mapM_all hxs
                have each : ∀ i, i < n → LeafsOK l1 ((cs.drop (i * P.cellsOf e)).take (P.cellsOf e)) := fun i hi => by
                  obtain ⟨y, hy, _⟩ := hall i (List.mem_range.2 hi)
                  exact (ih hl1 hy).1
                have gen : ∀ m k, k + m = n → LeafsOK (repL l1 m) ((cs.drop (k * P.cellsOf e)).take (m * P.cellsOf e)) := by
                  intro m
                  induction m with
                  | zero => intro k _; simp [repL, LeafsOK]
                  | succ m ihm =>
                    intro k hk
                    rw [show (m + 1) * P.cellsOf e = P.cellsOf e + m * P.cellsOf e by rw [Nat.succ_mul]; omega, take_split]
                    refine LeafsOK.append (each k (by omega)) ?_
                    rw [show k * P.cellsOf e + P.cellsOf e = (k + 1) * P.cellsOf e by rw [Nat.succ_mul]]
                    exact ihm (k + 1) (by omega)
                refine ⟨?_, ?_⟩
                · have := gen n 0 (by omega)
                  have hrl : ∀ m, (repL l1 m).length = m * P.cellsOf e := by
                    intro m
                    induction m with
                    | zero => simp [repL]
                    | succ m ihm => simp only [repL, List.length_append, ihm, hc.1]; rw [Nat.succ_mul]; omega
                  rw [← hrl n, ← hc.2, ← hlen] at this
                  simpa using this
                · refine List.flatMap_eq_nil_iff.2 fun y hy => ?_
                  obtain ⟨i, _, hi⟩ := hback y hy
                  exact (ih hl1 hi).2
              · cases hx
            · cases h
          · cases h
        · rename_i fs
          simp only at h hx
          split at h
          · rename_i l1 hl1
            split at h
            · rename_i hc
              cases h
              split at hx
              · rename_i hlen
                obtain ⟨xs, hxs, rfl⟩ := Option.map_eq_some_iff.1 hx
                obtain ⟨_, _, hall, hback⟩ := mapM_all hxs
                have gen : ∀ (fl : List Field) (off : Nat) (ls : List LeafK), (∀ f ∈ fl, f ∈ fs.toList) → leafF P (leafI P d) fl off = some ls →
                    LeafsOK ls ((cs.drop off).take ls.length) ∧ ∀ f ∈ fl, ∃ l, leafI P d f.type = some l := by
                  intro fl
                  induction fl with
                  | nil => intro off ls _ h; cases h; simp [LeafsOK]
                  | cons f fl ihf =>
                    intro off ls hm h
                    simp only [leafF] at h
                    split at h
                    · rename_i l2 hl2
                      split at h
                      · rename_i hc2
                        obtain ⟨rfl, hc3⟩ := hc2
                        split at h
                        · rename_i r hr
                          cases h
                          obtain ⟨g1, g2⟩ := ihf _ _ (fun g hg => hm g (List.mem_cons_of_mem _ hg)) hr
                          refine ⟨?_, fun g hg => ?_⟩
                          · rw [List.length_append, take_split]
                            refine LeafsOK.append ?_ g1
                            obtain ⟨y, hy, _⟩ := hall f (hm f (List.mem_cons_self ..))
                            rw [← hc3]
                            exact (ih hl2 hy).1
                          · rcases List.mem_cons.1 hg with rfl | hg
                            · exact ⟨l2, hl2⟩
                            · exact g2 g hg
                        · cases h
                      · cases h
                    · cases h
                obtain ⟨g1, g2⟩ := gen fs.toList 0 _ (fun _ h => h) hl1
                refine ⟨?_, ?_⟩
                · rw [← hc, ← hlen] at g1; simpa using g1
                · refine List.flatMap_eq_nil_iff.2 fun y hy => ?_
                  obtain ⟨f, hf, hi⟩ := hback y hy
                  obtain ⟨l, hl⟩ := g2 f hf
                  exact (ih hl hi).2
              · cases hx
            · cases h
          · cases h
/-- What a slice of flat values reads as. -/
theorem open_sl {t e : TypeId} {ls : List LeafK} {b0 : Nat} {v : Value} {dd : DataW H} {ps : List MemPlace} (ht : P.underlying t = some (.slice e)) (hlf : leafI P 20 e = some ls) (hce : P.cellsOf e = ls.length)
    (hval : Value.okWide P W .any b0 t v) (hd : DataW.Trod enc P W 0 (fun _ => true) held t v dd ps) :
    ∃ cs : List (List Value), (∀ c ∈ cs, LeafsOK ls c) ∧ cs.length ≤ maxLen ∧ SlV e ls.length cs.flatten cs.length false v (hp W) := by
  obtain ⟨fuel, hf⟩ := hd
  have hv : v = .slice none 0 0 ∨ ∃ a len cap, v = .slice (some a) len cap ∧ len ≤ cap ∧ cap ≤ maxLen ∧ a.spot = none ∧ ∃ cs fr ty, W.heap[a.block]? = some (.cells cs ty fr) := by
    have h0 : Cell.ok P W .any b0 t v := by
      unfold Value.okWide at hval
      rw [ht] at hval
      unfold Cell.okWide at hval
      rw [ht] at hval
      exact hval
    unfold Cell.ok at h0
    rw [ht] at h0
    match v, h0 with
    | .slice none 0 0, _ => exact .inl rfl
    | .slice (some a) len cap, h0 =>
      obtain ⟨h1, h2, _, h3, row, cells, h4, _⟩ := h0
      have hm : IntKind.i64.max = 9223372036854775807 := by decide
      refine .inr ⟨a, len, cap, rfl, h1, by rw [hm] at h2; unfold maxLen; omega, h3, ?_⟩
      unfold World.shape? at h4
      split at h4
      · rename_i cs ty fr hh; exact ⟨_, _, _, hh⟩
      · cases h4
  rcases hv with rfl | ⟨a, len, cap, rfl, h1, h2, h3, cs, fr, ty, h4⟩
  · exact ⟨[], fun c h => (nomatch h), Nat.zero_le _, SlV.nil⟩
  · rcases Deep.open_slice ht (by simpa [Value.cells] using hf) with ⟨h, _⟩ | ⟨a', len', cap', m, nn, D, Pl, h5, _, _, _, hm, _, hx⟩
    · cases h
    · cases h5
      simp only [if_true] at hm
      rw [hm] at hx
      clear hm
      obtain ⟨C, hC⟩ := Deep.choose_lt (α := List Value) (n := cap) (p := fun i c => W.cells? 0 (a.add (i * P.cellsOf e)) (P.cellsOf e) = some c ∧ LeafsOK ls c) (fun i hi => by
        obtain ⟨c, g1, g2⟩ := hx i hi
        exact ⟨c, g1, (leaf_of_trod 20 hlf g2).1⟩)
      have hln : ∀ i, i < cap → (C i).length = ls.length := fun i hi => (hC i hi).2.length
      refine ⟨(List.range len).map C, fun c hc => ?_, by simp; omega, ?_⟩
      · obtain ⟨i, hi, rfl⟩ := List.mem_map.1 hc
        exact (hC i (by have := List.mem_range.1 hi; omega)).2
      · have hfl : ∀ k, k ≤ cap → ((List.range k).map C).flatten.length = k * ls.length := by
          intro k
          induction k with
          | zero => simp
          | succ k ih =>
            intro hk
            rw [List.range_succ, List.map_append, List.flatten_append, List.length_append, ih (by omega), Nat.succ_mul]
            simp [hln k (by omega)]
        refine ⟨by rw [hfl len h1, List.length_map, List.length_range], .inr ⟨a.block, a.off, cap, cs, ty, fr, ?_, h4, ?_, by simpa using h1, fun h => by cases h⟩⟩
        · obtain ⟨ab, ao, asp⟩ := a
          simp only at h3
          subst h3
          simp
        · rw [hfl len h1]
          have key : ∀ k, k ≤ cap → (cs.toList.drop a.off).take (k * ls.length) = ((List.range k).map C).flatten := by
            intro k
            induction k with
            | zero => simp
            | succ k ih =>
              intro hk
              rw [Nat.succ_mul, take_split, ih (by omega), List.range_succ, List.map_append, List.flatten_append]
              congr 1
              obtain ⟨_, g2, g3⟩ := World.cells?_some (hC k (by omega)).1
              simp only [List.map_cons, List.map_nil, List.flatten_cons, List.flatten_nil, List.append_nil]
              apply List.ext_getElem?
              intro j
              rcases Nat.lt_or_ge j ls.length with hj | hj
              · have := g3 j (by omega)
                rw [← this, List.getElem?_take_of_lt hj, List.getElem?_drop]
                obtain ⟨ab, ao, asp⟩ := a
                simp only at h3
                subst h3
                rw [addr_add, addr_add, cell_of_heap h4]
                simp only [hce]
                rw [Array.getElem?_toList]
              · rw [List.getElem?_eq_none (by rw [List.length_take]; omega), List.getElem?_eq_none (by rw [hln k (by omega)]; exact hj)]
          exact key len h1
end
end Go.V
/- What is handed in, as numbers. -/
namespace Go.V.L3
open Go.Proofs Go.RowKit Go.V Go.V.L2
theorem u8_of {n : Int} (h : Lit.wf (.int .u8 n) = true) : ∃ k : Nat, n = k ∧ k ≤ 255 := by
  have hb : IntKind.u8.min ≤ n ∧ n ≤ IntKind.u8.max := by simpa [Lit.wf] using h
  have hmin : IntKind.u8.min = 0 := by decide
  have hmax : IntKind.u8.max = 255 := by decide
  rw [hmin, hmax] at hb
  exact ⟨n.toNat, by omega, by omega⟩
theorem pairs_of : ∀ (cs : List (List Value)), (∀ c ∈ cs, LeafsOK [.i .u8, .i .u8] c) → ∃ ps : List (Nat × Nat), cs.flatten = ps.flatMap pcs ∧ cs.length = ps.length ∧ ∀ p ∈ ps, p.1 ≤ 255 ∧ p.2 ≤ 255
  | [], _ => ⟨[], rfl, rfl, fun n h => by cases h⟩
  | c :: cs, h => by
    obtain ⟨ps, h1, h2, h3⟩ := pairs_of cs fun x hx => h x (List.mem_cons_of_mem _ hx)
    have hc := h c (List.mem_cons_self ..)
    obtain ⟨n, r1, rfl, hw, hc⟩ := leaf_i hc
    obtain ⟨m, r2, rfl, hw2, hc⟩ := leaf_i hc
    obtain rfl := leaf_nil hc
    obtain ⟨n, rfl, hn⟩ := u8_of hw
    obtain ⟨m, rfl, hm⟩ := u8_of hw2
    refine ⟨(n, m) :: ps, by rw [List.flatten_cons, List.flatMap_cons, h1]; rfl, by rw [List.length_cons, List.length_cons, h2], fun p hp => ?_⟩
    rcases List.mem_cons.1 hp with rfl | hp
    · exact ⟨hn, hm⟩
    · exact h3 p hp
theorem ps_of {cs : List (List Value)} (lcs : ∀ c ∈ cs, LeafsOK [.i .u8, .i .u8] c) (zcs : cs.length ≤ maxLen) {H : Heap} {v : Value} (hcs : SlV ty2 2 cs.flatten cs.length false v H) :
    ∃ ps : List (Nat × Nat), (∀ p ∈ ps, p.1 ≤ 255 ∧ p.2 ≤ 255) ∧ ps.length ≤ 9223372036854775807 ∧ PS2 ps false v H := by
  obtain ⟨ps, h1, h2, h3⟩ := pairs_of cs lcs
  rw [h1, h2] at hcs
  exact ⟨ps, h3, by unfold maxLen at zcs; omega, hcs⟩
end Go.V.L3
/- What is handed in, as changes. -/
namespace Go.V.L8
open Go.Proofs Go.RowKit Go.V Go.V.L2 Go.V.L3 Go.V.L6
theorem triples8_of : ∀ (cs : List (List Value)), (∀ c ∈ cs, LeafsOK [.i .u8, .i .u8, .i .u8] c) → ∃ qs : List C3, cs.flatten = qs.flatMap qcs ∧ cs.length = qs.length ∧ ∀ c ∈ qs, c.1 ≤ 255 ∧ c.2.1 ≤ 255 ∧ c.2.2 ≤ 255
  | [], _ => ⟨[], rfl, rfl, fun n h => by cases h⟩
  | c :: cs, h => by
    obtain ⟨qs, h1, h2, h3⟩ := triples8_of cs fun x hx => h x (List.mem_cons_of_mem _ hx)
    have hc := h c (List.mem_cons_self ..)
    obtain ⟨n, r1, rfl, hw, hc⟩ := leaf_i hc
    obtain ⟨m, r2, rfl, hw2, hc⟩ := leaf_i hc
    obtain ⟨k, r3, rfl, hw3, hc⟩ := leaf_i hc
    obtain rfl := leaf_nil hc
    obtain ⟨n, rfl, hn⟩ := u8_of hw
    obtain ⟨m, rfl, hm⟩ := u8_of hw2
    obtain ⟨k, rfl, hk⟩ := u8_of hw3
    refine ⟨(n, m, k) :: qs, by rw [List.flatten_cons, List.flatMap_cons, h1]; rfl, by rw [List.length_cons, List.length_cons, h2], fun p hp => ?_⟩
    rcases List.mem_cons.1 hp with rfl | hp
    · exact ⟨hn, hm, hk⟩
    · exact h3 p hp
theorem cs8_of {cs : List (List Value)} (lcs : ∀ c ∈ cs, LeafsOK [.i .u8, .i .u8, .i .u8] c) (zcs : cs.length ≤ maxLen) {H : Heap} {v : Value} (hcs : SlV ty3 3 cs.flatten cs.length false v H) :
    ∃ qs : List C3, (∀ c ∈ qs, c.1 ≤ 255 ∧ c.2.1 ≤ 255 ∧ c.2.2 ≤ 255) ∧ qs.length ≤ 9223372036854775807 ∧ PS3 qs false v H := by
  obtain ⟨qs, h1, h2, h3⟩ := triples8_of cs lcs
  rw [h1, h2] at hcs
  exact ⟨qs, h3, by unfold maxLen at zcs; omega, hcs⟩
end Go.V.L8
/- What is handed in to the statements of chapter 7. -/
namespace Go.V.L8
open Go.Proofs Go.RowKit Go.V Go.V.L2 Go.V.L3 Go.V.L6
section
variable {ps cs : List (List Value)} (lps : ∀ c ∈ ps, LeafsOK [.i .u8, .i .u8] c) (zps : ps.length ≤ maxLen) {W : World} {v1 v2 : Value} (hps : SlV ty2 2 ps.flatten ps.length false v1 (hp W)) (lcs : ∀ c ∈ cs, LeafsOK [.i .u8, .i .u8, .i .u8] c) (zcs : cs.length ≤ maxLen) (hcs : SlV ty3 3 cs.flatten cs.length false v2 (hp W))
include lps zps hps lcs zcs hcs
theorem deltasBetween_in {rs zs : List (List Value)} {v3 v4 : Value} (lrs : ∀ c ∈ rs, LeafsOK [.i .u8, .i .u8] c) (zrs : rs.length ≤ maxLen) (hrs : SlV ty2 2 rs.flatten rs.length false v3 (hp W)) (lzs : ∀ c ∈ zs, LeafsOK [.i .u8, .i .u8, .i .u8] c) (zzs : zs.length ≤ maxLen) (hzs : SlV ty3 3 zs.flatten zs.length false v4 (hp W)) :
    Ret Try.prog 12 [.agg #[v1, v2], .agg #[v3, v4]] W (hp W) (fun v _ => v = .bool true) := by
  obtain ⟨p, a1, a2, a3⟩ := ps_of lps zps hps
  obtain ⟨c, b1, b2, b3⟩ := cs8_of lcs zcs hcs
  obtain ⟨r, d1, d2, d3⟩ := ps_of lrs zrs hrs
  obtain ⟨z, e1, e2, e3⟩ := cs8_of lzs zzs hzs
  exact deltasBetween_law a1 a2 b1 b2 d1 d2 e1 e2 (Heap.Le.refl _) a3 b3 d3 e3
end
end Go.V.L8
/- The kit's floor for rows: structs, in which slices of flat values lie, as they are handed in. -/
namespace Go.V
open Go.ChangeShapes Go.WideShapes Go.ChangeAt Go.ChangeMaps Go.RowKit
/-- A cell: a leaf, or a slice (its type, its elements' type and leaves). -/
inductive Sh where
  | l (k : LeafK)
  | s (t e : TypeId) (ls : List LeafK)
/-- What a slice of flat values reads as. -/
def SlOK (H : Heap) (e : TypeId) (ls : List LeafK) (v : Value) : Prop := ∃ cs : List (List Value), (∀ c ∈ cs, LeafsOK ls c) ∧ cs.length ≤ maxLen ∧ SlV e ls.length cs.flatten cs.length false v H
def ShOK (H : Heap) : List Sh → List Value → Prop
  | [], vs => vs = []
  | .l k :: r, vs => ∃ v w, vs = v :: w ∧ LeafsOK [k] [v] ∧ ShOK H r w
  | .s _ e ls :: r, vs => ∃ v w, vs = v :: w ∧ SlOK H e ls v ∧ ShOK H r w
theorem ShOK.append {H : Heap} : ∀ {a b : List Sh} {x y : List Value}, ShOK H a x → ShOK H b y → ShOK H (a ++ b) (x ++ y)
  | [], _, _, _, hx, hy => by cases hx; exact hy
  | .l k :: a, _, _, _, ⟨v, w, e, h1, h2⟩, hy => by subst e; exact ⟨v, _, rfl, h1, ShOK.append h2 hy⟩
  | .s t e ls :: a, _, _, _, ⟨v, w, e', h1, h2⟩, hy => by subst e'; exact ⟨v, _, rfl, h1, ShOK.append h2 hy⟩
theorem ShOK.leafs {H : Heap} : ∀ {ls : List LeafK} {vs : List Value}, LeafsOK ls vs → ShOK H (ls.map .l) vs
  | [], vs, h => leaf_nil h
  | k :: ls, [], h => by have := LeafsOK.length h; cases this
  | k :: ls, v :: vs, h => by
    cases k with
    | s => obtain ⟨a, r, e, h1, h2⟩ := leaf_s h; cases e; exact ⟨_, _, rfl, ⟨⟨a, rfl, h1⟩, trivial⟩, ShOK.leafs h2⟩
    | i k => obtain ⟨a, r, e, h1, h2⟩ := leaf_i h; cases e; exact ⟨_, _, rfl, ⟨⟨a, rfl, h1⟩, trivial⟩, ShOK.leafs h2⟩
    | b => obtain ⟨a, r, e, h2⟩ := leaf_b h; cases e; exact ⟨_, _, rfl, ⟨⟨a, rfl⟩, trivial⟩, ShOK.leafs h2⟩
def shF (P : Program) (rec : TypeId → Option (List Sh)) : List Field → Nat → Option (List Sh)
  | [], _ => some []
  | f :: fs, off => match rec f.type with
    | some ls => if f.offset = off ∧ P.cellsOf f.type = ls.length then
        match shF P rec fs (off + ls.length) with
        | some r => some (ls ++ r)
        | none => none
      else none
    | none => none
def shI (P : Program) : Nat → TypeId → Option (List Sh)
  | 0, _ => none
  | d + 1, t => match leafI P 20 t with
    | some ls => some (ls.map .l)
    | none => match P.underlying t with
      | some (.slice e) => match leafI P 20 e with
        | some ls => if P.cellsOf e = ls.length then some [.s t e ls] else none
        | none => none
      | some (.struct fs) => match shF P (shI P d) fs.toList 0 with
        | some ls => if P.cellsOf t = ls.length then some ls else none
        | none => none
      | _ => none
section
variable {P : Program} {H : Type} {enc : TypeId × Value → H} {W : World} {held : Bool}
/-- Each slice among the cells is one. -/
def CellsOK (P : Program) (W : World) (b0 : Nat) (shs : List Sh) (cs : List Value) : Prop := ∀ (i : Nat) t e ls v, shs[i]? = some (.s t e ls) → cs[i]? = some v → Cell.okWide P W .any b0 t v
theorem sh_of_trod {b0 : Nat} : ∀ (d : Nat) {t : TypeId} {ls : List Sh}, shI P d t = some ls → ∀ {fuel : Nat} {cs : List Value} {x : DataW H × List MemPlace},
    DataW.trod enc P W 0 (fun _ => true) held fuel t cs = some x → CellsOK P W b0 ls cs → ShOK (hp W) ls cs ∧ cs.length = ls.length
  | 0, _, _, h, _, _, _, _, _ => by cases h
  | d + 1, t, ls, h, fuel, cs, x, hx, hok => by
    have ih := @sh_of_trod b0 d
    rw [shI] at h
    cases hlf : leafI P 20 t with
    | some l0 =>
      rw [hlf] at h; cases h
      have h1 := (leaf_of_trod 20 hlf hx).1
      exact ⟨ShOK.leafs h1, by rw [h1.length, List.length_map]⟩
    | none =>
      rw [hlf] at h
      simp only at h
      cases hu : P.underlying t with
      | none => rw [hu] at h; cases h
      | some ds =>
        rw [hu] at h
        cases ds <;> first | (cases h; done) | skip
        · rename_i e
          simp only at h
          split at h
          · rename_i l1 hl1
            split at h
            · rename_i hc
              cases h
              have hone : ∃ v, cs = [v] := by
                rcases Deep.open_slice hu hx with ⟨h1, _⟩ | ⟨a, len, cap, _, _, _, _, h1, _⟩
                · exact ⟨_, h1⟩
                · exact ⟨_, h1⟩
              obtain ⟨v, rfl⟩ := hone
              have h0 : Cell.okWide P W .any b0 t v := hok 0 t e l1 v rfl rfl
              have hval : Value.okWide P W .any b0 t v := by unfold Value.okWide; rw [hu]; exact h0
              have hcl : v.cells = #[v] := by
                rcases Deep.open_slice hu hx with ⟨h1, _⟩ | ⟨a, len, cap, _, _, _, _, h1, _⟩
                · cases h1; rfl
                · cases h1; rfl
              have hd : DataW.Trod enc P W 0 (fun _ => true) held t v x.1 x.2 := ⟨fuel, by rw [hcl]; exact hx⟩
              exact ⟨⟨v, [], rfl, open_sl hu hl1 hc hval hd, rfl⟩, rfl⟩
            · cases h
          · cases h
        · rename_i fs
          simp only at h
          cases fuel with
          | zero => simp [DataW.trod] at hx
          | succ fuel =>
          unfold DataW.trod at hx
          rw [hu] at hx
          simp only at hx
          split at h
          · rename_i l1 hl1
            split at h
            · rename_i hc
              cases h
              split at hx
              · rename_i hlen
                obtain ⟨xs, hxs, rfl⟩ := Option.map_eq_some_iff.1 hx
                obtain ⟨_, _, hall, hback⟩ := mapM_all hxs
                have gen : ∀ (fl : List Field) (off : Nat) (ls : List Sh), (∀ f ∈ fl, f ∈ fs.toList) → shF P (shI P d) fl off = some ls → (∀ (i : Nat) t e l v, ls[i]? = some (.s t e l) → cs[off + i]? = some v → Cell.okWide P W .any b0 t v) →
                    ShOK (hp W) ls ((cs.drop off).take ls.length) := by
                  intro fl
                  induction fl with
                  | nil => intro off ls _ h _; cases h; simp [ShOK]
                  | cons f fl ihf =>
                    intro off ls hm h hk
                    simp only [shF] at h
                    split at h
                    · rename_i l2 hl2
                      split at h
                      · rename_i hc2
                        obtain ⟨rfl, hc3⟩ := hc2
                        split at h
                        · rename_i r hr
                          cases h
                          have g1 := ihf _ _ (fun g hg => hm g (List.mem_cons_of_mem _ hg)) hr fun i t e l v h1 h2 => hk (l2.length + i) t e l v (by rw [List.getElem?_append_right (by omega)]; simpa using h1) (by rw [← h2]; congr 1; omega)
                          rw [List.length_append, take_split]
                          refine ShOK.append ?_ g1
                          obtain ⟨y, hy, _⟩ := hall f (hm f (List.mem_cons_self ..))
                          rw [← hc3]
                          refine (ih hl2 hy fun i t e l v h1 h2 => ?_).1
                          have hlt : i < l2.length := by
                            rcases Nat.lt_or_ge i l2.length with h | h
                            · exact h
                            · rw [List.getElem?_eq_none h] at h1; cases h1
                          refine hk i t e l v (by rw [List.getElem?_append_left hlt]; exact h1) ?_
                          rw [List.getElem?_take_of_lt (by omega), List.getElem?_drop] at h2
                          exact h2
                        · cases h
                      · cases h
                    · cases h
                have g1 := gen fs.toList 0 _ (fun _ h => h) hl1 fun i t e l v h1 h2 => hok i t e l v h1 (by rw [← h2]; congr 1; omega)
                have hcl : cs.length = ls.length := by rw [← hc, ← hlen]
                rw [List.drop_zero, ← hcl, List.take_length] at g1
                exact ⟨g1, hcl⟩
              · cases hx
            · cases h
          · cases h
def shTy : List Sh → List TypeId → Bool
  | [], [] => true
  | .l _ :: r, _ :: ts => shTy r ts
  | .s t _ _ :: r, u :: ts => Nat.beq t u && shTy r ts
  | _, _ => false
theorem shTy_spec : ∀ {shs : List Sh} {ts : List TypeId}, shTy shs ts = true → shs.length = ts.length ∧ ∀ (i : Nat) t e ls, shs[i]? = some (.s t e ls) → ts[i]? = some t
  | [], [], _ => ⟨rfl, fun i t e ls h => by simp at h⟩
  | [], _ :: _, h => by cases h
  | .l _ :: _, [], h => by cases h
  | .s .. :: _, [], h => by cases h
  | .l k :: r, u :: ts, h => by
    obtain ⟨h1, h2⟩ := shTy_spec (shs := r) (ts := ts) h
    refine ⟨by simp [h1], fun i t e ls hi => ?_⟩
    cases i with
    | zero => simp at hi
    | succ i => simpa using h2 i t e ls (by simpa using hi)
  | .s t0 e0 l0 :: r, u :: ts, h => by
    simp only [shTy, Bool.and_eq_true] at h
    obtain ⟨h1, h2⟩ := shTy_spec (shs := r) (ts := ts) h.2
    refine ⟨by simp [h1], fun i t e ls hi => ?_⟩
    cases i with
    | zero =>
      simp only [List.getElem?_cons_zero, Option.some.injEq, Sh.s.injEq] at hi
      have := Nat.eq_of_beq_eq_true h.1
      simp only [List.getElem?_cons_zero, Option.some.injEq]
      rw [← hi.1, this]
    | succ i => simpa using h2 i t e ls (by simpa using hi)
theorem open_st {t : TypeId} {fs : Array Field} {ls : List Sh} {tys : List TypeId} {b0 : Nat} {v : Value} {dd : DataW H} {ps : List MemPlace} (h : shI P 20 t = some ls) (hu : P.underlying t = some (.struct fs)) (hct : P.cellTypes P.depth t = some tys) (hst : shTy ls tys = true)
    (hval : Value.okWide P W .any b0 t v) (hd : DataW.Trod enc P W 0 (fun _ => true) held t v dd ps) : ∃ cs : List Value, v = .agg cs.toArray ∧ ShOK (hp W) ls cs := by
  obtain ⟨fuel, hf⟩ := hd
  unfold Value.okWide at hval
  rw [hu] at hval
  obtain ⟨cs, rfl, _, ts, hts, _, hcell⟩ := hval
  rw [hct] at hts
  cases hts
  obtain ⟨h1, h2⟩ := shTy_spec hst
  refine ⟨cs.toList, by simp, (sh_of_trod (b0 := b0) 20 h hf fun i t' e l v hi hv => ?_).1⟩
  have hlt : i < ls.length := by
    rcases Nat.lt_or_ge i ls.length with h | h
    · exact h
    · rw [List.getElem?_eq_none h] at hi; cases hi
  obtain ⟨u, hu1, hu2⟩ := hcell i v (by simpa [Value.cells] using hv)
  rw [Nat.mod_eq_of_lt (by omega), h2 i t' e l hi] at hu1
  cases hu1
  exact hu2
theorem sh_s {Hh : Heap} {t e : TypeId} {ls : List LeafK} {r : List Sh} {vs : List Value} (h : ShOK Hh (.s t e ls :: r) vs) : ∃ v w, vs = v :: w ∧ SlOK Hh e ls v ∧ ShOK Hh r w := h
end
end Go.V
namespace Go.Proofs.Ytkmjfdeeahjfcaa.deltasBetween
open Go.ChangeShapes Go.WideShapes Go.ChangeAt Go.ChangeMaps Go.RowKit Go.V
theorem own : ownKnob Try.prog.godebug = none := by kernel_rfl
theorem laidOut : laidOutB Try.prog = true := by kernel_rfl
theorem lf0 : shI Try.prog 20 27 = some [.s 22 134 [.i .u8, .i .u8], .s 25 108 [.i .u8, .i .u8, .i .u8]] := by kernel_rfl
theorem lq0 : Try.prog.cellTypes Try.prog.depth 27 = some [22, 25] := by kernel_rfl
theorem lr1 : Try.prog.readableRec 27 = true := by kernel_rfl
theorem lt1 : 27 < Try.prog.types.size := of_decide_eq_true (by kernel_rfl)
set_option maxRecDepth 100000 in
theorem lifted (os : Os) (started : os.Started) (H : Type) (enc : TypeId × Value → H) :
    ReturnsInHanded {} Try.checked os 12 .any (Rows.deltasBetweenSpec.pre6 enc Try.prog Try.f12 Rows.deltasBetweenRow.domain false) (Rows.deltasBetweenSpec.post enc Try.prog Try.f12 false true false false) := by
  refine returnsInHanded_of_change_shaped (C := Try.checked) own started (by kernel_rfl) Try.func12
    (ChangeSpec.witness6 (enc := enc) (C := Try.checked) false ⟨#[], #[.agg #[.slice none 0 0, .slice none 0 0], .agg #[.slice none 0 0, .slice none 0 0]], []⟩ 8 (by kernel_rfl) (by kernel_rfl) (by kernel_rfl) (by kernel_rfl)) ?_
  intro W base args ds gs before hval0 hW hcnd _ hsh _
  have hval : ∀ (j : Nat) t v, Try.f12.params[j]? = some t → args[j]? = some v → Value.okWide Try.prog W .any base t v := hval0
  have hW' := hW
  obtain ⟨p, q, hA0, hV, rfl, hfz, hnd⟩ := hW
  have hA : DataW.TrodAll enc Try.prog W 0 (fun _ => true) true Try.f12.params.toList args.toList ds p := hA0
  rw [Try.params12] at hA hval
  obtain ⟨v0, v1, d0, d1, p0, p1, rfl, rfl, rfl, h0, h1⟩ := trodAll_two hA
  obtain ⟨rfl, rfl⟩ := trodVars_none hV
  clear hA0 hval0
  obtain ⟨c0, rfl, l0⟩ := open_st lf0 Try.underlying27 lq0 rfl (hval 0 27 v0 rfl rfl) h0
  obtain ⟨wps, r0, rfl, ⟨ps, lps, zps, hps⟩, l0⟩ := sh_s l0
  obtain ⟨wcs, r0, rfl, ⟨cs, lcs, zcs, hcs⟩, l0⟩ := sh_s l0
  obtain rfl := l0
  obtain ⟨c1, rfl, l1⟩ := open_st lf0 Try.underlying27 lq0 rfl (hval 1 27 v1 rfl rfl) h1
  obtain ⟨wrs, r1, rfl, ⟨rs, lrs, zrs, hrs⟩, l1⟩ := sh_s l1
  obtain ⟨wzs, r1, rfl, ⟨zs, lzs, zzs, hzs⟩, l1⟩ := sh_s l1
  obtain rfl := l1
  have hplc := hW'.lt
  simp only [List.append_nil] at hW'
  have hlaw := Go.V.L8.deltasBetween_in lps zps hps lcs zcs hcs lrs zrs hrs lzs zzs hzs
  unfold Ret at hlaw
  refine hlaw.mono fun e W' hp => ?_
  obtain ⟨v, rfl, H', g, rfl⟩ := hp
  refine ⟨_, rfl, _, _, _, [], p0 ++ (p1 ++ ([])), [], hW', trodAll_cons_mk (shut_bool Try.underlying4 _) trodAll_mk0, ?_, rfl, g.below.frame _, fun h => by cases h⟩
  exact trodAll_cons_mk (Below.trod laidOut lr1 lt1 h0 g.below (fun x hx => hplc x (by simp [hx]))) (trodAll_cons_mk (Below.trod laidOut lr1 lt1 h1 g.below (fun x hx => hplc x (by simp [hx]))) trodAll_mk0)
theorem proved : Rows.DeltasBetweenSaid :=
  OpenClaim.holds_of_wide 12 Try.f12 rfl rfl rfl rfl rfl rfl rfl ⟨rfl, rfl, rfl, rfl, rfl⟩ rfl rfl rfl rfl rfl (by kernel_rfl) Try.func12 (by kernel_rfl)
    (of_decide_eq_true (by kernel_rfl)) (by unfold Func.isWrapper; first | (rw [if_pos (by decide +kernel)]; kernel_rfl) | (rw [if_neg (by decide +kernel)]; exact ⟨rfl, rfl⟩))
    (fun os started H enc _ => lifted os started H enc)
#print axioms proved
end Go.Proofs.Ytkmjfdeeahjfcaa.deltasBetween
