/- The kit's floor of sorting: what a slot owns is sorted, by the library's contract. -/
import Derived.Test.YtpnmjelhnacmlaaKitU
import Derived.Shelf.SlSortCmp.NoneTotal
namespace Go.V
open Go.Proofs Go.RowKit
/-- What has been kept has grown by blocks, and by draws. -/
theorem keep_grow {w u : World} (h : Keep noL w u) : u = Go.Sort.grow (w.drewN (u.drawn - w.drawn)) (u.heap.extract w.heap.size u.heap.size) := by
  obtain ⟨h1, h2, h3, h4, h5, h6⟩ := h
  have hh : u.heap = w.heap ++ u.heap.extract w.heap.size u.heap.size := by
    apply Array.ext_getElem?
    intro k
    rw [Array.getElem?_append]
    split
    · rename_i hk
      exact h5 k hk (fun e => e)
    · rename_i hk
      rw [Array.getElem?_extract]
      have e : w.heap.size + (k - w.heap.size) = k := by omega
      split
      · rw [e]
      · exact Array.getElem?_eq_none (by omega)
  have hd : u.drawn = w.drawn + (u.drawn - w.drawn) := by omega
  obtain ⟨a1, a2, a3, a4, a5⟩ := u
  obtain ⟨b1, b2, b3, b4, b5⟩ := w
  simp only at h1 h2 h3 hh hd
  simp only [Go.Sort.grow, World.drewN, World.mk.injEq]
  exact ⟨hh, h2, hd, h1, h3⟩
theorem cmpLays {P : Program} {α : Type} [Inhabited α] {g : Nat} {cb : List Value} {enc : α → List Value} {k : Nat} {cf : α → α → Int}
    (h : ∀ (x y : α) (u : World), Ret P g ([.agg (enc x).toArray, .agg (enc y).toArray] ++ cb) u (fun _ => none) (fun v _ => v = .int .i64 (cf x y))) (blk off size : Nat) (w : World) : CmpLays P g cb.toArray enc k cf blk off size w := fun m os dk _ x y => by
  have h1 := h x y (Go.Proofs.sortWorldK enc k w blk off m dk os)
  have e : (#[Value.agg (enc x).toArray, Value.agg (enc y).toArray] ++ cb.toArray : Array Value) = ([Value.agg (enc x).toArray, Value.agg (enc y).toArray] ++ cb).toArray := by simp
  rw [e]
  refine Calls.mono h1 fun e w' hp => ?_
  obtain ⟨v, rfl, H, g', rfl⟩ := hp
  exact ⟨rfl, _, _, keep_grow g'.keep⟩
section
variable {α : Type} [Inhabited α] {enc : α → List Value} {k : Nat}
theorem flatK_list (hk : ∀ x, (enc x).length = k) (d : Array α) : (Go.Sort.flatK enc k d).toList = d.toList.flatMap enc := by
  apply List.ext_getElem?
  intro t
  have hlen : (d.toList.flatMap enc).length = d.size * k := by rw [flatMap_len hk, Array.length_toList]
  by_cases ht : t < d.size * k
  · have k0 : 0 < k := by
      rcases Nat.eq_zero_or_pos k with h | h
      · subst h; simp at ht
      · exact h
    have hd : t / k < d.size := Nat.div_lt_of_lt_mul (by rwa [Nat.mul_comm] at ht)
    have h1 := flatMap_at hk d.toList (t / k) d[t / k] (by simp [hd])
    have h2 := congrArg (·[t % k]?) h1
    simp only [List.getElem?_take, List.getElem?_drop, Nat.mod_lt t k0, if_true] at h2
    rw [Nat.div_add_mod' t k] at h2
    rw [h2]
    have h3 := Go.Sort.get_flatK enc k d t ht
    have hs : t < (Go.Sort.flatK enc k d).size := by rw [Go.Sort.size_flatK]; exact ht
    rw [getElem!_pos (Go.Sort.flatK enc k d) t hs, getElem!_pos d _ hd] at h3
    have h4 : t % k < (enc d[t / k]).length := by rw [hk]; exact Nat.mod_lt t k0
    rw [getElem!_pos (enc d[t / k]) (t % k) h4] at h3
    rw [Array.getElem?_toList, Array.getElem?_eq_getElem hs, h3, List.getElem?_eq_getElem h4]
  · rw [List.getElem?_eq_none (l := d.toList.flatMap enc) (by omega), List.getElem?_eq_none (by rw [Array.length_toList, Go.Sort.size_flatK]; omega)]
theorem holdsK_of (hk : ∀ x, (enc x).length = k) {u : World} {b : Nat} {d : Array α} {rest : List Value} {e : TypeId} (hb : u.heap[b]? = some (.cells (d.toList.flatMap enc ++ rest).toArray e)) : Go.Sort.HoldsK enc k u b 0 d := by
  intro j hj
  rw [← flatK_list hk] at hb
  have h1 : (Go.Sort.flatK enc k d).toList[j]? = some (Go.Sort.flatK enc k d)[j]! := by
    rw [Array.getElem?_toList, Array.getElem?_eq_getElem hj, getElem!_pos _ j hj]
  refine ⟨?_, ?_⟩
  · rw [Nat.zero_add, cell_of_heap hb, List.getElem?_toArray, List.getElem?_append_left (by simpa using hj), h1]
    rfl
  · simp [World.frozen?, hb]
theorem putCells_list {F : Array Value} {xs rest : List Value} (h : F.size = xs.length) : Go.Sort.putCells id 0 F (xs ++ rest).toArray = (F.toList ++ rest).toArray := by
  apply Array.ext_getElem?
  intro t
  simp only [Go.Sort.putCells, Array.getElem?_mapIdx, List.getElem?_toArray]
  by_cases ht : t < F.size
  · rw [List.getElem?_append_left (by omega), List.getElem?_append_left (by simpa using ht), List.getElem?_eq_getElem (by omega), Array.getElem?_toList, Array.getElem?_eq_getElem ht]
    simp only [Option.map_some, Nat.zero_le, Nat.zero_add, ht, and_self, if_true, Nat.sub_zero, id]
    rw [getElem!_pos F t ht]
  · rw [List.getElem?_append_right (by omega), List.getElem?_append_right (by simpa using ht)]
    have e : rest[t - F.toList.length]? = rest[t - xs.length]? := by rw [Array.length_toList, h]
    rw [e]
    cases hr : rest[t - xs.length]? with
    | none => rfl
    | some y =>
      simp only [Option.map_some, Nat.zero_le, Nat.zero_add, true_and]
      rw [if_neg (by omega)]
theorem sortWorldK_cells (hk : ∀ x, (enc x).length = k) {u : World} {b m : Nat} {d d' : Array α} {os : Array Obj} {rest : List Value} {e : TypeId} (hs : d'.size = d.size) (hb : u.heap[b]? = some (.cells (d.toList.flatMap enc ++ rest).toArray e)) :
    (Go.Proofs.sortWorldK enc k u b 0 m d' os).heap[b]? = some (.cells (d'.toList.flatMap enc ++ rest).toArray e) := by
  have hlt : b < u.heap.size := size_of_heap hb
  have hl : (Go.Sort.flatK enc k d').size = (d.toList.flatMap enc).length := by rw [Go.Sort.size_flatK, flatMap_len hk, Array.length_toList, hs]
  show ((u.heap.modify b (Go.Sort.onCells (Go.Sort.putCells id 0 (Go.Sort.flatK enc k d')))) ++ os)[b]? = _
  rw [Array.getElem?_append_left (by rw [Array.size_modify]; exact hlt), Array.getElem?_modify, if_pos rfl, hb]
  show some (Obj.cells (Go.Sort.putCells id 0 (Go.Sort.flatK enc k d') (d.toList.flatMap enc ++ rest).toArray) e) = _
  rw [putCells_list hl, flatK_list hk]
theorem sortWorldK_keep {u : World} {b m : Nat} {d' : Array α} {os : Array Obj} : Keep (fun k => k = b) u (Go.Proofs.sortWorldK enc k u b 0 m d' os) := by
  refine ⟨rfl, rfl, rfl, ?_, fun j hj hn => ?_, Nat.le_add_right _ _⟩
  · show u.heap.size ≤ ((u.heap.modify b (Go.Sort.onCells (Go.Sort.putCells id 0 (Go.Sort.flatK enc k d')))) ++ os).size
    rw [Array.size_append, Array.size_modify]; exact Nat.le_add_right _ _
  · show ((u.heap.modify b (Go.Sort.onCells (Go.Sort.putCells id 0 (Go.Sort.flatK enc k d')))) ++ os)[j]? = _
    rw [Array.getElem?_append_left (by rw [Array.size_modify]; exact hj), Array.getElem?_modify, if_neg (fun e => hn e.symm)]
end
/-- What is asked of a sorting function. -/
structure SortC (P : Program) (α : Type) [Inhabited α] (f g : Nat) (cb : List Value) (enc : α → List Value) (k : Nat) (cf : α → α → Int) : Prop where
  none : ∀ (p : Option Addr) (cap : Nat) (w : World), Calls P f #[.slice p 0 cap, .func (.func g) #[] cb.toArray] w fun e w' => e = .returned (.tuple #[]) ∧ w' = w
  some : ∀ (b cap : Nat) (d : Array α) (w : World), Go.Sort.HoldsK enc k w b 0 d → b < w.heap.size → d.size < 4611686018427387904 →
    Calls P f #[.slice (some ⟨b, 0, .none⟩) d.size cap, .func (.func g) #[] cb.toArray] w fun e w' => e = .returned (.tuple #[]) ∧ ∃ d' n os, Go.Sort.PermIn 0 d.size d d' ∧ Go.Sort.SortedIn (Go.Proofs.ltOf cf) 0 d.size d' ∧ w' = Go.Proofs.sortWorldK enc k w b 0 n d' os
/-- A sorted permutation. -/
def SoP {α : Type} (cf : α → α → Int) (l l' : List α) : Prop := l'.Perm l ∧ l'.Pairwise fun a b => ¬ cf b a < 0
theorem sop_of {α : Type} [Inhabited α] {cf : α → α → Int} {d d' : Array α} (h1 : Go.Sort.PermIn 0 d.size d d') (h2 : Go.Sort.SortedIn (Go.Proofs.ltOf cf) 0 d.size d') : SoP cf d.toList d'.toList := by
  obtain ⟨hs, _, hp⟩ := h1
  have e1 : d.extract 0 d.size = d := by simp
  have e2 : d'.extract 0 d.size = d' := by rw [← hs]; simp
  rw [e1, e2] at hp
  refine ⟨hp, List.pairwise_iff_getElem.2 fun i j hi hj hij => ?_⟩
  rw [Array.length_toList] at hi hj
  have h3 := h2 i j (Nat.zero_le _) hij (by omega)
  rw [getElem!_pos d' j hj, getElem!_pos d' i hi] at h3
  have h4 : ¬ cf d'[j] d'[i] < 0 := by simpa [Go.Proofs.ltOf] using h3
  simpa using h4
section
variable {P : Program} {F : Fr} {B : Heap} {O : Boxes} {n : Nat} {ops : Array Oper} {κ : Kap} {ty : TypeId} {pos : String} {aft : Array Edge} {g : Option (Nat × Bool)}
/-- What a slot owns, sorted. -/
def SoR {α : Type} (e : TypeId) (s : Nat) (enc : α → List Value) (cf : α → α → Int) (l : List α) : Res := ExR (fun l' : List α => SlR e s l'.length (l'.flatMap enc)) (fun l' _ => SoP cf l l') (fun _ _ _ h _ => h)
theorem ok_sort (L : Tabs P) {α : Type} [Inhabited α] {q f gf : Nat} {e : TypeId} {s : Nat} {cb : List Value} {enc : α → List Value} {cf : α → α → Int} {l : List α} {o : Oper} {fa fo : Operand} {at_ : Array TypeId}
    (hop : o.op = .call { callee := .value fo, args := #[.tmp q, fa], argTypes := at_ }) (hd : o.dst = none) (hg : gK ops κ o = some true) (hf : evK κ fo = some (.func (.func f) #[] #[])) (hfn : L.fn f = some ())
    (hq : κ q = some (.own (SlR e s l.length (l.flatMap enc)))) (hfa : evK κ fa = some (.func (.func gf) #[] cb.toArray)) (hk : ∀ x, (enc x).length = s) (hz : l.length < 4611686018427387904) (hC : SortC P α f gf cb enc s cf) :
    StepOKS P F B n ops O κ o q (.own (SoR e s enc cf l)) := by
  rintro κ' a u hlk hqk ⟨H, fp, hh⟩
  unfold After
  rw [if_pos (wanted_gK hh hlk hg)]
  have en := hh.env hlk
  have hfe : a.eval fo = .func (.func f) #[] ([] : List Value).toArray := en.is_ fo _ (by simp [hop, Op.operands, Call.operands]) hf
  have hae := en.is_ fa _ (by simp [hop, Op.operands, Call.operands]) hfa
  have hqs := hqk.trans hq
  obtain ⟨⟨hl, hown⟩, hM⟩ := hh.slot q _ hqs
  rw [run_call L hop hfe hfn]
  simp only [Upon, List.map_cons, List.map_nil, List.append_nil, hae]
  rcases hown with ⟨h0, hv, hc0⟩ | ⟨b, cap, rest, hv, hb, h3, h4, h5, hc⟩
  · rw [hv]
    refine Calls.mono (hC.none none 0 u) fun e' u' hp => ?_
    obtain ⟨rfl, rfl⟩ := hp
    refine ⟨_, rfl, ?_⟩
    simp only [hd]
    refine ⟨H, _, hh.turnR hqs ⟨l, ⟨List.Perm.refl _, ?_⟩, hl, .inl ⟨h0, hv, hc0⟩⟩⟩
    have : l = [] := List.eq_nil_of_length_eq_zero h0
    subst this
    exact List.Pairwise.nil
  · rw [hv]
    have hbm := hM b ((hc b).2 rfl)
    have hb' : u.heap[b]? = some (.cells (l.toArray.toList.flatMap enc ++ rest).toArray e) := hb
    refine Calls.mono (hC.some b cap l.toArray u (holdsK_of hk hb') hbm.1 (by simpa using hz)) fun e' u' hp => ?_
    obtain ⟨rfl, d', m, os, hp1, hp2, rfl⟩ := hp
    refine ⟨_, rfl, ?_⟩
    simp only [hd]
    have hso := sop_of hp1 hp2
    have hsz : d'.size = l.toArray.size := hp1.1
    have hcell := sortWorldK_cells (m := m) (os := os) hk hsz hb'
    have hkp := sortWorldK_keep (enc := enc) (k := s) (u := u) (b := b) (m := m) (d' := d') (os := os)
    have hgr : Grow (fp q) u H (Go.Proofs.sortWorldK enc s u b 0 m d' os) H := ⟨hkp.weak (fun k _ hk => (hc k).2 hk), fun k x hx => by
      have h1 := hh.sub _ _ hx
      have hne : k ≠ b := fun e => by subst e; rw [hbm.2.1] at hx; cases hx
      exact (hkp.block k (size_of_heap h1) hne).trans h1, Heap.Le.refl _, fun _ _ _ => rfl⟩
    have hll : d'.toList.length = l.length := by rw [Array.length_toList, hsz]; simp
    have h2 := hh.usePut (d := q) (a' := a) (r' := SoR e s enc cf l) (C := fun k => k = b) hqs hgr rfl rfl (fun _ _ => rfl)
      ⟨d'.toList, hso, by rw [flatMap_len hk], .inr ⟨b, cap, rest, by rw [hll]; exact hv, hcell, by rw [hll]; exact h3, h4, by rw [List.length_append, flatMap_len hk, hll, ← flatMap_len hk l, ← List.length_append]; exact h5, fun _ => Iff.rfl⟩⟩ (fun k hk => by
        subst hk
        exact ⟨.inl ((hc k).2 rfl), Nat.lt_of_lt_of_le hbm.1 hkp.size, hbm.2.1⟩)
    rw [upd_upd] at h2
    exact ⟨H, _, h2⟩
end
end Go.V
