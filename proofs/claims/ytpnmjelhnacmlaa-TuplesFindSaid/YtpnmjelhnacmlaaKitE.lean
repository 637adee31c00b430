/- The kit's fifth floor: variables of the call's own: made, written, read, shown. -/
import Derived.Test.YtpnmjelhnacmlaaKitD
namespace Go.V
open Go.RowKit

section mem
variable {P : Program} {F : Fr} {B : Heap} {O : Boxes} {n : Nat} {ops : Array Oper} {κ : Kap} {d : Nat} {ty : TypeId} {pos : String} {aft : Array Edge} {g : Option (Nat × Bool)} {a : Act} {u : World} {H : Heap} {fp : Nat → Nat → Prop}

theorem run_storeCells_at (b : Nat) (t : TypeId) (off : Nat) : ∀ (vs : List Value) (i : Nat) (cur : Array Value) (w : World), w.heap[b]? = some (.cells cur t (0, 0)) → off + i + vs.length ≤ cur.size → (∀ v ∈ vs, v.oneCell' = true) →
    (storeCells ⟨b, off, none⟩ vs i).run P w = .ok () (w.setRow b (cur.toList.take (off + i) ++ vs ++ cur.toList.drop (off + i + vs.length)).toArray)
  | [], i, cur, w, hg, hl, _ => by
    have hlt := size_of_heap hg
    have hv : w.heap[b] = .cells cur t (0, 0) := (Array.getElem?_eq_some_iff.1 hg).2
    simp only [storeCells, List.length_nil, Nat.add_zero, List.append_nil, List.take_append_drop, Array.toArray_toList]
    show Result.ok () w = _
    congr 1
    unfold World.setRow
    cases w with
    | mk heap tape drawn os output =>
      congr 1
      apply Array.ext
      · simp
      · intro k h1 h2
        simp only [Array.getElem_modify]
        split
        · rename_i hk; subst hk; simp at hv; simp [hv]
        · rfl
  | v :: rest, i, cur, w, hg, hl, h1 => by
    have hi : off + i < cur.size := by simp at hl; omega
    have hadd : Addr.add ⟨b, off, none⟩ i = ⟨b, off + i, none⟩ := by simp [Addr.add]
    have hc : w.cell? ⟨b, off + i, none⟩ = some cur[off + i] := by rw [cell_of_heap hg]; simp [hi]
    have hf : w.frozen? ⟨b, off + i, none⟩ = false := by simp [World.frozen?, hg]
    have hst : (store (Addr.add ⟨b, off, none⟩ i) v).run P w = .ok () (w.setCell ⟨b, off + i, none⟩ v) := by
      rw [hadd, run_store P w _ v _ (h1 v (List.mem_cons_self ..))]
      simp [hc, hf]
    simp only [storeCells, Sem.run_bind, hst, Result.andThen_ok]
    rw [setCell_eq_setRow w b (off + i) cur t (0, 0) v hg]
    have hg' := setRow_heap w b cur (cur.setIfInBounds (off + i) v) t (0, 0) hg
    have ih := run_storeCells_at b t off rest (i + 1) (cur.setIfInBounds (off + i) v) _ hg' (by simp at hl ⊢; omega) (fun x hx => h1 x (List.mem_cons_of_mem _ hx))
    rw [ih, setRow_setRow]
    congr 2
    apply congrArg List.toArray
    simp only [Array.toList_setIfInBounds, List.length_cons]
    have e1 : (cur.toList.set (off + i) v).take (off + (i + 1)) = cur.toList.take (off + i) ++ [v] := by
      rw [show off + (i + 1) = (off + i) + 1 by omega, List.take_add_one, List.take_set_of_le (Nat.le_refl _), List.getElem?_set_self (by simpa using hi)]
      rfl
    have e2 : (cur.toList.set (off + i) v).drop (off + (i + 1) + rest.length) = cur.toList.drop (off + i + (rest.length + 1)) := by
      rw [List.drop_set_of_lt (by omega)]
      congr 1
      omega
    rw [e1, e2]
    simp

def cellsL : Value → List Value
  | .agg cs => cs.toList
  | v => [v]
theorem cellsL_eq (v : Value) : v.cells = (cellsL v).toArray := by cases v <;> simp [Value.cells, cellsL]
def plainV : Value → Bool
  | .agg _ | .tuple _ => false
  | _ => true
theorem run_storeVar_at {t t' : TypeId} {ag : Bool} {s b off : Nat} {cur : List Value} {v : Value} {w : World} (hl : ldI P t = some (ag, s)) (hg : w.heap[b]? = some (.cells cur.toArray t' (0, 0))) (hs : (cellsL v).length = s)
    (ho : off + s ≤ cur.length) (h1 : (cellsL v).all plainV = true) : (storeVar t ⟨b, off, none⟩ v).run P w = .ok () (w.setRow b (cur.take off ++ cellsL v ++ cur.drop (off + s)).toArray) := by
  have hsz : v.cells.size = s := by rw [cellsL_eq]; simpa using hs
  simp only [storeVar, Sem.run_bind, run_sizeOf hl, Result.andThen_ok, hsz, ne_eq, not_true_eq_false, if_false]
  have := run_storeCells_at (P := P) b t' off (cellsL v) 0 cur.toArray w hg (by simp; omega) (fun x hx => by
    have := List.all_eq_true.1 h1 x hx
    cases x <;> first | rfl | cases this)
  rw [cellsL_eq]
  simpa [hs] using this


/-! ### what is owned is taken, turned, put back -/
abbrev nilK : Kn := .sat fun _ _ => True
theorem HasH.drop1 (s : Nat) (h : HasH F B O n κ a u H fp) : HasH F B O n (upd κ s nilK) a u H fp :=
  ⟨h.size, h.defers, h.nodup, h.marks, h.lent, h.keep, h.sub, h.base, h.fresh, h.boxes, h.apart, fun t k hk => by
    by_cases hts : t = s
    · subst hts; rw [upd_same] at hk; cases hk; exact trivial
    · rw [upd_other _ _ hts] at hk; exact h.slot t k hk, fun t q r1 r2 htq h1 h2 => by
    have key : ∀ x r, upd κ s nilK x = some (.own r) → κ x = some (.own r) := fun x r hx => by
      by_cases hxd : x = s
      · subst hxd; rw [upd_same] at hx; cases hx
      · rw [upd_other _ _ hxd] at hx; exact hx
    exact h.owns t q r1 r2 htq (key _ _ h1) (key _ _ h2), fun t k hk => by
    by_cases hts : t = s
    · subst hts; rw [upd_same] at hk; cases hk; exact fun _ _ _ h _ => h
    · rw [upd_other _ _ hts] at hk; exact h.mono t k hk⟩
/-- What a slot owns may turn: the slot is empty then. -/
theorem HasH.use {s : Nat} {r : Res} {u' : World} {H' : Heap} (h : HasH F B O n κ a u H fp) (hk : κ s = some (.own r)) (g : Grow (fp s) u H u' H') : HasH F B O n (upd κ s nilK) a u' H' fp := by
  have hm := (h.slot s _ hk).2
  refine (h.drop1 s).growL g (fun k hl hs => ⟨(hm k hl).2.2.1, (hm k hl).2.2.2⟩) fun t r' ht k hf hl => ?_
  by_cases hts : t = s
  · subst hts; rw [upd_same] at ht; cases ht
  · rw [upd_other _ _ hts] at ht
    exact h.owns t s r' r hts ht hk k hf hl
/-- .. and something else is owned by another slot. -/
theorem HasH.usePut {s d : Nat} {r r' : Res} {u' : World} {H' : Heap} {C : Nat → Prop} {a' : Act} (h : HasH F B O n κ a u H fp) (hk : κ s = some (.own r)) (g : Grow (fp s) u H u' H')
    (hsz : a'.tmps.size = a.tmps.size) (hdf : a'.defers = a.defers) (hev : ∀ t, t ≠ d → a'.eval (.tmp t) = a.eval (.tmp t))
    (hr : r'.P (a'.eval (.tmp d)) H' u' C) (hC : ∀ k, C k → (fp s k ∨ u.heap.size ≤ k) ∧ k < u'.heap.size ∧ H' k = none) : HasH F B O n (upd (upd κ s nilK) d (.own r')) a' u' H' (fpu fp d C) := by
  have hm := (h.slot s _ hk).2
  refine (h.use hk g).putR hsz hdf hev hr (fun k hc => ?_) fun t r1 htd ht k hf hc => ?_
  · obtain ⟨h1, h2, h3⟩ := hC k hc
    refine ⟨h2, h3, ?_, fun y hy e => ?_⟩
    · rcases h1 with h1 | h1
      · exact (hm k h1).2.2.1
      · exact .inl (Nat.le_trans h.keep.size h1)
    · rcases h1 with h1 | h1
      · exact (hm k h1).2.2.2 y hy e
      · have := size_of_heap (h.boxes y hy).1
        omega
  · by_cases hts : t = s
    · subst hts; rw [upd_same] at ht; cases ht
    · rw [upd_other _ _ hts] at ht
      rcases (hC k hc).1 with h1 | h1
      · exact h.owns t s r1 r hts ht hk k hf h1
      · have := ((h.slot t _ ht).2 k hf).1
        omega
theorem upd_upd (κ : Kap) (s : Nat) (k k' : Kn) : upd (upd κ s k) s k' = upd κ s k' := by
  funext t
  by_cases h : t = s
  · subst h; rw [upd_same, upd_same]
  · rw [upd_other _ _ h, upd_other _ _ h, upd_other _ _ h]

/-- A variable is made: it is the call's own. -/
theorem ok_alloc (L : Tabs P) {t : TypeId} {z : Value} {cs : List Value} (hn : Nat.blt d n = true) (hg : gK ops κ ⟨some d, .alloc t, ty, pos, aft, g⟩ = some true) (hz : L.zr t = some z) (hc : cellsL z = cs) :
    StepOK P F B n ops O κ ⟨some d, .alloc t, ty, pos, aft, g⟩ d (.own (Cell cs t)) := by
  rintro κ' a u hl ⟨H, fp, hh⟩
  have hn : d < n := by simpa using hn
  unfold After
  rw [if_pos (wanted_gK hh hl hg)]
  have hrun : (execOp a.eval ⟨some d, .alloc t, ty, pos, aft, g⟩).run P u = .ok (.value (.pointer (some ⟨u.heap.size, 0, none⟩))) (u.alloc (.cells cs.toArray t)) := by
    have hzz := Tabs.zr_spec hz
    unfold zrI at hzz
    split at hzz
    · rename_i i hi
      subst hc
      simp [execOp, Instr.alloc, zeroValue, typeInfo, hi, hzz, newVar, newRow, cellsL_eq]
    · cases hzz
  rw [hrun]
  simp only [Upon]
  have hg2 := hh.grow (Grow.hid hh.sub (.cells cs.toArray t))
  refine ⟨H, _, hg2.putR (C := fun k => k = u.heap.size) (by simp [Act.put]) rfl (fun t ht => eval_put_other ht) ⟨u.heap.size, eval_put_same (by rw [hh.size]; exact hn), heap_push_same _ _, fun _ => Iff.rfl⟩ (fun k hk => ?_) fun t r' _ ht k hf hk => ?_⟩
  · subst hk
    exact ⟨size_of_heap (heap_push_same u _), none_of_ge hh.sub (Nat.le_refl _), .inl hh.keep.size, fun y hy e => by have := size_of_heap (hh.boxes y hy).1; omega⟩
  · have := ((hh.slot t _ ht).2 k hf).1
    omega
/-- A variable is made, with its value. -/
theorem ok_boxR {x : Operand} {t : TypeId} {v : Value} {cs : List Value} (hn : Nat.blt d n = true) (hg : gK ops κ ⟨some d, .box t x, ty, pos, aft, g⟩ = some true) (hx : evK κ x = some v) (hc : cellsL v = cs) :
    StepOK P F B n ops O κ ⟨some d, .box t x, ty, pos, aft, g⟩ d (.own (Cell cs t)) := by
  rintro κ' a u hl ⟨H, fp, hh⟩
  have hn : d < n := by simpa using hn
  unfold After
  rw [if_pos (wanted_gK hh hl hg)]
  have e := hh.env hl
  have hrun : (execOp a.eval ⟨some d, .box t x, ty, pos, aft, g⟩).run P u = .ok (.value (.pointer (some ⟨u.heap.size, 0, none⟩))) (u.alloc (.cells cs.toArray t)) := by
    have h1 := e.is_ x _ (by simp [Op.operands]) hx
    subst hc
    simp [execOp, h1, Instr.box, newVar, newRow, cellsL_eq]
  rw [hrun]
  simp only [Upon]
  have hg2 := hh.grow (Grow.hid hh.sub (.cells cs.toArray t))
  refine ⟨H, _, hg2.putR (C := fun k => k = u.heap.size) (by simp [Act.put]) rfl (fun t ht => eval_put_other ht) ⟨u.heap.size, eval_put_same (by rw [hh.size]; exact hn), heap_push_same _ _, fun _ => Iff.rfl⟩ (fun k hk => ?_) fun t r' _ ht k hf hk => ?_⟩
  · subst hk
    exact ⟨size_of_heap (heap_push_same u _), none_of_ge hh.sub (Nat.le_refl _), .inl hh.keep.size, fun y hy e => by have := size_of_heap (hh.boxes y hy).1; omega⟩
  · have := ((hh.slot t _ ht).2 k hf).1
    omega

theorem grow_setRow {b : Nat} {cur : Array Value} {t : TypeId} {fr : Nat × Nat} {L : Nat → Prop} (hs : H.Le (hp u)) (hb : u.heap[b]? = some (.cells cur t fr)) (hL : L b) (hH : H b = none) (cs : Array Value) : Grow L u H (u.setRow b cs) H :=
  ⟨⟨rfl, rfl, rfl, Nat.le_of_eq (setRow_size ..).symm, fun k _ hk => setRow_other _ _ _ _ (fun e => hk (e ▸ hL)), Nat.le_refl _⟩, fun k x hx => by
    have : k ≠ b := fun e => by subst e; rw [hH] at hx; cases hx
    show (u.setRow b cs).heap[k]? = some x
    rw [setRow_other _ _ _ _ this]; exact hs k x hx, Heap.Le.refl _, fun _ _ _ => rfl⟩
/-- A store into a variable that a slot alone knows. -/
theorem ok_store (L : Tabs P) {t t' : TypeId} {s : Nat} {ag : Bool} {z : Nat} {x : Operand} {v : Value} {cs cs' : List Value} (hg : gK ops κ ⟨none, .store t (.tmp s) x, ty, pos, aft, g⟩ = some true) (hk : κ s = some (.own (Cell cs t'))) (hx : evK κ x = some v)
    (hl : L.ld t = some (ag, z)) (hlen : (cellsL v).length = z) (hcs : Nat.ble z cs.length = true) (hp : (cellsL v).all plainV = true) (hr : cellsL v ++ cs.drop z = cs') :
    StepOK P F B n ops O κ ⟨none, .store t (.tmp s) x, ty, pos, aft, g⟩ s (.own (Cell cs' t')) := by
  rintro κ' a u hlk ⟨H, fp, hh⟩
  subst hr
  unfold After
  rw [if_pos (wanted_gK hh hlk hg)]
  have e := hh.env hlk
  have hev := e.is_ x v (by simp [Op.operands]) hx
  have hks : κ' s = some (.own (Cell cs t')) := (hlk s (looks_of (by simp [Op.operands]))).trans hk
  obtain ⟨⟨b, hes, hb, hC⟩, hM⟩ := hh.slot s _ hks
  have hrun : (execOp a.eval ⟨none, .store t (.tmp s) x, ty, pos, aft, g⟩).run P u = .ok .skip (u.setRow b (cellsL v ++ cs.drop z).toArray) := by
    simp only [execOp, hes, hev, Instr.storeAt, Instr.sureAddr, Sem.run_bind, Sem.run_pure, Result.andThen_ok]
    have := run_storeVar_at (P := P) (off := 0) (Tabs.ld_spec hl) hb hlen (by have := Nat.le_of_ble_eq_true hcs; omega) hp
    rw [this]
    simp
  rw [hrun]
  simp only [Upon, Act.put]
  have hset := setRow_heap u b cs.toArray (cellsL v ++ cs.drop z).toArray t' (0, 0) hb
  have hbm := hM b ((hC b).2 rfl)
  have := hh.usePut (d := s) (a' := a) (r' := Cell (cellsL v ++ cs.drop z) t') (C := fun k => k = b) hks (grow_setRow hh.sub hb ((hC b).2 rfl) hbm.2.1 _) rfl rfl (fun _ _ => rfl) ⟨b, hes, hset, fun _ => Iff.rfl⟩ (fun k hk => by
    subst hk; exact ⟨.inl ((hC k).2 rfl), by rw [setRow_size]; exact hbm.1, hbm.2.1⟩)
  rw [upd_upd] at this
  exact ⟨H, _, this⟩

/-! ### numbers for blocks -/
/-- A block of the call's own gets a number. -/
theorem HasH.toBox {t b : Nat} {r : Res} {o : Obj} (h : HasH F B O n κ a u H fp) (hk : κ t = some (.own r)) (hb : u.heap[b]? = some o) (hC : fp t b) : HasH F B ((b, o) :: O) n (upd κ t (.is (a.eval (.tmp t)))) a u H fp := by
  have hm := (h.slot t _ hk).2 b hC
  have h' := h.name t
  refine ⟨h'.size, h'.defers, h'.nodup, fun D hD => List.mem_cons_of_mem _ (h'.marks D hD), h'.lent, h'.keep, h'.sub, h'.base, h'.fresh, fun y hy => ?_, List.pairwise_cons.2 ⟨fun y hy => Ne.symm (hm.2.2.2 y hy), h'.apart⟩, fun s k hs => ?_, h'.owns, h'.mono⟩
  · rcases List.mem_cons.1 hy with rfl | hy
    · exact ⟨hb, hm.2.1, hm.2.2.1⟩
    · exact h'.boxes y hy
  · have hh := h'.slot s k hs
    cases k with
    | is _ => exact hh
    | sat _ => exact hh
    | own r' =>
      refine ⟨hh.1, fun k hk' => ?_⟩
      obtain ⟨g1, g2, g3, g4⟩ := hh.2 k hk'
      refine ⟨g1, g2, g3, fun y hy => ?_⟩
      rcases List.mem_cons.1 hy with rfl | hy
      · intro e
        have hst : s ≠ t := fun e => by subst e; rw [upd_same] at hs; cases hs
        rw [upd_other _ _ hst] at hs
        exact h.owns s t r' r hst hs hk k hk' (e ▸ hC)
      · exact g4 y hy
theorem Has.box {t : Nat} {cs : List Value} {ty : TypeId} (hk : κ t = some (.own (Cell cs ty))) (h : Has F B O n κ a u) :
    ∃ b, (∀ y ∈ O, y.1 ≠ b) ∧ Has F B (bx b cs ty :: O) n (upd κ t (.is (.pointer (some ⟨b, 0, none⟩)))) a u := by
  obtain ⟨H, fp, h⟩ := h
  obtain ⟨⟨b, hv, hb, hC⟩, hM⟩ := h.slot t _ hk
  have := h.toBox hk hb ((hC b).2 rfl)
  rw [hv] at this
  exact ⟨b, (hM b ((hC b).2 rfl)).2.2.2, H, fp, this⟩
section
variable {Q : Exit → Act → World → Prop}
theorem V_box (t : Nat) {cs : List Value} {ty : TypeId} {c : Code} (hk : κ t = some (.own (Cell cs ty))) (h : ∀ b, (∀ y ∈ O, y.1 ≠ b) → V P F B n (bx b cs ty :: O) (upd κ t (.is (.pointer (some ⟨b, 0, none⟩)))) c Q) : V P F B n O κ c Q := fun a u hh => by
  obtain ⟨b, hb, hh'⟩ := hh.box hk
  exact h b hb a u hh'
theorem N_box (t : Nat) {cs : List Value} {ty : TypeId} (hk : κ t = some (.own (Cell cs ty))) (h : ∀ b, (∀ y ∈ O, y.1 ≠ b) → N F B n (bx b cs ty :: O) (upd κ t (.is (.pointer (some ⟨b, 0, none⟩)))) Q) : N F B n O κ Q := fun a u hh => by
  obtain ⟨b, hb, hh'⟩ := hh.box hk
  exact h b hb a u hh'
theorem vo_box (t : Nat) {cs : List Value} {ty : TypeId} {os : List Oper} (hk : κ t = some (.own (Cell cs ty))) (h : ∀ b, (∀ y ∈ O, y.1 ≠ b) → VO P F B n (bx b cs ty :: O) ops (upd κ t (.is (.pointer (some ⟨b, 0, none⟩)))) os Q) : VO P F B n O ops κ os Q := fun a u hh => by
  obtain ⟨b, hb, hh'⟩ := hh.box hk
  exact h b hb a u hh'
/-- A numbered block is known by a slot alone again. -/
theorem HasH.ofBox {t b : Nat} {r : Res} {o : Obj} {O1 O2 : Boxes} (h : HasH F B (O1 ++ (b, o) :: O2) n κ a u H fp) (hd : b ∉ F.ds) (hr : r.P (a.eval (.tmp t)) H u (fun k => k = b)) : HasH F B (O1 ++ O2) n (upd κ t (.own r)) a u H (fpu fp t fun k => k = b) := by
  have hsl : (O1 ++ O2).Sublist (O1 ++ (b, o) :: O2) := List.Sublist.append (List.Sublist.refl _) (List.sublist_cons_self ..)
  have hmem : (b, o) ∈ O1 ++ (b, o) :: O2 := by simp
  obtain ⟨hb1, hb2, hb3⟩ := h.boxes _ hmem
  have hap := List.pairwise_append.1 h.apart
  have hne : ∀ y, y ∈ O1 ++ O2 → y.1 ≠ b := fun y hy => by
    rcases List.mem_append.1 hy with hy | hy
    · exact hap.2.2 y hy _ (List.mem_cons_self ..)
    · exact Ne.symm ((List.pairwise_cons.1 hap.2.1).1 y hy)
  have h1 : HasH F B (O1 ++ O2) n κ a u H fp := ⟨h.size, h.defers, h.nodup, fun D hD => by
    have hm := h.marks D hD
    rcases List.mem_append.1 hm with hm | hm
    · exact List.mem_append_left _ hm
    · rcases List.mem_cons.1 hm with e | hm
      · cases e; exact absurd hD hd
      · exact List.mem_append_right _ hm, h.lent, h.keep, h.sub, h.base, h.fresh, fun y hy => h.boxes y (hsl.subset hy), h.apart.sublist hsl, fun s k hs => by
    have hh := h.slot s k hs
    cases k with
    | is _ => exact hh
    | sat _ => exact hh
    | own r' => exact ⟨hh.1, fun k hk' => by obtain ⟨g1, g2, g3, g4⟩ := hh.2 k hk'; exact ⟨g1, g2, g3, fun y hy => g4 y (hsl.subset hy)⟩⟩, h.owns, h.mono⟩
  refine h1.putR rfl rfl (fun _ _ => rfl) hr (fun k hk => ?_) fun s r' hst hs k hf hk => ?_
  · subst hk
    exact ⟨size_of_heap hb1, hb2, hb3, fun y hy => hne y hy⟩
  · subst hk
    exact ((h.slot s _ hs).2 k hf).2.2.2 _ hmem rfl
theorem Has.unbox {t b : Nat} {cs : List Value} {ty : TypeId} {O1 O2 : Boxes} (hO : O = O1 ++ bx b cs ty :: O2) (hd : F.ds = []) (hk : κ t = some (.is (.pointer (some ⟨b, 0, none⟩)))) (h : Has F B O n κ a u) : Has F B (O1 ++ O2) n (upd κ t (.own (Cell cs ty))) a u := by
  obtain ⟨H, fp, h⟩ := h
  subst hO
  have hb := (h.boxes (bx b cs ty) (by simp)).1
  exact ⟨H, _, h.ofBox (by rw [hd]; simp) ⟨b, h.slot t _ hk, hb, fun _ => Iff.rfl⟩⟩
theorem N_unbox (t : Nat) {b : Nat} {cs : List Value} {ty : TypeId} (O1 : Boxes) {O2 : Boxes} (hO : O = O1 ++ bx b cs ty :: O2) (hk : κ t = some (.is (.pointer (some ⟨b, 0, none⟩)))) (h : N F B n (O1 ++ O2) (upd κ t (.own (Cell cs ty))) Q) (hd : F.ds = [] := by rfl) : N F B n O κ Q :=
  fun a u hh => h a u (hh.unbox hO hd hk)
theorem V_unbox (t : Nat) {b : Nat} {cs : List Value} {ty : TypeId} (O1 : Boxes) {O2 : Boxes} {c : Code} (hO : O = O1 ++ bx b cs ty :: O2) (hk : κ t = some (.is (.pointer (some ⟨b, 0, none⟩)))) (h : V P F B n (O1 ++ O2) (upd κ t (.own (Cell cs ty))) c Q) (hd : F.ds = [] := by rfl) : V P F B n O κ c Q :=
  fun a u hh => h a u (hh.unbox hO hd hk)

/-- A store into a block of the call's own that has a number (straight code alone). -/
theorem box_store (L : Tabs P) {os : List Oper} {t t' : TypeId} {ag : Bool} {z b off : Nat} {p x : Operand} {v : Value} {O1 O2 : Boxes} {cs cs' : List Value}
    (hO : O = O1 ++ bx b cs t' :: O2) (hg : gK ops κ ⟨none, .store t p x, ty, pos, aft, g⟩ = some true) (hp : evK κ p = some (.pointer (some ⟨b, off, none⟩))) (hx : evK κ x = some v)
    (hl : L.ld t = some (ag, z)) (hlen : (cellsL v).length = z) (hcs : Nat.ble (off + z) cs.length = true) (hpl : (cellsL v).all plainV = true) (hr : cs.take off ++ (cellsL v ++ cs.drop (off + z)) = cs')
    (h : VO P F B n (O1 ++ bx b cs' t' :: O2) ops κ os Q) : VO P F B n O ops κ (⟨none, .store t p x, ty, pos, aft, g⟩ :: os) Q := by
  rintro a u ⟨H, fp, hh⟩
  subst hO
  subst hr
  show After _ _ _ _ _ _
  unfold After
  rw [if_pos (wanted_gK hh (fun _ _ => rfl) hg)]
  have e := hh.env (ops := ops) (o := ⟨none, .store t p x, ty, pos, aft, g⟩) (fun _ _ => rfl)
  have hev := e.is_ x v (by simp [Op.operands]) hx
  have hes := e.is_ p _ (by simp [Op.operands]) hp
  have hmem : bx b cs t' ∈ O1 ++ bx b cs t' :: O2 := by simp
  obtain ⟨hb, hH, hw⟩ := hh.boxes _ hmem
  have hrun : (execOp a.eval ⟨none, .store t p x, ty, pos, aft, g⟩).run P u = .ok .skip (u.setRow b (cs.take off ++ (cellsL v ++ cs.drop (off + z))).toArray) := by
    simp only [execOp, hes, hev, Instr.storeAt, Instr.sureAddr, Sem.run_bind, Sem.run_pure, Result.andThen_ok]
    have := run_storeVar_at (P := P) (off := off) (Tabs.ld_spec hl) hb hlen (Nat.le_of_ble_eq_true hcs) hpl
    rw [this]
    simp
  rw [hrun]
  simp only [Upon, Act.put]
  have hset := setRow_heap u b cs.toArray (cs.take off ++ (cellsL v ++ cs.drop (off + z))).toArray t' (0, 0) hb
  have hbd : b ∉ F.ds := fun hd => by
    have hm := hh.marks b hd
    have := (hh.boxes _ hm).1
    rw [hb] at this
    cases this
  have h2 := hh.boxSet (u' := u.setRow b (cs.take off ++ (cellsL v ++ cs.drop (off + z))).toArray) (ds := F.ds) (a' := a) (o' := .cells (cs.take off ++ (cellsL v ++ cs.drop (off + z))).toArray t') ⟨rfl, rfl, rfl, setRow_size .., Nat.le_refl _, hset, fun k hk => setRow_other _ _ _ _ hk⟩ (List.Sublist.refl _) hbd rfl hh.defers
  exact h a _ ⟨H, fp, h2⟩

/-! ### what will not change any more may be seen -/
theorem HasH.pub {t b : Nat} {r : Res} {o : Obj} {φ : Value → Heap → Prop} (h : HasH F B O n κ a u H fp) (hk : κ t = some (.own r)) (hb : u.heap[b]? = some o) (hC : fp t b) (hm : Kn.mono (.sat φ)) (hp : ∀ H', H.Le H' → H' b = some o → φ (a.eval (.tmp t)) H') :
    ∃ H', HasH F B O n (upd κ t (.sat φ)) a u H' fp := by
  have hM := (h.slot t _ hk).2 b hC
  have hle : H.Le (fun k => if k = b then some o else H k) := fun k x hx => by
    show (if k = b then some o else H k) = some x
    rw [if_neg fun e => by subst e; rw [hM.2.1] at hx; cases hx]; exact hx
  have hne : ∀ k, k ≠ b → (fun k => if k = b then some o else H k) k = H k := fun k hk => if_neg hk
  refine ⟨fun k => if k = b then some o else H k, h.size, h.defers, h.nodup, h.marks, h.lent, h.keep, fun k x hx => ?_, h.base.trans hle, fun k hk hl => ?_, fun y hy => ?_, h.apart, fun s k hs => ?_, fun s r1 r2 r3 hsr h1 h2 => ?_, fun s k hs => ?_⟩
  · split at hx
    · rename_i e; subst e; cases hx; exact hb
    · exact h.sub k x hx
  · refine (hne k fun e => ?_).trans (h.fresh k hk hl)
    subst e
    rcases hM.2.2.1 with h1 | h1
    · omega
    · exact hl h1
  · obtain ⟨g1, g2, g3⟩ := h.boxes y hy
    exact ⟨g1, (hne _ (hM.2.2.2 y hy)).trans g2, g3⟩
  · by_cases hst : s = t
    · subst hst; rw [upd_same] at hs; cases hs
      exact hp _ hle (if_pos rfl)
    · rw [upd_other _ _ hst] at hs
      have hh := h.slot s k hs
      cases k with
      | is _ => exact hh
      | sat ψ => exact h.mono s _ hs _ H _ hh hle
      | own r' =>
        refine ⟨r'.st hh.1 hle (fun k x hx => ?_) (On.refl _) (fun _ _ => rfl), fun k hk' => ?_⟩
        · split at hx
          · rename_i e; subst e; cases hx; exact hb
          · exact h.sub k x hx
        · obtain ⟨g1, g2, g3, g4⟩ := hh.2 k hk'
          exact ⟨g1, (hne _ fun e => by subst e; exact h.owns s t r' r hst hs hk k hk' hC).trans g2, g3, g4⟩
  · have key : ∀ x r, upd κ t (.sat φ) x = some (.own r) → κ x = some (.own r) := fun x r hx => by
      by_cases hxd : x = t
      · subst hxd; rw [upd_same] at hx; cases hx
      · rw [upd_other _ _ hxd] at hx; exact hx
    exact h.owns s r1 r2 r3 hsr (key _ _ h1) (key _ _ h2)
  · by_cases hst : s = t
    · subst hst; rw [upd_same] at hs; cases hs; exact hm
    · rw [upd_other _ _ hst] at hs; exact h.mono s k hs
theorem Has.pub {t : Nat} {cs : List Value} {ty : TypeId} (hk : κ t = some (.own (Cell cs ty))) (h : Has F B O n κ a u) : Has F B O n (upd κ t (.sat (At cs ty 0))) a u := by
  obtain ⟨H, fp, h⟩ := h
  obtain ⟨⟨b, hv, hb, hC⟩, hM⟩ := h.slot t _ hk
  obtain ⟨H', h'⟩ := h.pub (φ := At cs ty 0) hk hb ((hC b).2 rfl) At.mono fun H' _ hb' => ⟨b, hv, hb'⟩
  exact ⟨H', fp, h'⟩
theorem V_pub (t : Nat) {cs : List Value} {ty : TypeId} {c : Code} (hk : κ t = some (.own (Cell cs ty))) (h : V P F B n O (upd κ t (.sat (At cs ty 0))) c Q) : V P F B n O κ c Q := fun a u hh => h a u (hh.pub hk)
theorem N_pub (t : Nat) {cs : List Value} {ty : TypeId} (hk : κ t = some (.own (Cell cs ty))) (h : N F B n O (upd κ t (.sat (At cs ty 0))) Q) : N F B n O κ Q := fun a u hh => h a u (hh.pub hk)
theorem vo_pub (t : Nat) {cs : List Value} {ty : TypeId} {os : List Oper} (hk : κ t = some (.own (Cell cs ty))) (h : VO P F B n O ops (upd κ t (.sat (At cs ty 0))) os Q) : VO P F B n O ops κ os Q := fun a u hh => h a u (hh.pub hk)
/-- Numbered blocks are forgotten. -/
theorem Has.drop {O' : Boxes} (hO : O'.Sublist O) (hd : F.ds = []) (h : Has F B O n κ a u) : Has F B O' n κ a u := by
  obtain ⟨H, fp, h⟩ := h
  refine ⟨H, fp, h.size, h.defers, h.nodup, (fun D hD => by rw [hd] at hD; cases hD), h.lent, h.keep, h.sub, h.base, h.fresh, fun y hy => h.boxes y (hO.subset hy), h.apart.sublist hO, fun s k hs => ?_, h.owns, h.mono⟩
  have hh := h.slot s k hs
  cases k with
  | is _ => exact hh
  | sat φ => exact hh
  | own r => exact ⟨hh.1, fun k hk => by obtain ⟨g1, g2, g3, g4⟩ := hh.2 k hk; exact ⟨g1, g2, g3, fun y hy => g4 y (hO.subset hy)⟩⟩
theorem V_drop {O' : Boxes} {c : Code} (hO : O'.Sublist O) (h : V P F B n O' κ c Q) (hd : F.ds = [] := by rfl) : V P F B n O κ c Q := fun a u hh => h a u (hh.drop hO hd)
theorem N_drop {O' : Boxes} (hO : O'.Sublist O) (h : N F B n O' κ Q) (hd : F.ds = [] := by rfl) : N F B n O κ Q := fun a u hh => h a u (hh.drop hO hd)
end
end mem
end Go.V
