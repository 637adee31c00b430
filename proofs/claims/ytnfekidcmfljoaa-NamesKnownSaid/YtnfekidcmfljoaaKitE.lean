/- The kit's fifth floor: variables of the call's own: made, written, read; structs, slices. -/
import Derived.Test.YtnfekidcmfljoaaKitD
namespace Go.V
open Go.RowKit

section mem
variable {P : Program} {w0 : World} {B : Heap} {O : Boxes} {n : Nat} {ops : Array Oper} {κ : Kap} {d : Nat} {ty : TypeId} {pos : String} {aft : Array Edge} {g : Option (Nat × Bool)}

theorem run_storeCells_at (b : Nat) (t : TypeId) (off : Nat) : ∀ (vs : List Value) (i : Nat) (cur : Array Value) (w : World), w.heap[b]? = some (.cells cur t (0, 0)) → off + i + vs.length ≤ cur.size → (∀ v ∈ vs, v.oneCell' = true) →
    (storeCells ⟨b, off, none⟩ vs i).run P w = .ok () (w.setRow b (cur.toList.take (off + i) ++ vs ++ cur.toList.drop (off + i + vs.length)).toArray)
  | [], i, cur, w, hg, hl, _ => by
    have hlt := size_of_heap hg
    have hv : w.heap[b] = .cells cur t (0, 0) := (Array.getElem?_eq_some_iff.1 hg).2
    simp only [storeCells, List.length_nil, Nat.add_zero, List.append_nil, List.take_append_drop, Array.toArray_toList]
    show Result.ok () w = _
    congr 1
    unfold World.setRow
    cases w with
    | mk heap tape drawn os output =>
      congr 1
      apply Array.ext
      · simp
      · intro k h1 h2
        simp only [Array.getElem_modify]
        split
        · rename_i hk; subst hk; simp at hv; simp [hv]
        · rfl
  | v :: rest, i, cur, w, hg, hl, h1 => by
    have hi : off + i < cur.size := by simp at hl; omega
    have hadd : Addr.add ⟨b, off, none⟩ i = ⟨b, off + i, none⟩ := by simp [Addr.add]
    have hc : w.cell? ⟨b, off + i, none⟩ = some cur[off + i] := by rw [cell_of_heap hg]; simp [hi]
    have hf : w.frozen? ⟨b, off + i, none⟩ = false := by simp [World.frozen?, hg]
    have hst : (store (Addr.add ⟨b, off, none⟩ i) v).run P w = .ok () (w.setCell ⟨b, off + i, none⟩ v) := by
      rw [hadd, run_store P w _ v _ (h1 v (List.mem_cons_self ..))]
      simp [hc, hf]
    simp only [storeCells, Sem.run_bind, hst, Result.andThen_ok]
    rw [setCell_eq_setRow w b (off + i) cur t (0, 0) v hg]
    have hg' := setRow_heap w b cur (cur.setIfInBounds (off + i) v) t (0, 0) hg
    have ih := run_storeCells_at b t off rest (i + 1) (cur.setIfInBounds (off + i) v) _ hg' (by simp at hl ⊢; omega) (fun x hx => h1 x (List.mem_cons_of_mem _ hx))
    rw [ih, setRow_setRow]
    congr 2
    apply congrArg List.toArray
    simp only [Array.toList_setIfInBounds, List.length_cons]
    have e1 : (cur.toList.set (off + i) v).take (off + (i + 1)) = cur.toList.take (off + i) ++ [v] := by
      rw [show off + (i + 1) = (off + i) + 1 by omega, List.take_add_one, List.take_set_of_le (Nat.le_refl _), List.getElem?_set_self (by simpa using hi)]
      rfl
    have e2 : (cur.toList.set (off + i) v).drop (off + (i + 1) + rest.length) = cur.toList.drop (off + i + (rest.length + 1)) := by
      rw [List.drop_set_of_lt (by omega)]
      congr 1
      omega
    rw [e1, e2]
    simp

def cellsL : Value → List Value
  | .agg cs => cs.toList
  | v => [v]
theorem cellsL_eq (v : Value) : v.cells = (cellsL v).toArray := by cases v <;> simp [Value.cells, cellsL]
def plainV : Value → Bool
  | .agg _ | .tuple _ => false
  | _ => true
theorem run_storeVar_at {t t' : TypeId} {ag : Bool} {s b off : Nat} {cur : List Value} {v : Value} {w : World} (hl : ldI P t = some (ag, s)) (hg : w.heap[b]? = some (.cells cur.toArray t' (0, 0))) (hs : (cellsL v).length = s)
    (ho : off + s ≤ cur.length) (h1 : (cellsL v).all plainV = true) : (storeVar t ⟨b, off, none⟩ v).run P w = .ok () (w.setRow b (cur.take off ++ cellsL v ++ cur.drop (off + s)).toArray) := by
  have hsz : v.cells.size = s := by rw [cellsL_eq]; simpa using hs
  simp only [storeVar, Sem.run_bind, run_sizeOf hl, Result.andThen_ok, hsz, ne_eq, not_true_eq_false, if_false]
  have := run_storeCells_at (P := P) b t' off (cellsL v) 0 cur.toArray w hg (by simp; omega) (fun x hx => by
    have := List.all_eq_true.1 h1 x hx
    cases x <;> first | rfl | cases this)
  rw [cellsL_eq]
  simpa [hs] using this

theorem ldI_pos {t : TypeId} {x : Bool × Nat} (h : ldI P t = some x) : ldI P t = some (x.1, x.2) := h

/-- A variable is made: it is the call's own. -/
theorem ok_alloc (L : Tabs P) {t : TypeId} {z : Value} {cs : List Value} (hn : Nat.blt d n = true) (hg : gK ops κ ⟨some d, .alloc t, ty, pos, aft, g⟩ = some true) (hz : L.zr t = some z) (hc : cellsL z = cs) :
    StepOK P w0 B n ops O κ ⟨some d, .alloc t, ty, pos, aft, g⟩ d (.own cs t) := by
  rintro κ' a u hl ⟨H, hh⟩
  have hn : d < n := by simpa using hn
  unfold After
  rw [if_pos (wanted_gK hh hl hg)]
  have hrun : (execOp a.eval ⟨some d, .alloc t, ty, pos, aft, g⟩).run P u = .ok (.value (.pointer (some ⟨u.heap.size, 0, none⟩))) (u.alloc (.cells cs.toArray t)) := by
    have hzz := Tabs.zr_spec hz
    unfold zrI at hzz
    split at hzz
    · rename_i i hi
      subst hc
      simp [execOp, Instr.alloc, zeroValue, typeInfo, hi, hzz, newVar, newRow, cellsL_eq]
    · cases hzz
  unfold Oper.wp
  rw [hrun]
  simp only [Oper.upon]
  have hg2 := hh.grow (Grow.hid hh.sub (.cells cs.toArray t))
  have hfresh : ∀ b x, u.heap[b]? = some x → b ≠ u.heap.size := fun b x hb e => by have := size_of_heap hb; omega
  have hnone : H u.heap.size = none := by
    cases hx : H u.heap.size with
    | none => rfl
    | some x => exact absurd rfl (hfresh _ x (hh.sub _ _ hx))
  refine ⟨H, by simp [Act.put, hh.size], hh.defers, hg2.below, hg2.sub, hh.base, hh.fresh, hg2.boxes, hh.apart, fun s k hk => ?_, fun s r cs1 ty1 cs2 ty2 hsr hs hr => ?_, fun s φ hk => ?_⟩
  · by_cases hsd : s = d
    · subst hsd
      rw [upd_same] at hk; cases hk
      refine ⟨_, by simp [Act.put, hh.size, hn], u.heap.size, rfl, heap_push_same _ _, hnone, hh.below.size, fun y hy => hfresh _ _ (hh.boxes y hy).1⟩
    · rw [upd_other _ _ hsd] at hk
      obtain ⟨v, hv, hv'⟩ := hg2.slot s k hk
      exact ⟨v, by simp only [Act.put]; rw [Array.getElem?_setIfInBounds_ne (Ne.symm hsd)]; exact hv, hv'⟩
  · have key : ∀ x cs ty, x ≠ d → upd κ' d (.own cs1 t) x = some (.own cs ty) → κ' x = some (.own cs ty) := fun x cs ty hxd hx => by rwa [upd_other _ _ hxd] at hx
    have old : ∀ x cs ty, x ≠ d → κ' x = some (.own cs ty) → (a.put (some d) (.pointer (some ⟨u.heap.size, 0, none⟩))).tmps[x]? ≠ some (.pointer (some ⟨u.heap.size, 0, none⟩)) := fun x cs ty hxd hx => by
      obtain ⟨v, hv, b, rfl, hb, _⟩ := hh.slot x _ hx
      simp only [Act.put]
      rw [Array.getElem?_setIfInBounds_ne (Ne.symm hxd), hv]
      intro e
      simp at e
      exact hfresh _ _ hb e
    have new : (a.put (some d) (.pointer (some ⟨u.heap.size, 0, none⟩))).tmps[d]? = some (.pointer (some ⟨u.heap.size, 0, none⟩)) := by simp [Act.put, hh.size, hn]
    by_cases h1 : s = d
    · subst h1
      rw [new]
      rw [upd_other _ _ (Ne.symm hsr)] at hr
      exact Ne.symm (old r _ _ (Ne.symm hsr) hr)
    · rw [upd_other _ _ h1] at hs
      by_cases h2 : r = d
      · subst h2; rw [new]; exact old s _ _ h1 hs
      · rw [upd_other _ _ h2] at hr
        simp only [Act.put]
        rw [Array.getElem?_setIfInBounds_ne (Ne.symm h1), Array.getElem?_setIfInBounds_ne (Ne.symm h2)]
        exact hh.owns s r _ _ _ _ hsr hs hr
  · by_cases hsd : s = d
    · subst hsd; rw [upd_same] at hk; cases hk
    · rw [upd_other _ _ hsd] at hk; exact hh.mono s φ hk

theorem below_setRow {w0 u : World} {b : Nat} (h : Below w0.heap.size w0 u) (hb : w0.heap.size ≤ b) (cs : Array Value) : Below w0.heap.size w0 (u.setRow b cs) :=
  ⟨h.os, h.tape, h.output, by rw [setRow_size]; exact h.size, fun k hk => by rw [setRow_other _ _ _ _ (by omega)]; exact h.block k hk⟩

/-- A store into a variable that a slot alone knows. -/
theorem ok_store (L : Tabs P) {t t' : TypeId} {s : Nat} {ag : Bool} {z : Nat} {x : Operand} {v : Value} {cs cs' : List Value} (hg : gK ops κ ⟨none, .store t (.tmp s) x, ty, pos, aft, g⟩ = some true) (hk : κ s = some (.own cs t')) (hx : evK κ x = some v)
    (hl : L.ld t = some (ag, z)) (hlen : (cellsL v).length = z) (hcs : Nat.ble z cs.length = true) (hp : (cellsL v).all plainV = true) (hr : cellsL v ++ cs.drop z = cs') :
    StepOK P w0 B n ops O κ ⟨none, .store t (.tmp s) x, ty, pos, aft, g⟩ s (.own cs' t') := by
  rintro κ' a u hlk ⟨H, hh⟩
  subst hr
  unfold After
  rw [if_pos (wanted_gK hh hlk hg)]
  have e := hh.env hlk
  have hev := e.is_ x v (by simp [Op.operands]) hx
  have hks : κ' s = some (.own cs t') := (hlk s (looks_of (by simp [Op.operands]))).trans hk
  obtain ⟨pv, hpv, b, rfl, hb, hH, hw, hO⟩ := hh.slot s _ hks
  have hes : a.eval (.tmp s) = .pointer (some ⟨b, 0, none⟩) := eval_tmp hpv
  have hrun : (execOp a.eval ⟨none, .store t (.tmp s) x, ty, pos, aft, g⟩).run P u = .ok .skip (u.setRow b (cellsL v ++ cs.drop z).toArray) := by
    simp only [execOp, hes, hev, Instr.storeAt, Instr.sureAddr, Sem.run_bind, Sem.run_pure, Result.andThen_ok]
    have := run_storeVar_at (P := P) (off := 0) (Tabs.ld_spec hl) hb hlen (by have := Nat.le_of_ble_eq_true hcs; omega) hp
    rw [this]
    simp
  unfold Oper.wp
  rw [hrun]
  simp only [Oper.upon, Act.put]
  have hset := setRow_heap u b cs.toArray (cellsL v ++ cs.drop z).toArray t' (0, 0) hb
  refine ⟨H, hh.size, hh.defers, below_setRow hh.below hw _, fun k o ho => ?_, hh.base, hh.fresh, fun y hy => ?_, hh.apart, fun r k hk => ?_, fun r q cs1 ty1 cs2 ty2 hrq hr hq => ?_, fun r φ hk => ?_⟩
  · have : k ≠ b := fun e => by subst e; rw [hH] at ho; cases ho
    show (u.setRow b _).heap[k]? = some o
    rw [setRow_other _ _ _ _ this]; exact hh.sub k o ho
  · obtain ⟨h1, h2, h3⟩ := hh.boxes y hy
    exact ⟨by rw [setRow_other _ _ _ _ (hO y hy)]; exact h1, h2, h3⟩
  · by_cases hrs : r = s
    · subst hrs
      rw [upd_same] at hk; cases hk
      exact ⟨_, hpv, b, rfl, hset, hH, hw, hO⟩
    · rw [upd_other _ _ hrs] at hk
      obtain ⟨x', hx', hh'⟩ := hh.slot r k hk
      refine ⟨x', hx', ?_⟩
      cases k with
      | is _ => exact hh'
      | sat _ => exact hh'
      | own cs1 ty1 =>
        obtain ⟨b', rfl, g1, g2, g3, g4⟩ := hh'
        have hne : b' ≠ b := fun e => by
          subst e
          exact hh.owns r s _ _ _ _ hrs hk hks (by rw [hx', hpv])
        exact ⟨b', rfl, by rw [setRow_other _ _ _ _ hne]; exact g1, g2, g3, g4⟩
  · have key : ∀ x cs1 ty1, upd κ' s (.own (cellsL v ++ cs.drop z) t') x = some (.own cs1 ty1) → ∃ cs2 ty2, κ' x = some (.own cs2 ty2) := fun x cs1 ty1 hx => by
      by_cases hxs : x = s
      · subst hxs; exact ⟨_, _, hks⟩
      · rw [upd_other _ _ hxs] at hx; exact ⟨_, _, hx⟩
    obtain ⟨_, _, k1⟩ := key _ _ _ hr
    obtain ⟨_, _, k2⟩ := key _ _ _ hq
    exact hh.owns r q _ _ _ _ hrq k1 k2
  · by_cases hrs : r = s
    · subst hrs; rw [upd_same] at hk; cases hk
    · rw [upd_other _ _ hrs] at hk; exact hh.mono r φ hk

/-- A store into a block of the call's own that has a number (straight code alone). -/
theorem box_store (L : Tabs P) {Fin : Boxes → Kap → Prop} {os : List Oper} {t t' : TypeId} {ag : Bool} {z b off : Nat} {p x : Operand} {v : Value} {O1 O2 : Boxes} {cs cs' : List Value}
    (hO : O = O1 ++ (b, cs, t') :: O2) (hg : gK ops κ ⟨none, .store t p x, ty, pos, aft, g⟩ = some true) (hp : evK κ p = some (.pointer (some ⟨b, off, none⟩))) (hx : evK κ x = some v)
    (hl : L.ld t = some (ag, z)) (hlen : (cellsL v).length = z) (hcs : Nat.ble (off + z) cs.length = true) (hpl : (cellsL v).all plainV = true) (hr : cs.take off ++ (cellsL v ++ cs.drop (off + z)) = cs')
    (h : Par P w0 B n ops Fin false os (O1 ++ (b, cs', t') :: O2) κ) : Par P w0 B n ops Fin false (⟨none, .store t p x, ty, pos, aft, g⟩ :: os) O κ := by
  refine .inr ⟨rfl, O1 ++ (b, cs', t') :: O2, κ, ?_, h⟩
  rintro a u ⟨H, hh⟩
  subst hO
  subst hr
  unfold After
  rw [if_pos (wanted_gK hh (fun _ _ => rfl) hg)]
  have e := hh.env (ops := ops) (o := ⟨none, .store t p x, ty, pos, aft, g⟩) (fun _ _ => rfl)
  have hev := e.is_ x v (by simp [Op.operands]) hx
  have hes := e.is_ p _ (by simp [Op.operands]) hp
  have hmem : (b, cs, t') ∈ O1 ++ (b, cs, t') :: O2 := by simp
  obtain ⟨hb, hH, hw⟩ := hh.boxes _ hmem
  have hrun : (execOp a.eval ⟨none, .store t p x, ty, pos, aft, g⟩).run P u = .ok .skip (u.setRow b (cs.take off ++ (cellsL v ++ cs.drop (off + z))).toArray) := by
    simp only [execOp, hes, hev, Instr.storeAt, Instr.sureAddr, Sem.run_bind, Sem.run_pure, Result.andThen_ok]
    have := run_storeVar_at (P := P) (off := off) (Tabs.ld_spec hl) hb hlen (Nat.le_of_ble_eq_true hcs) hpl
    rw [this]
    simp
  unfold Oper.wp
  rw [hrun]
  simp only [Oper.upon, Act.put]
  have hset := setRow_heap u b cs.toArray (cs.take off ++ (cellsL v ++ cs.drop (off + z))).toArray t' (0, 0) hb
  have hap := List.pairwise_append.1 hh.apart
  have hne : ∀ y, (y ∈ O1 ∨ y ∈ O2) → y.1 ≠ b := fun y hy => by
    rcases hy with hy | hy
    · exact hap.2.2 y hy _ (List.mem_cons_self ..)
    · exact Ne.symm ((List.pairwise_cons.1 hap.2.1).1 y hy)
  refine ⟨H, hh.size, hh.defers, below_setRow hh.below hw _, fun k o ho => ?_, hh.base, hh.fresh, fun y hy => ?_, ?_, fun r k hk => ?_, hh.owns, hh.mono⟩
  · have : k ≠ b := fun e => by subst e; rw [hH] at ho; cases ho
    show (u.setRow b _).heap[k]? = some o
    rw [setRow_other _ _ _ _ this]; exact hh.sub k o ho
  · rcases List.mem_append.1 hy with hy | hy
    · obtain ⟨h1, h2, h3⟩ := hh.boxes y (List.mem_append_left _ hy)
      exact ⟨by rw [setRow_other _ _ _ _ (hne y (.inl hy))]; exact h1, h2, h3⟩
    · rcases List.mem_cons.1 hy with rfl | hy
      · exact ⟨hset, hH, hw⟩
      · obtain ⟨h1, h2, h3⟩ := hh.boxes y (List.mem_append_right _ (List.mem_cons_of_mem _ hy))
        exact ⟨by rw [setRow_other _ _ _ _ (hne y (.inr hy))]; exact h1, h2, h3⟩
  · refine List.pairwise_append.2 ⟨hap.1, List.pairwise_cons.2 ⟨fun y hy => (List.pairwise_cons.1 hap.2.1).1 y hy, (List.pairwise_cons.1 hap.2.1).2⟩, fun y hy z hz => ?_⟩
    rcases List.mem_cons.1 hz with rfl | hz
    · exact hne y (.inl hy)
    · exact hap.2.2 y hy z (List.mem_cons_of_mem _ hz)
  · obtain ⟨x', hx', hh'⟩ := hh.slot r k hk
    refine ⟨x', hx', ?_⟩
    cases k with
    | is _ => exact hh'
    | sat _ => exact hh'
    | own cs1 ty1 =>
      obtain ⟨b', rfl, g1, g2, g3, g4⟩ := hh'
      have hne' : b' ≠ b := fun e => by subst e; exact g4 _ hmem rfl
      refine ⟨b', rfl, by rw [setRow_other _ _ _ _ hne']; exact g1, g2, g3, fun y hy => ?_⟩
      rcases List.mem_append.1 hy with hy | hy
      · exact g4 y (List.mem_append_left _ hy)
      · rcases List.mem_cons.1 hy with rfl | hy
        · exact Ne.symm hne'
        · exact g4 y (List.mem_append_right _ (List.mem_cons_of_mem _ hy))
end mem
end Go.V
