/- The kit's sixth floor: structs that are put together and compared; slices that are laid, indexed, cut. -/
import Derived.Test.YtpnmjelhnacmlaaKitE
namespace Go.V
open Go.RowKit

/-! ### putting a struct together -/
def buildL (places : List (Nat × Nat)) : List Value → List (Nat × Value) → Option (List Value)
  | cells, [] => some cells
  | cells, (i, v) :: rest => match places[i]? with
    | none => none
    | some (off, size) => bif Nat.beq (cellsL v).length size && Nat.ble (off + size) cells.length then buildL places (cells.take off ++ (cellsL v ++ cells.drop (off + size))) rest else none
def plI (P : Program) (t : TypeId) : Option (List (Nat × Nat)) :=
  match P.underlying t with
  | some (.struct fs) => fs.toList.mapM fun f => (P.info? f.type).map fun i => (f.offset, i.size)
  | some (.array n e) => match P.info? e with
    | some ie => some ((List.range n).map fun i => (i * ie.size, ie.size))
    | none => none
  | _ => none
theorem foldl_set : ∀ (vs : List Value) (k off : Nat) (cells : Array Value), off + k + vs.length ≤ cells.size →
    ((vs.zipIdx k).foldl (fun cs (p : Value × Nat) => cs.setIfInBounds (off + p.2) p.1) cells) = (cells.toList.take (off + k) ++ vs ++ cells.toList.drop (off + k + vs.length)).toArray
  | [], k, off, cells, _ => by simp
  | v :: vs, k, off, cells, h => by
    simp only [List.zipIdx_cons, List.foldl_cons]
    rw [foldl_set vs (k + 1) off _ (by simp at h ⊢; omega)]
    apply congrArg List.toArray
    simp only [Array.toList_setIfInBounds, List.length_cons]
    simp only [List.length_cons] at h
    have e1 : (cells.toList.set (off + k) v).take (off + (k + 1)) = cells.toList.take (off + k) ++ [v] := by
      rw [show off + (k + 1) = (off + k) + 1 by omega, List.take_add_one, List.take_set_of_le (Nat.le_refl _), List.getElem?_set_self (by simp; omega)]
      rfl
    have e2 : (cells.toList.set (off + k) v).drop (off + (k + 1) + vs.length) = cells.toList.drop (off + k + (vs.length + 1)) := by
      rw [List.drop_set_of_lt (by omega)]
      congr 1
      omega
    rw [e1, e2]
    simp
theorem fill_buildL {place : Nat → Option (Nat × Nat)} {places : List (Nat × Nat)} (hp : ∀ i p, places[i]? = some p → place i = some p) : ∀ (parts : List (Nat × Value)) (cells r : List Value), buildL places cells parts = some r →
    Instr.fill place cells.toArray parts = some r.toArray
  | [], cells, r, h => by simp only [buildL] at h; cases h; rfl
  | (i, v) :: rest, cells, r, h => by
    simp only [buildL] at h
    split at h
    · cases h
    · rename_i off size hpl
      cases hb : Nat.beq (cellsL v).length size && Nat.ble (off + size) cells.length with
      | false => rw [hb] at h; cases h
      | true =>
        rw [hb] at h
        simp only [Bool.and_eq_true] at hb
        have h1 := Nat.eq_of_beq_eq_true hb.1
        have h2 := Nat.le_of_ble_eq_true hb.2
        have hsz : v.cells.size = size := by rw [cellsL_eq]; simpa using h1
        simp only [Instr.fill, hp i _ hpl, hsz]
        rw [if_neg (by simp; omega)]
        rw [cellsL_eq, ← Array.foldl_toList]
        simp only [Array.toList_zipIdx]
        rw [foldl_set (cellsL v) 0 off cells.toArray (by simp; omega)]
        have := fill_buildL hp rest _ r h
        simpa [h1] using this
def evP (κ : Kap) : List (Nat × Operand) → Option (List (Nat × Value))
  | [] => some []
  | (i, x) :: xs => match evK κ x, evP κ xs with
    | some v, some vs => some ((i, v) :: vs)
    | _, _ => none
section
variable {P : Program} {F : Fr} {B : Heap} {O : Boxes} {n : Nat} {ops : Array Oper} {κ : Kap} {d : Nat} {ty : TypeId} {pos : String} {aft : Array Edge} {g : Option (Nat × Bool)}
theorem evP_map {o : Oper} {a : Act} {u : World} {H : Heap} {fp : Nat → Nat → Prop} (e : Env F B O κ o a u H fp) : ∀ (xs : List (Nat × Operand)) (vs : List (Nat × Value)), (∀ p ∈ xs, p.2 ∈ o.op.operands) → evP κ xs = some vs → xs.map (fun p => (p.1, a.eval p.2)) = vs
  | [], vs, _, h => by simp only [evP] at h; cases h; rfl
  | (i, x) :: xs, vs, hx, h => by
    simp only [evP] at h
    split at h
    · rename_i v vs' h1 h2
      cases h
      rw [List.map_cons, evP_map e xs vs' (fun p hp => hx p (List.mem_cons_of_mem _ hp)) h2, e.is_ x v (hx (i, x) (List.mem_cons_self ..)) h1]
    · cases h
structure PL (P : Program) (t : TypeId) (places : List (Nat × Nat)) (z : List Value) : Prop where
  pl : plI P t = some places
  zr : ∃ zv, zrI P t = some zv ∧ cellsL zv = z
theorem ok_build {t : TypeId} {parts : Array (Nat × Operand)} {places : List (Nat × Nat)} {z cs : List Value} {vs : List (Nat × Value)} (hn : Nat.blt d n = true) (hg : gK ops κ ⟨some d, .build t parts, ty, pos, aft, g⟩ = some true)
    (hp : PL P t places z) (hv : evP κ parts.toList = some vs) (hc : buildL places z vs = some cs) : StepOK P F B n ops O κ ⟨some d, .build t parts, ty, pos, aft, g⟩ d (.is (.agg cs.toArray)) :=
  ok_pure rfl (by simpa using hn) hg trivial fun a u H fp e => ⟨_, by
    have hm := evP_map e parts.toList vs (fun p hp' => by simp [Op.operands]; exact ⟨p.1, by simpa using hp'⟩) hv
    obtain ⟨zv, hz1, hz2⟩ := hp.zr
    have hbt : P.built t vs = some cs.toArray := by
      have hpl := hp.pl
      unfold plI at hpl
      unfold zrI at hz1
      split at hz1
      · rename_i it hit
        unfold Program.built
        split at hpl
        · rename_i fs hu
          simp only [hit, hu, hz1, hpl]
          rw [cellsL_eq, hz2]
          exact fill_buildL (fun i p h => by simpa using h) vs z cs hc
        · rename_i m el hu
          split at hpl
          · rename_i ie hie
            simp only [hit, hu, hz1, hie]
            cases hpl
            rw [cellsL_eq, hz2]
            exact fill_buildL (fun i p h => by
              rw [List.getElem?_map] at h
              cases hr : (List.range m)[i]? with
              | none => rw [hr] at h; cases h
              | some j =>
                rw [hr] at h
                have : j = i := by
                  have := List.getElem?_eq_some_iff.1 hr
                  obtain ⟨h1, h2⟩ := this
                  simpa using h2.symm
                subst this
                simpa using h) vs z cs hc
          · cases hpl
        · cases hpl
      · cases hz1
    have hr := run_build (P := P) u t vs.toArray cs.toArray (by simpa using hbt)
    have harr : (parts.map fun (p : Nat × Operand) => (p.1, a.eval p.2)) = vs.toArray := by
      rw [← hm, ← List.map_toArray, Array.toArray_toList]
    simp only [execOp, Sem.run_bind]
    show Result.andThen ((Instr.build t (parts.map fun (p : Nat × Operand) => (p.1, a.eval p.2))).run P u) _ = _
    rw [harr, hr]
    rfl, rfl⟩

/-! ### a slice that is laid element by element -/
def SlB (cs : List Value) (e : TypeId) (len : Nat) : Value → Heap → Prop := fun v H => ∃ b, v = .slice (some ⟨b, 0, none⟩) len len ∧ H b = some (.cells cs.toArray e)
theorem SlB.mono {cs : List Value} {e : TypeId} {len : Nat} : Kn.mono (.sat (SlB cs e len)) := fun _ _ _ ⟨b, hv, hb⟩ hl => ⟨b, hv, hl _ _ hb⟩
def flatV : List (Nat × Value) → List Value
  | [] => []
  | p :: ps => cellsL p.2 ++ flatV ps
def enumB (s : Nat) : Nat → List (Nat × Value) → Bool
  | _, [] => true
  | i, p :: ps => Nat.beq p.1 i && (Nat.beq (cellsL p.2).length s && enumB s (i + 1) ps)
theorem flatV_length {s : Nat} : ∀ (ps : List (Nat × Value)) (i : Nat), enumB s i ps = true → (flatV ps).length = ps.length * s
  | [], _, _ => by simp [flatV]
  | p :: ps, i, h => by
    simp only [enumB, Bool.and_eq_true] at h
    have h1 := Nat.eq_of_beq_eq_true h.2.1
    simp only [flatV, List.length_append, h1, flatV_length ps (i + 1) h.2.2, List.length_cons]
    rw [Nat.succ_mul]; omega
theorem fill_enum {s : Nat} : ∀ (ps : List (Nat × Value)) (i : Nat) (cells : Array Value), enumB s i ps = true → cells.size = (i + ps.length) * s →
    Instr.fill (fun i => some (i * s, s)) cells ps = some (cells.toList.take (i * s) ++ flatV ps).toArray
  | [], i, cells, _, hs => by
    simp only [Instr.fill, flatV, List.append_nil]
    rw [List.take_of_length_le (by simp at hs ⊢; omega)]
  | (j, v) :: ps, i, cells, h, hs => by
    simp only [enumB, Bool.and_eq_true] at h
    obtain rfl := Nat.eq_of_beq_eq_true h.1
    have h1 := Nat.eq_of_beq_eq_true h.2.1
    have hsz : v.cells.size = s := by rw [cellsL_eq]; simpa using h1
    have hle : j * s + s ≤ cells.size := by
      rw [hs]
      have : (j + (ps.length + 1)) * s = j * s + s + ps.length * s := by rw [Nat.add_mul, Nat.succ_mul]; omega
      simp only [List.length_cons]; omega
    simp only [Instr.fill, hsz]
    rw [if_neg (by simp; omega)]
    rw [cellsL_eq, ← Array.foldl_toList]
    simp only [Array.toList_zipIdx]
    rw [foldl_set (cellsL v) 0 (j * s) cells (by rw [h1]; omega)]
    have hs2 : cells.size = (j + 1 + ps.length) * s := by rw [hs]; congr 1; simp only [List.length_cons]; omega
    rw [fill_enum ps (j + 1) _ h.2.2 (by
      simp only [List.size_toArray, List.length_append, List.length_take, List.length_drop, Array.length_toList, h1]
      rw [← hs2]
      omega)]
    congr 2
    have h2 : (j + 1) * s = j * s + s := Nat.succ_mul j s
    have h3 : (cells.toList.take (j * s + 0) ++ cellsL v).length = (j + 1) * s := by
      simp only [List.length_append, List.length_take, Array.length_toList, h1]; omega
    rw [List.take_append_of_le_length (by simp only [h3]; omega), List.take_of_length_le (by simp only [h3]; omega)]
    simp [flatV]
theorem ok_buildSlice (L : Tabs P) {t e : TypeId} {ag : Bool} {s len : Nat} {parts : Array (Nat × Operand)} {z : Value} {vs : List (Nat × Value)} (hn : Nat.blt d n = true) (hg : gK ops κ ⟨some d, .buildSlice t len parts, ty, pos, aft, g⟩ = some true)
    (ht : L.sl t = some e) (hl : L.ld e = some (ag, s)) (hz : L.zr e = some z) (hv : evP κ parts.toList = some vs) (hlen : vs.length = len) (hen : enumB s 0 vs = true) (hb : Nat.ble (len * s) 16777216 = true) :
    StepOK P F B n ops O κ ⟨some d, .buildSlice t len parts, ty, pos, aft, g⟩ d (.sat (SlB (flatV vs) e len)) :=
  ok_run rfl (by simpa using hn) hg SlB.mono fun a u H fp en => by
    refine ⟨.slice (some ⟨u.heap.size, 0, none⟩) len len, u.alloc (.cells (flatV vs).toArray e), _, ?_, Grow.new en.sub _, ⟨_, rfl, by simp⟩⟩
    have hm := evP_map en parts.toList vs (fun p hp' => by simp [Op.operands]; exact ⟨p.1, by simpa using hp'⟩) hv
    have harr : (parts.map fun (p : Nat × Operand) => (p.1, a.eval p.2)) = vs.toArray := by
      rw [← hm, ← List.map_toArray, Array.toArray_toList]
    have hb' := Nat.le_of_ble_eq_true hb
    have hzz := Tabs.zr_spec hz
    unfold zrI at hzz
    split at hzz
    · rename_i it hit
      have hzr : (zeroValue e).run P u = .ok z u := by simp [zeroValue, typeInfo, hit, hzz]
      simp only [execOp, Sem.run_bind]
      show Result.andThen ((Instr.buildSlice t len (parts.map fun (p : Nat × Operand) => (p.1, a.eval p.2))).run P u) _ = _
      rw [harr]
      simp only [Instr.buildSlice, Sem.run_bind, run_underlying (Tabs.sl_spec ht), Result.andThen_ok, run_sizeOf (Tabs.ld_spec hl)]
      rw [if_neg (by omega)]
      have hfill : ∀ cells : Array Value, cells.size = len * s → Instr.fill (fun i => some (i * s, s)) cells vs = some (flatV vs).toArray := fun cells hc => by
        have := fill_enum vs 0 cells hen (by rw [hc, hlen]; simp)
        simpa using this
      by_cases h0 : len * s = 0
      · simp only [h0, if_true, Sem.run_bind, Sem.run_pure, Result.andThen_ok]
        rw [hfill _ (by simp [h0])]
        simp [newRow]
      · simp only [h0, if_false, Sem.run_bind, Sem.run_pure, Result.andThen_ok, hzr]
        rw [hfill _ (by simp)]
        simp [newRow]
    · cases hzz
end
end Go.V
