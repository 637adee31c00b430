/- The kit's tenth floor: slices that are seen, slices that are owned. -/
import Derived.Test.YtpnmjelhnacmlaaKitI
import Derived.Laws.AppendOwn
import Derived.Laws.MakeOwn
namespace Go.V
open Go.RowKit
theorem wrap_u8 {z : Int} (h1 : 0 ≤ z) (h2 : z ≤ 255) : IntKind.u8.wrap z = z := IntWalk.u8_in z ⟨h1, h2⟩
theorem wrap_u16 {z : Int} (h1 : 0 ≤ z) (h2 : z ≤ 65535) : IntKind.u16.wrap z = z := IntWalk.u16_in z ⟨h1, h2⟩
theorem wrap_u32 {z : Int} (h1 : 0 ≤ z) (h2 : z ≤ 4294967295) : IntKind.u32.wrap z = z := IntWalk.u32_in z ⟨h1, h2⟩
theorem wrap_u64 {z : Int} (h1 : 0 ≤ z) (h2 : z ≤ 18446744073709551615) : IntKind.u64.wrap z = z := IntWalk.u64_in z ⟨h1, h2⟩
theorem wrap_i8 {z : Int} (h1 : -128 ≤ z) (h2 : z ≤ 127) : IntKind.i8.wrap z = z := IntWalk.i8_in z ⟨h1, h2⟩
theorem wrap_i16 {z : Int} (h1 : -32768 ≤ z) (h2 : z ≤ 32767) : IntKind.i16.wrap z = z := IntWalk.i16_in z ⟨h1, h2⟩
theorem wrap_i32 {z : Int} (h1 : -2147483648 ≤ z) (h2 : z ≤ 2147483647) : IntKind.i32.wrap z = z := IntWalk.i32_in z ⟨h1, h2⟩

/-- An element's cells and bytes. -/
def elI (P : Program) (e : TypeId) : Option (Nat × Nat) := match P.info? e with
  | some i => match i.zero with
    | some z => if z.cells.size = i.size ∧ 0 < i.size then some (i.size, i.bytes) else none
    | none => none
  | none => none
theorem elI_spec {P : Program} {e : TypeId} {s by_ : Nat} (h : elI P e = some (s, by_)) : ∃ i z, P.info? e = some i ∧ i.zero = some z ∧ i.size = s ∧ i.bytes = by_ ∧ z.cells.size = s ∧ 0 < s := by
  unfold elI at h
  split at h
  · rename_i i hi
    split at h
    · rename_i z hz
      split at h
      · rename_i hc; cases h; exact ⟨i, z, hi, hz, rfl, rfl, hc.1, hc.2⟩
      · cases h
    · cases h
  · cases h
theorem plain_one {v : Value} (h : plainV v = true) : v.oneCell' = true := by cases v <;> first | rfl | cases h

/-! ### slices that are seen -/
/-- A slice of n elements of s cells each; 'fu': it has no spare capacity. -/
def SlV (_ : TypeId) (s : Nat) (xs : List Value) (n : Nat) (fu : Bool) : Value → Heap → Prop := fun v H => xs.length = n * s ∧
  ((n = 0 ∧ v = .slice none 0 0) ∨ ∃ b off cap cs ty0 fr, v = .slice (some ⟨b, off, none⟩) n cap ∧ H b = some (.cells cs ty0 fr) ∧ (cs.toList.drop off).take xs.length = xs ∧ n ≤ cap ∧ (fu = true → cap = n))
theorem SlV.mono {e : TypeId} {s n : Nat} {xs : List Value} {fu : Bool} : Kn.mono (.sat (SlV e s xs n fu)) := fun _ _ _ ⟨hl, h⟩ hle => ⟨hl, by
  rcases h with h | ⟨b, off, cap, cs, ty0, fr, h1, h2, h3⟩
  · exact .inl h
  · exact .inr ⟨b, off, cap, cs, ty0, fr, h1, hle _ _ h2, h3⟩⟩
theorem SlV.le {e : TypeId} {s n : Nat} {xs : List Value} {fu : Bool} {v : Value} {H H' : Heap} (h : SlV e s xs n fu v H) (hle : H.Le H') : SlV e s xs n fu v H' := SlV.mono _ _ _ h hle
theorem SlV.nofu {e : TypeId} {s n : Nat} {xs : List Value} {fu : Bool} {v : Value} {H : Heap} (h : SlV e s xs n fu v H) : SlV e s xs n false v H := ⟨h.1, by
  rcases h.2 with h | ⟨b, off, cap, cs, ty0, fr, h1, h2, h3, h4, _⟩
  · exact .inl h
  · exact .inr ⟨b, off, cap, cs, ty0, fr, h1, h2, h3, h4, fun h => by cases h⟩⟩
theorem SlB.toV {e : TypeId} {s n : Nat} {xs : List Value} {v : Value} {H : Heap} (h : SlB xs e n v H) (hl : xs.length = n * s) : SlV e s xs n true v H :=
  let ⟨b, h1, h2⟩ := h; ⟨hl, .inr ⟨b, 0, n, _, _, (0, 0), h1, h2, by simp, Nat.le_refl _, fun _ => rfl⟩⟩
theorem SlV.nil {e : TypeId} {s : Nat} {fu : Bool} {H : Heap} : SlV e s [] 0 fu (.slice none 0 0) H := ⟨by simp, .inl ⟨rfl, rfl⟩⟩
/-- A pointer behind which some cells are known. -/
def AtP (ys : List Value) : Value → Heap → Prop := fun v H => ∃ b off cs t fr, v = .pointer (some ⟨b, off, none⟩) ∧ H b = some (.cells cs t fr) ∧ (cs.toList.drop off).take ys.length = ys
theorem AtP.mono {ys : List Value} : Kn.mono (.sat (AtP ys)) := fun _ _ _ ⟨b, off, cs, t, fr, h1, h2, h3⟩ hle => ⟨b, off, cs, t, fr, h1, hle _ _ h2, h3⟩
theorem AtP.drop {ys : List Value} {off : Nat} {cs : Array Value} (k : Nat) (h : (cs.toList.drop off).take ys.length = ys) : (cs.toList.drop (off + k)).take (ys.drop k).length = ys.drop k := by
  have := congrArg (List.drop k) h
  rw [List.drop_take, List.drop_drop] at this
  rw [List.length_drop]
  exact this
theorem AtP.get {ys : List Value} {off j : Nat} {cs : List Value} {v : Value} (h : (cs.drop off).take ys.length = ys) (hj : ys[j]? = some v) : cs[off + j]? = some v := by
  have hlt : j < ys.length := by
    rcases Nat.lt_or_ge j ys.length with h | h
    · exact h
    · rw [List.getElem?_eq_none h] at hj; cases hj
  have := congrArg (·[j]?) h
  simp only [List.getElem?_take_of_lt hlt, List.getElem?_drop] at this
  rw [this]; exact hj
theorem toNat_ofNat (j : Nat) : ((j : Int)).toNat = j := Int.toNat_natCast j

section
variable {P : Program} {F : Fr} {B : Heap} {O : Boxes} {n : Nat} {ops : Array Oper} {κ : Kap} {d : Nat} {ty : TypeId} {pos : String} {aft : Array Edge} {g : Option (Nat × Bool)} {a : Act} {u : World} {H : Heap} {fp : Nat → Nat → Prop} {os : List Oper} {Q : Exit → Act → World → Prop} {ex : Exs}
theorem ok_lenV (L : Tabs P) {q : Nat} {tt e e' : TypeId} {s m : Nat} {xs : List Value} {fu : Bool} (hn : Nat.blt d n = true) (hg : gK ops κ ⟨some d, .call ⟨.builtin .len, #[.tmp q], #[tt]⟩, ty, pos, aft, g⟩ = some true) (hx : κ q = some (.sat (SlV e' s xs m fu))) (ht : L.sl tt = some e) :
    StepOK P F B n ops O κ ⟨some d, .call ⟨.builtin .len, #[.tmp q], #[tt]⟩, ty, pos, aft, g⟩ d (.is (.int .i64 m)) :=
  ok_pure rfl (blt_lt hn) hg trivial fun a u H fp en => ⟨_, by
    obtain ⟨_, ⟨rfl, h1⟩ | ⟨b, off, cap, cs, ty0, fr, h1, _⟩⟩ := en.sat_ q _ (by simp [Op.operands, Call.operands]) hx
    · simp [execOp, resolve, h1, invoke, builtin, Builtin.len_, run_underlying (Tabs.sl_spec ht), goInt]
    · simp [execOp, resolve, h1, invoke, builtin, Builtin.len_, run_underlying (Tabs.sl_spec ht), goInt], rfl⟩
theorem ok_capV (L : Tabs P) {q : Nat} {tt e e' : TypeId} {s m : Nat} {xs : List Value} (hn : Nat.blt d n = true) (hg : gK ops κ ⟨some d, .call ⟨.builtin .cap, #[.tmp q], #[tt]⟩, ty, pos, aft, g⟩ = some true) (hx : κ q = some (.sat (SlV e' s xs m true))) (ht : L.sl tt = some e) :
    StepOK P F B n ops O κ ⟨some d, .call ⟨.builtin .cap, #[.tmp q], #[tt]⟩, ty, pos, aft, g⟩ d (.is (.int .i64 m)) :=
  ok_pure rfl (blt_lt hn) hg trivial fun a u H fp en => ⟨_, by
    obtain ⟨_, ⟨rfl, h1⟩ | ⟨b, off, cap, cs, ty0, fr, h1, _, _, _, hc⟩⟩ := en.sat_ q _ (by simp [Op.operands, Call.operands]) hx
    · simp [execOp, resolve, h1, invoke, builtin, Builtin.cap_, run_underlying (Tabs.sl_spec ht), goInt]
    · obtain rfl := hc rfl
      simp [execOp, resolve, h1, invoke, builtin, Builtin.cap_, run_underlying (Tabs.sl_spec ht), goInt], rfl⟩
theorem ok_indexV (L : Tabs P) {q : Nat} {y : Operand} {t e e' : TypeId} {ag : Bool} {s m : Nat} {k : IntKind} {p : Int} {xs ys : List Value} {fu : Bool} (j : Nat) (hn : Nat.blt d n = true) (hg : gK ops κ ⟨some d, .indexAddr t (.tmp q) y, ty, pos, aft, g⟩ = some true)
    (hx : κ q = some (.sat (SlV e' s xs m fu))) (hy : evK κ y = some (.int k p)) (ht : L.sl t = some e) (hl : L.ld e = some (ag, s)) (hj : p = j) (hi : j < m) (hys : (xs.drop (j * s)).take s = ys) :
    StepOK P F B n ops O κ ⟨some d, .indexAddr t (.tmp q) y, ty, pos, aft, g⟩ d (.sat (AtP ys)) :=
  ok_pure rfl (blt_lt hn) hg AtP.mono fun a u H fp en => by
    have h2 := en.is_ y _ (by simp [Op.operands]) hy
    subst hj
    have hu := Tabs.sl_spec ht
    obtain ⟨hlen, ⟨rfl, h1⟩ | ⟨b, off, cap, cs, ty0, fr, h1, hb, hr, _, _⟩⟩ := en.sat_ q _ (by simp [Op.operands]) hx
    · omega
    · refine ⟨.pointer (some ⟨b, off + j * s, none⟩), ?_, b, off + j * s, cs, _, fr, rfl, hb, ?_⟩
      · simp only [execOp, h1, h2, Instr.indexAt, Sem.run_bind, asIntOf, Sem.run_pure, Result.andThen_ok, run_underlying hu]
        rw [if_pos (by omega)]
        simp [run_sizeOf (Tabs.ld_spec hl), addr_add]
      · have h3 := AtP.drop (j * s) hr
        have hsz : (xs.drop (j * s)).length ≥ s := by
          rw [List.length_drop, hlen, ← Nat.sub_mul]
          exact Nat.le_mul_of_pos_left _ (by omega)
        have h4 := congrArg (List.take s) h3
        rw [List.take_take, Nat.min_eq_left hsz, hys] at h4
        have hyl : ys.length = s := by rw [← hys, List.length_take]; omega
        rw [hyl]; exact h4
theorem ok_fieldAP (L : Tabs P) {t : Nat} {st : TypeId} {i fo : Nat} {ys : List Value} (hx : κ t = some (.sat (AtP ys))) (hn : Nat.blt d n = true) (hg : gK ops κ ⟨some d, .fieldAddr st (.tmp t) i, ty, pos, aft, g⟩ = some true)
    (hf : L.fo st i = some fo) : StepOK P F B n ops O κ ⟨some d, .fieldAddr st (.tmp t) i, ty, pos, aft, g⟩ d (.sat (AtP (ys.drop fo))) :=
  ok_pure rfl (blt_lt hn) hg AtP.mono fun a u H fp e => by
    obtain ⟨fs, f, j, h1, h2, h3, h4, h5⟩ := Tabs.fo_spec hf
    obtain ⟨b, off, cs, t', fr, hv, hb, hr⟩ := e.sat_ t _ (by simp [Op.operands]) hx
    refine ⟨.pointer (some ⟨b, off + fo, none⟩), ?_, b, off + fo, cs, t', fr, rfl, hb, AtP.drop fo hr⟩
    simp only [execOp, hv, Instr.fieldAt, Sem.run_bind, run_underlying h1, Result.andThen_ok, h2, Instr.sureAddr, Sem.run_pure, run_fieldPlace h3 h4]
    simp [Addr.add, h5]
theorem ok_loadP1 (L : Tabs P) {q : Nat} {t : TypeId} {s : Nat} {ys r : List Value} {v : Value} (hx : κ q = some (.sat (AtP ys))) (hn : Nat.blt d n = true) (hg : gK ops κ ⟨some d, .load t (.tmp q), ty, pos, aft, g⟩ = some true)
    (hl : L.ld t = some (false, s)) (hc : ys = v :: r) : StepOK P F B n ops O κ ⟨some d, .load t (.tmp q), ty, pos, aft, g⟩ d (.is v) :=
  ok_pure rfl (blt_lt hn) hg trivial fun a u H fp e => ⟨v, by
    obtain ⟨b, off, cs, t', fr, hv, hb, hr⟩ := e.sat_ q _ (by simp [Op.operands]) hx
    have h2 := e.sub _ _ hb
    have h3 := AtP.get (j := 0) hr (by rw [hc]; rfl)
    simp only [execOp, hv, Instr.loadAt, Instr.sureAddr, Sem.run_bind, Sem.run_pure, Result.andThen_ok]
    rw [run_loadVar_one (Tabs.ld_spec hl) u _ v (by rw [cell_of_heap h2]; simpa using h3)]
    rfl, rfl⟩
theorem ok_loadPA (L : Tabs P) {q : Nat} {t : TypeId} {s : Nat} {ys vs : List Value} (hx : κ q = some (.sat (AtP ys))) (hn : Nat.blt d n = true) (hg : gK ops κ ⟨some d, .load t (.tmp q), ty, pos, aft, g⟩ = some true)
    (hl : L.ld t = some (true, s)) (hlen : vs.length = s) (hc : ∃ r, ys = vs ++ r) : StepOK P F B n ops O κ ⟨some d, .load t (.tmp q), ty, pos, aft, g⟩ d (.is (.agg vs.toArray)) :=
  ok_pure rfl (blt_lt hn) hg trivial fun a u H fp e => ⟨_, by
    obtain ⟨b, off, cs, t', fr, hv, hb, hr⟩ := e.sat_ q _ (by simp [Op.operands]) hx
    obtain ⟨r, hc⟩ := hc
    have h2 := e.sub _ _ hb
    simp only [execOp, hv, Instr.loadAt, Instr.sureAddr, Sem.run_bind, Sem.run_pure, Result.andThen_ok]
    rw [run_loadVar_agg (Tabs.ld_spec hl) u _ vs hlen (fun j v hj => by
      have h3 := AtP.get (j := j) hr (by
        rw [hc, List.getElem?_append_left (by
          rcases Nat.lt_or_ge j vs.length with h | h
          · exact h
          · rw [List.getElem?_eq_none h] at hj; cases hj)]
        exact hj)
      rw [addr_add, cell_of_heap h2]; simpa using h3)]
    rfl, rfl⟩
theorem ok_nilAP {t : Nat} {ys : List Value} (hn : Nat.blt d n = true) (hg : gK ops κ ⟨some d, .nilCheck (.tmp t), ty, pos, aft, g⟩ = some true) (hx : κ t = some (.sat (AtP ys))) :
    StepOK P F B n ops O κ ⟨some d, .nilCheck (.tmp t), ty, pos, aft, g⟩ d (.sat (AtP ys)) :=
  ok_pure rfl (blt_lt hn) hg AtP.mono fun a u H fp en => by
    obtain ⟨b, off, cs, t', fr, hv, hb, hr⟩ := en.sat_ t _ (by simp [Op.operands]) hx
    exact ⟨.pointer (some ⟨b, off, none⟩), by simp [execOp, hv], b, off, cs, t', fr, rfl, hb, hr⟩
/-- A part of a slice: 's[i:j]', 's[i:j:j]'. -/
theorem ok_sliceV (L : Tabs P) {q : Nat} {tt e : TypeId} {s m : Nat} {xs ys : List Value} {fu : Bool} {lo hi mx : Option Operand} {kl kh km : IntKind} {ag : Bool} (i j : Nat) {pl ph pm : Int} (fu' : Bool) (hn : Nat.blt d n = true) (hg : gK ops κ ⟨some d, .slice tt (.tmp q) lo hi mx, ty, pos, aft, g⟩ = some true)
    (hx : κ q = some (.sat (SlV e s xs m fu))) (ht : L.sl tt = some e) (hl : L.ld e = some (ag, s))
    (hlo : match lo with | some y => evK κ y = some (.int kl pl) ∧ pl = i | none => i = 0) (hhi : match hi with | some y => evK κ y = some (.int kh ph) ∧ ph = j | none => j = m ∧ mx = none) (hmx : match mx with | some y => evK κ y = some (.int km pm) ∧ pm = j | none => fu' = true → fu = true ∧ j = m)
    (hij : i ≤ j) (hjs : j ≤ m) (hys : (xs.drop (i * s)).take ((j - i) * s) = ys) :
    StepOK P F B n ops O κ ⟨some d, .slice tt (.tmp q) lo hi mx, ty, pos, aft, g⟩ d (.sat (SlV e s ys (j - i) fu')) :=
  ok_pure rfl (blt_lt hn) hg SlV.mono fun a u H fp en => by
    have hu := Tabs.sl_spec ht
    obtain ⟨hlen, hv⟩ := en.sat_ q _ (by simp [Op.operands]) hx
    have hyl : ys.length = (j - i) * s := by
      rw [← hys, List.length_take, List.length_drop, hlen, ← Nat.sub_mul]
      exact Nat.min_eq_left (Nat.mul_le_mul_right _ (by omega))
    have hb : ∀ cap : Nat, m ≤ cap → ∃ cap', j ≤ cap' ∧ cap' ≤ cap ∧ (mx = none → cap' = cap) ∧ (mx ≠ none → cap' = j) ∧
        (Instr.sliceBounds true m cap (lo.map a.eval) (hi.map a.eval) (mx.map a.eval)).run P u = .ok (i, j, cap') u := fun cap hcap => by
      cases mx with
      | none =>
        refine ⟨cap, by omega, Nat.le_refl _, fun _ => rfl, fun h => absurd rfl h, ?_⟩
        cases hi with
        | none =>
          obtain ⟨rfl, _⟩ := hhi
          cases lo with
          | none => simp only at hlo; subst hlo; simp [Instr.sliceBounds]
          | some z =>
            obtain ⟨hz, rfl⟩ := hlo
            have h3 := en.is_ z _ (by simp [Op.operands]) hz
            simp [h3, Instr.sliceBounds, run_bound i kl _ _ hij]
        | some y =>
          obtain ⟨hy, rfl⟩ := hhi
          have h2 := en.is_ y _ (by simp [Op.operands]) hy
          cases lo with
          | none => simp only at hlo; subst hlo; simp [h2, Instr.sliceBounds, run_bound j kh cap _ (by omega)]
          | some z =>
            obtain ⟨hz, rfl⟩ := hlo
            have h3 := en.is_ z _ (by simp [Op.operands]) hz
            simp [h2, h3, Instr.sliceBounds, run_bound j kh cap _ (by omega), run_bound i kl _ _ hij]
      | some x =>
        refine ⟨j, Nat.le_refl _, by omega, fun h => (by cases h), fun _ => rfl, ?_⟩
        obtain ⟨hx', rfl⟩ := hmx
        have h1 := en.is_ x _ (by simp [Op.operands]) hx'
        cases hi with
        | none => cases hhi.2
        | some y =>
          obtain ⟨hy, rfl⟩ := hhi
          have h2 := en.is_ y _ (by simp [Op.operands]) hy
          cases lo with
          | none => simp only at hlo; subst hlo; simp [h1, h2, Instr.sliceBounds, run_bound j km cap _ (by omega), run_bound j kh j _ (Nat.le_refl _)]
          | some z =>
            obtain ⟨hz, rfl⟩ := hlo
            have h3 := en.is_ z _ (by simp [Op.operands]) hz
            simp [h1, h2, h3, Instr.sliceBounds, run_bound j km cap _ (by omega), run_bound j kh j _ (Nat.le_refl _), run_bound i kl _ _ hij]
    rcases hv with ⟨rfl, h1⟩ | ⟨b, off, cap, cs, ty0, fr, h1, hbk, hr, hc, hfu⟩
    · obtain rfl : j = 0 := by omega
      obtain rfl : i = 0 := by omega
      obtain ⟨cap', _, h3, _, _, hrun⟩ := hb 0 (Nat.le_refl _)
      obtain rfl : cap' = 0 := by omega
      refine ⟨.slice none 0 0, ?_, hyl, .inl ⟨rfl, rfl⟩⟩
      simp only [execOp, h1, Instr.sliceAt, Instr.slice, Sem.run_bind, run_underlying hu, Result.andThen_ok, hrun, run_sizeOf (Tabs.ld_spec hl)]
      rfl
    · obtain ⟨cap', h2, h3, h4, h5, hrun⟩ := hb cap hc
      have hfull : fu' = true → cap' - i = j - i := fun hf => by
        cases mx with
        | none =>
          obtain ⟨g1, g2⟩ := hmx hf
          rw [h4 rfl, hfu g1, g2]
        | some x => rw [h5 (by simp)]
      have hrd : ∀ o2, (o2 = off + i * s ∨ j - i = 0) → (cs.toList.drop o2).take ys.length = ys := fun o2 ho => by
        rcases ho with rfl | h0
        · have h6 := AtP.drop (i * s) hr
          have h7 := congrArg (List.take ys.length) h6
          rw [List.take_take, Nat.min_eq_left (by rw [hyl, List.length_drop, hlen, ← Nat.sub_mul]; exact Nat.mul_le_mul_right _ (by omega))] at h7
          rw [h7, hyl, hys]
        · have : ys = [] := List.eq_nil_of_length_eq_zero (by rw [hyl, h0]; simp)
          subst this; simp
      refine ⟨.slice (some (if cap' = i then ⟨b, off, none⟩ else ⟨b, off + i * s, none⟩)) (j - i) (cap' - i), ?_, hyl, .inr ?_⟩
      · simp only [execOp, h1, Instr.sliceAt, Instr.slice, Sem.run_bind, run_underlying hu, Result.andThen_ok, hrun, run_sizeOf (Tabs.ld_spec hl), Sem.run_pure]
        congr 3
        split <;> simp [Addr.add]
      · split
        · exact ⟨b, off, cap' - i, cs, _, fr, rfl, hbk, hrd _ (.inr (by omega)), by omega, fun hf => hfull hf⟩
        · exact ⟨b, off + i * s, cap' - i, cs, _, fr, rfl, hbk, hrd _ (.inl rfl), by omega, fun hf => hfull hf⟩
/-- 's[:len(s):len(s)]'. -/
theorem ok_clipV (L : Tabs P) {q : Nat} {tt e : TypeId} {s m : Nat} {xs : List Value} {fu : Bool} {y z : Operand} {kh km : IntKind} {ag : Bool} (hn : Nat.blt d n = true) (hg : gK ops κ ⟨some d, .slice tt (.tmp q) none (some y) (some z), ty, pos, aft, g⟩ = some true)
    (hx : κ q = some (.sat (SlV e s xs m fu))) (ht : L.sl tt = some e) (hl : L.ld e = some (ag, s)) (hy : evK κ y = some (.int kh m)) (hz : evK κ z = some (.int km m)) :
    StepOK P F B n ops O κ ⟨some d, .slice tt (.tmp q) none (some y) (some z), ty, pos, aft, g⟩ d (.sat (SlV e s xs m true)) := by
  intro κ' a u hlk hh
  have hlen : xs.length = m * s := by
    obtain ⟨H, fp, h⟩ := hh
    exact (h.slot q _ ((hlk q (looks_of (by simp [Op.operands]))).trans hx)).1
  exact ok_sliceV L (kl := .i64) (pl := 0) 0 m true hn hg hx ht hl rfl ⟨hy, rfl⟩ ⟨hz, rfl⟩ (Nat.zero_le _) (Nat.le_refl _) (by rw [Nat.zero_mul, List.drop_zero, Nat.sub_zero, List.take_of_length_le (by omega)]) κ' a u hlk hh
/-- Less is said of a slot. -/
theorem Has.imp {t : Nat} {φ ψ : Value → Heap → Prop} (hk : κ t = some (.sat φ)) (hm : Kn.mono (.sat ψ)) (hi : ∀ v H, φ v H → ψ v H) (h : Has F B O n κ a u) : Has F B O n (upd κ t (.sat ψ)) a u := by
  obtain ⟨H, fp, h⟩ := h
  refine ⟨H, fp, h.size, h.defers, h.nodup, h.marks, h.lent, h.keep, h.sub, h.base, h.fresh, h.boxes, h.apart, fun s k hs => ?_, fun s q r1 r2 hsq h1 h2 => ?_, fun s k hs => ?_⟩
  · by_cases hst : s = t
    · subst hst; rw [upd_same] at hs; cases hs; exact hi _ _ (h.slot s _ hk)
    · rw [upd_other _ _ hst] at hs; exact h.slot s k hs
  · have key : ∀ x r, upd κ t (.sat ψ) x = some (.own r) → κ x = some (.own r) := fun x r hx => by
      by_cases hxd : x = t
      · subst hxd; rw [upd_same] at hx; cases hx
      · rw [upd_other _ _ hxd] at hx; exact hx
    exact h.owns s q r1 r2 hsq (key _ _ h1) (key _ _ h2)
  · by_cases hst : s = t
    · subst hst; rw [upd_same] at hs; cases hs; exact hm
    · rw [upd_other _ _ hst] at hs; exact h.mono s k hs
theorem V_imp (t : Nat) {φ : Value → Heap → Prop} (ψ : Value → Heap → Prop) {c : Code} (hk : κ t = some (.sat φ)) (hm : Kn.mono (.sat ψ)) (hi : ∀ v H, φ v H → ψ v H) (h : V P F B n O (upd κ t (.sat ψ)) c Q) : V P F B n O κ c Q := fun a u hh => h a u (hh.imp hk hm hi)
theorem N_imp (t : Nat) {φ : Value → Heap → Prop} (ψ : Value → Heap → Prop) (hk : κ t = some (.sat φ)) (hm : Kn.mono (.sat ψ)) (hi : ∀ v H, φ v H → ψ v H) (h : N F B n O (upd κ t (.sat ψ)) Q) : N F B n O κ Q := fun a u hh => h a u (hh.imp hk hm hi)
theorem vo_imp (t : Nat) {φ : Value → Heap → Prop} (ψ : Value → Heap → Prop) (hk : κ t = some (.sat φ)) (hm : Kn.mono (.sat ψ)) (hi : ∀ v H, φ v H → ψ v H) (h : VO P F B n O ops (upd κ t (.sat ψ)) os Q) : VO P F B n O ops κ os Q := fun a u hh => h a u (hh.imp hk hm hi)
theorem par_imp (t : Nat) {φ : Value → Heap → Prop} (ψ : Value → Heap → Prop) (hk : κ t = some (.sat φ)) (hm : Kn.mono (.sat ψ)) (hi : ∀ v H, φ v H → ψ v H) (hN : N F B n O (upd κ t (.sat ψ)) Q) : Par P F B n O ops ex κ [] Q := fun a u hh => hN a u (hh.imp hk hm hi)
end
end Go.V
