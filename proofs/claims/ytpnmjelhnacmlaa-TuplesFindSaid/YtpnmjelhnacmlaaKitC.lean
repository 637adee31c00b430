/- The kit's third floor: the rules for the operations by their kind, and for code. -/
import Derived.Test.YtpnmjelhnacmlaaKitB
namespace Go.V
open Go.RowKit

theorem blt_lt {a b : Nat} (h : Nat.blt a b = true) : a < b := by simpa using h
section ops
variable {P : Program} {F : Fr} {B : Heap} {O : Boxes} {n : Nat} {ops : Array Oper} {κ : Kap} {d : Nat} {ty : TypeId} {pos : String} {aft : Array Edge} {g : Option (Nat × Bool)}

theorem ok_move {x : Operand} {v : Value} (hn : Nat.blt d n = true) (hg : gK ops κ ⟨some d, .move x, ty, pos, aft, g⟩ = some true) (hx : evK κ x = some v) :
    StepOK P F B n ops O κ ⟨some d, .move x, ty, pos, aft, g⟩ d (.is v) :=
  ok_pure rfl (blt_lt hn) hg trivial fun a u H fp e => ⟨v, by simp [execOp, e.is_ x v (by simp [Op.operands]) hx], rfl⟩
theorem ok_assign {x : Operand} {v : Value} (hn : Nat.blt d n = true) (hg : gK ops κ ⟨some d, .assign x, ty, pos, aft, g⟩ = some true) (hx : evK κ x = some v) :
    StepOK P F B n ops O κ ⟨some d, .assign x, ty, pos, aft, g⟩ d (.is v) :=
  ok_pure rfl (blt_lt hn) hg trivial fun a u H fp e => ⟨v, by simp [execOp, e.is_ x v (by simp [Op.operands]) hx], rfl⟩
theorem ok_moves {t : Nat} {φ : Value → Heap → Prop} (hn : Nat.blt d n = true) (hg : gK ops κ ⟨some d, .move (.tmp t), ty, pos, aft, g⟩ = some true) (hm : Kn.mono (.sat φ)) (hx : κ t = some (.sat φ)) :
    StepOK P F B n ops O κ ⟨some d, .move (.tmp t), ty, pos, aft, g⟩ d (.sat φ) :=
  ok_pure rfl (blt_lt hn) hg hm fun a u H fp e => ⟨_, by simp [execOp], e.sat_ t φ (by simp [Op.operands]) hx⟩
theorem ok_assigns {t : Nat} {φ : Value → Heap → Prop} (hn : Nat.blt d n = true) (hg : gK ops κ ⟨some d, .assign (.tmp t), ty, pos, aft, g⟩ = some true) (hm : Kn.mono (.sat φ)) (hx : κ t = some (.sat φ)) :
    StepOK P F B n ops O κ ⟨some d, .assign (.tmp t), ty, pos, aft, g⟩ d (.sat φ) :=
  ok_pure rfl (blt_lt hn) hg hm fun a u H fp e => ⟨_, by simp [execOp], e.sat_ t φ (by simp [Op.operands]) hx⟩
theorem ok_pick {c x y : Operand} {b : Bool} {v : Value} (hn : Nat.blt d n = true) (hg : gK ops κ ⟨some d, .pick c x y, ty, pos, aft, g⟩ = some true) (hc : evK κ c = some (.bool b))
    (hx : evK κ (bif b then x else y) = some v) : StepOK P F B n ops O κ ⟨some d, .pick c x y, ty, pos, aft, g⟩ d (.is v) :=
  ok_pure rfl (blt_lt hn) hg trivial fun a u H fp e => ⟨v, by
    have h1 := e.is_ c _ (by simp [Op.operands]) hc
    cases b with
    | true => have h2 := e.is_ x v (by simp [Op.operands]) hx; simp [execOp, h1, h2, asBool]
    | false => have h2 := e.is_ y v (by simp [Op.operands]) hx; simp [execOp, h1, h2, asBool], rfl⟩

/-- A two-placed operation by its run. -/
theorem ok_bin {op : BinOp} {t t' : TypeId} {x y : Operand} {p q v : Value} (hn : Nat.blt d n = true) (hg : gK ops κ ⟨some d, .binOp op t x y t', ty, pos, aft, g⟩ = some true)
    (hx : evK κ x = some p) (hy : evK κ y = some q) (hr : ∀ u, (do eqGuard op t x y p q; binOp op t p q : Sem Value).run P u = .ok v u) :
    StepOK P F B n ops O κ ⟨some d, .binOp op t x y t', ty, pos, aft, g⟩ d (.is v) :=
  ok_pure rfl (blt_lt hn) hg trivial fun a u H fp e => ⟨v, by
    have h1 := e.is_ x p (by simp [Op.operands]) hx
    have h2 := e.is_ y q (by simp [Op.operands]) hy
    have h3 := hr u
    simp only [execOp, h1, h2, Sem.run_bind] at h3 ⊢
    rw [h3]; rfl, rfl⟩
section bins
variable {t t' : TypeId} {x y : Operand} {k : IntKind} {p q : Int}
theorem ok_lss {b : Bool} (hn : Nat.blt d n = true) (hg : gK ops κ ⟨some d, .binOp .lss t x y t', ty, pos, aft, g⟩ = some true) (hx : evK κ x = some (.int k p)) (hy : evK κ y = some (.int k q)) (hb : decide (p < q) = b) :
    StepOK P F B n ops O κ ⟨some d, .binOp .lss t x y t', ty, pos, aft, g⟩ d (.is (.bool b)) := ok_bin hn hg hx hy fun u => by subst hb; simp [eqGuard_lss, binOp_lss]
theorem ok_leq {b : Bool} (hn : Nat.blt d n = true) (hg : gK ops κ ⟨some d, .binOp .leq t x y t', ty, pos, aft, g⟩ = some true) (hx : evK κ x = some (.int k p)) (hy : evK κ y = some (.int k q)) (hb : decide (p ≤ q) = b) :
    StepOK P F B n ops O κ ⟨some d, .binOp .leq t x y t', ty, pos, aft, g⟩ d (.is (.bool b)) := ok_bin hn hg hx hy fun u => by subst hb; simp [eqGuard_leq, binOp_leq]
theorem ok_gtr {b : Bool} (hn : Nat.blt d n = true) (hg : gK ops κ ⟨some d, .binOp .gtr t x y t', ty, pos, aft, g⟩ = some true) (hx : evK κ x = some (.int k p)) (hy : evK κ y = some (.int k q)) (hb : decide (p > q) = b) :
    StepOK P F B n ops O κ ⟨some d, .binOp .gtr t x y t', ty, pos, aft, g⟩ d (.is (.bool b)) := ok_bin hn hg hx hy fun u => by subst hb; simp [eqGuard_gtr, binOp_gtr]
theorem ok_geq {b : Bool} (hn : Nat.blt d n = true) (hg : gK ops κ ⟨some d, .binOp .geq t x y t', ty, pos, aft, g⟩ = some true) (hx : evK κ x = some (.int k p)) (hy : evK κ y = some (.int k q)) (hb : decide (p ≥ q) = b) :
    StepOK P F B n ops O κ ⟨some d, .binOp .geq t x y t', ty, pos, aft, g⟩ d (.is (.bool b)) := ok_bin hn hg hx hy fun u => by subst hb; simp [eqGuard_geq, binOp_geq]
theorem ok_eql {b : Bool} (hn : Nat.blt d n = true) (hg : gK ops κ ⟨some d, .binOp .eql t x y t', ty, pos, aft, g⟩ = some true) (hx : evK κ x = some (.int k p)) (hy : evK κ y = some (.int k q)) (hb : decide (p = q) = b) :
    StepOK P F B n ops O κ ⟨some d, .binOp .eql t x y t', ty, pos, aft, g⟩ d (.is (.bool b)) := ok_bin hn hg hx hy fun u => by subst hb; simp [eqGuard_at_int, binOp_eql]; rfl
theorem ok_neq {b : Bool} (hn : Nat.blt d n = true) (hg : gK ops κ ⟨some d, .binOp .neq t x y t', ty, pos, aft, g⟩ = some true) (hx : evK κ x = some (.int k p)) (hy : evK κ y = some (.int k q)) (hb : decide (p ≠ q) = b) :
    StepOK P F B n ops O κ ⟨some d, .binOp .neq t x y t', ty, pos, aft, g⟩ d (.is (.bool b)) := ok_bin hn hg hx hy fun u => by subst hb; simp [eqGuard_at_int, binOp_neq, bne]; rfl
theorem ok_add {r : Int} (hn : Nat.blt d n = true) (hg : gK ops κ ⟨some d, .binOp .add t x y t', ty, pos, aft, g⟩ = some true) (hx : evK κ x = some (.int k p)) (hy : evK κ y = some (.int k q)) (hb : k.wrap (p + q) = r) :
    StepOK P F B n ops O κ ⟨some d, .binOp .add t x y t', ty, pos, aft, g⟩ d (.is (.int k r)) := ok_bin hn hg hx hy fun u => by subst hb; simp [eqGuard_add, binOp_add, Op.intArith]
theorem ok_sub {r : Int} (hn : Nat.blt d n = true) (hg : gK ops κ ⟨some d, .binOp .sub t x y t', ty, pos, aft, g⟩ = some true) (hx : evK κ x = some (.int k p)) (hy : evK κ y = some (.int k q)) (hb : k.wrap (p - q) = r) :
    StepOK P F B n ops O κ ⟨some d, .binOp .sub t x y t', ty, pos, aft, g⟩ d (.is (.int k r)) := ok_bin hn hg hx hy fun u => by subst hb; simp [eqGuard_sub, binOp_sub, Op.intArith]
theorem ok_mul {r : Int} (hn : Nat.blt d n = true) (hg : gK ops κ ⟨some d, .binOp .mul t x y t', ty, pos, aft, g⟩ = some true) (hx : evK κ x = some (.int k p)) (hy : evK κ y = some (.int k q)) (hb : k.wrap (p * q) = r) :
    StepOK P F B n ops O κ ⟨some d, .binOp .mul t x y t', ty, pos, aft, g⟩ d (.is (.int k r)) := ok_bin hn hg hx hy fun u => by subst hb; simp [eqGuard_mul, binOp_mul, Op.intArith]
theorem toList_beq (a c : ByteArray) : (a.toList == c.toList) = decide (a = c) := by
  rw [← beq_toListBytes]
  obtain ⟨⟨x⟩⟩ := a
  obtain ⟨⟨y⟩⟩ := c
  show ((⟨x⟩ : Array UInt8) == ⟨y⟩) = _
  simp
  rw [Bool.eq_iff_iff]
  simp
theorem ok_seql {b : Bool} {s r : ByteArray} (hn : Nat.blt d n = true) (hg : gK ops κ ⟨some d, .binOp .eql t x y t', ty, pos, aft, g⟩ = some true) (hx : evK κ x = some (.string s)) (hy : evK κ y = some (.string r)) (hb : decide (s = r) = b) :
    StepOK P F B n ops O κ ⟨some d, .binOp .eql t x y t', ty, pos, aft, g⟩ d (.is (.bool b)) := ok_bin hn hg hx hy fun u => by subst hb; simp only [eqGuard_at_string, binOp, Op.stringOp, Sem.run_bind, Sem.run_pure, Result.andThen_ok, toList_beq]
theorem ok_sneq {b : Bool} {s r : ByteArray} (hn : Nat.blt d n = true) (hg : gK ops κ ⟨some d, .binOp .neq t x y t', ty, pos, aft, g⟩ = some true) (hx : evK κ x = some (.string s)) (hy : evK κ y = some (.string r)) (hb : decide (s ≠ r) = b) :
    StepOK P F B n ops O κ ⟨some d, .binOp .neq t x y t', ty, pos, aft, g⟩ d (.is (.bool b)) := ok_bin hn hg hx hy fun u => by subst hb; simp only [eqGuard_at_string, binOp, Op.stringOp, Sem.run_bind, Sem.run_pure, Result.andThen_ok, toList_beq]; simp
theorem ok_sadd {s r z : ByteArray} (hn : Nat.blt d n = true) (hg : gK ops κ ⟨some d, .binOp .add t x y t', ty, pos, aft, g⟩ = some true) (hx : evK κ x = some (.string s)) (hy : evK κ y = some (.string r)) (hl : s.size + r.size ≤ 9223372036854775807) (hz : s ++ r = z) :
    StepOK P F B n ops O κ ⟨some d, .binOp .add t x y t', ty, pos, aft, g⟩ d (.is (.string z)) := ok_bin hn hg hx hy fun u => by
  subst hz
  simp only [eqGuard_at_string, binOp, Op.stringOp, Sem.run_bind, Sem.run_pure, Result.andThen_ok]
  rw [if_neg (by rw [IntKind.max_i64]; omega)]; rfl
end bins
theorem ok_not {t : TypeId} {x : Operand} {b c : Bool} (hn : Nat.blt d n = true) (hg : gK ops κ ⟨some d, .unOp .not t x, ty, pos, aft, g⟩ = some true) (hx : evK κ x = some (.bool b)) (hc : (!b) = c) :
    StepOK P F B n ops O κ ⟨some d, .unOp .not t x, ty, pos, aft, g⟩ d (.is (.bool c)) :=
  ok_pure rfl (blt_lt hn) hg trivial fun a u H fp e => ⟨.bool c, by subst hc; simp [execOp, e.is_ x _ (by simp [Op.operands]) hx, Op.unary], rfl⟩
theorem ok_lenS (L : Tabs P) {x : Operand} {tt : TypeId} {s : ByteArray} (hn : Nat.blt d n = true) (hg : gK ops κ ⟨some d, .call ⟨.builtin .len, #[x], #[tt]⟩, ty, pos, aft, g⟩ = some true) (hx : evK κ x = some (.string s)) (ht : L.st tt = some ()) :
    StepOK P F B n ops O κ ⟨some d, .call ⟨.builtin .len, #[x], #[tt]⟩, ty, pos, aft, g⟩ d (.is (.int .i64 s.size)) :=
  ok_pure rfl (blt_lt hn) hg trivial fun a u H fp e => ⟨_, by
    have h1 := e.is_ x _ (by simp [Op.operands, Call.operands]) hx
    simp [execOp, resolve, h1, invoke, builtin, Builtin.len_, run_underlying (Tabs.st_spec ht), goInt], rfl⟩
theorem ok_lenL (L : Tabs P) {x : Operand} {tt e' : TypeId} {b : Option Addr} {l c : Nat} (hn : Nat.blt d n = true) (hg : gK ops κ ⟨some d, .call ⟨.builtin .len, #[x], #[tt]⟩, ty, pos, aft, g⟩ = some true) (hx : evK κ x = some (.slice b l c)) (ht : L.sl tt = some e') :
    StepOK P F B n ops O κ ⟨some d, .call ⟨.builtin .len, #[x], #[tt]⟩, ty, pos, aft, g⟩ d (.is (.int .i64 l)) :=
  ok_pure rfl (blt_lt hn) hg trivial fun a u H fp e => ⟨_, by
    have h1 := e.is_ x _ (by simp [Op.operands, Call.operands]) hx
    simp [execOp, resolve, h1, invoke, builtin, Builtin.len_, run_underlying (Tabs.sl_spec ht), goInt], rfl⟩
theorem ok_max {x y : Operand} {tts : Array TypeId} {k : IntKind} {p q r : Int} (hn : Nat.blt d n = true) (hg : gK ops κ ⟨some d, .call ⟨.builtin .max, #[x, y], tts⟩, ty, pos, aft, g⟩ = some true)
    (hx : evK κ x = some (.int k p)) (hy : evK κ y = some (.int k q)) (hr : (if q > p then q else p) = r) :
    StepOK P F B n ops O κ ⟨some d, .call ⟨.builtin .max, #[x, y], tts⟩, ty, pos, aft, g⟩ d (.is (.int k r)) :=
  ok_pure rfl (blt_lt hn) hg trivial fun a u H fp e => ⟨_, by
    have h1 := e.is_ x _ (by simp [Op.operands, Call.operands]) hx
    have h2 := e.is_ y _ (by simp [Op.operands, Call.operands]) hy
    subst hr
    simp [execOp, resolve, h1, h2, invoke, builtin, Builtin.max_, Builtin.max2], rfl⟩
theorem ok_indexS (L : Tabs P) {x y : Operand} {tt : TypeId} {s : ByteArray} {k : IntKind} {i : Nat} {c : UInt8} (hn : Nat.blt d n = true) (hg : gK ops κ ⟨some d, .index tt x y, ty, pos, aft, g⟩ = some true)
    (hx : evK κ x = some (.string s)) (hy : evK κ y = some (.int k i)) (ht : L.st tt = some ()) (hi : s[i]? = some c) :
    StepOK P F B n ops O κ ⟨some d, .index tt x y, ty, pos, aft, g⟩ d (.is (.int .u8 c.toNat)) :=
  ok_pure rfl (blt_lt hn) hg trivial fun a u H fp e => ⟨_, by
    have h1 := e.is_ x _ (by simp [Op.operands]) hx
    have h2 := e.is_ y _ (by simp [Op.operands]) hy
    simp [execOp, h1, h2, Instr.index, asIntOf, run_underlying (Tabs.st_spec ht), hi], rfl⟩
theorem ok_extract {x : Operand} {vs : Array Value} {i : Nat} {v : Value} (hn : Nat.blt d n = true) (hg : gK ops κ ⟨some d, .extract x i, ty, pos, aft, g⟩ = some true) (hx : evK κ x = some (.tuple vs)) (hi : vs.toList[i]? = some v) :
    StepOK P F B n ops O κ ⟨some d, .extract x i, ty, pos, aft, g⟩ d (.is v) :=
  ok_pure rfl (blt_lt hn) hg trivial fun a u H fp e => ⟨v, by
    have h1 := e.is_ x _ (by simp [Op.operands]) hx
    have hi' : vs[i]? = some v := by simpa using hi
    simp [execOp, h1, Instr.extract, hi'], rfl⟩

theorem wrap_i64 {z : Int} (h1 : -9223372036854775808 ≤ z) (h2 : z ≤ 9223372036854775807) : IntKind.i64.wrap z = z := by
  have := IntWalk.i64_in z (by omega)
  exact this

/-! ### memory -/
/-- The slot holds an address in a block that is known whole. -/
def At (cs : List Value) (t : TypeId) (off : Nat) : Value → Heap → Prop := fun v H => ∃ b, v = .pointer (some ⟨b, off, none⟩) ∧ H b = some (.cells cs.toArray t)
theorem At.mono {cs : List Value} {t : TypeId} {off : Nat} : Kn.mono (.sat (At cs t off)) := fun _ _ _ ⟨b, hv, hb⟩ hl => ⟨b, hv, hl _ _ hb⟩

theorem heap_push_same (u : World) (x : Obj) : (u.alloc x).heap[u.heap.size]? = some x := by
  show (u.heap.push x)[u.heap.size]? = _
  simp
theorem heap_push_lt (u : World) (x : Obj) {k : Nat} (h : k < u.heap.size) : (u.alloc x).heap[k]? = u.heap[k]? := by
  show (u.heap.push x)[k]? = _
  rw [Array.getElem?_push, if_neg (by omega)]

/-- A new block that may be seen. -/
theorem Grow.new {u : World} {H : Heap} (h : H.Le (hp u)) (x : Obj) : Grow noL u H (u.alloc x) (fun k => if k = u.heap.size then some x else H k) := {
  keep := Keep.of_below ((Below.refl _ _).alloc (Nat.le_refl _) _) (Nat.le_refl _)
  sub := fun k o ho => by
    simp only [hp]
    dsimp only at ho
    split at ho
    · rename_i hk; subst hk; cases ho; exact heap_push_same u x
    · rw [heap_push_lt u x (h.size ho)]; exact h k o ho
  le := fun k o ho => by dsimp only; rw [if_neg (by have := h.size ho; omega)]; exact ho
  fresh := fun k hk _ => if_neg (by omega) }
/-- A new block that is not seen. -/
theorem Grow.hid {u : World} {H : Heap} (h : H.Le (hp u)) (x : Obj) : Grow noL u H (u.alloc x) H := {
  keep := Keep.of_below ((Below.refl _ _).alloc (Nat.le_refl _) _) (Nat.le_refl _)
  sub := fun k o ho => by simp only [hp]; rw [heap_push_lt u x (h.size ho)]; exact h k o ho
  le := Heap.Le.refl _
  fresh := fun _ _ _ => rfl }

theorem ok_box {x : Operand} {t : TypeId} {v : Value} {cs : List Value} (hn : Nat.blt d n = true) (hg : gK ops κ ⟨some d, .box t x, ty, pos, aft, g⟩ = some true) (hx : evK κ x = some v) (hc : v.cells = cs.toArray) :
    StepOK P F B n ops O κ ⟨some d, .box t x, ty, pos, aft, g⟩ d (.sat (At cs t 0)) :=
  ok_run rfl (blt_lt hn) hg At.mono fun a u H fp e => ⟨.pointer (some ⟨u.heap.size, 0, none⟩), u.alloc (.cells cs.toArray t), _, by
    have h1 := e.is_ x _ (by simp [Op.operands]) hx
    simp [execOp, h1, Instr.box, newVar, newRow, hc], Grow.new e.sub _, ⟨_, rfl, by simp⟩⟩

theorem ldI_spec {t : TypeId} {ag : Bool} {s : Nat} (h : ldI P t = some (ag, s)) : ∃ dsc i, P.underlying t = some dsc ∧ P.info? t = some i ∧ i.size = s ∧ (match dsc with | .struct _ | .array _ _ => true | _ => false) = ag := by
  unfold ldI at h
  split at h
  · rename_i dsc i h1 h2
    cases h
    exact ⟨dsc, i, h1, h2, rfl, rfl⟩
  · cases h

theorem run_isAgg {t : TypeId} {ag : Bool} {s : Nat} (h : ldI P t = some (ag, s)) (u : World) : (isAgg t).run P u = .ok ag u := by
  obtain ⟨dsc, i, h1, _, _, h4⟩ := ldI_spec h
  simp only [isAgg, Sem.run_bind, run_underlying h1, Result.andThen_ok]
  cases dsc <;> simp at h4 ⊢ <;> exact h4
theorem run_sizeOf {t : TypeId} {ag : Bool} {s : Nat} (h : ldI P t = some (ag, s)) (u : World) : (sizeOf t).run P u = .ok s u := by
  obtain ⟨dsc, i, _, h2, h3, _⟩ := ldI_spec h
  simp [sizeOf, typeInfo, h2, h3]

theorem run_loadVar_agg {t : TypeId} {s : Nat} (h : ldI P t = some (true, s)) (u : World) (a : Addr) (cs : List Value) (hs : cs.length = s) (hc : ∀ j v, cs[j]? = some v → u.cell? (a.add j) = some v) :
    (loadVar t a).run P u = .ok (.agg cs.toArray) u := by
  subst hs
  simp only [loadVar, Sem.run_bind, run_isAgg h, Result.andThen_ok, if_true, run_sizeOf h]
  rw [run_loadCells_list (P := P) (w := u) a cs hc]
  rfl
theorem run_loadVar_one {t : TypeId} {s : Nat} (h : ldI P t = some (false, s)) (u : World) (a : Addr) (v : Value) (hc : u.cell? a = some v) :
    (loadVar t a).run P u = .ok v u := by
  simp [loadVar, run_isAgg h, hc]

theorem cell_of_heap {u : World} {b : Nat} {cs : Array Value} {t : TypeId} {fr : Nat × Nat} (h : u.heap[b]? = some (.cells cs t fr)) (off : Nat) : u.cell? ⟨b, off, none⟩ = cs[off]? := by
  simp [World.cell?, h]

/-- A variable of the call's own. -/
def Cell (cs : List Value) (ty : TypeId) : Res where
  P x _ u C := ∃ b, x = .pointer (some ⟨b, 0, none⟩) ∧ u.heap[b]? = some (.cells cs.toArray ty) ∧ ∀ k, C k ↔ k = b
  st := fun ⟨b, hx, hb, hC⟩ _ _ _ hk => ⟨b, hx, (hk b ((hC b).2 rfl)).trans hb, hC⟩
/-- From where a load reads. -/
def Src (F : Fr) (B : Heap) (O : Boxes) (κ : Kap) (x : Operand) (cs : List Value) (off : Nat) : Prop :=
  ∀ (o : Oper) (a : Act) (u : World) (H : Heap) (fp : Nat → Nat → Prop), x ∈ o.op.operands → Env F B O κ o a u H fp → ∃ b t fr, a.eval x = .pointer (some ⟨b, off, none⟩) ∧ u.heap[b]? = some (.cells cs.toArray t fr)
theorem src_at {t' : TypeId} {t off : Nat} {cs : List Value} (h : κ t = some (.sat (At cs t' off))) : Src F B O κ (.tmp t) cs off := fun _ _ _ _ _ hx e =>
  let ⟨b, hv, hb⟩ := e.sat_ t _ hx h; ⟨b, t', (0, 0), hv, e.sub _ _ hb⟩
theorem src_own {t' : TypeId} {t : Nat} {cs : List Value} (h : κ t = some (.own (Cell cs t'))) : Src F B O κ (.tmp t) cs 0 := fun _ _ _ _ _ hx e =>
  let ⟨⟨b, hv, hb, _⟩, _⟩ := e.own_ t _ hx h; ⟨b, t', (0, 0), hv, hb⟩
theorem src_base {x : Operand} {b off : Nat} {cs : List Value} {t' : TypeId} {fr : Nat × Nat} (hx : evK κ x = some (.pointer (some ⟨b, off, none⟩))) (hb : B b = some (.cells cs.toArray t' fr)) : Src F B O κ x cs off := fun _ _ _ _ _ ho e =>
  ⟨b, t', fr, e.is_ x _ ho hx, e.sub _ _ (e.base _ _ hb)⟩
theorem src_box {x : Operand} {b off : Nat} {cs : List Value} {t' : TypeId} (hx : evK κ x = some (.pointer (some ⟨b, off, none⟩))) (hb : bx b cs t' ∈ O) : Src F B O κ x cs off := fun _ _ _ _ _ ho e =>
  ⟨b, t', (0, 0), e.is_ x _ ho hx, (e.boxes _ hb).1⟩

theorem ok_load1 (L : Tabs P) {x : Operand} {t : TypeId} {s off : Nat} {cs r : List Value} {v : Value} (hs : Src F B O κ x cs off) (hn : Nat.blt d n = true) (hg : gK ops κ ⟨some d, .load t x, ty, pos, aft, g⟩ = some true)
    (hl : L.ld t = some (false, s)) (hc : cs.drop off = v :: r) : StepOK P F B n ops O κ ⟨some d, .load t x, ty, pos, aft, g⟩ d (.is v) :=
  ok_pure rfl (blt_lt hn) hg trivial fun a u H fp e => ⟨v, by
    obtain ⟨b, t', fr, h1, h2⟩ := hs _ a u H fp (by simp [Op.operands]) e
    have h3 : cs[off]? = some v := by
      have := congrArg (·[0]?) hc
      simpa using this
    simp only [execOp, h1, Instr.loadAt, Instr.sureAddr, Sem.run_bind, Sem.run_pure, Result.andThen_ok]
    rw [run_loadVar_one (Tabs.ld_spec hl) u _ v (by rw [cell_of_heap h2]; simpa using h3)]
    rfl, rfl⟩
theorem ok_loadA (L : Tabs P) {x : Operand} {t : TypeId} {s off : Nat} {cs vs : List Value} (hs : Src F B O κ x cs off) (hn : Nat.blt d n = true) (hg : gK ops κ ⟨some d, .load t x, ty, pos, aft, g⟩ = some true)
    (hl : L.ld t = some (true, s)) (hlen : vs.length = s) (hc : ∃ r, cs.drop off = vs ++ r) : StepOK P F B n ops O κ ⟨some d, .load t x, ty, pos, aft, g⟩ d (.is (.agg vs.toArray)) :=
  ok_pure rfl (blt_lt hn) hg trivial fun a u H fp e => ⟨_, by
    obtain ⟨b, t', fr, h1, h2⟩ := hs _ a u H fp (by simp [Op.operands]) e
    obtain ⟨r, hc⟩ := hc
    simp only [execOp, h1, Instr.loadAt, Instr.sureAddr, Sem.run_bind, Sem.run_pure, Result.andThen_ok]
    rw [run_loadVar_agg (Tabs.ld_spec hl) u _ vs hlen (fun j v hj => by
      have h3 : cs[off + j]? = some v := by
        have := congrArg (·[j]?) hc
        simp only [List.getElem?_drop] at this
        rw [this, List.getElem?_append_left (by
          rcases Nat.lt_or_ge j vs.length with h | h
          · exact h
          · rw [List.getElem?_eq_none h] at hj; cases hj)]
        exact hj
      show u.cell? (Addr.add ⟨b, off, none⟩ j) = some v
      have : Addr.add ⟨b, off, none⟩ j = ⟨b, off + j, none⟩ := by simp [Addr.add]
      rw [this, cell_of_heap h2]; simpa using h3)]
    rfl, rfl⟩
theorem ok_load2 (L : Tabs P) {x : Operand} {t : TypeId} {off : Nat} {cs r : List Value} {v1 v2 : Value} (hs : Src F B O κ x cs off) (hn : Nat.blt d n = true) (hg : gK ops κ ⟨some d, .load t x, ty, pos, aft, g⟩ = some true)
    (hl : L.ld t = some (true, 2)) (hc : cs.drop off = v1 :: v2 :: r) : StepOK P F B n ops O κ ⟨some d, .load t x, ty, pos, aft, g⟩ d (.is (.agg #[v1, v2])) := ok_loadA L hs hn hg hl (vs := [v1, v2]) rfl ⟨r, hc⟩
theorem ok_load3 (L : Tabs P) {x : Operand} {t : TypeId} {off : Nat} {cs r : List Value} {v1 v2 v3 : Value} (hs : Src F B O κ x cs off) (hn : Nat.blt d n = true) (hg : gK ops κ ⟨some d, .load t x, ty, pos, aft, g⟩ = some true)
    (hl : L.ld t = some (true, 3)) (hc : cs.drop off = v1 :: v2 :: v3 :: r) : StepOK P F B n ops O κ ⟨some d, .load t x, ty, pos, aft, g⟩ d (.is (.agg #[v1, v2, v3])) := ok_loadA L hs hn hg hl (vs := [v1, v2, v3]) rfl ⟨r, hc⟩

theorem run_fieldPlace {f : Field} {j : TypeInfo} (hj : P.info? f.type = some j) (hz : j.size ≠ 0) (a : Addr) (u : World) : (fieldPlace a f).run P u = .ok (a.add f.offset) u := by
  simp [fieldPlace, sizeOf, typeInfo, hj, hz]
theorem ok_fieldAt (L : Tabs P) {t : Nat} {t' st : TypeId} {i off fo : Nat} {cs : List Value} (hx : κ t = some (.sat (At cs t' off))) (hn : Nat.blt d n = true) (hg : gK ops κ ⟨some d, .fieldAddr st (.tmp t) i, ty, pos, aft, g⟩ = some true)
    (hf : L.fo st i = some fo) : StepOK P F B n ops O κ ⟨some d, .fieldAddr st (.tmp t) i, ty, pos, aft, g⟩ d (.sat (At cs t' (off + fo))) :=
  ok_pure rfl (blt_lt hn) hg At.mono fun a u H fp e => by
    obtain ⟨fs, f, j, h1, h2, h3, h4, h5⟩ := Tabs.fo_spec hf
    obtain ⟨b, hv, hb⟩ := e.sat_ t _ (by simp [Op.operands]) hx
    refine ⟨.pointer (some ⟨b, off + fo, none⟩), ?_, ⟨b, rfl, hb⟩⟩
    simp only [execOp, hv, Instr.fieldAt, Sem.run_bind, run_underlying h1, Result.andThen_ok, h2, Instr.sureAddr, Sem.run_pure, run_fieldPlace h3 h4]
    simp [Addr.add, h5]
theorem ok_fieldP (L : Tabs P) {x : Operand} {st : TypeId} {i b off fo : Nat} (hx : evK κ x = some (.pointer (some ⟨b, off, none⟩))) (hn : Nat.blt d n = true) (hg : gK ops κ ⟨some d, .fieldAddr st x i, ty, pos, aft, g⟩ = some true)
    (hf : L.fo st i = some fo) : StepOK P F B n ops O κ ⟨some d, .fieldAddr st x i, ty, pos, aft, g⟩ d (.is (.pointer (some ⟨b, off + fo, none⟩))) :=
  ok_pure rfl (blt_lt hn) hg trivial fun a u H fp e => by
    obtain ⟨fs, f, j, h1, h2, h3, h4, h5⟩ := Tabs.fo_spec hf
    have hv := e.is_ x _ (by simp [Op.operands]) hx
    refine ⟨_, ?_, rfl⟩
    simp only [execOp, hv, Instr.fieldAt, Sem.run_bind, run_underlying h1, Result.andThen_ok, h2, Instr.sureAddr, Sem.run_pure, run_fieldPlace h3 h4]
    simp [Addr.add, h5]

/-- A slice that reads as a list of cells (whole elements of size s). -/
def Sl (l : List Value) (len cap : Nat) : Value → Heap → Prop := fun v H => ∃ b t fr cs, v = .slice (some ⟨b, 0, none⟩) len cap ∧ H b = some (.cells cs t fr) ∧ cs.toList = l
theorem Sl.mono {l : List Value} {len cap : Nat} : Kn.mono (.sat (Sl l len cap)) := fun _ _ _ ⟨b, t, fr, cs, hv, hb, hl⟩ h => ⟨b, t, fr, cs, hv, h _ _ hb, hl⟩
end ops
end Go.V
