/- The kit's eighth floor: what is known goes along; tuples; cells by their index. -/
import Derived.Test.YtpnmjelhnacmlaaKitG
import Derived.Deep.Quiet
namespace Go.V
open Go.RowKit
section
variable {P : Program} {F : Fr} {B : Heap} {O : Boxes} {n : Nat} {ops : Array Oper} {κ : Kap} {d : Nat} {ty : TypeId} {pos : String} {aft : Array Edge} {g : Option (Nat × Bool)} {os : List Oper} {Q : Exit → Act → World → Prop} {ex : Exs}

theorem ok_sat {o : Oper} {t : Nat} {φ ψ : Value → Heap → Prop} (hd : o.dst = some d) (hn : Nat.blt d n = true) (hg : gK ops κ o = some true) (ht : Operand.tmp t ∈ o.op.operands) (hx : κ t = some (.sat φ))
    (hm : (∀ v H H', φ v H → Heap.Le H H' → φ v H') → Kn.mono (.sat ψ))
    (h : ∀ a u H fp, Env F B O κ o a u H fp → φ (a.eval (.tmp t)) H → ∃ v, (execOp a.eval o).run P u = .ok (.value v) u ∧ ψ v H) : StepOK P F B n ops O κ o d (.sat ψ) := by
  rintro κ' a u hl ⟨H, fp, hh⟩
  unfold After
  rw [if_pos (wanted_gK hh hl hg)]
  have hk' : κ' t = some (.sat φ) := (hl t (looks_of ht)).trans hx
  have e := hh.env hl
  obtain ⟨v, hr, hv⟩ := h a u H fp e (e.sat_ t φ ht hx)
  rw [hr]
  simp only [Upon]
  rw [hd]
  exact ⟨H, fp, hh.put (blt_lt hn) (hm (hh.mono t _ hk')) hv⟩
theorem ok_moves' {t : Nat} {φ : Value → Heap → Prop} (hn : Nat.blt d n = true) (hg : gK ops κ ⟨some d, .move (.tmp t), ty, pos, aft, g⟩ = some true) (hx : κ t = some (.sat φ)) :
    StepOK P F B n ops O κ ⟨some d, .move (.tmp t), ty, pos, aft, g⟩ d (.sat φ) :=
  ok_sat rfl hn hg (by simp [Op.operands]) hx (fun h => h) fun a u H fp e hp => ⟨_, by simp [execOp], hp⟩
theorem ok_assigns' {t : Nat} {φ : Value → Heap → Prop} (hn : Nat.blt d n = true) (hg : gK ops κ ⟨some d, .assign (.tmp t), ty, pos, aft, g⟩ = some true) (hx : κ t = some (.sat φ)) :
    StepOK P F B n ops O κ ⟨some d, .assign (.tmp t), ty, pos, aft, g⟩ d (.sat φ) :=
  ok_sat rfl hn hg (by simp [Op.operands]) hx (fun h => h) fun a u H fp e hp => ⟨_, by simp [execOp], hp⟩
/-- A tuple of which parts are known by what they satisfy. -/
def TupS (φs : List (Value → Heap → Prop)) : Value → Heap → Prop := fun v H => ∃ vs : List Value, v = .tuple vs.toArray ∧ vs.length = φs.length ∧ ∀ (i : Nat) (φ : Value → Heap → Prop) (x : Value), φs[i]? = some φ → vs[i]? = some x → φ x H
theorem TupS.mono {φs : List (Value → Heap → Prop)} (h : ∀ φ ∈ φs, Kn.mono (.sat φ)) : Kn.mono (.sat (TupS φs)) := fun _ _ _ ⟨vs, hv, hl, hp⟩ hle =>
  ⟨vs, hv, hl, fun i φ x hi hx => h φ (List.mem_of_getElem? hi) x _ _ (hp i φ x hi hx) hle⟩
theorem ok_extracts {t i : Nat} {φs : List (Value → Heap → Prop)} {φ : Value → Heap → Prop} (hn : Nat.blt d n = true) (hg : gK ops κ ⟨some d, .extract (.tmp t) i, ty, pos, aft, g⟩ = some true) (hx : κ t = some (.sat (TupS φs))) (hi : φs[i]? = some φ) (hm : Kn.mono (.sat φ)) :
    StepOK P F B n ops O κ ⟨some d, .extract (.tmp t) i, ty, pos, aft, g⟩ d (.sat φ) :=
  ok_sat rfl hn hg (by simp [Op.operands]) hx (fun _ => hm) fun a u H fp e ⟨vs, hv, hl, hp⟩ => by
    have hlt : i < vs.length := by
      rw [hl]
      rcases Nat.lt_or_ge i φs.length with h | h
      · exact h
      · rw [List.getElem?_eq_none h] at hi; cases hi
    refine ⟨vs[i], ?_, hp i φ _ hi (List.getElem?_eq_getElem hlt)⟩
    simp [execOp, hv, Instr.extract, hlt]
/-- A part of which the value is known. -/
theorem ok_extractx {t i : Nat} {φs : List (Value → Heap → Prop)} {c : Value} (hn : Nat.blt d n = true) (hg : gK ops κ ⟨some d, .extract (.tmp t) i, ty, pos, aft, g⟩ = some true) (hx : κ t = some (.sat (TupS φs))) (hi : φs[i]? = some (fun v _ => v = c)) :
    StepOK P F B n ops O κ ⟨some d, .extract (.tmp t) i, ty, pos, aft, g⟩ d (.is c) :=
  ok_pure rfl (blt_lt hn) hg trivial fun a u H fp e => by
    obtain ⟨vs, hv, hl, hp⟩ := e.sat_ t _ (by simp [Op.operands]) hx
    have hlt : i < vs.length := by
      rw [hl]
      rcases Nat.lt_or_ge i φs.length with h | h
      · exact h
      · rw [List.getElem?_eq_none h] at hi; cases hi
    refine ⟨vs[i], ?_, hp i _ _ hi (List.getElem?_eq_getElem hlt)⟩
    simp [execOp, hv, Instr.extract, hlt]
theorem ok_load1c (L : Tabs P) {x : Operand} {t : TypeId} {s off : Nat} {cs : List Value} {v : Value} (hs : Src F B O κ x cs off) (hn : Nat.blt d n = true) (hg : gK ops κ ⟨some d, .load t x, ty, pos, aft, g⟩ = some true)
    (hl : L.ld t = some (false, s)) (hc : cs[off]? = some v) : StepOK P F B n ops O κ ⟨some d, .load t x, ty, pos, aft, g⟩ d (.is v) := by
  have hlt : off < cs.length := by
    rcases Nat.lt_or_ge off cs.length with h | h
    · exact h
    · rw [List.getElem?_eq_none h] at hc; cases hc
  refine ok_load1 L hs hn hg hl (r := cs.drop (off + 1)) ?_
  rw [List.drop_eq_getElem_cons hlt]
  congr 1
  rw [List.getElem?_eq_getElem hlt] at hc
  exact Option.some.inj hc
theorem ok_capL (L : Tabs P) {x : Operand} {tt e' : TypeId} {b : Option Addr} {l c : Nat} (hn : Nat.blt d n = true) (hg : gK ops κ ⟨some d, .call ⟨.builtin .cap, #[x], #[tt]⟩, ty, pos, aft, g⟩ = some true) (hx : evK κ x = some (.slice b l c)) (ht : L.sl tt = some e') :
    StepOK P F B n ops O κ ⟨some d, .call ⟨.builtin .cap, #[x], #[tt]⟩, ty, pos, aft, g⟩ d (.is (.int .i64 c)) :=
  ok_pure rfl (blt_lt hn) hg trivial fun a u H fp e => ⟨_, by
    have h1 := e.is_ x _ (by simp [Op.operands, Call.operands]) hx
    simp [execOp, resolve, h1, invoke, builtin, Builtin.cap_, run_underlying (Tabs.sl_spec ht), goInt], rfl⟩
theorem run_bool_eq {t : TypeId} {p q : Bool} {x y : Operand} (op : BinOp) (hu : P.underlying t = some .bool) (u : World) :
    (do eqGuard op t x y (.bool p) (.bool q); binOp .eql t (.bool p) (.bool q) : Sem Value).run P u = .ok (.bool (p == q)) u ∧
    (do eqGuard op t x y (.bool p) (.bool q); binOp .neq t (.bool p) (.bool q) : Sem Value).run P u = .ok (.bool (!(p == q))) u := by
  have h : (Op.equal t (.bool p) (.bool q)).run P u = .ok (p == q) u := run_equalIn_bool' u 9999 t p q hu
  constructor
  · rw [Sem.run_bind, eqGuard_at_bool]
    show Sem.run P (do pure (Value.bool (← Op.equal t (.bool p) (.bool q))) : Sem Value) u = _
    rw [Sem.run_bind, h]; rfl
  · rw [Sem.run_bind, eqGuard_at_bool]
    show Sem.run P (do pure (Value.bool (!(← Op.equal t (.bool p) (.bool q)))) : Sem Value) u = _
    rw [Sem.run_bind, h]; rfl
theorem ok_beql {t t' : TypeId} {x y : Operand} {p q b : Bool} (hn : Nat.blt d n = true) (hg : gK ops κ ⟨some d, .binOp .eql t x y t', ty, pos, aft, g⟩ = some true) (hx : evK κ x = some (.bool p)) (hy : evK κ y = some (.bool q)) (hu : P.underlying t = some .bool) (hb : (p == q) = b) :
    StepOK P F B n ops O κ ⟨some d, .binOp .eql t x y t', ty, pos, aft, g⟩ d (.is (.bool b)) := ok_bin hn hg hx hy fun u => by subst hb; exact (run_bool_eq .eql hu u).1
theorem ok_bneq {t t' : TypeId} {x y : Operand} {p q b : Bool} (hn : Nat.blt d n = true) (hg : gK ops κ ⟨some d, .binOp .neq t x y t', ty, pos, aft, g⟩ = some true) (hx : evK κ x = some (.bool p)) (hy : evK κ y = some (.bool q)) (hu : P.underlying t = some .bool) (hb : (!(p == q)) = b) :
    StepOK P F B n ops O κ ⟨some d, .binOp .neq t x y t', ty, pos, aft, g⟩ d (.is (.bool b)) := ok_bin hn hg hx hy fun u => by subst hb; exact (run_bool_eq .neq hu u).2
def bLess (a b : ByteArray) : Bool := Op.bytesLess a.data.toList b.data.toList
theorem ok_sgtr {t t' : TypeId} {x y : Operand} {b : Bool} {s r : ByteArray} (hn : Nat.blt d n = true) (hg : gK ops κ ⟨some d, .binOp .gtr t x y t', ty, pos, aft, g⟩ = some true) (hx : evK κ x = some (.string s)) (hy : evK κ y = some (.string r)) (hb : (!(bLess s r || decide (s = r))) = b) :
    StepOK P F B n ops O κ ⟨some d, .binOp .gtr t x y t', ty, pos, aft, g⟩ d (.is (.bool b)) := ok_bin hn hg hx hy fun u => by
  subst hb
  simp only [eqGuard_at_string, binOp, Op.stringOp, Sem.run_bind, Sem.run_pure, Result.andThen_ok, toList_beq, bLess]
  rw [ByteArray.toList_eq, ByteArray.toList_eq]
theorem ok_slss {t t' : TypeId} {x y : Operand} {b : Bool} {s r : ByteArray} (hn : Nat.blt d n = true) (hg : gK ops κ ⟨some d, .binOp .lss t x y t', ty, pos, aft, g⟩ = some true) (hx : evK κ x = some (.string s)) (hy : evK κ y = some (.string r)) (hb : bLess s r = b) :
    StepOK P F B n ops O κ ⟨some d, .binOp .lss t x y t', ty, pos, aft, g⟩ d (.is (.bool b)) := ok_bin hn hg hx hy fun u => by
  subst hb
  simp only [eqGuard_at_string, binOp, Op.stringOp, Sem.run_bind, Sem.run_pure, Result.andThen_ok, bLess]
  rw [ByteArray.toList_eq, ByteArray.toList_eq]
theorem Ret.of_same {f : FuncId} {args : List Value} {w : World} {v : Value} (hB : B.Le (hp w)) (h : Calls P f args.toArray w fun e w' => e = .returned v ∧ w' = w) : Ret P f args w B (fun x _ => x = v) :=
  Calls.mono h fun _ _ ⟨he, hw⟩ => ⟨v, he, B, by subst hw; exact Grow.refl hB, rfl⟩
theorem Ret.of_drawn {f : FuncId} {args : List Value} {w : World} {v : Value} (hB : B.Le (hp w)) (h : Calls P f args.toArray w fun e w' => e = .returned v ∧ ∃ k, w' = w.drewN k) : Ret P f args w B (fun x _ => x = v) :=
  Calls.mono h fun _ _ ⟨he, k, hw⟩ => ⟨v, he, B, by
    subst hw
    have hd : ∀ (k : Nat) (w : World), Below w.heap.size w (w.drewN k) ∧ (w.drewN k).heap = w.heap := fun k w => ⟨⟨rfl, rfl, rfl, Nat.le_refl _, fun _ _ => rfl⟩, rfl⟩
    exact ⟨Keep.of_below (hd k w).1 (Nat.le_add_right _ _), fun i o ho => by show (w.drewN k).heap[i]? = some o; rw [(hd k w).2]; exact hB i o ho, Heap.Le.refl _, fun _ _ _ => rfl⟩, rfl⟩
theorem Ret.val {f : FuncId} {args : List Value} {w : World} {a b : Value} (h : Ret P f args w B (fun x _ => x = a)) (e : a = b) : Ret P f args w B (fun x _ => x = b) := e ▸ h
end
end Go.V
