/- The kit's seventh floor: indexes, cuts, comparisons of structs, numbers, function values. -/
import Derived.Test.YtpnmjelhnacmlaaKitF
namespace Go.V
open Go.RowKit

/-! ### comparing structs of plain cells -/
def lvF (P : Program) (rec : TypeId → Option (List Nat)) : List Field → Nat → Option (List Nat)
  | [], _ => some []
  | f :: fs, off => match rec f.type, ldI P f.type with
    | some ls, some (ag, s) => if f.name ≠ "_" ∧ f.offset = off ∧ s = ls.length ∧ (ag = true ∨ s = 1) then
        match lvF P rec fs (off + s) with
        | some r => some (ls ++ r)
        | none => none
      else none
    | _, _ => none
def lvI (P : Program) : Nat → TypeId → Option (List Nat)
  | 0, _ => none
  | d + 1, t => match P.underlying t with
    | some .string => some [0]
    | some (.int _) => some [1]
    | some .bool => some [2]
    | some (.struct fs) => if P.stoodInHeld t then none else lvF P (lvI P d) fs.toList 0
    | _ => none
def eqC : Nat → Value → Value → Option Bool
  | 0, .string a, .string b => some (decide (a = b))
  | 1, .int k a, .int k' b => if k = k' then some (decide (a = b)) else none
  | 2, .bool a, .bool b => some (a == b)
  | _, _, _ => none
def eqCs : List Nat → List Value → List Value → Option Bool
  | [], [], [] => some true
  | l :: ls, x :: xs, y :: ys => match eqC l x y, eqCs ls xs ys with
    | some a, some b => some (a && b)
    | _, _ => none
  | _, _, _ => none
theorem eqCs_append : ∀ (ls ms : List Nat) (xs ys : List Value) (b : Bool), eqCs (ls ++ ms) xs ys = some b →
    ∃ b1 b2, eqCs ls (xs.take ls.length) (ys.take ls.length) = some b1 ∧ eqCs ms (xs.drop ls.length) (ys.drop ls.length) = some b2 ∧ b = (b1 && b2)
  | [], ms, xs, ys, b, h => ⟨true, b, by simp [eqCs], by simpa using h, by simp⟩
  | l :: ls, ms, xs, ys, b, h => by
    cases xs with
    | nil => cases ys <;> simp [eqCs] at h
    | cons x xs =>
      cases ys with
      | nil => simp [eqCs] at h
      | cons y ys =>
        simp only [List.cons_append, eqCs] at h
        split at h
        · rename_i a c h1 h2
          cases h
          obtain ⟨b1, b2, g1, g2, g3⟩ := eqCs_append ls ms xs ys c h2
          exact ⟨a && b1, b2, by simp [eqCs, h1, g1], by simpa using g2, by rw [g3, Bool.and_assoc]⟩
        · cases h
section
variable {P : Program}
theorem run_part_agg {t : TypeId} {s : Nat} (h : ldI P t = some (true, s)) (cs : List Value) (off : Nat) (w : World) : (part t cs.toArray off).run P w = .ok (.agg ((cs.drop off).take s).toArray) w := by
  simp only [part, Sem.run_bind, run_isAgg h, Result.andThen_ok, if_true, run_sizeOf h, Sem.run_pure]
  congr 3
  simp
theorem run_part_one {t : TypeId} {s : Nat} (h : ldI P t = some (false, s)) (cs : List Value) (off : Nat) (v : Value) (hv : cs[off]? = some v) (w : World) : (part t cs.toArray off).run P w = .ok v w := by
  simp [part, run_isAgg h, hv]
theorem eqCs_len : ∀ (ls : List Nat) (xs ys : List Value) (b : Bool), eqCs ls xs ys = some b → xs.length = ls.length ∧ ys.length = ls.length
  | [], xs, ys, b, h => by cases xs <;> cases ys <;> simp [eqCs] at h ⊢
  | l :: ls, xs, ys, b, h => by
    cases xs with
    | nil => cases ys <;> simp [eqCs] at h
    | cons x xs =>
      cases ys with
      | nil => simp [eqCs] at h
      | cons y ys =>
        simp only [eqCs] at h
        split at h
        · rename_i a c h1 h2
          have := eqCs_len ls xs ys c h2
          simp [this.1, this.2]
        · cases h
def asV (ag : Bool) (xs : List Value) : Value := match ag, xs with
  | false, [v] => v
  | _, xs => .agg xs.toArray
theorem run_eq_leaves : ∀ (d : Nat) (t : TypeId) (ls : List Nat) (ag : Bool) (s : Nat), lvI P d t = some ls → ldI P t = some (ag, s) → ∀ (xs ys : List Value) (b : Bool) (w : World), eqCs ls xs ys = some b →
    (Op.equalIn d t (asV ag xs) (asV ag ys)).run P w = .ok b w := by
  intro d
  induction d with
  | zero => intro t ls ag s h; cases h
  | succ d ih =>
    intro t ls ag s h hld xs ys b w he
    obtain ⟨dsc, i, hu, hi, hsz, hag⟩ := ldI_spec hld
    simp only [lvI, hu] at h
    have one : ∀ l, eqCs [l] xs ys = some b → ∃ x y, xs = [x] ∧ ys = [y] ∧ eqC l x y = some b := fun l he => by
      cases xs with
      | nil => cases ys <;> simp [eqCs] at he
      | cons x xs =>
        cases ys with
        | nil => simp [eqCs] at he
        | cons y ys =>
          simp only [eqCs] at he
          split at he
          · rename_i a c h1 h2
            cases he
            cases xs <;> cases ys <;> simp [eqCs] at h2
            subst h2
            exact ⟨x, y, rfl, rfl, by simpa using h1⟩
          · cases he
    cases dsc with
    | string =>
      cases h
      simp at hag; subst hag
      obtain ⟨x, y, rfl, rfl, hc⟩ := one 0 he
      cases x <;> cases y <;> simp [eqC] at hc
      subst hc
      simp only [asV, Op.equalIn, Sem.run_bind, run_underlying hu, Result.andThen_ok, Sem.run_pure]
      rw [beq_toListBytes, toList_beq]
    | int k =>
      cases h
      simp at hag; subst hag
      obtain ⟨x, y, rfl, rfl, hc⟩ := one 1 he
      cases x <;> cases y <;> simp [eqC] at hc
      obtain ⟨rfl, rfl⟩ := hc
      simp [asV, Op.equalIn, run_underlying hu]
      rfl
    | bool =>
      cases h
      simp at hag; subst hag
      obtain ⟨x, y, rfl, rfl, hc⟩ := one 2 he
      cases x <;> cases y <;> simp [eqC] at hc
      subst hc
      simp [asV, Op.equalIn, run_underlying hu]
    | struct fs =>
      simp at hag; subst hag
      have h : (if P.stoodInHeld t = true then none else lvF P (lvI P d) fs.toList 0) = some ls := h
      split at h
      · cases h
      · rename_i hst
        have hst' : P.stoodInHeld t = false := by simpa using hst
        have hf : P.fieldsOf t = fs := by simp [Program.fieldsOf, hu]
        have asT : ∀ zs : List Value, asV true zs = .agg zs.toArray := fun zs => by cases zs <;> rfl
        rw [asT, asT, run_equalIn_struct w d t _ _ (by rw [hf]; exact hu) hst', hf]
        have gen : ∀ (fl : List Field) (off : Nat) (ls : List Nat) (b : Bool), lvF P (lvI P d) fl off = some ls → eqCs ls (xs.drop off) (ys.drop off) = some b →
            (Op.eqFields d xs.toArray ys.toArray fl).run P w = .ok b w := by
          intro fl
          induction fl with
          | nil =>
            intro off ls b h he
            simp only [lvF] at h; cases h
            cases hx : xs.drop off <;> cases hy : ys.drop off <;> rw [hx, hy] at he <;> simp [eqCs] at he
            subst he
            simp [Op.eqFields]
          | cons f fl ihf =>
            intro off ls b h he
            simp only [lvF] at h
            split at h
            · rename_i l1 ag1 s1 hl1 hld1
              split at h
              · rename_i hc
                obtain ⟨hnm', rfl, rfl, hag1⟩ := hc
                split at h
                · rename_i r hr
                  cases h
                  obtain ⟨b1, b2, g1, g2, rfl⟩ := eqCs_append l1 r _ _ b he
                  have hlen := eqCs_len l1 _ _ _ g1
                  have hp : ∀ zs : List Value, ((zs.drop f.offset).take l1.length).length = l1.length → (part f.type zs.toArray f.offset).run P w = .ok (asV ag1 ((zs.drop f.offset).take l1.length)) w := fun zs hz => by
                    cases ag1 with
                    | true => rw [run_part_agg hld1, asT]
                    | false =>
                      have h1 : l1.length = 1 := by simpa using hag1
                      rw [h1] at hz ⊢
                      match hm : (zs.drop f.offset).take 1, hz with
                      | [v], _ =>
                        refine run_part_one hld1 zs f.offset v ?_ w
                        have := congrArg (·[0]?) hm
                        simpa [List.getElem?_take] using this
                  simp only [Op.eqFields, ne_eq, hnm', not_false_eq_true, if_true, Sem.run_bind]
                  rw [hp xs hlen.1]
                  simp only [Result.andThen_ok]
                  rw [hp ys hlen.2]
                  simp only [Result.andThen_ok]
                  rw [ih f.type l1 ag1 l1.length hl1 hld1 _ _ b1 w g1]
                  simp only [Result.andThen_ok, Sem.run_ite]
                  cases b1 with
                  | false => simp
                  | true =>
                    simp only [Bool.not_true, Bool.false_eq_true, if_false, Bool.true_and]
                    refine ihf (f.offset + l1.length) r b2 hr ?_
                    rw [List.drop_drop, List.drop_drop] at g2
                    exact g2
                · cases h
              · cases h
            · cases h
        exact gen fs.toList 0 ls b h (by simpa using he)
    | _ => cases h

structure EqT (P : Program) (t : TypeId) (ls : List Nat) : Prop where
  lv : lvI P 20 t = some ls
  ag : (ldI P t).map (·.1) = some true
  gd : P.eqGuardType P.depth t = false
theorem lvI_up : ∀ (d : Nat) (t : TypeId) (ls : List Nat), lvI P d t = some ls → lvI P (d + 1) t = some ls := by
  intro d
  induction d with
  | zero => intro t ls h; cases h
  | succ d ih =>
    intro t ls h
    have gen : ∀ (fl : List Field) (off : Nat) (ls : List Nat), lvF P (lvI P d) fl off = some ls → lvF P (lvI P (d + 1)) fl off = some ls := by
      intro fl
      induction fl with
      | nil => intro off ls h; exact h
      | cons f fl ihf =>
        intro off ls h
        simp only [lvF] at h ⊢
        split at h
        · rename_i l1 ag1 s1 h1 h2
          rw [ih _ _ h1, h2]
          simp only
          split at h
          · rename_i hc
            rw [if_pos hc]
            split at h
            · rename_i r hr; rw [ihf _ _ hr]; exact h
            · cases h
          · cases h
        · cases h
    rw [lvI] at h ⊢
    cases hu : P.underlying t with
    | none => rw [hu] at h; cases h
    | some dsc =>
      rw [hu] at h
      cases dsc <;> first | exact h | skip
      simp only at h ⊢
      split at h
      · cases h
      · rename_i hs
        rw [if_neg hs]
        exact gen _ _ _ h
theorem lvI_more {d : Nat} {t : TypeId} {ls : List Nat} (h : lvI P d t = some ls) : ∀ k, lvI P (d + k) t = some ls
  | 0 => h
  | k + 1 => lvI_up _ _ _ (lvI_more h k)
theorem run_structEq {t : TypeId} {ls : List Nat} (h : EqT P t ls) {xs ys : List Value} {b : Bool} (he : eqCs ls xs ys = some b) (op : BinOp) (x y : Operand) (w : World) :
    (do eqGuard op t x y (.agg xs.toArray) (.agg ys.toArray); binOp .eql t (.agg xs.toArray) (.agg ys.toArray) : Sem Value).run P w = .ok (.bool b) w ∧
    (do eqGuard op t x y (.agg xs.toArray) (.agg ys.toArray); binOp .neq t (.agg xs.toArray) (.agg ys.toArray) : Sem Value).run P w = .ok (.bool (!b)) w := by
  have h2 := h.ag
  cases hl : ldI P t with
  | none => rw [hl] at h2; cases h2
  | some p =>
    obtain ⟨ag, s⟩ := p
    rw [hl] at h2
    simp at h2; subst h2
    have asT : ∀ zs : List Value, asV true zs = .agg zs.toArray := fun zs => by cases zs <;> rfl
    have hr := run_eq_leaves 10000 t ls true s (lvI_more h.lv 9980) hl xs ys b w he
    rw [asT, asT] at hr
    constructor
    · rw [Sem.run_bind, run_eqGuard_agg w op t x y _ _ h.gd]
      simp only [Result.andThen_ok]
      rw [run_eql_struct, hr]; rfl
    · rw [Sem.run_bind, run_eqGuard_agg w op t x y _ _ h.gd]
      simp only [Result.andThen_ok]
      rw [run_neq_struct, hr]; rfl
end
section
variable {P : Program} {F : Fr} {B : Heap} {O : Boxes} {n : Nat} {ops : Array Oper} {κ : Kap} {d : Nat} {ty : TypeId} {pos : String} {aft : Array Edge} {g : Option (Nat × Bool)}
theorem ok_aeql {t t' : TypeId} {x y : Operand} {xs ys : Array Value} {ls : List Nat} {b c : Bool} (hn : Nat.blt d n = true) (hg : gK ops κ ⟨some d, .binOp .eql t x y t', ty, pos, aft, g⟩ = some true) (hx : evK κ x = some (.agg xs)) (hy : evK κ y = some (.agg ys))
    (ht : EqT P t ls) (he : eqCs ls xs.toList ys.toList = some b) (hb : b = c) : StepOK P F B n ops O κ ⟨some d, .binOp .eql t x y t', ty, pos, aft, g⟩ d (.is (.bool c)) :=
  ok_bin hn hg hx hy fun u => by subst hb; simpa using (run_structEq ht he .eql x y u).1
theorem ok_aneq {t t' : TypeId} {x y : Operand} {xs ys : Array Value} {ls : List Nat} {b c : Bool} (hn : Nat.blt d n = true) (hg : gK ops κ ⟨some d, .binOp .neq t x y t', ty, pos, aft, g⟩ = some true) (hx : evK κ x = some (.agg xs)) (hy : evK κ y = some (.agg ys))
    (ht : EqT P t ls) (he : eqCs ls xs.toList ys.toList = some b) (hb : (!b) = c) : StepOK P F B n ops O κ ⟨some d, .binOp .neq t x y t', ty, pos, aft, g⟩ d (.is (.bool c)) :=
  ok_bin hn hg hx hy fun u => by subst hb; simpa using (run_structEq ht he .neq x y u).2

/-! ### indexes and cuts -/
theorem addr_add (b off k : Nat) : Addr.add ⟨b, off, none⟩ k = ⟨b, off + k, none⟩ := by simp [Addr.add]
theorem ok_indexAt (L : Tabs P) {x y : Operand} {t e : TypeId} {ag : Bool} {s b off len cap : Nat} {k : IntKind} {p : Int} (j : Nat) (hn : Nat.blt d n = true) (hg : gK ops κ ⟨some d, .indexAddr t x y, ty, pos, aft, g⟩ = some true)
    (hx : evK κ x = some (.slice (some ⟨b, off, none⟩) len cap)) (hy : evK κ y = some (.int k p)) (ht : L.sl t = some e) (hl : L.ld e = some (ag, s)) (hj : p = j) (hi : j < len) :
    StepOK P F B n ops O κ ⟨some d, .indexAddr t x y, ty, pos, aft, g⟩ d (.is (.pointer (some ⟨b, off + j * s, none⟩))) :=
  ok_pure rfl (by simpa using hn) hg trivial fun a u H fp en => ⟨_, by
    have h1 := en.is_ x _ (by simp [Op.operands]) hx
    have h2 := en.is_ y _ (by simp [Op.operands]) hy
    subst hj
    have hu := Tabs.sl_spec ht
    simp only [execOp, h1, h2, Instr.indexAt, Sem.run_bind, asIntOf, Sem.run_pure, Result.andThen_ok, run_underlying hu]
    rw [if_pos (by omega)]
    simp [run_sizeOf (Tabs.ld_spec hl), addr_add], rfl⟩
theorem ok_indexSl (L : Tabs P) {q : Nat} {y : Operand} {t e e' : TypeId} {ag : Bool} {s len : Nat} {k : IntKind} {p : Int} {cs : List Value} (j : Nat) (hn : Nat.blt d n = true) (hg : gK ops κ ⟨some d, .indexAddr t (.tmp q) y, ty, pos, aft, g⟩ = some true)
    (hx : κ q = some (.sat (SlB cs e' len))) (hy : evK κ y = some (.int k p)) (ht : L.sl t = some e) (hl : L.ld e = some (ag, s)) (hj : p = j) (hi : j < len) :
    StepOK P F B n ops O κ ⟨some d, .indexAddr t (.tmp q) y, ty, pos, aft, g⟩ d (.sat (At cs e' (j * s))) :=
  ok_pure rfl (by simpa using hn) hg At.mono fun a u H fp en => by
    obtain ⟨b, h1, hb⟩ := en.sat_ q _ (by simp [Op.operands]) hx
    have h2 := en.is_ y _ (by simp [Op.operands]) hy
    subst hj
    have hu := Tabs.sl_spec ht
    refine ⟨.pointer (some ⟨b, j * s, none⟩), ?_, b, rfl, hb⟩
    simp only [execOp, h1, h2, Instr.indexAt, Sem.run_bind, asIntOf, Sem.run_pure, Result.andThen_ok, run_underlying hu]
    rw [if_pos (by omega)]
    simp [run_sizeOf (Tabs.ld_spec hl), addr_add]
theorem ok_lenSl (L : Tabs P) {q : Nat} {tt e e' : TypeId} {len : Nat} {cs : List Value} (hn : Nat.blt d n = true) (hg : gK ops κ ⟨some d, .call ⟨.builtin .len, #[.tmp q], #[tt]⟩, ty, pos, aft, g⟩ = some true) (hx : κ q = some (.sat (SlB cs e' len))) (ht : L.sl tt = some e) :
    StepOK P F B n ops O κ ⟨some d, .call ⟨.builtin .len, #[.tmp q], #[tt]⟩, ty, pos, aft, g⟩ d (.is (.int .i64 len)) :=
  ok_pure rfl (by simpa using hn) hg trivial fun a u H fp en => ⟨_, by
    obtain ⟨b, h1, hb⟩ := en.sat_ q _ (by simp [Op.operands, Call.operands]) hx
    simp [execOp, resolve, h1, invoke, builtin, Builtin.len_, run_underlying (Tabs.sl_spec ht), goInt], rfl⟩
theorem ok_nil {x : Operand} {ad : Addr} (hn : Nat.blt d n = true) (hg : gK ops κ ⟨some d, .nilCheck x, ty, pos, aft, g⟩ = some true) (hx : evK κ x = some (.pointer (some ad))) :
    StepOK P F B n ops O κ ⟨some d, .nilCheck x, ty, pos, aft, g⟩ d (.is (.pointer (some ad))) :=
  ok_pure rfl (by simpa using hn) hg trivial fun a u H fp en => ⟨_, by simp [execOp, en.is_ x _ (by simp [Op.operands]) hx], rfl⟩
theorem ok_nilAt {t : Nat} {cs : List Value} {t' : TypeId} {off : Nat} (hn : Nat.blt d n = true) (hg : gK ops κ ⟨some d, .nilCheck (.tmp t), ty, pos, aft, g⟩ = some true) (hx : κ t = some (.sat (At cs t' off))) :
    StepOK P F B n ops O κ ⟨some d, .nilCheck (.tmp t), ty, pos, aft, g⟩ d (.sat (At cs t' off)) :=
  ok_pure rfl (by simpa using hn) hg At.mono fun a u H fp en => by
    obtain ⟨b, h1, hb⟩ := en.sat_ t _ (by simp [Op.operands]) hx
    exact ⟨.pointer (some ⟨b, off, none⟩), by simp [execOp, h1], b, rfl, hb⟩
theorem ok_nilF {x : Operand} {f : Nat} {fi ca : Array Value} (hn : Nat.blt d n = true) (hg : gK ops κ ⟨some d, .nilCheck x, ty, pos, aft, g⟩ = some true) (hx : evK κ x = some (.func (.func f) fi ca)) :
    StepOK P F B n ops O κ ⟨some d, .nilCheck x, ty, pos, aft, g⟩ d (.is (.func (.func f) fi ca)) :=
  ok_pure rfl (by simpa using hn) hg trivial fun a u H fp en => ⟨_, by simp [execOp, en.is_ x _ (by simp [Op.operands]) hx], rfl⟩

/-- A string is cut: 's[i:j]', the bounds as natural numbers. -/
theorem run_bound (x : Nat) (k : IntKind) (y : Nat) (c : BoundsCode) (h : x ≤ y) (w : World) : (Instr.sliceBound (.int k x) y c).run P w = .ok x w := by
  simp only [Instr.sliceBound, Sem.run_bind, asIntOf, Sem.run_pure, Result.andThen_ok]
  rw [if_pos (by omega)]
  simp
theorem ok_sliceS (L : Tabs P) {x : Operand} {tt : TypeId} {s r : ByteArray} {lo hi : Option Operand} {kl kh : IntKind} (i j : Nat) {pl ph : Int} (hn : Nat.blt d n = true) (hg : gK ops κ ⟨some d, .slice tt x lo hi none, ty, pos, aft, g⟩ = some true) (hx : evK κ x = some (.string s)) (ht : L.st tt = some ())
    (hlo : match lo with | some y => evK κ y = some (.int kl pl) ∧ pl = i | none => i = 0) (hhi : match hi with | some y => evK κ y = some (.int kh ph) ∧ ph = j | none => j = s.size) (hij : i ≤ j) (hjs : j ≤ s.size) (hr : s.extract i j = r) :
    StepOK P F B n ops O κ ⟨some d, .slice tt x lo hi none, ty, pos, aft, g⟩ d (.is (.string r)) :=
  ok_pure rfl (by simpa using hn) hg trivial fun a u H fp en => ⟨_, by
    have h1 := en.is_ x _ (by simp [Op.operands]) hx
    subst hr
    have hu := Tabs.st_spec ht
    cases lo with
    | none =>
      simp only at hlo; subst hlo
      cases hi with
      | none =>
        simp only at hhi; subst hhi
        simp [execOp, h1, Instr.sliceAt, run_underlying hu, Instr.slice, Instr.sliceBounds]
      | some y =>
        obtain ⟨hy, rfl⟩ := hhi
        have h2 := en.is_ y _ (by simp [Op.operands]) hy
        simp [execOp, h1, h2, Instr.sliceAt, run_underlying hu, Instr.slice, Instr.sliceBounds, run_bound j kh s.size _ hjs]
    | some z =>
      obtain ⟨hz, rfl⟩ := hlo
      have h3 := en.is_ z _ (by simp [Op.operands]) hz
      cases hi with
      | none =>
        simp only at hhi; subst hhi
        simp [execOp, h1, h3, Instr.sliceAt, run_underlying hu, Instr.slice, Instr.sliceBounds, run_bound i kl _ _ hij]
      | some y =>
        obtain ⟨hy, rfl⟩ := hhi
        have h2 := en.is_ y _ (by simp [Op.operands]) hy
        simp [execOp, h1, h2, h3, Instr.sliceAt, run_underlying hu, Instr.slice, Instr.sliceBounds, run_bound j kh s.size _ hjs, run_bound i kl j _ hij], rfl⟩

/-! ### numbers -/
theorem ok_quo {t t' : TypeId} {x y : Operand} {k : IntKind} {p q r : Int} (hn : Nat.blt d n = true) (hg : gK ops κ ⟨some d, .binOp .quo t x y t', ty, pos, aft, g⟩ = some true) (hx : evK κ x = some (.int k p)) (hy : evK κ y = some (.int k q)) (h0 : q ≠ 0) (hb : k.wrap (p.tdiv q) = r) :
    StepOK P F B n ops O κ ⟨some d, .binOp .quo t x y t', ty, pos, aft, g⟩ d (.is (.int k r)) := ok_bin hn hg hx hy fun u => by subst hb; simp [eqGuard_quo, binOp_quo, Op.intDiv, h0]
theorem ok_rem {t t' : TypeId} {x y : Operand} {k : IntKind} {p q r : Int} (hn : Nat.blt d n = true) (hg : gK ops κ ⟨some d, .binOp .rem t x y t', ty, pos, aft, g⟩ = some true) (hx : evK κ x = some (.int k p)) (hy : evK κ y = some (.int k q)) (h0 : q ≠ 0) (hb : p.tmod q = r) :
    StepOK P F B n ops O κ ⟨some d, .binOp .rem t x y t', ty, pos, aft, g⟩ d (.is (.int k r)) := ok_bin hn hg hx hy fun u => by subst hb; simp [eqGuard_rem, binOp_rem, Op.intDiv, h0]
theorem ok_neg {t : TypeId} {x : Operand} {k : IntKind} {p r : Int} (hn : Nat.blt d n = true) (hg : gK ops κ ⟨some d, .unOp .neg t x, ty, pos, aft, g⟩ = some true) (hx : evK κ x = some (.int k p)) (hb : k.wrap (0 - p) = r) :
    StepOK P F B n ops O κ ⟨some d, .unOp .neg t x, ty, pos, aft, g⟩ d (.is (.int k r)) :=
  ok_pure rfl (by simpa using hn) hg trivial fun a u H fp e => ⟨_, by subst hb; simp [execOp, e.is_ x _ (by simp [Op.operands]) hx, Op.unary, Op.intArith], rfl⟩
theorem ok_min {x y : Operand} {tts : Array TypeId} {k : IntKind} {p q r : Int} (hn : Nat.blt d n = true) (hg : gK ops κ ⟨some d, .call ⟨.builtin .min, #[x, y], tts⟩, ty, pos, aft, g⟩ = some true)
    (hx : evK κ x = some (.int k p)) (hy : evK κ y = some (.int k q)) (hr : (if q < p then q else p) = r) :
    StepOK P F B n ops O κ ⟨some d, .call ⟨.builtin .min, #[x, y], tts⟩, ty, pos, aft, g⟩ d (.is (.int k r)) :=
  ok_pure rfl (by simpa using hn) hg trivial fun a u H fp e => ⟨_, by
    have h1 := e.is_ x _ (by simp [Op.operands, Call.operands]) hx
    have h2 := e.is_ y _ (by simp [Op.operands, Call.operands]) hy
    subst hr
    simp [execOp, resolve, h1, h2, invoke, builtin, Builtin.min_, Builtin.min2], rfl⟩
def ikI (P : Program) (t : TypeId) : Option IntKind := match P.underlying t with | some (.int k) => some k | _ => none
theorem ok_conv {t t' : TypeId} {x : Operand} {k k' : IntKind} {p r : Int} (hn : Nat.blt d n = true) (hg : gK ops κ ⟨some d, .convert t t' x, ty, pos, aft, g⟩ = some true) (hx : evK κ x = some (.int k p)) (h1 : (P.underlying t).isSome = true) (h2 : ikI P t' = some k') (hb : k'.wrap p = r) :
    StepOK P F B n ops O κ ⟨some d, .convert t t' x, ty, pos, aft, g⟩ d (.is (.int k' r)) :=
  ok_pure rfl (by simpa using hn) hg trivial fun a u H fp e => ⟨_, by
    subst hb
    have hv := e.is_ x _ (by simp [Op.operands]) hx
    obtain ⟨ds, hds⟩ := Option.isSome_iff_exists.1 h1
    have h3 : P.underlying t' = some (.int k') := by
      unfold ikI at h2
      split at h2
      · rename_i kk hk; cases h2; exact hk
      · cases h2
    simp only [execOp, hv, convert, Sem.run_bind, run_underlying hds, run_underlying h3, Result.andThen_ok, Conv.intToInt, Sem.run_pure], rfl⟩

/-! ### function values -/
theorem ok_makeFunc {f : Nat} {first cap : Array Operand} {fs cs : List Value} (hn : Nat.blt d n = true) (hg : gK ops κ ⟨some d, .makeFunc (.func f) first cap, ty, pos, aft, g⟩ = some true) (h1 : evKs κ first.toList = some fs) (h2 : evKs κ cap.toList = some cs) :
    StepOK P F B n ops O κ ⟨some d, .makeFunc (.func f) first cap, ty, pos, aft, g⟩ d (.is (.func (.func f) fs.toArray cs.toArray)) :=
  ok_pure rfl (by simpa using hn) hg trivial fun a u H fp e => ⟨_, by
    have key : ∀ (xs : List Operand) (vs : List Value), (∀ x ∈ xs, x ∈ (Op.makeFunc (.func f) first cap).operands) → evKs κ xs = some vs → xs.map a.eval = vs := by
      intro xs
      induction xs with
      | nil => intro vs _ h; simp only [evKs] at h; cases h; rfl
      | cons x xs ih =>
        intro vs hx h
        simp only [evKs] at h
        split at h
        · rename_i v vs' g1 g2
          cases h
          rw [List.map_cons, e.is_ x v (hx x (List.mem_cons_self ..)) g1, ih vs' (fun y hy => hx y (List.mem_cons_of_mem _ hy)) g2]
        · cases h
    have k1 := key first.toList fs (fun x hx => by simp [Op.operands]; exact .inl (by simpa using hx)) h1
    have k2 := key cap.toList cs (fun x hx => by simp [Op.operands]; exact .inr (by simpa using hx)) h2
    have r1 : first.map a.eval = fs.toArray := by rw [← k1, ← List.map_toArray, Array.toArray_toList]
    have r2 : cap.map a.eval = cs.toArray := by rw [← k2, ← List.map_toArray, Array.toArray_toList]
    simp only [execOp, Instr.makeFunc, Sem.run_bind, Sem.run_pure, Result.andThen_ok]
    rw [r1, r2], rfl⟩
end
end Go.V
