/- The kit's ninth floor: arrays by their address, bytes that become a string, equal structs. -/
import Derived.Test.YtpnmjelhnacmlaaKitH
import Derived.Laws.BytesString
namespace Go.V
open Go.RowKit
def arI (P : Program) (t : TypeId) : Option (Nat × Nat) := match P.underlying t with | some (.array n e) => some (n, e) | _ => none
def bsI (P : Program) (t t' : TypeId) : Bool := match P.underlying t, P.underlying t' with | some (.slice e), some .string => (match P.underlying e with | some (.int .u8) => true | _ => false) | _, _ => false
section
variable {P : Program} {F : Fr} {B : Heap} {O : Boxes} {n : Nat} {ops : Array Oper} {κ : Kap} {d : Nat} {ty : TypeId} {pos : String} {aft : Array Edge} {g : Option (Nat × Bool)}
theorem arI_spec {t : TypeId} {m e : Nat} (h : arI P t = some (m, e)) : P.underlying t = some (.array m e) := by
  unfold arI at h
  split at h
  · rename_i m' e' hu; cases h; exact hu
  · cases h
theorem ok_indexAr (L : Tabs P) {x y : Operand} {t e : TypeId} {ag : Bool} {s b off len : Nat} {k : IntKind} {p : Int} (j : Nat) (hn : Nat.blt d n = true) (hg : gK ops κ ⟨some d, .indexAddr t x y, ty, pos, aft, g⟩ = some true)
    (hx : evK κ x = some (.pointer (some ⟨b, off, none⟩))) (hy : evK κ y = some (.int k p)) (ht : arI P t = some (len, e)) (hl : L.ld e = some (ag, s)) (hj : p = j) (hi : j < len) :
    StepOK P F B n ops O κ ⟨some d, .indexAddr t x y, ty, pos, aft, g⟩ d (.is (.pointer (some ⟨b, off + j * s, none⟩))) :=
  ok_pure rfl (blt_lt hn) hg trivial fun a u H fp en => ⟨_, by
    have h1 := en.is_ x _ (by simp [Op.operands]) hx
    have h2 := en.is_ y _ (by simp [Op.operands]) hy
    subst hj
    have hu := arI_spec ht
    simp only [execOp, h1, h2, Instr.indexAt, Instr.sureAddr, Sem.run_bind, asIntOf, Sem.run_pure, Result.andThen_ok, run_underlying hu]
    rw [if_pos (by omega)]
    simp [run_sizeOf (Tabs.ld_spec hl), addr_add], rfl⟩
theorem ok_indexArS (L : Tabs P) {q : Nat} {y : Operand} {t e t' : TypeId} {ag : Bool} {s off len : Nat} {k : IntKind} {p : Int} {cs : List Value} (j : Nat) (hn : Nat.blt d n = true) (hg : gK ops κ ⟨some d, .indexAddr t (.tmp q) y, ty, pos, aft, g⟩ = some true)
    (hx : κ q = some (.sat (At cs t' off))) (hy : evK κ y = some (.int k p)) (ht : arI P t = some (len, e)) (hl : L.ld e = some (ag, s)) (hj : p = j) (hi : j < len) :
    StepOK P F B n ops O κ ⟨some d, .indexAddr t (.tmp q) y, ty, pos, aft, g⟩ d (.sat (At cs t' (off + j * s))) :=
  ok_pure rfl (blt_lt hn) hg At.mono fun a u H fp en => by
    obtain ⟨b, h1, hb⟩ := en.sat_ q _ (by simp [Op.operands]) hx
    have h2 := en.is_ y _ (by simp [Op.operands]) hy
    subst hj
    have hu := arI_spec ht
    refine ⟨.pointer (some ⟨b, off + j * s, none⟩), ?_, b, rfl, hb⟩
    simp only [execOp, h1, h2, Instr.indexAt, Instr.sureAddr, Sem.run_bind, asIntOf, Sem.run_pure, Result.andThen_ok, run_underlying hu]
    rw [if_pos (by omega)]
    simp [run_sizeOf (Tabs.ld_spec hl), addr_add]
theorem ok_byteStr {q : Nat} {t t' e' : TypeId} {p : Int} {r : ByteArray} (hn : Nat.blt d n = true) (hg : gK ops κ ⟨some d, .convert t t' (.tmp q), ty, pos, aft, g⟩ = some true)
    (hx : κ q = some (.sat (SlB [.int .u8 p] e' 1))) (ht : bsI P t t' = true) (hr : (⟨#[UInt8.ofNat p.toNat]⟩ : ByteArray) = r) :
    StepOK P F B n ops O κ ⟨some d, .convert t t' (.tmp q), ty, pos, aft, g⟩ d (.is (.string r)) :=
  ok_pure rfl (blt_lt hn) hg trivial fun a u H fp en => ⟨.string r, (by
    subst hr
    obtain ⟨b, h1, hb⟩ := en.sat_ q _ (by simp [Op.operands]) hx
    unfold bsI at ht
    split at ht
    · rename_i e hs hd
      split at ht
      · rename_i he
        have hcell : ∀ (j : Nat) v, [Value.int .u8 p][j]? = some v → u.cell? (Addr.add ⟨b, 0, none⟩ j) = some v := fun j v hv => by
          rw [addr_add, Nat.zero_add, cell_of_heap (en.sub _ _ hb)]
          simpa using hv
        have hl := run_loadCells_list (P := P) (w := u) ⟨b, 0, none⟩ [.int .u8 p] hcell
        have := run_bytesToString (P := P) u ⟨b, 0, none⟩ 1 1 [p] hl
        simp only [execOp, h1, Sem.run_bind, run_convert_bytes_string u t t' e _ _ _ hs he hd, this, Result.andThen_ok]
        rfl
      · cases ht
    · cases ht), rfl⟩
end
theorem eqCs2 {a b a' b' : ByteArray} {v : Bool} (h : decide (a = a' ∧ b = b') = v) : eqCs [0, 0] [.string a, .string b] [.string a', .string b'] = some v := by
  subst h; simp [eqCs, eqC]
theorem eqCs3 {a b c a' b' c' : ByteArray} {v : Bool} (h : decide (a = a' ∧ b = b' ∧ c = c') = v) : eqCs [0, 0, 0] [.string a, .string b, .string c] [.string a', .string b', .string c'] = some v := by
  subst h; simp [eqCs, eqC]
end Go.V
