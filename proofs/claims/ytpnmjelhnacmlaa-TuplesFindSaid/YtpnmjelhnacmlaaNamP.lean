/- Plain words: the texts of valid names are read again. -/
import Derived.Test.YtpnmjelhnacmlaaNamE
import Derived.Lib.IndexLaws
import Derived.Lib.IndexBytes
namespace Go.V
open Go.RowKit
def noB (s : ByteArray) (c : UInt8) : Prop := c ∉ s.data.toList
theorem indexByte_mid (r : List UInt8) (c : UInt8) : ∀ (l : List UInt8), c ∉ l → Lib.indexByte (l ++ c :: r) c = l.length
  | [], _ => by simp [Lib.indexByte]
  | b :: l, h => by
    have h1 : ¬ (b == c) = true := fun e => h (by rw [beq_iff_eq] at e; rw [e]; exact List.mem_cons_self ..)
    have ih := indexByte_mid r c l (fun e => h (List.mem_cons_of_mem _ e))
    rw [List.cons_append, Lib.indexByte, if_neg h1, ih, if_neg (by rw [beq_iff_eq]; omega)]
    simp
theorem indexByte_no (c : UInt8) : ∀ (l : List UInt8), c ∉ l → Lib.indexByte l c = -1
  | [], _ => rfl
  | b :: l, h => by
    have h1 : ¬ (b == c) = true := fun e => h (by rw [beq_iff_eq] at e; rw [e]; exact List.mem_cons_self ..)
    rw [Lib.indexByte, if_neg h1, indexByte_no c l (fun e => h (List.mem_cons_of_mem _ e))]
    rfl
theorem cut_mid {l r : List UInt8} {c : UInt8} (h : c ∉ l) : Lib.cut (l ++ c :: r) [c] = (l, r, true) := by
  unfold Lib.cut
  rw [Lib.index_one, indexByte_mid r c l h, if_pos (by omega)]
  simp
theorem cut_no {l : List UInt8} {c : UInt8} (h : c ∉ l) : Lib.cut l [c] = (l, [], false) := by
  unfold Lib.cut
  rw [Lib.index_one, indexByte_no c l h, if_neg (by omega)]
theorem list_app (a b : ByteArray) : (a ++ b).data.toList = a.data.toList ++ b.data.toList := by
  rw [ByteArray.data_append, Array.toList_append]
theorem ba_ext' {a b : ByteArray} (h : a.data.toList = b.data.toList) : a = b := by
  obtain ⟨⟨x⟩⟩ := a; obtain ⟨⟨y⟩⟩ := b; simp at h; subst h; rfl
theorem ba_of (a : ByteArray) : (⟨a.data.toList.toArray⟩ : ByteArray) = a := by obtain ⟨⟨l⟩⟩ := a; rfl
theorem cutA_mid {a b : ByteArray} {c : UInt8} (h : noB a c) : cutA (a ++ ⟨#[c]⟩ ++ b) c = (a, b, true) := by
  have e : (a ++ ⟨#[c]⟩ ++ b).data.toList = a.data.toList ++ c :: b.data.toList := by rw [list_app, list_app]; simp
  unfold cutA
  rw [e, cut_mid h]
theorem cutA_no {a : ByteArray} {c : UInt8} (h : noB a c) : cutA a c = (a, ⟨#[]⟩, false) := by
  unfold cutA
  rw [cut_no h]
theorem hasA_no {a : ByteArray} {c : UInt8} (h : noB a c) : hasA a c = false := by
  unfold hasA
  rw [indexByte_no c _ h]; rfl
theorem cntA_no {a : ByteArray} {c : UInt8} (h : noB a c) : cntA a c = 0 := by
  unfold cntA Lib.countByte
  exact List.count_eq_zero_of_not_mem h
theorem noB_app {a b : ByteArray} {c : UInt8} (h : noB a c) (k : noB b c) : noB (a ++ b) c := by
  unfold noB at *
  rw [list_app]
  simp [h, k]
theorem noB_one {c d : UInt8} (h : c ≠ d) : noB ⟨#[d]⟩ c := by unfold noB; simp [h]
theorem noB_nil {c : UInt8} : noB ⟨#[]⟩ c := by unfold noB; simp
structure Fine (s : ByteArray) : Prop where
  colon : noB s 58
  hash : noB s 35
theorem fine_nil : Fine ⟨#[]⟩ := ⟨noB_nil, noB_nil⟩
theorem fine_chk {s : ByteArray} (h : chk s = 0) : Fine s := by
  unfold chk at h
  split at h
  · rename_i hc
    have := List.all_eq_true.1 hc.2.2
    exact ⟨fun hm => by have := this _ hm; revert this; decide, fun hm => by have := this _ hm; revert this; decide⟩
  · exact absurd h (by decide)
theorem parts_obj {a b : ByteArray} (ha : Fine a) (hb : Fine b) : partsA (objT a b) = some (a, b, ⟨#[]⟩, false) := by
  have h1 : cutA (objT a b) 58 = (a, b, true) := cutA_mid ha.colon
  unfold partsA
  rw [h1]
  simp only [hasA_no ha.hash, hasA_no hb.colon, cntA_no hb.hash, cutA_no hb.hash]
  simp
theorem parts_goal {a b c : ByteArray} (ha : Fine a) (hb : Fine b) (hc : Fine c) : partsA (goalT a b c) = some (a, b, c, true) := by
  have e : goalT a b c = a ++ sCol ++ (b ++ sHash ++ c) := by unfold goalT objT; apply ba_ext'; simp only [list_app, List.append_assoc]
  have h1 : cutA (goalT a b c) 58 = (a, b ++ sHash ++ c, true) := by rw [e]; exact cutA_mid ha.colon
  have h2 : noB (b ++ sHash ++ c) 58 := noB_app (noB_app hb.colon (noB_one (by decide))) hc.colon
  have h3 : cntA (b ++ sHash ++ c) 35 = 1 := by
    unfold cntA Lib.countByte
    rw [list_app, list_app, List.count_append, List.count_append, List.count_eq_zero_of_not_mem hb.hash, List.count_eq_zero_of_not_mem hc.hash]
    simp
  have h4 : cutA (b ++ sHash ++ c) 35 = (b, c, true) := cutA_mid hb.hash
  unfold partsA
  rw [h1]
  simp only [hasA_no ha.hash, hasA_no h2, h3, h4]
  simp
theorem allE2 {a b : ByteArray} (h : allE [a, b] = 0) : chk a = 0 ∧ chk b = 0 := by
  simp only [allE] at h
  rcases chk_cases a with h1 | h1 <;> rcases chk_cases b with h2 | h2 <;> simp [h1, h2] at h ⊢
theorem allE3 {a b c : ByteArray} (h : allE [a, b, c] = 0) : chk a = 0 ∧ chk b = 0 ∧ chk c = 0 := by
  simp only [allE] at h
  rcases chk_cases a with h1 | h1 <;> rcases chk_cases b with h2 | h2 <;> rcases chk_cases c with h3 | h3 <;> simp [h1, h2, h3] at h ⊢
theorem allE2_of {a b : ByteArray} (ha : chk a = 0) (hb : chk b = 0) : allE [a, b] = 0 := by simp [allE, ha, hb]
theorem allE3_of {a b c : ByteArray} (ha : chk a = 0) (hb : chk b = 0) (hc : chk c = 0) : allE [a, b, c] = 0 := by simp [allE, ha, hb, hc]
theorem subjE_zero {a b c : ByteArray} (h : subjE a b c = 0) : chk a = 0 ∧ chk b = 0 ∧ (c = ⟨#[]⟩ ∨ chk c = 0) := by
  unfold subjE at h
  split at h
  · rename_i hc; exact ⟨(allE2 h).1, (allE2 h).2, .inl hc⟩
  · exact ⟨(allE3 h).1, (allE3 h).2.1, .inr (allE3 h).2.2⟩
theorem chk_nil : chk ⟨#[]⟩ = 6 := by decide +kernel
theorem ps_back {a b c : ByteArray} (h : subjE a b c = 0) : psA (subjT a b c) = (a, b, c, 0) := by
  obtain ⟨ha, hb, hc⟩ := subjE_zero h
  unfold psA subjT
  by_cases h0 : c = ⟨#[]⟩
  · subst h0
    rw [if_pos rfl, parts_obj (fine_chk ha) (fine_chk hb)]
    simp only [allE2_of ha hb, if_true]
    simp
  · have hc' : chk c = 0 := hc.resolve_left h0
    rw [if_neg h0, parts_goal (fine_chk ha) (fine_chk hb) (fine_chk hc')]
    simp only [allE2_of ha hb, hc', if_true]
theorem po_back {a b : ByteArray} (ha : chk a = 0) (hb : chk b = 0) : poA (objT a b) = (a, b, 0) := by
  unfold poA
  rw [parts_obj (fine_chk ha) (fine_chk hb)]
  simp [allE2_of ha hb]
theorem pg_back {a b c : ByteArray} (ha : chk a = 0) (hb : chk b = 0) (hc : chk c = 0) : pgA (goalT a b c) = (a, b, c, 0) := by
  unfold pgA
  rw [parts_goal (fine_chk ha) (fine_chk hb) (fine_chk hc)]
  simp [allE3_of ha hb hc]
theorem pg_back0 {a b : ByteArray} (ha : chk a = 0) (hb : chk b = 0) : pgA (goalT a b ⟨#[]⟩) = (⟨#[]⟩, ⟨#[]⟩, ⟨#[]⟩, 6) := by
  have h6 : allE [a, b, ⟨#[]⟩] = 6 := by simp [allE, ha, hb, chk_nil]
  unfold pgA
  rw [parts_goal (fine_chk ha) (fine_chk hb) fine_nil]
  simp [h6]
theorem subjT_inj {a b c a' b' c' : ByteArray} (h : subjE a b c = 0) (h' : subjE a' b' c' = 0) (e : subjT a b c = subjT a' b' c') : a = a' ∧ b = b' ∧ c = c' := by
  have h1 := ps_back h
  rw [e, ps_back h'] at h1
  simp at h1
  exact ⟨h1.1.symm, h1.2.1.symm, h1.2.2.symm⟩
theorem subjT_size (a b c : ByteArray) : (subjT a b c).size ≤ a.size + b.size + c.size + 2 := by
  unfold subjT; split
  · rw [objT_size]; omega
  · rw [goalT_size]; omega
end Go.V
