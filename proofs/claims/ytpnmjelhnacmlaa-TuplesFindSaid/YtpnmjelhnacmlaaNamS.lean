/- Plain words for names: when a string is one, the errors, the texts. -/
import Derived.Test.YtpnmjelhnacmlaaKitR
namespace Go.V
open Go.RowKit
def okB (c : UInt8) : Bool := (97 ≤ c && c ≤ 122) || (48 ≤ c && c ≤ 57)
def chk (s : ByteArray) : Int := if 1 ≤ s.size ∧ s.size ≤ 16 ∧ s.data.toList.all okB = true then 0 else 6
theorem chk_cases (s : ByteArray) : chk s = 0 ∨ chk s = 6 := by unfold chk; split <;> simp
theorem chk_bad {s : ByteArray} (h : ¬ (1 ≤ s.size ∧ s.size ≤ 16)) : chk s = 6 := by
  unfold chk; rw [if_neg]; intro h'; exact h ⟨h'.1, h'.2.1⟩
theorem chk_all {s : ByteArray} (h1 : 1 ≤ s.size) (h2 : s.size ≤ 16) (h : s.data.toList.all okB = true) : chk s = 0 := by
  unfold chk; rw [if_pos ⟨h1, h2, h⟩]
theorem chk_at {s : ByteArray} {k : Nat} {c : UInt8} (hc : s[k]? = some c) (h : okB c = false) : chk s = 6 := by
  unfold chk; rw [if_neg]
  rintro ⟨_, _, hall⟩
  have hm : c ∈ s.data.toList := by
    have : s.data[k]? = some c := hc
    exact Array.mem_toList_iff.2 (Array.mem_of_getElem? this)
  rw [List.all_eq_true] at hall
  rw [hall c hm] at h; cases h
theorem getElem?_lt {s : ByteArray} {k : Nat} (h : k < s.size) : ∃ c, s[k]? = some c := ⟨s[k], by rw [getElem?_pos]⟩
theorem take_all {s : ByteArray} {k : Nat} {c : UInt8} (hc : s[k]? = some c) (h : okB c = true) (ha : (s.data.toList.take k).all okB = true) : (s.data.toList.take (k + 1)).all okB = true := by
  have hd : s.data.toList[k]? = some c := by
    have : s.data[k]? = some c := hc
    simpa using this
  rw [List.take_add_one, hd]
  simp [List.all_append, ha, h]
theorem len_toList (s : ByteArray) : s.data.toList.length = s.size := by rw [Array.length_toList]; rfl
theorem all_take {s : ByteArray} {k : Nat} (h : s.size ≤ k) (ha : (s.data.toList.take k).all okB = true) : s.data.toList.all okB = true := by
  rwa [List.take_of_length_le (by rw [len_toList]; exact h)] at ha
theorem u8_lt (c : UInt8) : (c.toNat : Int) < 256 := by have := c.toNat_lt; omega
theorem okB_1 {c : UInt8} (h1 : (c.toNat : Int) < 97) (h2 : (c.toNat : Int) < 48) : okB c = false := by
  simp [okB, UInt8.le_iff_toNat_le]; omega
theorem okB_2 {c : UInt8} (h1 : (c.toNat : Int) < 97) (h2 : 57 < (c.toNat : Int)) : okB c = false := by
  simp [okB, UInt8.le_iff_toNat_le]; omega
theorem okB_3 {c : UInt8} (h1 : 122 < (c.toNat : Int)) : okB c = false := by
  simp [okB, UInt8.le_iff_toNat_le]; omega
theorem okB_4 {c : UInt8} (h1 : ¬ (c.toNat : Int) < 97) (h2 : ¬ 122 < (c.toNat : Int)) : okB c = true := by
  simp [okB, UInt8.le_iff_toNat_le]; omega
theorem okB_5 {c : UInt8} (h1 : ¬ (c.toNat : Int) < 48) (h2 : ¬ 57 < (c.toNat : Int)) : okB c = true := by
  simp [okB, UInt8.le_iff_toNat_le]; omega
theorem take_1 {vs : List Value} {j : Nat} {v : Value} (h : vs[j]? = some v) : (vs.drop (j * 1)).take 1 = [v] := by
  obtain ⟨hl, he⟩ := List.getElem?_eq_some_iff.1 h
  rw [Nat.mul_one, List.drop_eq_getElem_cons hl, he]
  rfl
theorem str_at {l : List ByteArray} {j : Nat} {s : ByteArray} (h : l[j]? = some s) : ((l.map Value.string).drop (j * 1)).take 1 = [.string s] := take_1 (by simp [h])
end Go.V
