/- Tuples (chapter 2): what was read has its text; texts of valid tuples are read again. Plain laws. -/
import Derived.Test.YtpnmjelhnacmlaaRef02d
import Derived.Test.YtpnmjelhnacmlaaSstT
namespace Go.V.L2
open Go.Proofs Go.RowKit Go.V
theorem parts_text {s x y z : ByteArray} {d : Bool} (h : partsA s = some (x, y, z, d)) : (d = true → s = goalT x y z) ∧ (d = false → z = sNil ∧ s = objT x y) := by
  rcases split_b s 58 with h58 | ⟨a, b, rfl, ha⟩
  · unfold partsA at h
    rw [cutA_no h58] at h
    simp at h
  · unfold partsA at h
    rw [cutA_mid ha] at h
    split at h
    · rcases split_b b 35 with h35 | ⟨c, e, rfl, hc⟩
      · rw [cutA_no h35] at h
        simp at h
        obtain ⟨rfl, rfl, rfl, rfl⟩ := h
        exact ⟨fun e => (by cases e), fun _ => ⟨rfl, rfl⟩⟩
      · rw [cutA_mid hc] at h
        simp at h
        obtain ⟨rfl, rfl, rfl, rfl⟩ := h
        refine ⟨fun _ => ?_, fun e => by cases e⟩
        unfold goalT objT
        apply ba_ext'
        simp only [list_app, List.append_assoc]
    · cases h
theorem pg_text {s x y z : ByteArray} (h : pgA s = (x, y, z, 0)) : s = goalT x y z ∧ allE [x, y, z] = 0 := by
  unfold pgA at h
  rcases hp : partsA s with _ | ⟨a, b, c, d⟩
  · rw [hp] at h; simp at h
  · rw [hp] at h
    simp only at h
    cases d
    · simp at h
    · rw [if_neg (by decide)] at h
      split at h
      · rename_i h0
        simp at h
        obtain ⟨rfl, rfl, rfl⟩ := h
        exact ⟨(parts_text hp).1 rfl, h0⟩
      · rename_i h0
        simp at h
        exact absurd h.2.2.2 h0
theorem ps_text {s x y z : ByteArray} (h : psA s = (x, y, z, 0)) : s = subjT x y z ∧ subjE x y z = 0 := by
  unfold psA at h
  rcases hp : partsA s with _ | ⟨a, b, c, d⟩
  · rw [hp] at h; simp at h
  · rw [hp] at h
    simp only at h
    split at h
    · rename_i h0
      cases d
      · rw [if_neg (by decide)] at h
        simp at h
        obtain ⟨rfl, rfl, rfl⟩ := h
        obtain ⟨rfl, h1⟩ := (parts_text hp).2 rfl
        unfold subjT subjE
        rw [if_pos rfl, if_pos rfl]
        exact ⟨h1, h0⟩
      · rw [if_pos rfl] at h
        split at h
        · rename_i hc
          simp at h
          obtain ⟨rfl, rfl, rfl⟩ := h
          have hn : ¬ c = ⟨#[]⟩ := fun e => by subst e; rw [chk_nil] at hc; exact absurd hc (by decide)
          unfold subjT subjE
          rw [if_neg hn, if_neg hn]
          obtain ⟨h1, h2⟩ := allE2 h0
          exact ⟨(parts_text hp).1 rfl, allE3_of h1 h2 hc⟩
        · rename_i hc
          simp at h
          exact absurd h.2.2.2 hc
    · rename_i h0
      simp at h
      exact absurd h.2.2.2 h0
/-- What was read is valid, and has this text. -/
theorem pt_text {s : ByteArray} {t : U} (h : ptA s = (t, 0)) : tE t = 0 ∧ tT t = s := by
  unfold ptA at h
  split at h
  · rename_i hc
    rcases split_b s 64 with h64 | ⟨a, b, rfl, ha⟩
    · rw [cutA_no h64] at hc
      cases hc.1
    · rw [cutA_mid ha] at h
      dsimp only at h
      rcases hg : pgA a with ⟨x, y, z, e⟩
      rcases hs : psA b with ⟨x2, y2, z2, e2⟩
      rw [hg, hs] at h
      dsimp only at h
      by_cases h1 : e = 0
      · subst h1
        rw [if_pos rfl] at h
        by_cases h2 : e2 = 0
        · subst h2
          rw [if_pos rfl] at h
          obtain ⟨g1, g2⟩ := pg_text hg
          obtain ⟨s1, s2⟩ := ps_text hs
          have ht : t = (((x, y), z), ((x2, y2), z2)) := (congrArg Prod.fst h).symm
          subst ht
          refine ⟨?_, ?_⟩
          · unfold tE; dsimp only; rw [if_pos g2]; exact s2
          · unfold tT; dsimp only; rw [← g1, ← s1]
        · rw [if_neg h2] at h
          exact absurd (congrArg Prod.snd h) h2
      · rw [if_neg h1] at h
        exact absurd (congrArg Prod.snd h) h1
  · exact absurd (congrArg Prod.snd h) (show ¬ (5 : Int) = 0 by decide)
theorem noAt_chk {s : ByteArray} (h : chk s = 0) : noB s 64 := by
  unfold chk at h
  split at h
  · rename_i hc
    have := List.all_eq_true.1 hc.2.2
    exact fun hm => by have := this _ hm; revert this; decide
  · exact absurd h (by decide)
/-- The text of a valid tuple is read again. -/
theorem pt_back {t : U} (h : tE t = 0) : ptA (tT t) = (t, 0) := by
  obtain ⟨⟨⟨x, y⟩, z⟩, ⟨⟨x2, y2⟩, z2⟩⟩ := t
  unfold tE at h
  dsimp only at h
  split at h
  · rename_i h1
    obtain ⟨c1, c2, c3⟩ := allE3 h1
    obtain ⟨d1, d2, d3⟩ := subjE_zero h
    have n1 : noB (goalT x y z) 64 := by
      unfold goalT objT
      exact noB_app (noB_app (noB_app (noB_app (noAt_chk c1) (noB_one (by decide))) (noAt_chk c2)) (noB_one (by decide))) (noAt_chk c3)
    have n2 : noB (subjT x2 y2 z2) 64 := by
      unfold subjT
      split
      · unfold objT; exact noB_app (noB_app (noAt_chk d1) (noB_one (by decide))) (noAt_chk d2)
      · rename_i hz
        unfold goalT objT
        exact noB_app (noB_app (noB_app (noB_app (noAt_chk d1) (noB_one (by decide))) (noAt_chk d2)) (noB_one (by decide))) (noAt_chk (d3.resolve_left hz))
    unfold ptA tT
    dsimp only
    rw [cutA_mid n1]
    dsimp only
    rw [if_pos ⟨rfl, hasA_no n2⟩, pg_back c1 c2 c3, ps_back h]
    rfl
  · rename_i h1
    exact absurd h h1
theorem posS_lt {α : Type} {c : α → α → Int} {t : α} : ∀ {l : List α} {j : Nat} {x : α}, j < posS c t l → l[j]? = some x → c x t < 0
  | [], j, x, hj, _ => by simp [posS] at hj
  | y :: l, j, x, hj, hx => by
    unfold posS at hj
    rw [List.takeWhile_cons] at hj
    split at hj
    · rename_i hy
      cases j with
      | zero => simp at hx; subst hx; simpa using hy
      | succ j => exact posS_lt (l := l) (by simpa [posS] using hj) (by simpa using hx)
    · simp at hj
theorem posS_ge {α : Type} {c : α → α → Int} {t : α} : ∀ {l : List α} {x : α}, l[posS c t l]? = some x → ¬ c x t < 0
  | [], x, hx => by simp at hx
  | y :: l, x, hx => by
    unfold posS at hx
    rw [List.takeWhile_cons] at hx
    split at hx
    · exact posS_ge (l := l) (by simpa [posS] using hx)
    · rename_i hy
      simp at hx
      subst hx
      simpa using hy
theorem chk_size {s : ByteArray} (h : chk s = 0) : s.size ≤ 16 := by
  unfold chk at h
  split at h
  · rename_i hc; exact hc.2.1
  · exact absurd h (by decide)
theorem tz_of {t : U} (h : tE t = 0) : TZ t := by
  unfold tE at h
  split at h
  · rename_i h1
    obtain ⟨c1, c2, c3⟩ := allE3 h1
    obtain ⟨d1, d2, d3⟩ := subjE_zero h
    have a1 := chk_size c1
    have a2 := chk_size c2
    have a3 := chk_size c3
    have b1 := chk_size d1
    have b2 := chk_size d2
    have b3 : t.2.2.size ≤ 16 := by
      rcases d3 with d3 | d3
      · rw [d3]; decide
      · exact chk_size d3
    unfold TZ
    refine ⟨⟨?_, ?_, ?_⟩, ?_, ?_, ?_⟩ <;> omega
  · rename_i h1; exact absurd h h1
end Go.V.L2
