/- Tables of goals (chapter 23): plain laws. -/
import Derived.Test.YtpnmjelhnacmlaaTreeP
import Derived.Test.YtpnmjelhnacmlaaNamI
import Derived.Test.YtpnmjelhnacmlaaNamC
namespace Go.V.L23
open Go.Proofs Go.RowKit Go.V
abbrev G := Str3
theorem ordr_of {α : Type} {c : α → α → Int} (h : Ord3 c) : Ordr c := by
  refine ⟨fun a b => ?_, fun {a b d} h1 h2 => ?_, fun {a b} d e => ?_⟩
  · have := h.anti a b; omega
  · have h3 := h.trans a b d (by omega) (by omega)
    by_cases h4 : c a d = 0
    · have := h.lt_of (a := a) (b := b) (d := d) (by omega) (by omega) h4; omega
    · omega
  · rw [h.eq _ _ e]
def cI (a b : Int) : Int := if a < b then -1 else if a > b then 1 else 0
theorem cI_lt {a b : Int} : cI a b < 0 ↔ a < b := by unfold cI; split <;> (try split) <;> omega
theorem cI_gt {a b : Int} : cI a b > 0 ↔ a > b := by unfold cI; split <;> (try split) <;> omega
theorem cI_eq {a b : Int} : cI a b = 0 ↔ a = b := by unfold cI; split <;> (try split) <;> omega
theorem cI_ordr : Ordr cI := by
  refine ⟨fun a b => ?_, fun {a b d} h1 h2 => ?_, fun {a b} d e => ?_⟩
  · rw [cI_lt]; have : 0 < cI b a ↔ b > a := cI_gt; rw [this]
  · rw [cI_lt] at *; omega
  · rw [cI_eq.1 e]
theorem getS_putS {K V : Type} {c : K → K → Int} (h : Ordr c) (k : K) (v : V) (k' : K) : ∀ (l : List (K × V)), Tr.getS c k' (Tr.putS c k v l) = if c k' k = 0 then some v else Tr.getS c k' l
  | [] => rfl
  | y :: l => by
    simp only [Tr.putS]
    by_cases h1 : c k y.1 < 0
    · rw [if_pos h1]; rfl
    · rw [if_neg h1]
      by_cases h2 : c k y.1 > 0
      · rw [if_pos h2]
        simp only [Tr.getS]
        rw [getS_putS h k v k' l]
        by_cases h3 : c k' k = 0
        · rw [if_pos h3, if_pos h3, if_neg]
          intro h4
          have h5 := h.eql y.1 h3
          have h6 := h.anti y.1 k
          have h7 := h.anti y.1 k'
          have h8 := h.eqr y.1 h3
          omega
        · rw [if_neg h3, if_neg h3]
      · have h0 : c k y.1 = 0 := by omega
        rw [if_neg h2]
        simp only [Tr.getS]
        by_cases h3 : c k' k = 0
        · have h4 := h.eqr k' h0
          have h5 := h.eql k' h0
          have h6 := h.anti k k'
          have h7 := h.anti y.1 k'
          have h8 := h.anti k' k
          have h9 := h.anti k' y.1
          rw [if_pos h3, if_pos (by omega)]
        · have h4 := h.eqr k' h0
          have h5 := h.eql k' h0
          have h6 := h.anti k k'
          have h7 := h.anti y.1 k'
          have h8 := h.anti k' k
          have h9 := h.anti k' y.1
          rw [if_neg h3, if_neg (by omega), if_neg (by omega)]
/-- A goal's number in a list. -/
def findL (g : G) : List G → Nat → Option Nat
  | [], _ => none
  | y :: l, i => if y = g then some i else findL g l (i + 1)
theorem findL_add (g : G) : ∀ (l : List G) (i : Nat), findL g l i = (findL g l 0).map (· + i)
  | [], _ => rfl
  | y :: l, i => by
    simp only [findL]
    split
    · simp
    · rw [findL_add g l (i + 1), findL_add g l (0 + 1)]
      cases findL g l 0 with
      | none => rfl
      | some a => simp only [Option.map_some, Option.some.injEq]; omega
theorem findL_snoc (g y : G) : ∀ (l : List G) (i : Nat), findL g (l ++ [y]) i = match findL g l i with | some j => some j | none => if y = g then some (i + l.length) else none
  | [], i => by simp [findL]
  | z :: l, i => by
    simp only [List.cons_append, findL]
    split
    · rfl
    · rw [findL_snoc g y l (i + 1)]
      cases findL g l (i + 1) with
      | some j => rfl
      | none => simp only [List.length_cons]; split <;> simp <;> omega
theorem findL_some {g : G} : ∀ {l : List G} {i j : Nat}, findL g l i = some j → i ≤ j ∧ l[j - i]? = some g ∧ j - i < l.length
  | [], _, _, h => by cases h
  | y :: l, i, j, h => by
    simp only [findL] at h
    split at h
    · rename_i e; cases h; rw [Nat.sub_self]; exact ⟨Nat.le_refl _, by simp [e], by simp⟩
    · obtain ⟨h1, h2, h3⟩ := findL_some h
      refine ⟨by omega, ?_, by simp only [List.length_cons]; omega⟩
      rw [show j - i = (j - (i + 1)) + 1 by omega]; simpa using h2
theorem findL_none {g : G} : ∀ {l : List G} {i : Nat}, findL g l i = none ↔ g ∉ l
  | [], _ => by simp [findL]
  | y :: l, i => by
    simp only [findL]
    split
    · rename_i e; simp [e]
    · rename_i e; rw [findL_none]; simp; exact fun h => (fun e' => e e'.symm)
theorem findL_nodup {g : G} : ∀ {l : List G} {i j : Nat}, l.Nodup → l[j]? = some g → findL g l i = some (i + j)
  | [], _, _, _, h => by simp at h
  | y :: l, i, 0, _, h => by simp at h; simp [findL, h]
  | y :: l, i, j + 1, hn, h => by
    have h1 := List.nodup_cons.1 hn
    simp only [List.getElem?_cons_succ] at h
    simp only [findL]
    rw [if_neg (fun e : y = g => h1.1 (by rw [e]; exact List.mem_of_getElem? h)), findL_nodup h1.2 h]
    congr 1; omega
def enumL : List G → Nat → List (Int × G)
  | [], _ => []
  | y :: l, i => ((i : Int), y) :: enumL l (i + 1)
theorem enumL_length : ∀ (l : List G) (i : Nat), (enumL l i).length = l.length
  | [], _ => rfl
  | _ :: l, i => by simp only [enumL, List.length_cons, enumL_length l (i + 1)]
theorem enumL_snoc (y : G) : ∀ (l : List G) (i : Nat), enumL (l ++ [y]) i = enumL l i ++ [(((i + l.length : Nat) : Int), y)]
  | [], i => rfl
  | z :: l, i => by simp only [List.cons_append, enumL, enumL_snoc y l (i + 1), List.length_cons]; rw [show i + 1 + l.length = i + (l.length + 1) by omega]
theorem enumL_mem : ∀ {l : List G} {i : Nat} {z : Int × G}, z ∈ enumL l i → ∃ j : Nat, z.1 = ((i + j : Nat) : Int) ∧ j < l.length ∧ l[j]? = some z.2
  | [], _, _, h => by cases h
  | y :: l, i, z, h => by
    rcases List.mem_cons.1 h with rfl | h
    · exact ⟨0, rfl, by simp, rfl⟩
    · obtain ⟨j, h1, h2, h3⟩ := enumL_mem h
      exact ⟨j + 1, by rw [h1]; congr 1; omega, by simpa using h2, by simpa using h3⟩
theorem enumL_get : ∀ {l : List G} {i j : Nat} {g : G}, l[j]? = some g → (enumL l i)[j]? = some (((i + j : Nat) : Int), g)
  | [], _, _, _, h => by simp at h
  | y :: l, i, 0, g, h => by simp at h; subst h; rfl
  | y :: l, i, j + 1, g, h => by
    simp only [List.getElem?_cons_succ] at h
    simp only [enumL, List.getElem?_cons_succ]
    rw [enumL_get h]; congr 3; omega
theorem putS_endI {V : Type} (k : Int) (v : V) : ∀ {l : List (Int × V)}, (∀ z ∈ l, z.1 < k) → Tr.putS cI k v l = l ++ [(k, v)]
  | [], _ => rfl
  | y :: l, h => by
    have h1 := h y (List.mem_cons_self ..)
    simp only [Tr.putS]
    rw [if_neg (by rw [cI_lt]; omega), if_pos (by rw [cI_gt]; omega), putS_endI k v fun z hz => h z (List.mem_cons_of_mem _ hz)]
    rfl
theorem getS_enum : ∀ (l : List G) (i : Nat) (k : Int), Tr.getS cI k (enumL l i) = if k < i then none else l[(k - i).toNat]?
  | [], i, k => by simp [enumL, Tr.getS]
  | y :: l, i, k => by
    simp only [enumL, Tr.getS]
    by_cases h1 : k = i
    · rw [if_pos (cI_eq.2 h1), if_neg (by omega), show (k - i).toNat = 0 by omega]; rfl
    · rw [if_neg (fun h => h1 (cI_eq.1 h)), getS_enum l (i + 1) k]
      by_cases h2 : k < i
      · rw [if_pos (by omega), if_pos h2]
      · rw [if_neg (by omega), if_neg h2, show (k - i).toNat = (k - ((i + 1 : Nat) : Int)).toNat + 1 by omega, List.getElem?_cons_succ]
/-- The two trees of a table of goals. -/
structure TG (l : List G) (t : Tr Int G) (u : Tr G Int) : Prop where
  st : Tr.Srt cI (Tr.list t)
  lt : Tr.list t = enumL l 0
  su : Tr.Srt cmp3 (Tr.list u)
  gu : ∀ g, Tr.getS cmp3 g (Tr.list u) = (findL g l 0).map (fun j => (j : Int))
  zu : u.size ≤ l.length
  nd : l.Nodup
theorem cmp3_ordr : Ordr cmp3 := ordr_of cmp3_ord
theorem tg_nil : TG [] .nil .nil := ⟨List.Pairwise.nil, rfl, List.Pairwise.nil, fun _ => rfl, Nat.le_refl _, List.nodup_nil⟩
theorem TG.size {l : List G} {t : Tr Int G} {u : Tr G Int} (h : TG l t u) : t.size = l.length := by rw [← Tr.size_list, h.lt, enumL_length]
theorem TG.put {l : List G} {t : Tr Int G} {u : Tr G Int} (h : TG l t u) {g : G} (hg : findL g l 0 = none) : TG (l ++ [g]) (Tr.put cI (l.length : Int) g t) (Tr.put cmp3 g (l.length : Int) u) := by
  have hgn := findL_none.1 hg
  have e1 := Tr.list_put cI_ordr (l.length : Int) g h.st
  have e2 := Tr.list_put cmp3_ordr g (l.length : Int) h.su
  refine ⟨by rw [e1]; exact Tr.srt_putS cI_ordr h.st, ?_, by rw [e2]; exact Tr.srt_putS cmp3_ordr h.su, fun g' => ?_, ?_, ?_⟩
  · rw [e1, h.lt, enumL_snoc, putS_endI, Nat.zero_add]
    intro z hz
    obtain ⟨j, h1, h2, _⟩ := enumL_mem hz
    rw [h1]; omega
  · rw [e2, getS_putS cmp3_ordr, findL_snoc, h.gu]
    by_cases h1 : g' = g
    · subst h1
      rw [if_pos (cmp3_ord.refl _), hg]
      simp
    · rw [if_neg (fun e => h1 (cmp3_ord.eq _ _ e))]
      cases findL g' l 0 with
      | some j => rfl
      | none => rw [if_neg (fun e : g = g' => h1 e.symm)]
  · have := Tr.size_put cmp3 g (l.length : Int) u
    have := h.zu
    rw [List.length_append, List.length_singleton]; omega
  · refine List.nodup_append.2 ⟨h.nd, by simp, fun a ha b hb => ?_⟩
    rw [List.mem_singleton] at hb
    subst hb
    exact fun e => hgn (e ▸ ha)
theorem TG.get {l : List G} {t : Tr Int G} {u : Tr G Int} (h : TG l t u) (k : Int) : Tr.get cI k t = if k < 0 then none else l[k.toNat]? := by
  rw [Tr.get_list cI_ordr k h.st, h.lt, getS_enum]; simp
theorem TG.find {l : List G} {t : Tr Int G} {u : Tr G Int} (h : TG l t u) (g : G) : Tr.get cmp3 g u = (findL g l 0).map (fun j => (j : Int)) := by
  rw [Tr.get_list cmp3_ordr g h.su, h.gu]
def gE (g : G) : Int := allE [g.1.1, g.1.2, g.2]
/-- Strings of a goal are not too long. -/
def GZ (g : G) : Prop := g.1.1.size ≤ 1099511627776 ∧ g.1.2.size ≤ 1099511627776 ∧ g.2.size ≤ 1099511627776
/-- A table with a goal: the goals, the number, whether it is new, the error. -/
def withS (l : List G) (g : G) : List G × Int × Bool × Int :=
  if gE g = 0 then match findL g l 0 with
    | some j => (l, (j : Int), false, 0)
    | none => (l ++ [g], (l.length : Int), true, 0)
  else (l, 0, false, gE g)
theorem withS_bad {l : List G} {g : G} (h : ¬ gE g = 0) : withS l g = (l, 0, false, gE g) := if_neg h
theorem withS_old {l : List G} {g : G} {j : Nat} (h : gE g = 0) (hf : findL g l 0 = some j) : withS l g = (l, (j : Int), false, 0) := by unfold withS; rw [if_pos h, hf]
theorem withS_new {l : List G} {g : G} (h : gE g = 0) (hf : findL g l 0 = none) : withS l g = (l ++ [g], (l.length : Int), true, 0) := by unfold withS; rw [if_pos h, hf]
/-- The error of a list of goals, of which some have been taken. -/
def ofE : List G → List G → Int
  | _, [] => 0
  | pre, g :: r => if gE g = 0 then match findL g pre 0 with | some _ => 7 | none => ofE (pre ++ [g]) r else gE g
def relL (a b : ByteArray) : List G → Nat → List Int
  | [], _ => []
  | g :: l, i => if g.1.1 = a ∧ g.2 = b then (i : Int) :: relL a b l (i + 1) else relL a b l (i + 1)
theorem relL_snoc (a b : ByteArray) (g : G) : ∀ (l : List G) (i : Nat), relL a b (l ++ [g]) i = relL a b l i ++ (if g.1.1 = a ∧ g.2 = b then [((i + l.length : Nat) : Int)] else [])
  | [], i => by simp only [List.nil_append, relL, List.length_nil, Nat.add_zero]
  | y :: l, i => by
    simp only [List.cons_append, relL, relL_snoc a b g l (i + 1), List.length_cons]
    rw [show i + 1 + l.length = i + (l.length + 1) by omega]
    split <;> rfl
theorem relL_length (a b : ByteArray) : ∀ (l : List G) (i : Nat), (relL a b l i).length ≤ l.length
  | [], _ => Nat.le_refl _
  | y :: l, i => by
    have := relL_length a b l (i + 1)
    simp only [relL]
    split <;> simp only [List.length_cons] <;> omega
def goesB (now old : List G) : Bool := decide (now.take old.length = old)
theorem allE_cases : ∀ (l : List ByteArray), allE l = 0 ∨ allE l = 6
  | [] => .inl rfl
  | s :: l => by
    simp only [allE]
    split
    · exact allE_cases l
    · rename_i h; rcases chk_cases s with h' | h'
      · exact absurd h' h
      · exact .inr h'
theorem gE_cases (g : G) : gE g = 0 ∨ gE g = 6 := allE_cases _
end Go.V.L23
