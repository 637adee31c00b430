/- Tuples (chapter 2): plain laws. -/
import Derived.Test.YtpnmjelhnacmlaaSstS
import Derived.Test.YtpnmjelhnacmlaaNamE
namespace Go.V.L2
open Go.Proofs Go.RowKit Go.V
/-- A tuple: its goal, and its subject. -/
abbrev U := Str3 × Str3
def ucs (t : U) : List Value := [.string t.1.1.1, .string t.1.1.2, .string t.1.2, .string t.2.1.1, .string t.2.1.2, .string t.2.2]
theorem ucs_len (t : U) : (ucs t).length = 6 := rfl
def cmpT : U → U → Int := lexC cmp3 cmp3
theorem cmpT_ord : Ord3 cmpT := cmp3_ord.lex cmp3_ord
theorem u_eq {t v : U} : (t.1.1.1 = v.1.1.1 ∧ t.1.1.2 = v.1.1.2 ∧ t.1.2 = v.1.2 ∧ t.2.1.1 = v.2.1.1 ∧ t.2.1.2 = v.2.1.2 ∧ t.2.2 = v.2.2) ↔ t = v :=
  ⟨fun ⟨a, b, c, d, e, f⟩ => Prod.ext (Prod.ext (Prod.ext a b) c) (Prod.ext (Prod.ext d e) f), fun e => by subst e; exact ⟨rfl, rfl, rfl, rfl, rfl, rfl⟩⟩
instance memU (t : U) (l : List U) : Decidable (t ∈ l) := decidable_of_iff (l.any (fun x => decide (x = t)) = true) (by simp)
/-- The error of a tuple. -/
def tE (t : U) : Int := if allE [t.1.1.1, t.1.1.2, t.1.2] = 0 then subjE t.2.1.1 t.2.1.2 t.2.2 else allE [t.1.1.1, t.1.1.2, t.1.2]
abbrev sAt : ByteArray := ⟨#[64]⟩
def tT (t : U) : ByteArray := goalT t.1.1.1 t.1.1.2 t.1.2 ++ sAt ++ subjT t.2.1.1 t.2.1.2 t.2.2
/-- Strings of a tuple are not too long. -/
def TZ (t : U) : Prop := (t.1.1.1.size ≤ 1099511627776 ∧ t.1.1.2.size ≤ 1099511627776 ∧ t.1.2.size ≤ 1099511627776) ∧ t.2.1.1.size ≤ 1099511627776 ∧ t.2.1.2.size ≤ 1099511627776 ∧ t.2.2.size ≤ 1099511627776
instance (t : U) : Decidable (TZ t) := inferInstanceAs (Decidable (_ ∧ _))
theorem sst_iff {α : Type} {c : α → α → Int} (h : Ord3 c) : ∀ {l : List α}, Sst c l ↔ ∀ (j : Nat) (a b : α), l[j]? = some a → l[j + 1]? = some b → c a b < 0
  | [] => ⟨fun _ j a b h1 _ => by simp at h1, fun _ => Sst.nil⟩
  | [x] => ⟨fun _ j a b _ h2 => by simp at h2, fun _ => List.pairwise_singleton ..⟩
  | x :: y :: l => by
    constructor
    · intro hs j a b h1 h2
      have hp := List.pairwise_cons.1 hs
      cases j with
      | zero => simp at h1 h2; subst h1 h2; exact hp.1 _ (List.mem_cons_self ..)
      | succ j => exact (sst_iff h).1 hp.2 j a b (by simpa using h1) (by simpa using h2)
    · intro hj
      have hl : Sst c (y :: l) := (sst_iff h).2 fun j a b h1 h2 => hj (j + 1) a b (by simpa using h1) (by simpa using h2)
      have hxy : c x y < 0 := hj 0 x y rfl rfl
      refine List.pairwise_cons.2 ⟨fun z hz => ?_, hl⟩
      rcases List.mem_cons.1 hz with rfl | hz
      · exact hxy
      · exact h.tr hxy ((List.pairwise_cons.1 hl).1 z hz)
instance {α : Type} (c : α → α → Int) (l : List α) : Decidable (Sst c l) := inferInstanceAs (Decidable (l.Pairwise _))
def isB (l : List U) : Bool := decide (Sst cmpT l)
theorem isB_no {l : List U} {j : Nat} {a b : U} (h1 : l[j]? = some a) (h2 : l[j + 1]? = some b) (h : ¬ cmpT a b < 0) : isB l = false := decide_eq_false fun hs => h ((sst_iff cmpT_ord).1 hs j a b h1 h2)
theorem isB_yes {l : List U} (h : ∀ j a b, l[j]? = some a → l[j + 1]? = some b → cmpT a b < 0) : isB l = true := decide_eq_true ((sst_iff cmpT_ord).2 h)
/-- Which tuple a text is. -/
def ptA (s : ByteArray) : U × Int :=
  if (cutA s 64).2.2 = true ∧ hasA (cutA s 64).2.1 64 = false then
    (if (pgA (cutA s 64).1).2.2.2 = 0 then
      (if (psA (cutA s 64).2.1).2.2.2 = 0 then
        (((((pgA (cutA s 64).1).1, (pgA (cutA s 64).1).2.1), (pgA (cutA s 64).1).2.2.1), (((psA (cutA s 64).2.1).1, (psA (cutA s 64).2.1).2.1), (psA (cutA s 64).2.1).2.2.1)), 0)
      else ((((⟨#[]⟩, ⟨#[]⟩), ⟨#[]⟩), ((⟨#[]⟩, ⟨#[]⟩), ⟨#[]⟩)), (psA (cutA s 64).2.1).2.2.2))
    else ((((⟨#[]⟩, ⟨#[]⟩), ⟨#[]⟩), ((⟨#[]⟩, ⟨#[]⟩), ⟨#[]⟩)), (pgA (cutA s 64).1).2.2.2))
  else ((((⟨#[]⟩, ⟨#[]⟩), ⟨#[]⟩), ((⟨#[]⟩, ⟨#[]⟩), ⟨#[]⟩)), 5)
end Go.V.L2
