/- Texts on the way to WiresParse, part 4: one behind another. -/
import Derived.Test.YtefilnnomholbaaGreatWiresParseM3
import Derived.Laws.Build
import Derived.WalkSmall
set_option linter.unusedVariables false
set_option linter.unusedSimpArgs false
set_option maxRecDepth 20000
namespace Go.V
structure zy5 {K:Type} (c:K → K → Int):Prop where
 anti:∀ a b, c a b < 0 ↔ 0 < c b a
 trans:∀ {a b d}, c a b < 0 → c b d < 0 → c a d < 0
 eql:∀ {a b} (d), c a b = 0 → (c a d < 0 ↔ c b d < 0)
namespace zy5
variable {K:Type} {c:K → K → Int}
theorem refl (h:zy5 c) (a:K):c a a = 0:=by
 have:=h.anti a a
 omega
theorem symm (h:zy5 c) {a b:K} (e:c a b = 0):c b a = 0:=by
 have:=h.anti a b
 have:=h.anti b a
 omega
end zy5
namespace Tr
variable {K V:Type} (c:K → K → Int)
def Srt (l:List (K × V)):Prop:=l.Pairwise fun x y => c x.1 y.1 < 0
def putS (k:K) (v:V):List (K × V) → List (K × V)
 | [] => [(k, v)]
 | y :: l => if c k y.1 < 0 then (k, v) :: y :: l else if c k y.1 > 0 then y :: putS k v l else (y.1, v) :: l
def dropS (k:K):List (K × V) → List (K × V)
 | [] => []
 | y :: l => if c k y.1 < 0 then y :: l else if c k y.1 > 0 then y :: dropS k l else l
def getS (k:K):List (K × V) → Option V
 | [] => none
 | y :: l => if c k y.1 = 0 then some y.2 else getS k l
def cutI (f e:Int):List (K × V) → Int → List (K × V)
 | [], _ => []
 | y :: l, i => if f ≤ i ∧ i < e then y :: cutI f e l (i + 1) else cutI f e l (i + 1)
variable {c} (h:zy5 c)
include h
theorem zjr {k:K} {v:V}:∀ {l1 l2:List (K × V)} {y:K × V}, (∀ x ∈ l1, c x.1 y.1 < 0) →
  putS c k v (l1 ++ y :: l2) = if c k y.1 < 0 then putS c k v l1 ++ y :: l2 else if c k y.1 > 0 then l1 ++ y :: putS c k v l2 else l1 ++ (y.1, v) :: l2
 | [], l2, y, _ => by simp only [List.nil_append, putS]; split <;> simp
 | x :: l1, l2, y, hl => by
  have ih:=zjr (k:=k) (v:=v) (l1:=l1) (l2:=l2) (y:=y) fun z hz => hl z (List.mem_cons_of_mem _ hz)
  have hx:=hl x (List.mem_cons_self ..)
  simp only [List.cons_append, putS]
  by_cases h1:c k x.1 < 0
  ·have:c k y.1 < 0:=h.trans h1 hx
   rw [if_pos h1, if_pos this, if_pos h1]; rfl
  ·rw [if_neg h1]
   by_cases h2:c k x.1 > 0
   ·rw [if_pos h2, ih, if_neg h1, if_pos h2]
    split
    ·rfl
    ·split <;> rfl
   ·have h0:c k x.1 = 0:=by omega
    have:c k y.1 < 0:=(h.eql _ h0).2 hx
    rw [if_neg h2, if_pos this, if_neg h1, if_neg h2]; rfl
theorem zia {k:K}:∀ {l1 l2:List (K × V)} {y:K × V}, (∀ x ∈ l1, c x.1 y.1 < 0) →
  dropS c k (l1 ++ y :: l2) = if c k y.1 < 0 then dropS c k l1 ++ y :: l2 else if c k y.1 > 0 then l1 ++ y :: dropS c k l2 else l1 ++ l2
 | [], l2, y, _ => by simp only [List.nil_append, dropS]
 | x :: l1, l2, y, hl => by
  have ih:=zia (k:=k) (l1:=l1) (l2:=l2) (y:=y) fun z hz => hl z (List.mem_cons_of_mem _ hz)
  have hx:=hl x (List.mem_cons_self ..)
  simp only [List.cons_append, dropS]
  by_cases h1:c k x.1 < 0
  ·have:c k y.1 < 0:=h.trans h1 hx
   rw [if_pos h1, if_pos this, if_pos h1]; rfl
  ·rw [if_neg h1]
   by_cases h2:c k x.1 > 0
   ·rw [if_pos h2, ih, if_neg h1, if_pos h2]
    split
    ·rfl
    ·split <;> rfl
   ·have h0:c k x.1 = 0:=by omega
    have:c k y.1 < 0:=(h.eql _ h0).2 hx
    rw [if_neg h2, if_pos this, if_neg h1, if_neg h2]
omit h in
theorem zjh {l1 l2:List (K × V)} {y:K × V} (hs:Srt c (l1 ++ y :: l2)):Srt c l1 ∧ Srt c l2 ∧ (∀ x ∈ l1, c x.1 y.1 < 0) ∧ (∀ x ∈ l2, c y.1 x.1 < 0):=by
 have h1:=List.pairwise_append.1 hs
 have h2:=List.pairwise_cons.1 h1.2.1
 exact ⟨h1.1, h2.2, fun x hx => h1.2.2 x hx y (List.mem_cons_self ..), h2.1⟩
theorem list_put (k:K) (v:V):∀ {t:Tr K V}, Srt c (list t) → list (put c k v t) = putS c k v (list t)
 | nil, _ => rfl
 | node nk nv l r, hs => by
  obtain ⟨hl, hr, hx, _⟩:=zjh (y:=(nk, nv)) hs
  simp only [list, put]
  rw [zjr h hx]
  split
  ·rw [zdo, list_put k v hl]
  ·split
   ·rw [zdo, list_put k v hr]
   ·rfl
theorem list_drop (k:K):∀ {t:Tr K V}, Srt c (list t) → list (if (drop c k t).2 = true then (drop c k t).1 else t) = dropS c k (list t) ∧ ((drop c k t).2 = false → (drop c k t).1 = t ∨ list (drop c k t).1 = list t) ∧ ((drop c k t).2 = true → list (drop c k t).1 = dropS c k (list t)) ∧ ((drop c k t).2 = false → dropS c k (list t) = list t)
 | nil, _ => ⟨rfl, fun _ => .inl rfl, fun h => (by cases h), fun _ => rfl⟩
 | node nk nv l r, hs => by
  obtain ⟨hl, hr, hx, _⟩:=zjh (y:=(nk, nv)) hs
  have il:=list_drop k hl
  have ir:=list_drop k hr
  have key:((drop c k (node nk nv l r)).2 = true → list (drop c k (node nk nv l r)).1 = dropS c k (list (node nk nv l r))) ∧ ((drop c k (node nk nv l r)).2 = false → dropS c k (list (node nk nv l r)) = list (node nk nv l r) ∧ list (drop c k (node nk nv l r)).1 = list (node nk nv l r)):=by
   simp only [list, drop]
   rw [zia h hx]
   split
   ·refine ⟨fun ht => ?_, fun hf => ?_⟩
    ·dsimp only at ht ⊢; rw [zdo, il.2.2.1 ht]
    ·dsimp only at hf ⊢
     have e:=il.2.2.2 hf
     refine ⟨by rw [e], ?_⟩
     rw [zdo]
     rcases il.2.1 hf with e1 | e1 <;> rw [e1]
   ·split
    ·refine ⟨fun ht => ?_, fun hf => ?_⟩
     ·dsimp only at ht ⊢; rw [zdo, ir.2.2.1 ht]
     ·dsimp only at hf ⊢
      have e:=ir.2.2.2 hf
      refine ⟨by rw [e], ?_⟩
      rw [zdo]
      rcases ir.2.1 hf with e1 | e1 <;> rw [e1]
    ·cases r with
     | nil => exact ⟨fun _ => by simp [list], fun hf => by cases hf⟩
     | node rk rv rl rr =>
      refine ⟨fun _ => ?_, fun hf => by cases hf⟩
      dsimp only
      rw [zdo]
      have:=zhv rk rv rl rr
      rw [show ((first rk rv rl rr).1.1, (first rk rv rl rr).1.2) = (first rk rv rl rr).1 from rfl, this]
      rfl
  refine ⟨?_, fun hf => .inr (key.2 hf).2, key.1, fun hf => (key.2 hf).1⟩
  split
  ·rename_i ht; exact key.1 ht
  ·rename_i ht
   have hf:(drop c k (node nk nv l r)).2 = false:=by simpa using ht
   exact (key.2 hf).1.symm
theorem zke {k:K}:∀ {l1 l2:List (K × V)} {y:K × V}, (∀ x ∈ l1, c x.1 y.1 < 0) → (∀ x ∈ l2, c y.1 x.1 < 0) →
  getS c k (l1 ++ y :: l2) = if c k y.1 = 0 then some y.2 else if c k y.1 < 0 then getS c k l1 else getS c k l2
 | [], l2, y, _, h2 => by
  simp only [List.nil_append, getS]
  split
  ·rfl
  ·split
   ·rename_i h1
    have:∀ (l:List (K × V)), (∀ x ∈ l, c y.1 x.1 < 0) → getS c k l = none:=by
     intro l
     induction l with
     | nil => intro _; rfl
     | cons z l ih =>
      intro hz
      have:=h.trans h1 (hz z (List.mem_cons_self ..))
      simp only [getS]
      rw [if_neg (by omega)]
      exact ih fun x hx => hz x (List.mem_cons_of_mem _ hx)
    exact this l2 h2
   ·rfl
 | x :: l1, l2, y, hl, h2 => by
  have ih:=zke (k:=k) (l1:=l1) (l2:=l2) (y:=y) (fun z hz => hl z (List.mem_cons_of_mem _ hz)) h2
  have hx:=hl x (List.mem_cons_self ..)
  simp only [List.cons_append, getS]
  by_cases h0:c k x.1 = 0
  ·have:c k y.1 < 0:=(h.eql _ h0).2 hx
   rw [if_pos h0, if_neg (by omega), if_pos this, if_pos h0]
  ·rw [if_neg h0, ih, if_neg h0]
theorem get_list (k:K):∀ {t:Tr K V}, Srt c (list t) → get c k t = getS c k (list t)
 | nil, _ => rfl
 | node nk nv l r, hs => by
  obtain ⟨hl, hr, hx, hy⟩:=zjh (y:=(nk, nv)) hs
  simp only [list, get]
  rw [zke h hx hy, get_list k hl, get_list k hr]
omit h
theorem zkj (f e:Int):∀ (l1 l2:List (K × V)) (i:Int), cutI f e (l1 ++ l2) i = cutI f e l1 i ++ cutI f e l2 (i + l1.length)
 | [], l2, i => by simp [cutI]
 | y :: l1, l2, i => by
  simp only [List.cons_append, cutI, zkj f e l1 l2 (i + 1), List.length_cons]
  rw [show i + 1 + (l1.length:Int) = i + ((l1.length + 1:Nat):Int) by omega]
  split <;> rfl
theorem zrc (f e:Int):∀ (l:List (K × V)) (i:Int), i + l.length ≤ f ∨ i ≥ e → cutI f e l i = []
 | [], _, _ => rfl
 | y :: l, i, h => by
  simp only [List.length_cons] at h
  simp only [cutI]
  rw [if_neg (by omega), zrc f e l (i + 1) (by omega)]
theorem prs_list:∀ (t:Tr K V) (a f e:Int), prs t a f e = cutI f e (list t) a
 | nil, _, _, _ => rfl
 | node nk nv l r, a, f, e => by
  simp only [prs]
  split
  ·rename_i h1
   rw [zrc]
   rw [size_list]; exact h1
  ·simp only [list]
   rw [zkj, prs_list l, prs_list r, size_list]
   simp only [cutI]
   split
   ·rename_i h2
    rfl
   ·rename_i h2
    rfl
end Tr
end Go.V
set_option maxRecDepth 20000
namespace Go.V.L6
open Go.Proofs Go.RowKit Go.V Go.V.L2 Go.V.L3
theorem zt8 {α:Type} {c:α → α → Int} (h:Ord3 c):zy5 c:=by
 refine ⟨fun a b => ?_, fun {a b d} h1 h2 => ?_, fun {a b} d e => ?_⟩
 ·have:=h.anti a b; omega
 ·exact h.tr h1 h2
 ·rw [h.eq _ _ e]
def zo0 (a b:U):Int:=zbt (a.2, a.1) (b.2, b.1)
theorem zg7:Ord3 zo0 where
 refl a:=cmpT_ord.refl _
 eq a b h:=by
  have:=cmpT_ord.eq _ _ h
  exact Prod.ext (congrArg Prod.snd this) (congrArg Prod.fst this)
 anti a b:=cmpT_ord.anti _ _
 trans a b d:=cmpT_ord.trans _ _ _
set_option linter.unusedSectionVars false
section keys
variable {α:Type} [DecidableEq α] {c:α → α → Int}
abbrev kS (L:List (α × Unit)):List α:=L.map (·.1)
theorem z2g {L:List (α × Unit)}:Tr.Srt c L ↔ Sst c (kS L):=by unfold Tr.Srt Sst kS; rw [List.pairwise_map]
theorem zz8 (h:Ord3 c) {k:α}:∀ {L:List (α × Unit)}, k ∉ kS L → kS (Tr.putS c k () L) = zoi c k (kS L)
 | [], _ => rfl
 | y :: L, hk => by
  simp only [kS, List.map_cons, List.mem_cons, not_or] at hk
  simp only [Tr.putS]
  by_cases h1:c k y.1 < 0
  ·rw [if_pos h1]
   simp [kS, zoi, h1]
  ·have h2:=h.tri h1 hk.1
   have h3:=h.anti k y.1
   rw [if_neg h1, if_pos (by omega)]
   have ih:=zz8 h (L:=L) hk.2
   simp only [kS, List.map_cons, zoi] at ih ⊢
   rw [if_neg h1, ih]
theorem zvi (h:Ord3 c) {k:α}:∀ {L:List (α × Unit)}, Sst c (kS L) → kS (Tr.dropS c k L) = (kS L).filter fun z => decide (z ≠ k)
 | [], _ => rfl
 | y :: L, hs => by
  simp only [kS, List.map_cons] at hs
  obtain ⟨hy, hs'⟩:=List.pairwise_cons.1 hs
  simp only [Tr.dropS]
  have all:∀ {d:α}, (c k d < 0 ∨ k = d) → (∀ z ∈ kS L, c d z < 0) → (kS L).filter (fun z => decide (z ≠ k)) = kS L:=fun {d} hd hz => List.filter_eq_self.2 fun z hm => by
   have h4:=hz z hm
   simp only [decide_eq_true_eq]
   intro e
   subst e
   rcases hd with hd | hd
   ·exact h.asym hd h4
   ·subst hd; exact h.irr _ h4
  by_cases h1:c k y.1 < 0
  ·rw [if_pos h1]
   simp only [kS, List.map_cons, List.filter_cons]
   rw [if_pos (by simpa using (h.ne h1).symm)]
   have:=all (.inl h1) hy
   unfold kS at this
   rw [this]
  ·rw [if_neg h1]
   by_cases h2:c k y.1 > 0
   ·rw [if_pos h2]
    have ih:=zvi h (k:=k) (L:=L) hs'
    simp only [kS, List.map_cons, List.filter_cons] at ih ⊢
    have hne:y.1 ≠ k:=fun e => by rw [e, h.refl] at h2; omega
    rw [if_pos (by simpa using hne), ih]
   ·rw [if_neg h2]
    have e:=h.eq _ _ (show c k y.1 = 0 by omega)
    simp only [kS, List.map_cons, List.filter_cons]
    rw [if_neg (by simpa using e.symm)]
    have:=all (.inr e) hy
    unfold kS at this
    rw [this]
theorem z2h (h:Ord3 c) {k:α}:∀ {L:List (α × Unit)}, (k ∈ kS L → Tr.getS c k L = some ()) ∧ (k ∉ kS L → Tr.getS c k L = none)
 | [] => ⟨fun h => (by cases h), fun _ => rfl⟩
 | y :: L => by
  have ih:=z2h h (k:=k) (L:=L)
  simp only [Tr.getS, kS, List.map_cons, List.mem_cons]
  by_cases e:k = y.1
  ·subst e; rw [if_pos (h.refl _)]; exact ⟨fun _ => rfl, fun hn => absurd (.inl rfl) hn⟩
  ·have:¬ c k y.1 = 0:=fun h0 => e (h.eq _ _ h0)
   rw [if_neg this]
   exact ⟨fun hm => ih.1 (hm.resolve_left e), fun hn => ih.2 fun hm => hn (.inr hm)⟩
theorem zmr:∀ {l:List α} {x:α}, l.Nodup → x ∈ l → (l.filter fun z => decide (z ≠ x)).length + 1 = l.length
 | [], _, _, h => by cases h
 | y :: l, x, hn, h => by
  obtain ⟨h1, h2⟩:=List.nodup_cons.1 hn
  rw [List.filter_cons]
  by_cases e:y = x
  ·subst e
   rw [if_neg (by simp)]
   have:(l.filter fun z => decide (z ≠ y)) = l:=List.filter_eq_self.2 fun z hz => by
    simp only [decide_eq_true_eq]
    exact fun e => h1 (e ▸ hz)
   rw [this, List.length_cons]
  ·rw [if_pos (by simpa using e), List.length_cons, List.length_cons, zmr h2 (by
    rcases List.mem_cons.1 h with h | h
    ·exact absurd h.symm e
    ·exact h)]
theorem zsr {l:List α} {x:α} (h:x ∉ l):(l.filter fun z => decide (z ≠ x)) = l:=List.filter_eq_self.2 fun z hz => by
 simp only [decide_eq_true_eq]
 exact fun e => h (e ▸ hz)
theorem zrd {V:Type} (f e:Nat):∀ (l:List (α × V)) (i:Nat), Tr.cutI (f:Int) (e:Int) l (i:Int) = (l.take (e - i)).drop (f - i)
 | [], i => by simp [Tr.cutI]
 | y :: l, i => by
  have ih:=zrd f e l (i + 1)
  simp only [Tr.cutI]
  rw [show ((i:Int) + 1) = ((i + 1:Nat):Int) by omega, ih]
  by_cases h:f ≤ i ∧ i < e
  ·rw [if_pos (by omega), show e - i = (e - (i + 1)) + 1 by omega, show f - i = 0 by omega, show f - (i + 1) = 0 by omega]
   rfl
  ·rw [if_neg (by omega)]
   by_cases h2:i < e
   ·rw [show e - i = (e - (i + 1)) + 1 by omega, show f - i = (f - (i + 1)) + 1 by omega]
    rfl
   ·rw [show e - i = 0 by omega, show e - (i + 1) = 0 by omega]
    simp
end keys
structure TS (l:List U) (t u:Tr U Unit):Prop where
 kt:kS t.list = l
 st:Sst zbt l
 su:Sst zo0 (kS u.list)
 mu:∀ z, z ∈ kS u.list ↔ z ∈ l
 zu:u.size = l.length
theorem zkk:zy5 zbt:=zt8 cmpT_ord
theorem zop:zy5 zo0:=zt8 zg7
theorem z1f:TS [] .nil .nil:=⟨rfl, Sst.nil, Sst.nil, fun _ => Iff.rfl, rfl⟩
section ts
variable {l:List U} {t u:Tr U Unit}
theorem TS.size (h:TS l t u):t.size = l.length:=by rw [← Tr.size_list, ← h.kt]; simp
theorem TS.srt (h:TS l t u):Tr.Srt zbt t.list:=z2g.2 (h.kt ▸ h.st)
theorem TS.srtu (h:TS l t u):Tr.Srt zo0 u.list:=z2g.2 h.su
theorem TS.put (h:TS l t u) {x:U} (hx:x ∉ l):TS (zoi zbt x l) (Tr.put zbt x () t) (Tr.put zo0 x () u):=by
 have hxt:x ∉ kS t.list:=by rw [h.kt]; exact hx
 have hxu:x ∉ kS u.list:=fun hm => hx ((h.mu x).1 hm)
 have e1:kS (Tr.put zbt x () t).list = zoi zbt x l:=by
  rw [Tr.list_put zkk x () h.srt, zz8 cmpT_ord hxt, h.kt]
 have e2:kS (Tr.put zo0 x () u).list = zoi zo0 x (kS u.list):=by
  rw [Tr.list_put zop x () h.srtu, zz8 zg7 hxu]
 refine ⟨e1, zio cmpT_ord h.st hx, ?_, fun z => ?_, ?_⟩
 ·rw [e2]; exact zio zg7 h.su hxu
 ·rw [e2, zgz, zgz, h.mu]
 ·have:=congrArg List.length e2
  simp only [kS, List.length_map, zdz, Tr.size_list] at this
  rw [this, zdz, h.zu]
theorem TS.drop (h:TS l t u) {x:U} (hx:x ∈ l):TS (l.filter fun z => decide (z ≠ x)) (if (Tr.drop zbt x t).2 = true then (Tr.drop zbt x t).1 else t) (if (Tr.drop zo0 x u).2 = true then (Tr.drop zo0 x u).1 else u):=by
 have e1:kS (if (Tr.drop zbt x t).2 = true then (Tr.drop zbt x t).1 else t).list = l.filter fun z => decide (z ≠ x):=by
  rw [(Tr.list_drop zkk x h.srt).1, zvi cmpT_ord (by rw [h.kt]; exact h.st), h.kt]
 have e2:kS (if (Tr.drop zo0 x u).2 = true then (Tr.drop zo0 x u).1 else u).list = (kS u.list).filter fun z => decide (z ≠ x):=by
  rw [(Tr.list_drop zop x h.srtu).1, zvi zg7 h.su]
 refine ⟨e1, h.st.sublist List.filter_sublist, ?_, fun z => ?_, ?_⟩
 ·rw [e2]; exact h.su.sublist List.filter_sublist
 ·rw [e2, List.mem_filter, List.mem_filter, h.mu]
 ·have h1:=congrArg List.length e2
  have h2:=zmr (h.su.nodup zg7) ((h.mu x).2 hx)
  have h3:=zmr (h.st.nodup cmpT_ord) hx
  have h4:=h.zu
  simp only [kS, List.length_map, Tr.size_list] at h1 h2
  omega
theorem TS.get (h:TS l t u) (x:U):Tr.get zbt x t = if x ∈ l then some () else none:=by
 have hk:=z2h cmpT_ord (k:=x) (L:=t.list)
 rw [h.kt] at hk
 rw [Tr.get_list zkk x h.srt]
 by_cases hx:x ∈ l
 ·rw [if_pos hx]; exact hk.1 hx
 ·rw [if_neg hx]; exact hk.2 hx
end ts
def zf6 (l:List U) (x:U) (d:Bool):List U × Int :=
 if tE x = 0 then (if d = true then (l.filter fun z => decide (z ≠ x), 0) else if x ∈ l then (l, 0) else if l.length ≥ 4096 then ([], 3) else (zoi zbt x l, 0)) else ([], tE x)
theorem zta {l:List U} (hl:l.length ≤ 4096) (x:U) (d:Bool):(zf6 l x d).1.length ≤ 4096:=by
 unfold zf6
 split
 ·split
  ·exact Nat.le_trans (List.length_filter_le _ _) hl
  ·split
   ·exact hl
   ·split
    ·exact Nat.zero_le _
    ·rw [zdz]; omega
 ·exact Nat.zero_le _
end Go.V.L6
set_option maxRecDepth 20000
namespace Go.V.L8
open Go.Proofs Go.RowKit Go.V Go.V.L2 Go.V.L3 Go.V.L6
abbrev CH:=U × Bool
def cE (n:Nat) (l:List CH):Int:=if n < l.length then 3 else if (l.any fun c => !decide (tE c.1 = 0)) = true then 6 else 0
def zii (s:List U) (m:CH):Bool:=decide (m.1 ∈ s) != m.2
def zcf (s:List U):List CH → Nat → Nat × Int
 | [], i => (i, 0)
 | m :: r, i => if zii s m = true then zcf s r (i + 1) else (i, 13)
def zg3 (s:List U) (l:List CH):Nat × Int:=if cE 32 l = 0 then zcf s l 0 else (0, cE 32 l)
theorem zf3 (s:List U):∀ (l:List CH) (i:Nat), zcf s l i = ((zcf s l 0).1 + i, (zcf s l 0).2)
 | [], i => by simp [zcf]
 | m :: r, i => by
  by_cases h:zii s m = true
  ·have e1:zcf s (m :: r) i = zcf s r (i + 1):=by rw [zcf, if_pos h]
   have e2:zcf s (m :: r) 0 = zcf s r (0 + 1):=by rw [zcf, if_pos h]
   rw [e1, e2, zf3 s r (i + 1), zf3 s r (0 + 1)]
   exact Prod.ext (by show (zcf s r 0).1 + (i + 1) = (zcf s r 0).1 + (0 + 1) + i; omega) rfl
  ·rw [zcf, zcf, if_neg h, if_neg h]; simp
theorem zsp {s:List U} {l:List CH} {i:Nat} {m:CH} (h:∀ (j:Nat) x, j < i → l[j]? = some x → zii s x = true) (hm:l[i]? = some m) (hh:zii s m = false):zcf s l 0 = (i, 13):=by
 induction l generalizing i with
 | nil => simp at hm
 | cons y r ih =>
  cases i with
  | zero =>
   simp at hm; subst hm
   unfold zcf
   rw [if_neg (by rw [hh]; decide)]
  | succ i =>
   have hy:=h 0 y (Nat.succ_pos _) rfl
   unfold zcf
   rw [if_pos hy, zf3, ih (i:=i) (fun j x hj hx => h (j + 1) x (by omega) hx) (by simpa using hm)]
theorem zsq {s:List U} {l:List CH} (h:∀ x ∈ l, zii s x = true):zcf s l 0 = (l.length, 0):=by
 induction l with
 | nil => rfl
 | cons y r ih =>
  unfold zcf
  rw [if_pos (h y (by simp)), zf3, ih (fun x hx => h x (by simp [hx]))]
  rfl
def zm8:List U → List CH → List CH → List U × List CH × Int
 | s, made, [] => (s, made, 0)
 | s, made, c :: r => if (zf6 s c.1 c.2).2 = 0 then zm8 (zf6 s c.1 c.2).1 (if decide (c.1 ∈ s) = c.2 then made ++ [c] else made) r else ([], [], (zf6 s c.1 c.2).2)
def zyj (s:List U) (l cs:List CH):List U × List CH × Int :=
 if cE 32 l = 0 then (if cE 32 cs = 0 then (if (zg3 s l).2 = 0 then zm8 s [] cs else ([], [], (zg3 s l).2)) else ([], [], cE 32 cs)) else ([], [], cE 32 l)
end Go.V.L8
set_option maxRecDepth 20000
namespace Go.V
open Go.RowKit
def fzI (P:Program) (t' st:TypeId) (off i:Nat):Bool :=
 match P.underlying st with
 | some (.struct fs) => match fs[i]? with
  | some f => (match P.info? f.type with | some j => j.size == 0 | none => false) && (!(P.cellsOf t' == 0) && ((byteOfCell P P.depth t' (off % P.cellsOf t')).isSome && (byteOfCell P P.depth t' ((off + f.offset) % P.cellsOf t')).isSome))
  | none => false
 | _ => false
def PtrS:Value → Heap → Prop:=fun v _ => ∃ a, v = .pointer (some a)
theorem PtrS.mono:Kn.mono (.sat PtrS):=fun _ _ _ h _ => h
section
variable {P:Program} {F:Fr} {B:Heap} {O:Boxes} {n:Nat} {ops:Array Oper} {κ:Kap} {d:Nat} {ty:TypeId} {pos:String} {aft:Array Edge} {g:Option (Nat × Bool)}
theorem zk9 {u:World} {b off k:Nat} {cs:Array Value} {e:TypeId} {fr:Nat × Nat} (h:u.heap[b]? = some (.cells cs e fr)) (hs:P.cellsOf e ≠ 0) (hb:byteOfCell P P.depth e (off % P.cellsOf e) = some k) :
  (byteOf ⟨b, off, none⟩).run P u = .ok (off / P.cellsOf e * P.bytesOf e + k) u:=by
 have hsh:u.shape? b = some (e, cs.size):=by unfold World.shape?; rw [h]
 simp only [byteOf, Sem.run_bind, run_program, Result.andThen_ok, noView, viewAt, shape, Sem.run, hsh, Option.isSome_some, if_true, Sem.run_pure, Option.isSome_none, Bool.false_eq_true, if_false, Option.isSome]
 simp [hs, hb, hsh]
theorem zk8 {u:World} {st t':TypeId} {b off i:Nat} {cs:Array Value} {fr:Nat × Nat} (hz:fzI P t' st off i = true) (hb:u.heap[b]? = some (.cells cs t' fr)) :
  ∃ a, (Instr.fieldAt st (.pointer (some ⟨b, off, none⟩)) i).run P u = .ok (.pointer (some a)) u:=by
 unfold fzI at hz
 split at hz
 ·rename_i fs hu
  split at hz
  ·rename_i f hf
   split at hz
   ·rename_i j hj
    simp only [Bool.and_eq_true, beq_iff_eq, Bool.not_eq_true', beq_eq_false_iff_ne, ne_eq, Option.isSome_iff_exists] at hz
    obtain ⟨hj0, hc, ⟨k1, h1⟩, k2, h2⟩:=hz
    have r1:=zk9 (P:=P) hb hc h1
    have r2:=zk9 (P:=P) hb hc h2
    have hsz:(sizeOf f.type).run P u = .ok 0 u:=by simp [sizeOf, typeInfo, hj, hj0]
    have hun:=run_underlying (P:=P) (w:=u) hu
    have hfp:∃ a, (fieldPlace ⟨b, off, none⟩ f).run P u = .ok a u:=by
     simp only [fieldPlace, Sem.run_bind, hsz, Result.andThen_ok, if_true, partAt, r1, r2, Sem.run_pure]
     exact ⟨_, rfl⟩
    obtain ⟨a, ha⟩:=hfp
    refine ⟨a, ?_⟩
    simp only [Instr.fieldAt, Sem.run_bind, hun, Result.andThen_ok, hf, Instr.sureAddr, Sem.run_pure, ha]
   ·simp at hz
  ·cases hz
 ·cases hz
theorem zxz {t:TypeId} {places:List (Nat × Nat)} {z cs:List Value} {vs:List (Nat × Value)} (hp:PL P t places z) (hc:zkl places z vs = some cs):P.built t vs = some cs.toArray:=by
 obtain ⟨zv, hz1, hz2⟩:=hp.zr
 have hpl:=hp.pl
 unfold plI at hpl
 unfold zrI at hz1
 split at hz1
 ·rename_i it hit
  unfold Program.built
  split at hpl
  ·rename_i fs hu
   simp only [hit, hu, hz1, hpl]
   rw [zb2, hz2]
   exact zd1 (fun i p h => by simpa using h) vs z cs hc
  ·rename_i m el hu
   split at hpl
   ·rename_i ie hie
    simp only [hit, hu, hz1, hie]
    cases hpl
    rw [zb2, hz2]
    exact zd1 (fun i p h => by
     rw [List.getElem?_map] at h
     cases hr:(List.range m)[i]? with
     | none => rw [hr] at h; cases h
     | some j =>
      rw [hr] at h
      have:j = i:=by
       have:=List.getElem?_eq_some_iff.1 hr
       obtain ⟨h1, h2⟩:=this
       simpa using h2.symm
      subst this
      simpa using h) vs z cs hc
   ·cases hpl
  ·cases hpl
 ·cases hz1
theorem zsc {t:Nat} {t' st:TypeId} {i off:Nat} {cs:List Value} (hx:κ t = some (.sat (At cs t' off))) (hn:Nat.blt d n = true) (hg:gK ops κ ⟨some d, .fieldAddr st (.tmp t) i, ty, pos, aft, g⟩ = some true)
  (hz:fzI P t' st off i = true):StepOK P F B n ops O κ ⟨some d, .fieldAddr st (.tmp t) i, ty, pos, aft, g⟩ d (.sat PtrS) :=
 zax rfl (zk hn) hg PtrS.mono fun a u H fp e => by
  obtain ⟨b, hv, hb⟩:=e.sat_ t _ (by simp [Op.operands]) hx
  obtain ⟨ad, hr⟩:=zk8 hz (e.sub _ _ hb)
  refine ⟨_, ?_, ad, rfl⟩
  simp only [execOp, hv, Sem.run_bind, hr, Result.andThen_ok]
  rfl
theorem zsb {x:Operand} {t' st:TypeId} {i b off:Nat} {cs:Array Value} {fr:Nat × Nat} (hb:B b = some (.cells cs t' fr)) (hx:evK κ x = some (.pointer (some ⟨b, off, none⟩))) (hn:Nat.blt d n = true) (hg:gK ops κ ⟨some d, .fieldAddr st x i, ty, pos, aft, g⟩ = some true)
  (hz:fzI P t' st off i = true):StepOK P F B n ops O κ ⟨some d, .fieldAddr st x i, ty, pos, aft, g⟩ d (.sat PtrS) :=
 zax rfl (zk hn) hg PtrS.mono fun a u H fp e => by
  have hv:=e.is_ x _ (by simp [Op.operands]) hx
  obtain ⟨ad, hr⟩:=zk8 hz (e.sub _ _ (e.base _ _ hb))
  refine ⟨_, ?_, ad, rfl⟩
  simp only [execOp, hv, Sem.run_bind, hr, Result.andThen_ok]
  rfl
theorem zqr (L:Tabs P) {q:Nat} {t:TypeId} (hx:κ q = some (.sat PtrS)) (hn:Nat.blt d n = true) (hg:gK ops κ ⟨some d, .load t (.tmp q), ty, pos, aft, g⟩ = some true) (ht:L.ld t = some (true, 0)) :
  StepOK P F B n ops O κ ⟨some d, .load t (.tmp q), ty, pos, aft, g⟩ d (.is (.agg #[])) :=
 zax rfl (zk hn) hg trivial fun a u H fp e => by
  obtain ⟨ad, hv⟩:=e.sat_ q _ (by simp [Op.operands]) hx
  refine ⟨.agg #[], ?_, rfl⟩
  simp only [execOp, hv, Instr.loadAt, Instr.sureAddr, Sem.run_bind, Sem.run_pure, Result.andThen_ok]
  rw [zb7 (Tabs.ld_spec ht) u ad [] rfl (fun j v hj => by simp at hj)]
  rfl
theorem zn7 {t:TypeId} {parts:Array (Nat × Operand)} {places:List (Nat × Nat)} {z:List Value} {ψ:Value → Heap → Prop} (hn:Nat.blt d n = true) (hg:gK ops κ ⟨some d, .build t parts, ty, pos, aft, g⟩ = some true)
  (hp:PL P t places z) (hm:Kn.mono (.sat ψ)) (h:∀ H, B.Le H → Args κ H (parts.toList.map (·.2)) [] (fun vs => ∃ cs, zkl places z ((parts.toList.map (·.1)).zip vs) = some cs ∧ ψ (.agg cs.toArray) H)) :
  StepOK P F B n ops O κ ⟨some d, .build t parts, ty, pos, aft, g⟩ d (.sat ψ):=by
 rintro κ' a u hl ⟨H, fp, hh⟩
 unfold After
 rw [if_pos (zai hh hl hg)]
 have e:=hh.env (o:=⟨some d, .build t parts, ty, pos, aft, g⟩) hl
 have hc:=Args.use e (parts.toList.map (·.2)) [] (fun x hx => by
  simp only [Op.operands]
  obtain ⟨q, hq, rfl⟩:=List.mem_map.1 hx
  simp
  exact ⟨q.1, by simpa using hq⟩) (h H e.base)
 obtain ⟨cs, hb, hψ⟩:=hc
 simp only [List.reverse_nil, List.nil_append, List.map_map] at hb
 have hz:(parts.toList.map (·.1)).zip (parts.toList.map (a.eval ∘ (·.2))) = parts.toList.map fun p => (p.1, a.eval p.2):=by
  generalize parts.toList = l
  induction l with
  | nil => rfl
  | cons x l ih => simp only [List.map_cons, List.zip_cons_cons, ih]; rfl
 rw [hz] at hb
 have hbt:=zxz hp hb
 have hr:=run_build (P:=P) u t (parts.toList.map fun p => (p.1, a.eval p.2)).toArray cs.toArray (by simpa using hbt)
 have harr:(parts.map fun (p:Nat × Operand) => (p.1, a.eval p.2)) = (parts.toList.map fun p => (p.1, a.eval p.2)).toArray:=by
  rw [← List.map_toArray, Array.toArray_toList]
 have hrun:(execOp a.eval ⟨some d, .build t parts, ty, pos, aft, g⟩).run P u = .ok (.value (.agg cs.toArray)) u:=by
  simp only [execOp, Sem.run_bind]
  show Result.andThen ((Instr.build t (parts.map fun (p:Nat × Operand) => (p.1, a.eval p.2))).run P u) _ = _
  rw [harr, hr]
  rfl
 rw [hrun]
 simp only [Upon]
 exact ⟨H, fp, hh.put (zk hn) hm hψ⟩
end
end Go.V
set_option maxRecDepth 20000
namespace Go.V.UT
open Go.Proofs Go.RowKit Go.V
theorem _root_.Go.V.ZaP {A B:Prop} (h:B) (t:Wr B → A:=by intro h; refine zd (zm rfl (zk rfl) rfl) rfl ?_;exact h.h):A:=t ⟨h⟩
theorem _root_.Go.V.Zbf {A B:Prop} (h:B) (t:Wr B → A:=by intro h; refine zd (q9 L (qm rfl (by assumption)) rfl rfl rfl rfl) rfl ?_;exact h.h):A:=t ⟨h⟩
theorem _root_.Go.V.Zbg {A B:Prop} (h:B) (t:Wr B → A:=by intro h; refine zd (zz rfl rfl rfl rfl) rfl ?_;exact h.h):A:=t ⟨h⟩
theorem _root_.Go.V.Zf1 {A B:Prop} (h:B) (t:Wr B → A:=by intro h; refine zd (zy L (vs:=[_, _, _, _, _, _]) (qm rfl (by assumption)) rfl rfl rfl rfl ⟨_, rfl⟩) rfl ?_;exact h.h):A:=t ⟨h⟩
theorem _root_.Go.V.ZbD {A B:Prop} (h:B) (t:Wr B → A:=by intro h; refine zd (zy L (vs:=[_, _, _, _, _, _]) (qo rfl) rfl rfl rfl rfl ⟨_, rfl⟩) rfl ?_;exact h.h):A:=t ⟨h⟩
theorem _root_.Go.V.Zee {A B:Prop} (h:B) (t:Wr B → A:=by intro h; refine z7 (q9 L (qm rfl (by assumption)) rfl rfl rfl rfl) rfl ?_;exact h.h):A:=t ⟨h⟩
theorem _root_.Go.V.ZbT {A B:Prop} (h:B) (t:Wr B → A:=by intro h; refine zd (qf rfl rfl rfl rfl (decide_eq_true (by omega))) rfl ?_;exact h.h):A:=t ⟨h⟩
theorem _root_.Go.V.Zbr {A B:Prop} (h:B) (t:Wr B → A:=by intro h; refine z7 (zck rfl rfl rfl rfl z3q rfl) rfl ?_;exact h.h):A:=t ⟨h⟩
theorem _root_.Go.V.Zet {A B:Prop} (h:B) (t:Wr B → A:=by intro h; refine q4 (id:=3) [] mixed (by kernel_rfl) ?_;exact h.h):A:=t ⟨h⟩
theorem _root_.Go.V.Zdb {A B:Prop} (h:B) (t:Wr B → A:=by intro h; refine zd (qz rfl rfl rfl rfl (decide_eq_true (by omega))) rfl ?_;exact h.h):A:=t ⟨h⟩
theorem _root_.Go.V.Zd6 {A B:Prop} (h:B) (t:Wr B → A:=by intro h; refine zd (qz rfl rfl rfl rfl (decide_eq_false (by omega))) rfl ?_;exact h.h):A:=t ⟨h⟩
theorem _root_.Go.V.Zef {A B:Prop} (h:B) (t:Wr B → A:=by intro h; refine zd (qv rfl rfl rfl) rfl ?_;exact h.h):A:=t ⟨h⟩
theorem _root_.Go.V.Zeg {A B:Prop} (h:B) (t:Wr B → A:=by intro h; refine zd (qf rfl rfl rfl rfl (decide_eq_false (by omega))) rfl ?_;exact h.h):A:=t ⟨h⟩
theorem _root_.Go.V.ZeB {A B:Prop} (h:B) (t:Wr B → A:=by intro h; refine q4 (id:=2) [] mixed (by kernel_rfl) ?_;exact h.h):A:=t ⟨h⟩
theorem _root_.Go.V.Zd7 {A B:Prop} (h:B) (t:Wr B → A:=by intro h; refine ZaP ?_;refine ZaP ?_;exact h.h):A:=t ⟨h⟩
theorem _root_.Go.V.Zeu {A B:Prop} (h:B) (t:Wr B → A:=by intro h; refine Zs ?_;refine Zh ?_;exact h.h):A:=t ⟨h⟩
theorem _root_.Go.V.Zfr {A B:Prop} (h:B) (t:Wr B → A:=by intro h; refine Zd7 ?_;refine Zd7 ?_;exact h.h):A:=t ⟨h⟩
theorem _root_.Go.V.Zd8 {A B:Prop} (h:B) (t:Wr B → A:=by intro h; refine Zc ?_;refine Zfg ?_;exact h.h):A:=t ⟨h⟩
theorem _root_.Go.V.Zas {A B:Prop} (h:B) (t:Wr B → A:=by intro h; refine ZcV ?_;refine Zbf ?_;exact h.h):A:=t ⟨h⟩
theorem _root_.Go.V.ZcE {A B:Prop} (h:B) (t:Wr B → A:=by intro h; refine Zd8 ?_;refine zh ?_;exact h.h):A:=t ⟨h⟩
theorem _root_.Go.V.ZfO {A B:Prop} (h:B) (t:Wr B → A:=by intro h; refine Zh ?_;refine Zfr ?_;exact h.h):A:=t ⟨h⟩
theorem _root_.Go.V.Zeh {A B:Prop} (h:B) (t:Wr B → A:=by intro h; refine ZfO ?_;refine Zfr ?_;exact h.h):A:=t ⟨h⟩
theorem _root_.Go.V.ZeZ {A B:Prop} (h:B) (t:Wr B → A:=by intro h; refine Zc ?_;refine ZeI ?_;exact h.h):A:=t ⟨h⟩
theorem _root_.Go.V.ZbU {A B:Prop} (h:B) (t:Wr B → A:=by intro h; refine Zar ?_;refine Zee ?_;exact h.h):A:=t ⟨h⟩
theorem _root_.Go.V.ZbV {A B:Prop} (h:B) (t:Wr B → A:=by intro h; refine Zeh ?_;refine Zd7 ?_;exact h.h):A:=t ⟨h⟩
theorem _root_.Go.V.Zcq {A B:Prop} (h:B) (t:Wr B → A:=by intro h; refine Zap ?_;refine Za ?_;exact h.h):A:=t ⟨h⟩
theorem _root_.Go.V.ZcF {A B:Prop} (h:B) (t:Wr B → A:=by intro h; refine Zfn ?_;refine Zbf ?_;exact h.h):A:=t ⟨h⟩
theorem _root_.Go.V.ZcG {A B:Prop} (h:B) (t:Wr B → A:=by intro h; refine ZcV ?_;refine Zf1 ?_;exact h.h):A:=t ⟨h⟩
theorem _root_.Go.V.Zdc {A B:Prop} (h:B) (t:Wr B → A:=by intro h; refine ZeZ ?_;refine zh ?_;exact h.h):A:=t ⟨h⟩
theorem _root_.Go.V.Zd9 {A B:Prop} (h:B) (t:Wr B → A:=by intro h; refine Zef ?_;refine ZcR ?_;exact h.h):A:=t ⟨h⟩
abbrev KT:=((ByteArray × ByteArray) × ByteArray) × ((ByteArray × ByteArray) × ByteArray)
abbrev VT:=Unit
abbrev kv (k:KT):Value:=.agg #[.string k.1.1.1, .string k.1.1.2, .string k.1.2, .string k.2.1.1, .string k.2.1.2, .string k.2.2]
abbrev vv (x:VT):Value:=.agg #[]
abbrev pl (k:KT) (x:VT):List Value:=[.string k.1.1.1, .string k.1.1.2, .string k.1.2, .string k.2.1.1, .string k.2.1.2, .string k.2.2]
abbrev nl (k:KT) (x:VT) (l r:Value) (s d:Int):List Value:=[.string k.1.1.1, .string k.1.1.2, .string k.1.2, .string k.2.1.1, .string k.2.1.2, .string k.2.2] ++ [l, r, .int .i64 s, .int .i64 d]
abbrev TA (t:Tr KT VT):Value → Heap → Prop:=Tr.TreeAt nl 352 t
theorem TA.mono {t:Tr KT VT}:Kn.mono (.sat (TA t)):=Tr.TreeAt.mono
theorem TA.le {t:Tr KT VT} {v:Value} {H H':Heap} (h:TA t v H) (hle:H.Le H'):TA t v H':=Tr.TreeAt.le h hle
theorem TA.ptr {t:Tr KT VT} {v:Value} {H:Heap} (h:TA t v H):∃ p, v = .pointer p:=by
 cases t with
 | nil => exact ⟨_, h⟩
 | node k x l r => obtain ⟨b, lv, rv, h, _⟩:=h; exact ⟨_, h⟩
attribute [local irreducible] V N X VO Par StepOK Has Ret RetL Src
theorem size_ret (t:Tr KT VT) {v:Value} {w:World} {B:Heap} (hB:B.Le (hp w)) (hv:TA t v B):Ret Tryz.prog 171 [v] w B (fun v _ => v = .int .i64 t.size):=by
 cases t with
 | nil =>
  obtain rfl:v = .pointer none:=hv
  refine qt Tryz.func171 rfl Tryz.ntmps171 (Nat.le_of_ble_eq_true rfl) hB ?_
  refine ZaT ?_;refine Zbr ?_;refine Zdq ?_
  refine qq L (rs:=[.tmp 2]) rfl (fun _ _ h => h) Since.refl fun u H hH hle => ?_
  rfl
 | node k x l r =>
  obtain ⟨b, lv, rv, rfl, hb, _, _⟩:=hv
  refine qt Tryz.func171 rfl Tryz.ntmps171 (Nat.le_of_ble_eq_true rfl) hB ?_
  refine ZaT ?_;refine Zbr ?_;refine Zt ?_;refine Zk ?_;refine ZbU ?_;refine Zc ?_
  refine qq L (rs:=[.tmp 2]) rfl (fun _ _ h => h) Since.refl fun u H hH hle => ?_
  rfl
theorem deep_ret (t:Tr KT VT) {v:Value} {w:World} {B:Heap} (hB:B.Le (hp w)) (hv:TA t v B):Ret Tryz.prog 313 [v] w B (fun v _ => v = .int .i64 t.deep):=by
 cases t with
 | nil =>
  obtain rfl:v = .pointer none:=hv
  refine qt Tryz.func313 rfl Tryz.ntmps313 (Nat.le_of_ble_eq_true rfl) hB ?_
  refine ZaT ?_;refine Zbr ?_;refine Zdq ?_
  refine qq L (rs:=[.tmp 2]) rfl (fun _ _ h => h) Since.refl fun u H hH hle => ?_
  rfl
 | node k x l r =>
  obtain ⟨b, lv, rv, rfl, hb, _, _⟩:=hv
  refine qt Tryz.func313 rfl Tryz.ntmps313 (Nat.le_of_ble_eq_true rfl) hB ?_
  refine ZaT ?_;refine Zbr ?_;refine Zt ?_;refine Zk ?_;refine ZbU ?_;refine Zc ?_
  refine qq L (rs:=[.tmp 2]) rfl (fun _ _ h => h) Since.refl fun u H hH hle => ?_
  rfl
theorem zz6 (a b:Nat):(if ((b:Nat):Int) > (a:Int) then ((b:Nat):Int) else (a:Int)) = ((max a b:Nat):Int):=by
 split <;> omega
theorem join_ret (k:KT) (x:VT) (l r:Tr KT VT) {lv rv:Value} {w:World} {B:Heap} (hB:B.Le (hp w)) (hl:TA l lv B) (hr:TA r rv B) (hs:l.size + r.size < 1099511627776) :
  Ret Tryz.prog 290 [.agg (pl k x).toArray, lv, rv] w B (TA (.node k x l r)):=by
 obtain ⟨pl', rfl⟩:=hl.ptr
 obtain ⟨pr, rfl⟩:=hr.ptr
 have hdl:=l.deep_le
 have hdr:=r.deep_le
 refine qt Tryz.func290 rfl Tryz.ntmps290 (Nat.le_of_ble_eq_true rfl) hB ?_
 refine Zbk ?_;refine Zbt ?_;refine ZbD ?_;refine Zeu ?_;refine zd (zp L rfl rfl (zk rfl) rfl rfl rfl (fun u H hH hle _ => UT.size_ret _ hH (UT.TA.le (by assumption) hle))) rfl ?_;refine Zc7 ?_;refine Zh ?_;refine zd (zp L rfl rfl (zk rfl) rfl rfl rfl (fun u H hH hle _ => UT.size_ret _ hH (UT.TA.le (by assumption) hle))) rfl ?_;refine Zc7 ?_;refine Zh ?_;refine zd (zp L rfl rfl (zk rfl) rfl rfl rfl (fun u H hH hle _ => UT.deep_ret _ hH (UT.TA.le (by assumption) hle))) rfl ?_;refine Zh ?_;refine zd (zp L rfl rfl (zk rfl) rfl rfl rfl (fun u H hH hle _ => UT.deep_ret _ hH (UT.TA.le (by assumption) hle))) rfl ?_;refine zd (zlc rfl rfl rfl rfl rfl) rfl ?_;refine Zc7 ?_;refine zd (y6 (cs:=[_, _, _, _, _, _, _, _, _, _]) rfl rfl z3j rfl rfl) rfl ?_;refine zd (y9 rfl rfl rfl rfl) rfl ?_;refine Zd9 ?_
 refine qq L (rs:=[.tmp 6]) rfl (fun _ _ h => h) Since.refl fun u H hH hle => ?_
 rintro _ ⟨b, rfl, hb⟩
 refine ⟨b, _, _, rfl, ?_, TA.le hl hle, TA.le hr hle⟩
 rw [zz6] at hb
 simpa [Tr.size_node, Tr.deep_node] using hb
theorem bal_ret (k:KT) (x:VT) (l r:Tr KT VT) {lv rv:Value} {w:World} {B:Heap} (hB:B.Le (hp w)) (hl:TA l lv B) (hr:TA r rv B) (hs:l.size + r.size < 1099511627776) :
  Ret Tryz.prog 288 [.agg (pl k x).toArray, lv, rv] w B (TA (Tr.bal k x l r)):=by
 have hdl:=l.deep_le
 have hdr:=r.deep_le
 refine qt Tryz.func288 rfl Tryz.ntmps288 (Nat.le_of_ble_eq_true rfl) hB ?_
 unfold Tr.bal
 by_cases h1:l.deep > r.deep + 1
 ·rw [if_pos h1]
  cases l with
  | nil => simp [Tr.deep] at h1
  | node lk lx ll lr =>
   have hl0:=hl; obtain ⟨b1, v1, v2, rfl, hb1, hll, hlr⟩:=hl
   have hd1:=ll.deep_le
   have hd2:=lr.deep_le
   simp only [Tr.size_node] at hs hdl
   dsimp only
   by_cases h2:ll.deep ≥ lr.deep
   ·rw [if_pos h2]
    refine Za3 ?_;refine Zcz ?_;refine z7 (zp L rfl rfl (zk rfl) rfl rfl rfl (fun u H hH hle _ => UT.deep_ret _ hH (UT.TA.le (by assumption) hle))) rfl ?_;refine Za ?_;refine z7 (zp L rfl rfl (zk rfl) rfl rfl rfl (fun u H hH hle _ => UT.deep_ret _ hH (UT.TA.le (by assumption) hle))) rfl ?_;refine Zbu ?_;refine Zc ?_;refine ZI ?_;refine ZeB ?_;refine Zh ?_;refine Zdb ?_;refine Zs ?_;refine ZcF ?_;refine zd (zp L rfl rfl (zk rfl) rfl rfl rfl (fun u H hH hle _ => UT.deep_ret _ hH (UT.TA.le (by assumption) hle))) rfl ?_;refine Zas ?_;refine zd (zp L rfl rfl (zk rfl) rfl rfl rfl (fun u H hH hle _ => UT.deep_ret _ hH (UT.TA.le (by assumption) hle))) rfl ?_;refine ZeA ?_;refine Zbg ?_;refine ZK ?_;refine ZeI ?_;refine zh ?_;refine Zet ?_;refine ZcG ?_;refine Zas ?_;refine ZbD ?_;refine Zas ?_;refine Zh ?_;refine zd (zag L rfl rfl (zk rfl) rfl rfl rfl UT.TA.mono (fun u H hH hle _ => UT.join_ret _ () _ _ hH (UT.TA.le (by assumption) hle) (UT.TA.le (by assumption) hle) (by first | omega | (simp only [Tr.size_node]; omega)))) rfl ?_;refine zd (zag L rfl rfl (zk rfl) rfl rfl rfl UT.TA.mono (fun u H hH hle _ v1 hv1 => UT.join_ret _ () _ _ hH (UT.TA.le (by assumption) hle) hv1 (by first | omega | (simp only [Tr.size_node]; omega)))) rfl ?_;refine Zd9 ?_
    refine qq L (rs:=[.tmp 6]) rfl (fun _ _ h => h) Since.refl fun u H hH hle => ?_
    exact fun v hv => hv
   ·rw [if_neg h2]
    cases lr with
    | nil => simp [Tr.deep] at h2
    | node mk mx ml mr =>
     have hlr0:=hlr; obtain ⟨b2, v3, v4, rfl, hb2, hml, hmr⟩:=hlr
     simp only [Tr.size_node] at hs hdl hd2
     refine Za3 ?_;refine Zcz ?_;refine z7 (zp L rfl rfl (zk rfl) rfl rfl rfl (fun u H hH hle _ => UT.deep_ret _ hH (UT.TA.le (by assumption) hle))) rfl ?_;refine Za ?_;refine z7 (zp L rfl rfl (zk rfl) rfl rfl rfl (fun u H hH hle _ => UT.deep_ret _ hH (UT.TA.le (by assumption) hle))) rfl ?_;refine Zbu ?_;refine Zc ?_;refine ZI ?_;refine ZeB ?_;refine Zh ?_;refine Zdb ?_;refine Zs ?_;refine ZcF ?_;refine zd (zp L rfl rfl (zk rfl) rfl rfl rfl (fun u H hH hle _ => UT.deep_ret _ hH (UT.TA.le (by assumption) hle))) rfl ?_;refine Zas ?_;refine zd (zp L rfl rfl (zk rfl) rfl rfl rfl (fun u H hH hle _ => UT.deep_ret _ hH (UT.TA.le (by assumption) hle))) rfl ?_;refine Zfp ?_;refine Zbg ?_;refine Za2 ?_;refine Zbv ?_;refine zh ?_;refine Zi ?_;refine ZW ?_;refine Zdc ?_;refine ZY ?_;refine ZbU ?_;refine Zd ?_;refine Zes ?_;refine ZcG ?_;refine ZcG ?_;refine Zas ?_;refine Zas ?_;refine zd (zag L rfl rfl (zk rfl) rfl rfl rfl UT.TA.mono (fun u H hH hle _ => UT.join_ret _ () _ _ hH (UT.TA.le (by assumption) hle) (UT.TA.le (by assumption) hle) (by first | omega | (simp only [Tr.size_node]; omega)))) rfl ?_;refine ZbD ?_;refine Zas ?_;refine Zh ?_;refine zd (zag L rfl rfl (zk rfl) rfl rfl rfl UT.TA.mono (fun u H hH hle _ => UT.join_ret _ () _ _ hH (UT.TA.le (by assumption) hle) (UT.TA.le (by assumption) hle) (by first | omega | (simp only [Tr.size_node]; omega)))) rfl ?_;refine zd (zag L rfl rfl (zk rfl) rfl rfl rfl UT.TA.mono (fun u H hH hle _ v1 hv1 v2 hv2 => UT.join_ret _ () _ _ hH hv1 hv2 (by first | omega | (simp only [Tr.size_node]; omega)))) rfl ?_;refine Zd9 ?_
     refine qq L (rs:=[.tmp 6]) rfl (fun _ _ h => h) Since.refl fun u H hH hle => ?_
     exact fun v hv => hv
 ·rw [if_neg h1]
  by_cases h3:r.deep > l.deep + 1
  ·rw [if_pos h3]
   cases r with
   | nil => simp [Tr.deep] at h3
   | node rk rx rl rr =>
    have hr0:=hr; obtain ⟨b1, v1, v2, rfl, hb1, hrl, hrr⟩:=hr
    have hd1:=rl.deep_le
    have hd2:=rr.deep_le
    simp only [Tr.size_node] at hs hdr
    dsimp only
    by_cases h2:rr.deep ≥ rl.deep
    ·rw [if_pos h2]
     refine Za3 ?_;refine Zcz ?_;refine z7 (zp L rfl rfl (zk rfl) rfl rfl rfl (fun u H hH hle _ => UT.deep_ret _ hH (UT.TA.le (by assumption) hle))) rfl ?_;refine Za ?_;refine z7 (zp L rfl rfl (zk rfl) rfl rfl rfl (fun u H hH hle _ => UT.deep_ret _ hH (UT.TA.le (by assumption) hle))) rfl ?_;refine Zbu ?_;refine Zc ?_;refine ZI ?_;refine ZeB ?_;refine Zh ?_;refine Zd6 ?_;refine ZbV ?_;refine ZaP ?_;refine Zbg ?_;refine Za2 ?_;refine Zbv ?_;refine zh ?_;refine Zi ?_;refine Z3 ?_;refine ZcE ?_;refine ZeU ?_;refine Zh ?_;refine ZbT ?_;refine Zs ?_;refine ZcF ?_;refine zd (zp L rfl rfl (zk rfl) rfl rfl rfl (fun u H hH hle _ => UT.deep_ret _ hH (UT.TA.le (by assumption) hle))) rfl ?_;refine Zas ?_;refine zd (zp L rfl rfl (zk rfl) rfl rfl rfl (fun u H hH hle _ => UT.deep_ret _ hH (UT.TA.le (by assumption) hle))) rfl ?_;refine ZeA ?_;refine Zbg ?_;refine ZK ?_;refine ZeI ?_;refine zh ?_;refine Zb8 ?_;refine ZcG ?_;refine ZbD ?_;refine Zs ?_;refine ZcF ?_;refine zd (zag L rfl rfl (zk rfl) rfl rfl rfl UT.TA.mono (fun u H hH hle _ => UT.join_ret _ () _ _ hH (UT.TA.le (by assumption) hle) (UT.TA.le (by assumption) hle) (by first | omega | (simp only [Tr.size_node]; omega)))) rfl ?_;refine Zas ?_;refine zd (zag L rfl rfl (zk rfl) rfl rfl rfl UT.TA.mono (fun u H hH hle _ v1 hv1 => UT.join_ret _ () _ _ hH hv1 (UT.TA.le (by assumption) hle) (by first | omega | (simp only [Tr.size_node]; omega)))) rfl ?_;refine Zd9 ?_
     refine qq L (rs:=[.tmp 6]) rfl (fun _ _ h => h) Since.refl fun u H hH hle => ?_
     exact fun v hv => hv
    ·rw [if_neg h2]
     cases rl with
     | nil => simp [Tr.deep] at h2
     | node mk mx ml mr =>
      have hrl0:=hrl; obtain ⟨b2, v3, v4, rfl, hb2, hml, hmr⟩:=hrl
      simp only [Tr.size_node] at hs hdr hd1
      refine Za3 ?_;refine Zcz ?_;refine z7 (zp L rfl rfl (zk rfl) rfl rfl rfl (fun u H hH hle _ => UT.deep_ret _ hH (UT.TA.le (by assumption) hle))) rfl ?_;refine Za ?_;refine z7 (zp L rfl rfl (zk rfl) rfl rfl rfl (fun u H hH hle _ => UT.deep_ret _ hH (UT.TA.le (by assumption) hle))) rfl ?_;refine Zbu ?_;refine Zc ?_;refine ZI ?_;refine ZeB ?_;refine Zh ?_;refine Zd6 ?_;refine ZbV ?_;refine ZaP ?_;refine Zbg ?_;refine Za2 ?_;refine Zbv ?_;refine zh ?_;refine Zi ?_;refine Z3 ?_;refine ZcE ?_;refine ZeU ?_;refine Zh ?_;refine ZbT ?_;refine Zs ?_;refine ZcF ?_;refine zd (zp L rfl rfl (zk rfl) rfl rfl rfl (fun u H hH hle _ => UT.deep_ret _ hH (UT.TA.le (by assumption) hle))) rfl ?_;refine Zas ?_;refine zd (zp L rfl rfl (zk rfl) rfl rfl rfl (fun u H hH hle _ => UT.deep_ret _ hH (UT.TA.le (by assumption) hle))) rfl ?_;refine Zfp ?_;refine Zbg ?_;refine Za2 ?_;refine Zbv ?_;refine zh ?_;refine Zaz ?_;refine Zac ?_;refine Zdc ?_;refine Zcq ?_;refine ZbU ?_;refine Zd ?_;refine q4 (id:=11) [] mixed (by kernel_rfl) ?_;refine ZcG ?_;refine ZbD ?_;refine Zs ?_;refine ZcF ?_;refine zd (zag L rfl rfl (zk rfl) rfl rfl rfl UT.TA.mono (fun u H hH hle _ => UT.join_ret _ () _ _ hH (UT.TA.le (by assumption) hle) (UT.TA.le (by assumption) hle) (by first | omega | (simp only [Tr.size_node]; omega)))) rfl ?_;refine ZcG ?_;refine Zas ?_;refine Zas ?_;refine zd (zag L rfl rfl (zk rfl) rfl rfl rfl UT.TA.mono (fun u H hH hle _ => UT.join_ret _ () _ _ hH (UT.TA.le (by assumption) hle) (UT.TA.le (by assumption) hle) (by first | omega | (simp only [Tr.size_node]; omega)))) rfl ?_;refine zd (zag L rfl rfl (zk rfl) rfl rfl rfl UT.TA.mono (fun u H hH hle _ v1 hv1 v2 hv2 => UT.join_ret _ () _ _ hH hv1 hv2 (by first | omega | (simp only [Tr.size_node]; omega)))) rfl ?_;refine Zd9 ?_
      refine qq L (rs:=[.tmp 6]) rfl (fun _ _ h => h) Since.refl fun u H hH hle => ?_
      exact fun v hv => hv
  ·rw [if_neg h3]
   refine Za3 ?_;refine Zcz ?_;refine z7 (zp L rfl rfl (zk rfl) rfl rfl rfl (fun u H hH hle _ => UT.deep_ret _ hH (UT.TA.le (by assumption) hle))) rfl ?_;refine Za ?_;refine z7 (zp L rfl rfl (zk rfl) rfl rfl rfl (fun u H hH hle _ => UT.deep_ret _ hH (UT.TA.le (by assumption) hle))) rfl ?_;refine Zbu ?_;refine Zc ?_;refine ZI ?_;refine ZeB ?_;refine Zh ?_;refine Zd6 ?_;refine ZbV ?_;refine ZaP ?_;refine Zbg ?_;refine Za2 ?_;refine Zbv ?_;refine zh ?_;refine Zi ?_;refine Z3 ?_;refine ZcE ?_;refine ZeU ?_;refine Zh ?_;refine Zeg ?_;refine ZbV ?_;refine ZaP ?_;refine Zbg ?_;refine Za2 ?_;refine Zbv ?_;refine zh ?_;refine Zaz ?_;refine Z7 ?_;refine Zd8 ?_;refine zq ?_;refine qp ?_;refine ZbH ?_;refine ZN ?_;refine ZaO ?_;refine Zb ?_;refine z7 (zag L rfl rfl (zk rfl) rfl rfl rfl UT.TA.mono (fun u H hH hle _ => UT.join_ret _ () _ _ hH (UT.TA.le (by assumption) hle) (UT.TA.le (by assumption) hle) (by first | omega | (simp only [Tr.size_node]; omega)))) rfl ?_;refine Zd3 ?_
   refine qq L (rs:=[.tmp 6]) rfl (fun _ _ h => h) Since.refl fun u H hH hle => ?_
   exact fun v hv => hv
end Go.V.UT
set_option maxRecDepth 20000
namespace Go.V.UT
open Go.Proofs Go.RowKit Go.V
theorem _root_.Go.V.ZcH {A B:Prop} (h:B) (t:Wr B → A:=by intro h; refine z7 (zgi rfl rfl rfl rfl) rfl ?_;exact h.h):A:=t ⟨h⟩
theorem _root_.Go.V.ZfP {A B:Prop} (h:B) (t:Wr B → A:=by intro h; refine z7 (zez rfl rfl rfl rfl (by assumption)) rfl ?_;exact h.h):A:=t ⟨h⟩
theorem _root_.Go.V.ZeC {A B:Prop} (h:B) (t:Wr B → A:=by intro h; refine q4 (id:=13) [] mixed (by kernel_rfl) ?_;exact h.h):A:=t ⟨h⟩
theorem _root_.Go.V.Zev {A B:Prop} (h:B) (t:Wr B → A:=by intro h; refine zhp (qk rfl) rfl rfl ?_;exact h.h):A:=t ⟨h⟩
theorem _root_.Go.V.ZcI {A B:Prop} (h:B) (t:Wr B → A:=by intro h; refine ZaK ?_;refine Zcz ?_;exact h.h):A:=t ⟨h⟩
theorem _root_.Go.V.Zgj {A B:Prop} (h:B) (t:Wr B → A:=by intro h; refine ZcV ?_;refine ZbM ?_;exact h.h):A:=t ⟨h⟩
theorem _root_.Go.V.Zga {A B:Prop} (h:B) (t:Wr B → A:=by intro h; refine Zgj ?_;refine Zf1 ?_;exact h.h):A:=t ⟨h⟩
theorem _root_.Go.V.Zdd {A B:Prop} (h:B) (t:Wr B → A:=by intro h; refine Zaa ?_;refine Zj ?_;exact h.h):A:=t ⟨h⟩
theorem _root_.Go.V.ZdA {A B:Prop} (h:B) (t:Wr B → A:=by intro h; refine Zet ?_;refine Zcg ?_;exact h.h):A:=t ⟨h⟩
theorem _root_.Go.V.ZdB {A B:Prop} (h:B) (t:Wr B → A:=by intro h; refine ZbD ?_;refine Zga ?_;exact h.h):A:=t ⟨h⟩
structure Cmp (cf:Nat) (c:KT → KT → Int):Prop where
 fn:L.fn cf = some ()
 ret:∀ (a b:KT) (u:World) (H:Heap), H.Le (hp u) → Ret Tryz.prog cf [kv a, kv b] u H (fun v _ => v = .int .i64 (c a b))
abbrev mv (cf:Nat) (root:Value):Value:=.agg #[.func (.func cf) #[] #[], root]
attribute [local irreducible] V N X VO Par StepOK Has Ret RetL Src
theorem zzk {cf:Nat} {c:KT → KT → Int} (hc:Cmp cf c) (root:Value) (k:KT) (x:VT):∀ (t:Tr KT VT) {rv:Value} {w:World} {B:Heap}, B.Le (hp w) → TA t rv B → t.size + 1 < 1099511627776 →
  Ret Tryz.prog 243 [mv cf root, rv, .agg (pl k x).toArray] w B (TA (Tr.put c k x t)):=by
 intro t
 induction t with
 | nil =>
  intro rv w B hB hv hs
  obtain rfl:rv = .pointer none:=hv
  have hn:TA .nil (.pointer none) B:=rfl
  have hz:(Tr.nil:Tr KT VT).size = 0:=rfl
  refine qt Tryz.func243 rfl Tryz.ntmps243 (Nat.le_of_ble_eq_true rfl) hB ?_
  refine Zae ?_;refine Zcz ?_;refine Zbr ?_;refine ZdS ?_;refine ZaO ?_;refine z7 (zag L rfl rfl (zk rfl) rfl rfl rfl UT.TA.mono (fun u H hH hle _ => UT.join_ret _ () _ _ hH (UT.TA.le (by assumption) hle) (UT.TA.le (by assumption) hle) (by first | omega | (simp only [Tr.size_node]; omega)))) rfl ?_;refine Zd3 ?_
  refine qq L (rs:=[.tmp 6]) rfl (fun _ _ h => h) Since.refl fun u H hH hle => ?_
  exact fun v hv => hv
 | node nk nx l r ihl ihr =>
  intro rv w B hB hv hs
  obtain ⟨b, lv, rv', rfl, hb, hl, hr⟩:=hv
  have hpl:=Tr.size_put c k x l
  have hpr:=Tr.size_put c k x r
  simp only [Tr.size_node] at hs
  refine qt Tryz.func243 rfl Tryz.ntmps243 (Nat.le_of_ble_eq_true rfl) hB ?_
  unfold Tr.put
  by_cases h1:c k nk < 0
  ·rw [if_pos h1]
   refine Zae ?_;refine Zcz ?_;refine Zbr ?_;refine ZB ?_;refine ZdA ?_;refine Zbc ?_;refine ZdB ?_;refine zd (zp L rfl rfl (zk rfl) rfl rfl hc.fn (fun u H hH _ _ => hc.ret _ _ u H hH)) rfl ?_;refine ZK ?_;refine ZI ?_;refine Zi ?_;refine Zac ?_;refine Zdc ?_;refine Ze6 ?_;refine ZcG ?_;refine Zc3 ?_;refine Zas ?_;refine ZbD ?_;refine zd (zag L rfl rfl (zk rfl) rfl rfl rfl TA.mono (fun u H hH hle _ => ihl hH (hl.le hle) (by omega))) rfl ?_;refine Zas ?_;refine zd (zag L rfl rfl (zk rfl) rfl rfl rfl UT.TA.mono (fun u H hH hle _ v1 hv1 => UT.bal_ret _ () _ _ hH hv1 (UT.TA.le (by assumption) hle) (by first | omega | (simp only [Tr.size_node]; omega)))) rfl ?_;refine Zd9 ?_
   refine qq L (rs:=[.tmp 6]) rfl (fun _ _ h => h) Since.refl fun u H hH hle => ?_
   exact fun v hv => hv
  ·rw [if_neg h1]
   by_cases h2:c k nk > 0
   ·rw [if_pos h2]
    refine Zae ?_;refine Zcz ?_;refine Zbr ?_;refine ZB ?_;refine ZdA ?_;refine Zbc ?_;refine ZdB ?_;refine zd (zp L rfl rfl (zk rfl) rfl rfl hc.fn (fun u H hH _ _ => hc.ret _ _ u H hH)) rfl ?_;refine ZK ?_;refine ZI ?_;refine Zi ?_;refine Z7 ?_;refine ZcE ?_;refine ZJ ?_;refine ZW ?_;refine Zdc ?_;refine ZeU ?_;refine ZcG ?_;refine Zas ?_;refine Zc3 ?_;refine Zas ?_;refine ZbD ?_;refine zd (zag L rfl rfl (zk rfl) rfl rfl rfl TA.mono (fun u H hH hle _ => ihr hH (hr.le hle) (by omega))) rfl ?_;refine zd (zag L rfl rfl (zk rfl) rfl rfl rfl UT.TA.mono (fun u H hH hle _ v1 hv1 => UT.bal_ret _ () _ _ hH (UT.TA.le (by assumption) hle) hv1 (by first | omega | (simp only [Tr.size_node]; omega)))) rfl ?_;refine Zd9 ?_
    refine qq L (rs:=[.tmp 6]) rfl (fun _ _ h => h) Since.refl fun u H hH hle => ?_
    exact fun v hv => hv
   ·rw [if_neg h2]
    refine Zae ?_;refine Zcz ?_;refine Zbr ?_;refine ZB ?_;refine ZdA ?_;refine Zbc ?_;refine ZdB ?_;refine zd (zp L rfl rfl (zk rfl) rfl rfl hc.fn (fun u H hH _ _ => hc.ret _ _ u H hH)) rfl ?_;refine ZK ?_;refine ZI ?_;refine Zi ?_;refine Z7 ?_;refine ZcE ?_;refine ZJ ?_;refine Z3 ?_;refine Zd8 ?_;refine zq ?_;refine qp ?_;refine ZbH ?_;refine Zb8 ?_;refine Zga ?_;refine zd (zsc rfl rfl rfl (by kernel_rfl)) rfl ?_;refine zd (zqr L rfl rfl rfl rfl) rfl ?_;refine zd (y6 (cs:=[_, _, _, _, _, _]) rfl rfl z1r rfl rfl) rfl ?_;refine Zas ?_;refine Zas ?_;refine zd (zag L rfl rfl (zk rfl) rfl rfl rfl UT.TA.mono (fun u H hH hle _ => UT.join_ret _ () _ _ hH (UT.TA.le (by assumption) hle) (UT.TA.le (by assumption) hle) (by first | omega | (simp only [Tr.size_node]; omega)))) rfl ?_;refine Zd9 ?_
    refine qq L (rs:=[.tmp 6]) rfl (fun _ _ h => h) Since.refl fun u H hH hle => ?_
    exact fun v hv => hv
abbrev FirstS (y:(KT × VT) × Tr KT VT):Value → Heap → Prop:=TupS [fun v _ => v = .agg (pl y.1.1 y.1.2).toArray, TA y.2]
theorem FirstS.mono {y:(KT × VT) × Tr KT VT}:Kn.mono (.sat (FirstS y)):=TupS.mono fun φ hφ => by
 simp only [List.mem_cons, List.mem_nil_iff, or_false] at hφ
 rcases hφ with rfl | rfl
 ·exact fun _ _ _ h _ => h
 ·exact TA.mono
theorem zo6 {φ ψ:Value → Heap → Prop} {v w:Value} {H:Heap} (h1:φ v H) (h2:ψ w H):TupS [φ, ψ] (tup [v, w]) H:=⟨[v, w], rfl, rfl, fun i χ x hi hx => by
 match i with
 | 0 => cases hi; cases hx; exact h1
 | 1 => cases hi; cases hx; exact h2
 | _ + 2 => cases hi⟩
theorem first_ret:∀ (k:KT) (x:VT) (l r:Tr KT VT) {v:Value} {w:World} {B:Heap}, B.Le (hp w) → TA (.node k x l r) v B → l.size + r.size < 1099511627776 →
  Ret Tryz.prog 289 [v] w B (FirstS (Tr.first k x l r)):=by
 intro k x l
 induction l generalizing k x with
 | nil =>
  intro r v w B hB hv hs
  obtain ⟨b, lv, rv, rfl, hb, hl, hr⟩:=hv
  obtain rfl:lv = .pointer none:=hl
  refine qt Tryz.func289 rfl Tryz.ntmps289 (Nat.le_of_ble_eq_true rfl) hB ?_
  refine ZcI ?_;refine ZbU ?_;refine Zbr ?_;refine Zv ?_;refine ZeB ?_;refine ZcG ?_;refine Zas ?_;refine ZdX ?_;refine ZK ?_
  refine qq L (rs:=[.cell 2 293, .tmp 3]) rfl (fun _ _ h => h) Since.refl fun u H hH hle => ?_
  refine Zev ?_
  exact zo6 rfl (TA.le hr hle)
 | node lk lx ll lr ih _ =>
  intro r v w B hB hv hs
  obtain ⟨b, lv, rv, rfl, hb, hl, hr⟩:=hv
  have hl0:=hl
  obtain ⟨b2, v3, v4, rfl, hb2, _, _⟩:=hl
  have hz:=Tr.size_first lk lx ll lr
  simp only [Tr.size_node] at hs
  have hm:=TA.mono (t:=(Tr.first lk lx ll lr).2)
  refine qt Tryz.func289 rfl Tryz.ntmps289 (Nat.le_of_ble_eq_true rfl) hB ?_
  refine ZcI ?_;refine ZbU ?_;refine Zbr ?_;refine Zt ?_;refine Zk ?_;refine ZbU ?_;refine z7 (zag L rfl rfl (zk rfl) rfl rfl rfl FirstS.mono (fun u H hH hle _ => ih lk lx lr hH (TA.le hl0 hle) (by omega))) rfl ?_;refine Zl ?_;refine ZcH ?_;refine ZfP ?_;refine Zbn ?_;refine Zdd ?_;refine Zeb ?_;refine ZeY ?_;refine ZcG ?_;refine ZcD ?_;refine Zas ?_;refine zd (zag L rfl rfl (zk rfl) rfl rfl rfl UT.TA.mono (fun u H hH hle _ v1 hv1 => UT.bal_ret _ () _ _ hH hv1 (UT.TA.le (by assumption) hle) (by first | omega | (simp only [Tr.size_node]; omega)))) rfl ?_;refine ZdX ?_;refine Zd9 ?_
  refine qq L (rs:=[.cell 2 293, .tmp 3]) rfl (fun _ _ h => h) Since.refl fun u H hH hle => ?_
  refine Zev ?_
  exact fun v hv => zo6 rfl hv
abbrev DropS (y:Tr KT VT × Bool):Value → Heap → Prop:=TupS [TA y.1, fun v _ => v = .bool y.2]
theorem DropS.mono {y:Tr KT VT × Bool}:Kn.mono (.sat (DropS y)):=TupS.mono fun φ hφ => by
 simp only [List.mem_cons, List.mem_nil_iff, or_false] at hφ
 rcases hφ with rfl | rfl
 ·exact TA.mono
 ·exact fun _ _ _ h _ => h
theorem zxt {cf:Nat} {c:KT → KT → Int} (hc:Cmp cf c) (root:Value) (k:KT):∀ (t:Tr KT VT) {rv:Value} {w:World} {B:Heap}, B.Le (hp w) → TA t rv B → t.size < 1099511627776 →
  Ret Tryz.prog 242 [mv cf root, rv, kv k] w B (DropS (Tr.drop c k t)):=by
 intro t
 induction t with
 | nil =>
  intro rv w B hB hv hs
  obtain rfl:rv = .pointer none:=hv
  have hn:TA .nil (.pointer none) B:=rfl
  refine qt Tryz.func242 rfl Tryz.ntmps242 (Nat.le_of_ble_eq_true rfl) hB ?_
  refine Zae ?_;refine ZaJ ?_;refine Z4 ?_;refine Zbr ?_;refine ZdS ?_;refine Zy ?_
  refine qq L (rs:=[.tmp 6, .tmp 7]) rfl (fun _ _ h => h) Since.refl fun u H hH hle => ?_
  exact zo6 rfl rfl
 | node nk nx l r ihl ihr =>
  intro rv w B hB hv hs
  obtain ⟨b, lv, rv', rfl, hb, hl, hr⟩:=hv
  have hpl:=Tr.size_drop c k l
  have hpr:=Tr.size_drop c k r
  simp only [Tr.size_node] at hs
  refine qt Tryz.func242 rfl Tryz.ntmps242 (Nat.le_of_ble_eq_true rfl) hB ?_
  unfold Tr.drop
  by_cases h1:c k nk < 0
  ·rw [if_pos h1]
   have hm:=TA.mono (t:=(Tr.drop c k l).1)
   refine Zae ?_;refine ZaJ ?_;refine Z4 ?_;refine Zbr ?_;refine ZB ?_;refine ZdA ?_;refine ZdB ?_;refine zd (zp L rfl rfl (zk rfl) rfl rfl hc.fn (fun u H hH _ _ => hc.ret _ _ u H hH)) rfl ?_;refine ZK ?_;refine ZI ?_;refine Zi ?_;refine Zac ?_;refine Zdc ?_;refine Ze6 ?_;refine Zc3 ?_;refine Zas ?_;refine ZbD ?_;refine zd (zag L rfl rfl (zk rfl) rfl rfl rfl DropS.mono (fun u H hH hle _ => ihl hH (hl.le hle) (by omega))) rfl ?_;refine ZcD ?_;refine zd (zez rfl rfl rfl rfl (by assumption)) rfl ?_;refine zd (zgi rfl rfl rfl rfl) rfl ?_;refine Zef ?_;refine Zeq ?_;refine Zes ?_;refine ZcG ?_;refine ZcD ?_;refine Zas ?_;refine zd (zag L rfl rfl (zk rfl) rfl rfl rfl UT.TA.mono (fun u H hH hle _ v1 hv1 => UT.bal_ret _ () _ _ hH hv1 (UT.TA.le (by assumption) hle) (by first | omega | (simp only [Tr.size_node]; omega)))) rfl ?_;refine Zh ?_;refine Zef ?_;refine ZK ?_
   refine qq L (rs:=[.tmp 6, .tmp 7]) rfl (fun _ _ h => h) Since.refl fun u H hH hle => ?_
   exact fun v hv => zo6 hv rfl
  ·rw [if_neg h1]
   by_cases h2:c k nk > 0
   ·rw [if_pos h2]
    have hm:=TA.mono (t:=(Tr.drop c k r).1)
    refine Zae ?_;refine ZaJ ?_;refine Z4 ?_;refine Zbr ?_;refine ZB ?_;refine ZdA ?_;refine ZdB ?_;refine zd (zp L rfl rfl (zk rfl) rfl rfl hc.fn (fun u H hH _ _ => hc.ret _ _ u H hH)) rfl ?_;refine ZK ?_;refine ZI ?_;refine Zi ?_;refine Z7 ?_;refine ZcE ?_;refine ZC ?_;refine ZW ?_;refine Zdc ?_;refine Zb8 ?_;refine Zc3 ?_;refine Zas ?_;refine ZbD ?_;refine zd (zag L rfl rfl (zk rfl) rfl rfl rfl DropS.mono (fun u H hH hle _ => ihr hH (hr.le hle) (by omega))) rfl ?_;refine ZcD ?_;refine zd (zez rfl rfl rfl rfl (by assumption)) rfl ?_;refine zd (zgi rfl rfl rfl rfl) rfl ?_;refine Zef ?_;refine Zeq ?_;refine q4 (id:=9) [] mixed (by kernel_rfl) ?_;refine ZcG ?_;refine Zas ?_;refine ZcD ?_;refine zd (zag L rfl rfl (zk rfl) rfl rfl rfl UT.TA.mono (fun u H hH hle _ v1 hv1 => UT.bal_ret _ () _ _ hH (UT.TA.le (by assumption) hle) hv1 (by first | omega | (simp only [Tr.size_node]; omega)))) rfl ?_;refine Zh ?_;refine Zef ?_;refine ZK ?_
    refine qq L (rs:=[.tmp 6, .tmp 7]) rfl (fun _ _ h => h) Since.refl fun u H hH hle => ?_
    exact fun v hv => zo6 hv rfl
   ·rw [if_neg h2]
    cases r with
    | nil =>
     obtain rfl:rv' = .pointer none:=hr
     refine Zae ?_;refine ZaJ ?_;refine Z4 ?_;refine Zbr ?_;refine ZB ?_;refine ZdA ?_;refine ZdB ?_;refine zd (zp L rfl rfl (zk rfl) rfl rfl hc.fn (fun u H hH _ _ => hc.ret _ _ u H hH)) rfl ?_;refine ZK ?_;refine ZI ?_;refine Zi ?_;refine Z7 ?_;refine ZcE ?_;refine ZC ?_;refine Z3 ?_;refine ZcE ?_;refine Zcq ?_;refine ZbU ?_;refine Zbr ?_;refine Zdc ?_;refine ZaZ ?_;refine ZbU ?_;refine Zy ?_
     refine qq L (rs:=[.tmp 6, .tmp 7]) rfl (fun _ _ h => h) Since.refl fun u H hH hle => ?_
     exact zo6 (TA.le hl hle) rfl
    | node rk rx rl rr =>
     have hr0:=hr
     obtain ⟨b2, v3, v4, rfl, hb2, _, _⟩:=hr
     have hz:=Tr.size_first rk rx rl rr
     simp only [Tr.size_node] at hs
     have hm:=TA.mono (t:=(Tr.first rk rx rl rr).2)
     refine Zae ?_;refine ZaJ ?_;refine Z4 ?_;refine Zbr ?_;refine ZB ?_;refine ZdA ?_;refine ZdB ?_;refine zd (zp L rfl rfl (zk rfl) rfl rfl hc.fn (fun u H hH _ _ => hc.ret _ _ u H hH)) rfl ?_;refine ZK ?_;refine ZI ?_;refine Zi ?_;refine Z7 ?_;refine ZcE ?_;refine ZC ?_;refine Z3 ?_;refine ZcE ?_;refine Zcq ?_;refine ZbU ?_;refine Zbr ?_;refine Zd8 ?_;refine zq ?_;refine qp ?_;refine ZbH ?_;refine Zdz ?_;refine ZbU ?_;refine z7 (zag L rfl rfl (zk rfl) rfl rfl rfl FirstS.mono (fun u H hH hle _ => first_ret rk rx rl rr hH (TA.le hr0 hle) (by omega))) rfl ?_;refine Zl ?_;refine ZcH ?_;refine ZfP ?_;refine Zbn ?_;refine Zdd ?_;refine ZeC ?_;refine ZeY ?_;refine Zas ?_;refine ZcD ?_;refine zd (zag L rfl rfl (zk rfl) rfl rfl rfl UT.TA.mono (fun u H hH hle _ v1 hv1 => UT.bal_ret _ () _ _ hH (UT.TA.le (by assumption) hle) hv1 (by first | omega | (simp only [Tr.size_node]; omega)))) rfl ?_;refine Zef ?_;refine ZK ?_
     refine qq L (rs:=[.tmp 6, .tmp 7]) rfl (fun _ _ h => h) Since.refl fun u H hH hle => ?_
     exact fun v hv => zo6 hv rfl
end Go.V.UT
set_option maxRecDepth 20000
namespace Go.V.UT
open Go.Proofs Go.RowKit Go.V
theorem _root_.Go.V.ZbW {A B:Prop} (h:B) (t:Wr B → A:=by intro h; refine z7 (zy L (vs:=[_, _]) (zji rfl (List.Mem.head _)) rfl rfl rfl rfl ⟨_, rfl⟩) rfl ?_;exact h.h):A:=t ⟨h⟩
theorem _root_.Go.V.ZbX {A B:Prop} (h:B) (t:Wr B → A:=by intro h; refine z7 (q9 L (zji rfl (List.Mem.head _)) rfl rfl rfl rfl) rfl ?_;exact h.h):A:=t ⟨h⟩
theorem _root_.Go.V.Zf2 {A B:Prop} (h:B) (t:Wr B → A:=by intro h; refine zor L (O1:=[]) rfl rfl rfl rfl rfl rfl rfl rfl rfl ?_;exact h.h):A:=t ⟨h⟩
theorem _root_.Go.V.ZG {A B:Prop} (h:B) (t:Wr B → A:=by intro h; refine Zax ?_;refine qp ?_;exact h.h):A:=t ⟨h⟩
theorem _root_.Go.V.ZfQ {A B:Prop} (h:B) (t:Wr B → A:=by intro h; refine ZfP ?_;refine ZcH ?_;exact h.h):A:=t ⟨h⟩
theorem _root_.Go.V.Zf3 {A B:Prop} (h:B) (t:Wr B → A:=by intro h; refine Z2 ?_;refine z7 (zpq rfl rfl rfl rfl z3q rfl rfl) rfl ?_;exact h.h):A:=t ⟨h⟩
theorem _root_.Go.V.ZcJ {A B:Prop} (h:B) (t:Wr B → A:=by intro h; refine Zl ?_;refine ZfQ ?_;exact h.h):A:=t ⟨h⟩
theorem _root_.Go.V.Zde {A B:Prop} (h:B) (t:Wr B → A:=by intro h; refine ZbN ?_;refine Zf2 ?_;exact h.h):A:=t ⟨h⟩
def MA (fv:Value) (t:Tr KT VT):Value → Heap → Prop:=fun v H => ∃ p, v = .agg #[fv, .pointer p] ∧ TA t (.pointer p) H
theorem MA.mono {fv:Value} {t:Tr KT VT}:Kn.mono (.sat (MA fv t)):=fun _ _ _ ⟨p, hv, h⟩ hle => ⟨p, hv, h.le hle⟩
attribute [local irreducible] V N X VO Par StepOK Has Ret RetL Src
theorem new_ret (cf:Nat) {w:World} {B:Heap} (hB:B.Le (hp w)):Ret Tryz.prog 177 [.func (.func cf) #[] #[]] w B (fun v _ => v = .agg #[.func (.func cf) #[] #[], .pointer none]):=by
 refine qt Tryz.func177 rfl Tryz.ntmps177 (Nat.le_of_ble_eq_true rfl) hB ?_
 refine ZaK ?_;refine Zj ?_;refine Z4 ?_;refine z7 (y6 (cs:=[_, _]) rfl rfl z4t rfl rfl) rfl ?_;refine ZaY ?_
 refine qq L (rs:=[.cell 2 87]) rfl (fun _ _ h => h) Since.refl fun u H hH hle => ?_
 refine Zev ?_
 rfl
theorem len_ret {fv root:Value} {t:Tr KT VT} {w:World} {B:Heap} (hB:B.Le (hp w)) (hv:TA t root B):Ret Tryz.prog 103 [.agg #[fv, root]] w B (fun v _ => v = .int .i64 t.size):=by
 refine qt Tryz.func103 rfl Tryz.ntmps103 (Nat.le_of_ble_eq_true rfl) hB ?_
 refine Zbk ?_;refine Zb4 ?_;refine Zaq ?_;refine z7 (zp L rfl rfl (zk rfl) rfl rfl rfl (fun u H hH hle _ => UT.size_ret _ hH (UT.TA.le (by assumption) hle))) rfl ?_;refine Zc ?_
 refine qq L (rs:=[.tmp 2]) rfl (fun _ _ h => h) Since.refl fun u H hH hle => ?_
 rfl
theorem zxf {cf:Nat} {c:KT → KT → Int} (hc:Cmp cf c) {p:Option Addr} (k:KT) (x:VT) {t:Tr KT VT} {w:World} {B:Heap} (hB:B.Le (hp w)) (hv:TA t (.pointer p) B) (hs:t.size + 1 < 1099511627776) :
  Ret Tryz.prog 179 [mv cf (.pointer p), kv k, vv x] w B (MA (.func (.func cf) #[] #[]) (Tr.put c k x t)):=by
 refine qt Tryz.func179 rfl Tryz.ntmps179 (Nat.le_of_ble_eq_true rfl) hB ?_
 refine ZaF ?_;refine Zc1 ?_;refine Zc1 ?_;refine ZaI ?_;(refine zfu 3 rfl ?_;intro b3 hb3); refine Zn ?_;refine ZbN ?_;refine ZbX ?_;refine z7 (zpq rfl rfl rfl rfl z4x rfl rfl) rfl ?_;refine Zz ?_;refine Z5 ?_;refine ZbW ?_;refine ZbN ?_;refine ZbX ?_;refine ZaO ?_;refine z7 (zy L (vs:=[]) (qo rfl) rfl rfl rfl rfl ⟨_, rfl⟩) rfl ?_;refine z7 (y6 (cs:=[_, _, _, _, _, _]) rfl rfl z1r rfl rfl) rfl ?_;refine z7 (zag L rfl rfl (zk rfl) rfl rfl rfl TA.mono (fun u H hH hle _ => zzk hc _ k x t hH (hv.le hle) hs)) rfl ?_;refine zd7 16 rfl ?_;intro p16 H16 hs16 hp16; obtain ⟨q16, rfl⟩:=TA.ptr hp16; refine Zde ?_;refine Zj ?_;refine Zo ?_;refine ZbW ?_;refine ZaY ?_
 refine qq L (rs:=[.cell 6 87]) rfl (fun _ _ h => h) hs16 fun u H hH hle => ?_
 refine Zev ?_
 exact ⟨q16, rfl, hp16.le hle⟩
theorem zu1 {cf:Nat} {c:KT → KT → Int} (hc:Cmp cf c) {p:Option Addr} (k:KT) {t:Tr KT VT} {w:World} {B:Heap} (hB:B.Le (hp w)) (hv:TA t (.pointer p) B) (hs:t.size < 1099511627776) :
  Ret Tryz.prog 178 [mv cf (.pointer p), kv k] w B (MA (.func (.func cf) #[] #[]) (if (Tr.drop c k t).2 = true then (Tr.drop c k t).1 else t)):=by
 have hD:=fun (u:World) (H:Heap) (hH:H.Le (hp u)) (hle:B.Le H) => zxt hc (.pointer p) k t hH (hv.le hle) hs
 rcases hq:Tr.drop c k t with ⟨t', was⟩
 rw [hq] at hD
 have hm:=TA.mono (t:=t')
 cases was
 ·rw [if_neg (by simp)]
  refine qt Tryz.func178 rfl Tryz.ntmps178 (Nat.le_of_ble_eq_true rfl) hB ?_
  refine ZaF ?_;refine Zc1 ?_;refine ZaI ?_;(refine zfu 2 rfl ?_;intro b2 hb2); refine Zn ?_;refine ZbW ?_;refine ZbN ?_;refine ZbX ?_;refine ZaO ?_;refine z7 (zag L rfl rfl (zk rfl) rfl rfl rfl DropS.mono (fun u H hH hle _ => hD u H hH hle)) rfl ?_;refine ZcJ ?_;refine Zaa ?_;refine Za0 ?_;refine Zt ?_;refine Zp ?_;refine ZbW ?_;refine ZaY ?_
  refine qq L (rs:=[.cell 4 87]) rfl (fun _ _ h => h) Since.refl fun u H hH hle => ?_
  refine Zev ?_
  exact ⟨p, rfl, hv.le hle⟩
 ·rw [if_pos rfl]
  refine qt Tryz.func178 rfl Tryz.ntmps178 (Nat.le_of_ble_eq_true rfl) hB ?_
  refine ZaF ?_;refine Zc1 ?_;refine ZaI ?_;(refine zfu 2 rfl ?_;intro b2 hb2); refine Zn ?_;refine ZbW ?_;refine ZbN ?_;refine ZbX ?_;refine ZaO ?_;refine z7 (zag L rfl rfl (zk rfl) rfl rfl rfl DropS.mono (fun u H hH hle _ => hD u H hH hle)) rfl ?_;refine ZcJ ?_;refine Zaa ?_;refine Za0 ?_;refine Zz ?_;refine Zo ?_;refine Zl ?_;refine zd7 16 rfl ?_;intro p16 H16 hs16 hp16; obtain ⟨q16, rfl⟩:=TA.ptr hp16; refine Zde ?_;refine Zj ?_;refine Zp ?_;refine ZbW ?_;refine ZaY ?_
  refine qq L (rs:=[.cell 4 87]) rfl (fun _ _ h => h) hs16 fun u H hH hle => ?_
  refine Zev ?_
  exact ⟨q16, rfl, hp16.le hle⟩
def z4c:Option VT → List Value
 | some x => [vv x, .bool true]
 | none => [.agg #[], .bool false]
theorem z0c {cf:Nat} {c:KT → KT → Int} (hc:Cmp cf c) (k:KT) {root:Value} {t:Tr KT VT} {w:World} {B:Heap} (hB:B.Le (hp w)) (hv:TA t root B) :
  Ret Tryz.prog 176 [mv cf root, kv k] w B (fun v _ => v = tup (z4c (Tr.get c k t))):=by
 refine qt Tryz.func176 rfl Tryz.ntmps176 (Nat.le_of_ble_eq_true rfl) hB ?_
 refine Zae ?_;refine Z6 ?_;refine Zd ?_;refine Zb4 ?_;refine Zaq ?_;refine Zd ?_;refine q6 ?_
 refine zan (fun s:Tr KT VT × Value => [(3, .sat (At [.string k.1.1.1, .string k.1.1.2, .string k.1.2, .string k.2.1.1, .string k.2.1.2, .string k.2.2] 34 0)), (4, .own (zed [] 195)), (2, .sat (At [.func (.func cf) #[] #[], root] 87 0)), (6, .is s.2)])
  (fun s => TA s.1 s.2 B ∧ Tr.get c k s.1 = Tr.get c k t) (fun s => s.1.size) (t, root) ⟨hv, rfl⟩ (by repeat (first | exact trivial | refine ⟨rfl, ?_⟩)) ?_
 rintro ⟨s, v⟩ ⟨hs, hg⟩
 dsimp only at hs hg ⊢
 cases s with
 | nil =>
  obtain rfl:v = .pointer none:=hs
  refine Ze ?_;refine Zf3 ?_;refine Zbd ?_;refine Zah ?_;refine Zb0 ?_;refine Zap ?_;refine z7 (zy L (vs:=[]) (qk rfl) rfl rfl rfl rfl ⟨_, rfl⟩) rfl ?_;refine ZaL ?_
  refine qq L (rs:=[.cell 4 195, .tmp 5]) rfl (fun _ _ h => h) Since.refl fun u H hH hle => ?_
  first | (rw [← hg]; rfl) | (refine zhp (qk rfl) rfl rfl ?_;rw [← hg]; rfl)
 | node nk nx l r =>
  obtain ⟨b, lv, rv, rfl, hb, hl, hr⟩:=hs
  by_cases h0:c k nk = 0
  ·rw [Tr.get_eq h0] at hg
   refine Ze ?_;refine Zf3 ?_;refine ZcA ?_;refine ZdA ?_;refine ZdB ?_;refine zd (zp L rfl rfl (zk rfl) rfl rfl hc.fn (fun u H hH _ _ => hc.ret _ _ u H hH)) rfl ?_;refine ZcX ?_;refine Zi ?_;refine Z9 ?_;refine Zv ?_;refine ZY ?_;refine Zar ?_;refine z7 (zsb (by assumption) rfl rfl rfl (by kernel_rfl)) rfl ?_;refine z7 (zqr L rfl rfl rfl rfl) rfl ?_;refine ZaL ?_
   refine qq L (rs:=[.cell 4 195, .tmp 5]) rfl (fun _ _ h => h) Since.refl fun u H hH hle => ?_
   first | (rw [← hg]; rfl) | (refine zhp (qk rfl) rfl rfl ?_;rw [← hg]; rfl)
  ·by_cases h1:c k nk < 0
   ·rw [Tr.get_lt h1] at hg
    refine Ze ?_;refine Zf3 ?_;refine ZcA ?_;refine ZdA ?_;refine ZdB ?_;refine zd (zp L rfl rfl (zk rfl) rfl rfl hc.fn (fun u H hH _ _ => hc.ret _ _ u H hH)) rfl ?_;refine ZcX ?_;refine Zi ?_;refine ZaN ?_;refine ZJ ?_;refine Zcl ?_;refine ZC ?_;refine ZbU ?_;refine ZG ?_
    exact qy (x:=(Tr.node nk nx l r, Value.pointer (some ⟨b, 0, none⟩))) (l, lv) ⟨hl, hg⟩ (by simp only [Tr.size_node]; omega) (by repeat (first | exact trivial | refine ⟨rfl, ?_⟩))
   ·rw [Tr.get_gt h0 h1] at hg
    refine Ze ?_;refine Zf3 ?_;refine ZcA ?_;refine ZdA ?_;refine ZdB ?_;refine zd (zp L rfl rfl (zk rfl) rfl rfl hc.fn (fun u H hH _ _ => hc.ret _ _ u H hH)) rfl ?_;refine ZcX ?_;refine Zi ?_;refine ZaN ?_;refine ZJ ?_;refine Z7 ?_;refine Zdk ?_;refine ZS ?_;refine ZbU ?_;refine ZG ?_
    exact qy (x:=(Tr.node nk nx l r, Value.pointer (some ⟨b, 0, none⟩))) (r, rv) ⟨hr, hg⟩ (by simp only [Tr.size_node]; omega) (by repeat (first | exact trivial | refine ⟨rfl, ?_⟩))
end Go.V.UT
set_option maxRecDepth 20000
namespace Go.V.UT
open Go.Proofs Go.RowKit Go.V
theorem _root_.Go.V.Zab {A B:Prop} (h:B) (t:Wr B → A:=by intro h; refine zd (yg rfl rfl rfl rfl) rfl ?_;exact h.h):A:=t ⟨h⟩
theorem _root_.Go.V.Zgb {A B:Prop} (h:B) (t:Wr B → A:=by intro h; refine zd (zqs rfl rfl rfl rfl (decide_eq_true (by omega))) rfl ?_;exact h.h):A:=t ⟨h⟩
theorem _root_.Go.V.Zew {A B:Prop} (h:B) (t:Wr B → A:=by intro h; refine zd (zqs rfl rfl rfl rfl (decide_eq_false (by omega))) rfl ?_;exact h.h):A:=t ⟨h⟩
theorem _root_.Go.V.Zfa {A B:Prop} (h:B) (t:Wr B → A:=by intro h; refine Zbg ?_;refine Zbv ?_;exact h.h):A:=t ⟨h⟩
theorem _root_.Go.V.Zbh {A B:Prop} (h:B) (t:Wr B → A:=by intro h; refine Zbg ?_;refine Zb9 ?_;exact h.h):A:=t ⟨h⟩
theorem _root_.Go.V.Zcr {A B:Prop} (h:B) (t:Wr B → A:=by intro h; refine Zfa ?_;refine ZeK ?_;exact h.h):A:=t ⟨h⟩
theorem _root_.Go.V.Zf4 {A B:Prop} (h:B) (t:Wr B → A:=by intro h; refine q4 (id:=6) [(60, [77])] mixed (by kernel_rfl) ?_;refine Zh ?_;exact h.h):A:=t ⟨h⟩
theorem _root_.Go.V.ZfR {A B:Prop} (h:B) (t:Wr B → A:=by intro h; refine ZI ?_;refine Zah ?_;exact h.h):A:=t ⟨h⟩
theorem _root_.Go.V.Zf5 {A B:Prop} (h:B) (t:Wr B → A:=by intro h; refine Zbf ?_;refine zd (zck rfl rfl rfl rfl z3q rfl) rfl ?_;exact h.h):A:=t ⟨h⟩
theorem _root_.Go.V.ZdC {A B:Prop} (h:B) (t:Wr B → A:=by intro h; refine Zbf ?_;refine Zbf ?_;exact h.h):A:=t ⟨h⟩
def encP (y:KT × VT):List Value:=[.agg (pl y.1 y.2).toArray]
def PairsAt (t:Tr KT VT) (a f e:Int):Value → Heap → Prop:=fun v H => ∃ b1 b2 b3 b4 root, v = .func (.func 287) #[] #[.pointer (some ⟨b1, 0, none⟩), .pointer (some ⟨b2, 0, none⟩), .pointer (some ⟨b3, 0, none⟩), .pointer (some ⟨b4, 0, none⟩)] ∧
 H b1 = some (.cells [root].toArray 85) ∧ H b2 = some (.cells [.int .i64 a].toArray 3) ∧ H b3 = some (.cells [.int .i64 f].toArray 3) ∧ H b4 = some (.cells [.int .i64 e].toArray 3) ∧ TA t root H
theorem PairsAt.mono {t:Tr KT VT} {a f e:Int}:Kn.mono (.sat (PairsAt t a f e)):=fun _ _ _ ⟨b1, b2, b3, b4, root, h0, h1, h2, h3, h4, h5⟩ hle => ⟨b1, b2, b3, b4, root, h0, hle _ _ h1, hle _ _ h2, hle _ _ h3, hle _ _ h4, h5.le hle⟩
attribute [local irreducible] V N X VO Par StepOK Has Ret RetL Src
theorem zjv (t:Tr KT VT) (a f e:Int) {root:Value} {w:World} {B:Heap} (hB:B.Le (hp w)) (hv:TA t root B) :
  Ret Tryz.prog 241 [root, .int .i64 a, .int .i64 f, .int .i64 e] w B (PairsAt t a f e):=by
 obtain ⟨p, rfl⟩:=hv.ptr
 refine qt Tryz.func241 rfl Tryz.ntmps241 (Nat.le_of_ble_eq_true rfl) hB ?_
 refine Zae ?_;refine Zc1 ?_;refine Zc1 ?_;refine Zd ?_
 refine zkq 4 rfl fun v1 H1 hs1 ⟨b1, e1, h1⟩ => ?_
 subst e1
 refine zkq 5 rfl fun v2 H2 hs2 ⟨b2, e2, h2⟩ => ?_
 subst e2
 refine zkq 6 rfl fun v3 H3 hs3 ⟨b3, e3, h3⟩ => ?_
 subst e3
 refine zkq 7 rfl fun v4 H4 hs4 ⟨b4, e4, h4⟩ => ?_
 subst e4
 refine Zn ?_;refine Zby ?_;refine Zc ?_
 refine qq L (rs:=[.tmp 8]) rfl (fun _ _ h => h) (hs1.trans (hs2.trans (hs3.trans hs4))) fun u H hH hle => ?_
 exact ⟨b1, b2, b3, b4, _, rfl, hle _ _ (hs4.le _ _ (hs3.le _ _ (hs2.le _ _ h1))), hle _ _ (hs4.le _ _ (hs3.le _ _ h2)), hle _ _ (hs4.le _ _ h3), hle _ _ h4, (((hv.le hs1.le).le hs2.le).le (hs3.le.trans hs4.le)).le hle⟩
theorem zhx {l:List (KT × VT)} {x:List Value} {pre:zbo} (h:pre ++ [x] <+: l.map encP):∃ y, x = encP y:=by
 have:x ∈ l.map encP:=h.subset (by simp)
 obtain ⟨y, _, rfl⟩:=List.mem_map.1 this
 exact ⟨y, rfl⟩
abbrev zls:List Value → List Value
 | [.agg cs] => cs.toList
 | _ => []
set_option maxHeartbeats 2000000 in
set_option maxRecDepth 10000 in
theorem zxn:∀ (t:Tr KT VT) (a f e:Int) {b1 b2 b3 b4:Nat} {root:Value} {w:World} {B:Heap}, 0 ≤ a → a + t.size < 1099511627776 → B.Le (hp w) →
  B b1 = some (.cells [root].toArray 85) → B b2 = some (.cells [.int .i64 a].toArray 3) → B b3 = some (.cells [.int .i64 f].toArray 3) → B b4 = some (.cells [.int .i64 e].toArray 3) → TA t root B →
  z3e Tryz.prog 287 [.pointer (some ⟨b1, 0, none⟩), .pointer (some ⟨b2, 0, none⟩), .pointer (some ⟨b3, 0, none⟩), .pointer (some ⟨b4, 0, none⟩)] w B ((Tr.prs t a f e).map encP):=by
 intro t
 induction t with
 | nil =>
  intro a f e b1 b2 b3 b4 root w B ha hsz hB g1 g2 g3 g4 hv ly J stop C hst hY hJ hC
  obtain rfl:root = .pointer none:=hv
  refine zah 77 (J []) Tryz.func287 rfl Tryz.ntmps287 (Nat.le_of_ble_eq_true rfl) hB hJ hC ?_
  refine Za3 ?_;refine Zaw ?_;refine Zbt ?_;refine Zf5 ?_;refine Zeh ?_;refine Zbg ?_;refine Zh ?_;refine Zd7 ?_;refine ZaP ?_;refine Zbh ?_
  exact za6 L 77 rfl (fun _ _ h => h) Since.refl rfl rfl
 | node k x l r ihl ihr =>
  intro a f e b1 b2 b3 b4 root w B ha hsz hB g1 g2 g3 g4 hv ly J stop C hst hY hJ hC
  obtain ⟨b, lv, rv, rfl, hb, hl, hr⟩:=hv
  have hsn:(Tr.node k x l r).size = l.size + 1 + r.size:=rfl
  rw [hsn] at hsz
  refine zah 77 (J []) Tryz.func287 rfl Tryz.ntmps287 (Nat.le_of_ble_eq_true rfl) hB hJ hC ?_
  by_cases h1:a + ((Tr.node k x l r).size:Int) ≤ f
  ·have hx:Tr.prs (.node k x l r) a f e = []:=if_pos (.inl h1)
   refine Za3 ?_;refine Zaw ?_;refine Zbt ?_;refine Zf5 ?_;refine Zh ?_;refine ZdC ?_;refine ZcF ?_;refine Zc7 ?_;refine Zbf ?_;refine Zgb ?_;refine Zbg ?_;refine Zh ?_;refine Zd7 ?_;refine ZaP ?_;refine Zbh ?_
   exact za6 L 77 rfl (fun _ _ h => h) Since.refl rfl (by rw [hx]; rfl)
  ·by_cases h2:a ≥ e
   ·have hx:Tr.prs (.node k x l r) a f e = []:=if_pos (.inr h2)
    refine Za3 ?_;refine Zaw ?_;refine Zbt ?_;refine Zf5 ?_;refine Zh ?_;refine ZdC ?_;refine ZcF ?_;refine Zc7 ?_;refine Zbf ?_;refine Zew ?_;refine Zbg ?_;refine Zh ?_;refine ZdC ?_;refine ZeA ?_;refine Zbh ?_
    exact za6 L 77 rfl (fun _ _ h => h) Since.refl rfl (by rw [hx]; rfl)
   ·have hx:Tr.prs (.node k x l r) a f e = Tr.prs l a f e ++ ((if a + (l.size:Int) ≥ f ∧ a + (l.size:Int) < e then [(k, x)] else []) ++ Tr.prs r (a + l.size + 1) f e) :=
     if_neg (by rintro (h | h); exact h1 h; exact h2 h)
    rw [hx] at hY ⊢
    simp only [List.map_append] at hY ⊢
    refine Za3 ?_;refine Zaw ?_;refine Zbt ?_;refine Zf5 ?_;refine Zh ?_;refine ZdC ?_;refine ZcF ?_;refine Zc7 ?_;refine Zbf ?_;refine Zew ?_;refine Zbg ?_;refine Zh ?_;refine ZdC ?_;refine Zfp ?_;refine Zcr ?_;refine ZeB ?_;refine ZdC ?_;refine ZcF ?_;refine zd (zp L rfl rfl (zk rfl) rfl rfl rfl (fun u H hH hle _ => UT.size_ret _ hH (UT.TA.le (by assumption) hle))) rfl ?_;refine Zc7 ?_;refine ZcX ?_;refine Zet ?_;refine Zbf ?_;refine ZcF ?_;refine ZdC ?_;refine Zbf ?_;refine zd (zag L rfl rfl (zk rfl) rfl rfl rfl PairsAt.mono (fun u H hH hle _ => zjv l a f e hH (TA.le hl hle))) rfl ?_;refine ZcR ?_;refine q6 ?_
    refine zkq 5 rfl fun v5 H5 hs5 ⟨b5, e5, g5⟩ => ?_
    subst e5
    refine zkq 40 rfl fun v40 H40 hs40 ⟨c1, c2, c3, c4, r1, e40, d1, d2, d3, d4, d5⟩ => ?_
    subst e40
    have hsB:=hs5.trans hs40
    have gg5:=hs40.le _ _ g5
    refine zd5 L (gf:=287) (caps:=[.pointer (some ⟨c1, 0, none⟩), .pointer (some ⟨c2, 0, none⟩), .pointer (some ⟨c3, 0, none⟩), .pointer (some ⟨c4, 0, none⟩)])
     [(1, .pointer (some ⟨b1, 0, none⟩)), (2, .pointer (some ⟨b2, 0, none⟩)), (3, .pointer (some ⟨b3, 0, none⟩)), (4, .pointer (some ⟨b4, 0, none⟩)), (5, .pointer (some ⟨b5, 0, none⟩)), (6, .int .i64 (a + l.size))]
     (fun pre => [(77, (J pre).res)]) (fun pre x => [(77, .own (J pre).res), (7, .own (zed (zls x) 293)), (5, .is (.pointer (some ⟨b5, 0, none⟩)))])
     ((Tr.prs l a f e).map encP) stop (fun _ => .ret) rfl rfl rfl ⟨rfl, rfl, rfl, rfl, rfl, rfl, rfl, trivial⟩
     (fun pre p hp => by simp only [List.mem_singleton] at hp; subst hp; exact Nat.le_refl _) hst (fun x hx => by obtain ⟨y, _, rfl⟩:=List.mem_map.1 hx; rfl) (by decide)
     (fun u H hH hle => ihl a f e ha (by omega) hH (hle _ _ d1) (hle _ _ d2) (hle _ _ d3) (hle _ _ d4) (d5.le hle)) ?asg ?bd ?dn ?st
    case asg =>
     intro w1 Ln B' l' D' o pre x' hpre hstp hBB
     obtain ⟨y, rfl⟩:=zhx hpre
     refine Zp ?_;refine Zbn ?_;refine zi ?_
     exact zsz Since.refl ⟨rfl, rfl, rfl, trivial⟩
    case bd =>
     intro w1 Ln B' l' D' o pre x' hpre hstp hBB
     obtain ⟨y, rfl⟩:=zhx hpre
     have q5:=hBB _ _ gg5
     have hpre':=hpre.trans (List.prefix_append ((Tr.prs l a f e).map encP) (((if a + (l.size:Int) ≥ f ∧ a + (l.size:Int) < e then [(k, x)] else [])).map encP ++ (Tr.prs r (a + l.size + 1) f e).map encP))
     cases hb':stop (pre ++ [encP y])
     ·refine ZI ?_;refine Zw ?_;refine Zee ?_;refine ZaH ?_;refine q8 (zch (gs:=77) hY hpre' hstp (congrArg Bool.not hb') rfl rfl rfl rfl rfl) ?_;refine Zu ?_;refine ZX ?_;refine qp ?_
      exact zs1 Since.refl hb' ⟨rfl, trivial⟩
     ·refine ZI ?_;refine Zw ?_;refine Zee ?_;refine ZaH ?_;refine q8 (zch (gs:=77) hY hpre' hstp (congrArg Bool.not hb') rfl rfl rfl rfl rfl) ?_;refine Zu ?_;refine Zz ?_
      exact zha (ze6 (zm7 Since.refl hb' rfl ⟨rfl, trivial⟩))
    case st =>
     intro l' D' o hstop
     exact za6 L 77 rfl (fun _ _ h => h) hsB rfl (by rw [zk2 _ _ _ hstop hst])
    case dn =>
     intro l' D' o hgo
     have htk:=zl4 (stop:=stop) ((Tr.prs l a f e).map encP) [] hgo
     simp only [List.nil_append] at htk
     rw [htk] at hgo ⊢
     have gg1:=hsB.le _ _ g1
     have gg2:=hsB.le _ _ g2
     have gg3:=hsB.le _ _ g3
     have gg4:=hsB.le _ _ g4
     have ggb:=hsB.le _ _ hb
     have ggr:=TA.le hr hsB.le
     refine qp ?_
     refine zj ?_
     refine zv4 (fun M:zbo => [(77, .own (J M).res), (1, .is (.pointer (some ⟨b1, 0, none⟩))), (2, .is (.pointer (some ⟨b2, 0, none⟩))), (3, .is (.pointer (some ⟨b3, 0, none⟩))), (4, .is (.pointer (some ⟨b4, 0, none⟩))), (5, .is (.pointer (some ⟨b5, 0, none⟩))), (6, .is (.int .i64 (a + l.size)))])
      (fun M => stop M = false ∧ za7 stop [] M = M ∧ M ++ (Tr.prs r (a + l.size + 1) f e).map encP = (Tr.prs l a f e).map encP ++ (((if a + (l.size:Int) ≥ f ∧ a + (l.size:Int) < e then [(k, x)] else [])).map encP ++ (Tr.prs r (a + l.size + 1) f e).map encP)) ?one ?two
     case one =>
      by_cases hy1:a + (l.size:Int) ≥ f
      ·by_cases hy2:a + (l.size:Int) < e
       ·rw [if_pos ⟨hy1, hy2⟩] at hY ⊢
        have hpre:(Tr.prs l a f e).map encP ++ [encP (k, x)] <+: (Tr.prs l a f e).map encP ++ ([(k, x)].map encP ++ (Tr.prs r (a + l.size + 1) f e).map encP):=⟨(Tr.prs r (a + l.size + 1) f e).map encP, by simp⟩
        cases hb':stop ((Tr.prs l a f e).map encP ++ [encP (k, x)])
        ·refine zh ?_;refine Zf4 ?_;refine Zbf ?_;refine ZeA ?_;refine Zs ?_;refine Zbf ?_;refine ZbT ?_;refine Zbg ?_;refine Zh ?_;refine ZdC ?_;refine Zfn ?_;refine Zf1 ?_;refine zbi (zch (gs:=77) hY hpre hgo (congrArg Bool.not hb') rfl rfl rfl rfl rfl) rfl rfl ?_;refine Zab ?_;refine Zfa ?_;refine zq ?_
         refine z04 ((Tr.prs l a f e).map encP ++ [encP (k, x)]) Since.refl ⟨hb', ?_, by simp⟩ ⟨rfl, rfl, rfl, rfl, rfl, rfl, rfl, trivial⟩
         rw [zfw _ _ _ (by rw [htk]; exact hgo), List.nil_append]
         simp only [za7]
         split <;> rfl
        ·refine zh ?_;refine Zf4 ?_;refine Zbf ?_;refine ZeA ?_;refine Zs ?_;refine Zbf ?_;refine ZbT ?_;refine Zbg ?_;refine Zh ?_;refine ZdC ?_;refine Zfn ?_;refine Zf1 ?_;refine zbi (zch (gs:=77) hY hpre hgo (congrArg Bool.not hb') rfl rfl rfl rfl rfl) rfl rfl ?_;refine Zab ?_;refine Zbh ?_
         refine za6 L 77 rfl (fun _ _ h => h) hsB rfl ?_
         rw [zfw _ _ _ (by rw [htk]; exact hgo), List.nil_append]
         simp only [List.map_cons, List.map_nil, List.cons_append, za7]
         rw [if_pos hb']
       ·rw [if_neg (by rintro ⟨_, h⟩; exact hy2 h)]
        refine zh ?_;refine Zf4 ?_;refine Zbf ?_;refine ZeA ?_;refine Zs ?_;refine Zbf ?_;refine Zeg ?_;refine Zbg ?_;refine ZfO ?_;refine Zd7 ?_;refine ZaP ?_;refine Zfa ?_;refine zq ?_
        exact z04 ((Tr.prs l a f e).map encP) Since.refl ⟨hgo, htk, by simp⟩ ⟨rfl, rfl, rfl, rfl, rfl, rfl, rfl, trivial⟩
      ·rw [if_neg (by rintro ⟨h, _⟩; exact hy1 h)]
       refine zh ?_;refine Zf4 ?_;refine Zbf ?_;refine Zfp ?_;refine Zh ?_;refine Zd7 ?_;refine ZaP ?_;refine Zbg ?_;refine ZfO ?_;refine Zd7 ?_;refine ZaP ?_;refine Zfa ?_;refine zq ?_
       exact z04 ((Tr.prs l a f e).map encP) Since.refl ⟨hgo, htk, by simp⟩ ⟨rfl, rfl, rfl, rfl, rfl, rfl, rfl, trivial⟩
     case two =>
      rintro M ⟨hM1, hM2, hM3⟩
      rw [← hM3] at hY ⊢
      refine zh ?_;refine ZeU ?_;refine Zbf ?_;refine ZcF ?_;refine Zh ?_;refine Zc7 ?_;refine ZdC ?_;refine zd (zag L rfl rfl (zk rfl) rfl rfl rfl PairsAt.mono (fun u H hH hle _ => zjv r (a + l.size + 1) f e hH (TA.le ggr hle))) rfl ?_;refine ZcR ?_;refine q6 ?_
      refine zkq 71 rfl fun v71 H71 hs71 ⟨c1, c2, c3, c4, r1, e71, d1, d2, d3, d4, d5⟩ => ?_
      subst e71
      have qq5:=hs71.le _ _ gg5
      have htot:za7 stop [] (M ++ (Tr.prs r (a + l.size + 1) f e).map encP) = M ++ za7 (fun p => stop (M ++ p)) [] ((Tr.prs r (a + l.size + 1) f e).map encP):=by
       rw [zfw _ _ _ (by rw [hM2]; exact hM1), zjb, List.nil_append, List.append_nil]
      refine zd5 L (gf:=287) (caps:=[.pointer (some ⟨c1, 0, none⟩), .pointer (some ⟨c2, 0, none⟩), .pointer (some ⟨c3, 0, none⟩), .pointer (some ⟨c4, 0, none⟩)])
       [(5, .pointer (some ⟨b5, 0, none⟩))]
       (fun pre => [(77, (J (M ++ pre)).res)]) (fun pre x => [(77, .own (J (M ++ pre)).res), (8, .own (zed (zls x) 293)), (5, .is (.pointer (some ⟨b5, 0, none⟩)))])
       ((Tr.prs r (a + l.size + 1) f e).map encP) (fun p => stop (M ++ p)) (fun _ => .ret) rfl rfl rfl ⟨by rw [List.append_nil]; rfl, rfl, trivial⟩
       (fun pre p hp => by simp only [List.mem_singleton] at hp; subst hp; exact Nat.le_refl _) (by show stop (M ++ []) = false; rw [List.append_nil]; exact hM1) (fun x hx => by obtain ⟨y, _, rfl⟩:=List.mem_map.1 hx; rfl) (by decide)
       (fun u H hH hle => ihr (a + l.size + 1) f e (by omega) (by omega) hH (hle _ _ d1) (hle _ _ d2) (hle _ _ d3) (hle _ _ d4) (d5.le hle)) ?asg2 ?bd2 ?dn2 ?st2
      case asg2 =>
       intro w1 Ln B' l' D' o pre x' hpre hstp hBB
       obtain ⟨y, rfl⟩:=zhx hpre
       refine ZA ?_;refine Zbn ?_;refine zi ?_
       exact zsz Since.refl ⟨rfl, rfl, rfl, trivial⟩
      case bd2 =>
       intro w1 Ln B' l' D' o pre x' hpre hstp hBB
       obtain ⟨y, rfl⟩:=zhx hpre
       have q5:=hBB _ _ qq5
       have hpre':(M ++ pre) ++ [encP y] <+: M ++ (Tr.prs r (a + l.size + 1) f e).map encP:=by rw [List.append_assoc]; exact (List.prefix_append_right_inj M).2 hpre
       cases hb':stop ((M ++ pre) ++ [encP y])
       ·refine ZfR ?_;refine Zee ?_;refine ZaH ?_;refine q8 (zch (gs:=77) hY hpre' hstp (congrArg Bool.not hb') rfl rfl rfl rfl rfl) ?_;refine Zu ?_;refine ZX ?_;refine qp ?_
        exact zs1 Since.refl (by rw [← List.append_assoc]; exact hb') ⟨by rw [← List.append_assoc]; rfl, trivial⟩
       ·refine ZfR ?_;refine Zee ?_;refine ZaH ?_;refine q8 (zch (gs:=77) hY hpre' hstp (congrArg Bool.not hb') rfl rfl rfl rfl rfl) ?_;refine Zu ?_;refine Zz ?_
        exact zha (ze6 (zm7 Since.refl (by rw [← List.append_assoc]; exact hb') rfl ⟨by rw [← List.append_assoc]; rfl, trivial⟩))
      case st2 =>
       intro l' D' o hstop
       exact za6 L 77 rfl (fun _ _ h => h) (hsB.trans hs71) rfl (by rw [htot])
      case dn2 =>
       intro l' D' o hgo2
       refine qp ?_
       exact zav L 77 rfl (fun _ _ h => h) (hsB.trans hs71) rfl (by rw [htot])
end Go.V.UT
set_option maxRecDepth 20000
namespace Go.V.UT
open Go.Proofs Go.RowKit Go.V
abbrev tyP:TypeId:=293
abbrev tyS:TypeId:=290
def flat (l:List (KT × VT)):List Value:=l.flatMap fun y => pl y.1 y.2
abbrev PS (l:List (KT × VT)) (fu:Bool):Value → Heap → Prop:=SlV tyP 6 (flat l) l.length fu
theorem zst:∀ (pre:zbo) (l:List (KT × VT)), pre <+: l.map encP → ∃ m:List (KT × VT), pre = m.map encP ∧ m.length = pre.length ∧ pre.flatMap zls = flat m:=by
 intro pre l h
 refine ⟨l.take pre.length, ?_, ?_, ?_⟩
 ·rw [List.map_take]; exact (List.prefix_iff_eq_take.1 h)
 ·rw [List.length_take]
  have:=h.length_le
  simp only [List.length_map] at this
  omega
 ·conv => lhs; rw [List.prefix_iff_eq_take.1 h, ← List.map_take]
  generalize l.take pre.length = m
  induction m with
  | nil => rfl
  | cons y m ih => simp only [List.map_cons, List.flatMap_cons, flat] at ih ⊢; rw [ih]; rfl
theorem zo8 (xs:zbo):za7 (fun _ => false) [] xs = xs:=by
 have:=zl4 (stop:=fun _ => false) xs [] rfl
 simpa using this
attribute [local irreducible] V N X VO Par StepOK Has Ret RetL Src
theorem zxx (l:List (KT × VT)) (fu:Bool) {v:Value} {w:World} {B:Heap} (hB:B.Le (hp w)) (hv:PS l fu v B):Ret Tryz.prog 239 [v] w B (PS l true):=by
 refine qt Tryz.func239 rfl Tryz.ntmps239 (Nat.le_of_ble_eq_true rfl) hB ?_
 refine zbl 0 (PS l fu) rfl SlV.mono hv ?_
 refine ZZ ?_;refine Zl ?_;refine Zx ?_;refine Zx ?_;refine Zer ?_;refine Zd3 ?_
 refine qq L (rs:=[.tmp 2]) rfl (fun _ _ h => h) Since.refl fun u H hH hle => ?_
 exact fun v hv => hv
set_option maxHeartbeats 1000000 in
theorem zx0 (l:List (KT × VT)) (hl:l.length < 1099511627776) {x:Value} {gf:Nat} {caps:List Value} {w:World} {B:Heap} {C:Nat → Prop} (hB:B.Le (hp w)) (hx:(SlR tyP 6 0 []).P x B w C) (hC:∀ k, C k → k < w.heap.size ∧ B k = none)
  (hfn:L.fn gf = some ()) (hit:∀ u H, H.Le (hp u) → B.Le H → z3e Tryz.prog gf caps u H (l.map encP)) :
  RetL Tryz.prog 240 [x, .func (.func gf) #[] caps.toArray] w B C (fun v H _ => PS l false v H):=by
 refine zyb 0 (x:=x) (SlR tyP 6 0 []) rfl Tryz.func240 rfl Tryz.ntmps240 (Nat.le_of_ble_eq_true rfl) hB hx hC ?_
 refine zyc 0 13 _ rfl SlR.shape fun y hy => ?_
 obtain ⟨p, c, rfl⟩:=hy
 refine ZaF ?_;refine Zcz ?_;refine ZbI ?_
 refine zfu 2 rfl fun b2 hb2 => ?_
 refine zh2 13 [] rfl rfl ?_
 refine zd5 L (gf:=gf) (caps:=caps) [(2, .pointer (some ⟨b2, 0, none⟩))] (fun pre => [(13, zs7 b2 tyS (SlR tyP 6 pre.length (pre.flatMap zls)))])
  (fun pre x => [(13, .own (zs7 b2 tyS (SlR tyP 6 pre.length (pre.flatMap zls)))), (2, .is (.pointer (some ⟨b2, 0, none⟩))), (5, .own (zed (zls x) tyP))])
  (l.map encP) (fun _ => false) (fun _ => .ret) rfl rfl hfn ⟨rfl, rfl, trivial⟩
  (fun pre p hp => by simp only [List.mem_singleton] at hp; subst hp; exact Nat.le_refl _) rfl (fun x hx => by obtain ⟨y, _, rfl⟩:=List.mem_map.1 hx; rfl) (by decide) hit ?asg ?bd ?dn ?st
 case asg =>
  intro w1 Ln B' l' D' o pre x' hpre hstp hBB
  obtain ⟨y, rfl⟩:=zhx hpre
  refine Z5 ?_;refine Zbn ?_;refine zi ?_
  exact zsz Since.refl ⟨rfl, rfl, rfl, trivial⟩
 case bd =>
  intro w1 Ln B' l' D' o pre x' hpre hstp hBB
  obtain ⟨y, rfl⟩:=zhx hpre
  have hlen:=hpre.length_le
  simp only [List.length_append, List.length_map, List.length_cons, List.length_nil] at hlen
  refine q6 ?_
  refine zeu 13 _ rfl SlR.shape fun z hz => ?_
  obtain ⟨p, c, rfl⟩:=hz
  refine Zo ?_;refine ZbX ?_;refine zcq 8 13 rfl rfl ?_;refine ZaH ?_;refine ZR ?_;refine q8 (zce L rfl rfl rfl (zkw rfl) rfl z2p rfl rfl (by omega) (by omega)) ?_;refine zej 11 13 _ rfl SlR.shape fun z hz => ?_;obtain ⟨p', c', rfl⟩:=hz; refine Zf2 ?_;refine zi ?_;refine qp ?_
  refine zh3 13 [] rfl rfl ?_
  refine zs1 Since.refl rfl ⟨?_, trivial⟩
  rw [List.flatMap_append, List.length_append]
  rfl
 case st =>
  intro l' D' o h
  cases h
 case dn =>
  intro l' D' o _
  rw [zo8]
  refine qp ?_
  refine zj ?_
  refine zeu 13 _ rfl SlR.shape fun z hz => ?_
  obtain ⟨p, c, rfl⟩:=hz
  refine Zce ?_;refine ZbX ?_;refine Zc ?_
  refine zyd 4 13 rfl rfl ?_
  refine zkp 4 rfl ?_
  refine zov L (rs:=[.tmp 4]) rfl (fun _ _ h => h) Since.refl fun O' u H hH hle => ?_
  obtain ⟨m, h1, h2, h3⟩:=zst _ l (List.prefix_refl _)
  have hm:m = l:=by
   have:=List.map_inj_right (f:=encP) (fun a b h => by
    simp only [encP, List.cons.injEq, Value.agg.injEq, and_true] at h
    have h:=congrArg Array.toList h
    simp at h
    first | exact Prod.ext h.1 h.2 | exact Prod.ext h.1 (Prod.ext (Prod.ext h.2.1 h.2.2.1) h.2.2.2) | exact Prod.ext (Prod.ext (Prod.ext h.1 h.2.1) h.2.2.1) h.2.2.2 | exact Prod.ext (Prod.ext (Prod.ext (Prod.ext h.1 h.2.1) h.2.2.1) (Prod.ext (Prod.ext h.2.2.2.1 h.2.2.2.2.1) h.2.2.2.2.2)) rfl) |>.1 h1
   exact this.symm
  subst hm
  rw [h3]
  simp only [List.length_map]
  exact fun v hv => hv
theorem PS.mono {l:List (KT × VT)} {fu:Bool}:Kn.mono (.sat (PS l fu)):=SlV.mono
theorem zsv {t:Tr KT VT} {f e:Int} {x v:Value} {w:World} {B:Heap} {C:Nat → Prop} (hB:B.Le (hp w)) (hx:(SlR tyP 6 0 []).P x B w C) (hC:∀ k, C k → k < w.heap.size ∧ B k = none) (hv:PairsAt t 0 f e v B) (hs:t.size < 1099511627776) :
  RetL Tryz.prog 240 [x, v] w B C (fun v H _ => PS (Tr.prs t 0 f e) false v H):=by
 obtain ⟨b1, b2, b3, b4, root, rfl, h1, h2, h3, h4, h5⟩:=hv
 have hlen:=Tr.prs_length_le t 0 f e
 exact zx0 (Tr.prs t 0 f e) (by omega) hB hx hC rfl fun u H hH hle => zxn t 0 f e (Int.le_refl _) (by omega) hH (hle _ _ h1) (hle _ _ h2) (hle _ _ h3) (hle _ _ h4) (h5.le hle)
theorem zt4 (t:Tr KT VT) {a f e:Int}:(Tr.prs t a f e).length ≤ t.size:=Tr.prs_length_le t a f e
def rangeL (t:Tr KT VT) (f e:Int):List (KT × VT):=if max f 0 ≥ min e t.size then [] else Tr.prs t 0 (max f 0) (min e t.size)
set_option maxRecDepth 10000 in
theorem zt2 {fv root:Value} {t:Tr KT VT} (f e:Int) {w:World} {B:Heap} (hB:B.Le (hp w)) (hv:TA t root B) (hs:t.size < 1099511627776) :
  Ret Tryz.prog 172 [.agg #[fv, root], .int .i64 f, .int .i64 e] w B (PS (rangeL t f e) true):=by
 refine qt Tryz.func172 rfl Tryz.ntmps172 (Nat.le_of_ble_eq_true rfl) hB ?_
 unfold rangeL
 by_cases h:max f 0 ≥ min e t.size
 ·rw [if_pos h]
  refine Za3 ?_;refine ZeS ?_;refine z7 (zlc rfl rfl rfl rfl rfl) rfl ?_;refine Za ?_;refine Zc2 ?_;refine z7 (zp L rfl rfl (zk rfl) rfl rfl rfl (fun u H hH hle _ => len_ret hH (hv.le hle))) rfl ?_;refine z7 (zyw rfl rfl rfl rfl rfl) rfl ?_;refine ZaJ ?_;refine Zav ?_;refine Za5 ?_;refine Zv ?_;refine Zo ?_;refine Zc ?_
  refine qq L (rs:=[.tmp 6]) rfl (fun _ _ h => h) Since.refl fun u H hH hle => ?_
  exact (SlV.nil (e:=tyP))
 ·rw [if_neg h]
  have hlen:=zt4 t (a:=0) (f:=max f 0) (e:=min e t.size)
  have e1:(if (0:Int) > f then 0 else f) = max f 0:=by omega
  have e2:(if (t.size:Int) < e then (t.size:Int) else e) = min e t.size:=by omega
  refine Za3 ?_;refine ZeS ?_;refine z7 (zlc rfl rfl rfl rfl (by assumption)) rfl ?_;refine Za ?_;refine Zc2 ?_;refine z7 (zp L rfl rfl (zk rfl) rfl rfl rfl (fun u H hH hle _ => len_ret hH (hv.le hle))) rfl ?_;refine z7 (zyw rfl rfl rfl rfl (by assumption)) rfl ?_;refine ZaJ ?_;refine Zav ?_;refine ZD ?_;refine Zt ?_
  obtain ⟨m, hm⟩:∃ m:Nat, min e (t.size:Int) - max f 0 = m:=⟨(min e (t.size:Int) - max f 0).toNat, by omega⟩
  refine q4 (id:=4) [(25, [19])] mixed (by kernel_rfl) ?_;refine Zs ?_;refine zd (y8 rfl rfl rfl rfl (zaa (by omega) (by omega))) rfl ?_;refine zd (zw9 L _ rfl rfl rfl z2p rfl rfl (by assumption) (by omega) (by simp only [maxLen]; omega)) rfl ?_;refine Zcg ?_;refine Zs ?_;refine zd (zag L rfl rfl (zk rfl) rfl rfl rfl PairsAt.mono (fun u H hH hle _ => zjv t 0 (max f 0) (min e t.size) hH (TA.le hv hle))) rfl ?_;refine zbi (zxb (q:=19) (cap:=[]) L rfl rfl rfl rfl rfl PS.mono (fun u H C x hH hle hx hC v hv => zsv hH hx hC hv hs)) rfl rfl ?_;refine zd (zag L rfl rfl (zk rfl) rfl rfl rfl PS.mono (fun u H hH hle _ v hv => zxx _ _ hH hv)) rfl ?_;refine Zd9 ?_
  refine qq L (rs:=[.tmp 6]) rfl (fun _ _ h => h) Since.refl fun u H hH hle => ?_
  exact fun v hv => hv
end Go.V.UT
set_option maxRecDepth 20000
namespace Go.V.UT
open Go.Proofs Go.RowKit Go.V
abbrev MF (cf:Nat) (t:Tr KT VT):Value → Heap → Prop:=MA (.func (.func cf) #[] #[]) t
theorem mput_m {cf:Nat} {c:KT → KT → Int} (hc:Cmp cf c) (k:KT) (x:VT) {t:Tr KT VT} {v:Value} {w:World} {B:Heap} (hB:B.Le (hp w)) (hv:MF cf t v B) (hs:t.size + 1 < 1099511627776) :
  Ret Tryz.prog 179 [v, kv k, vv x] w B (MF cf (Tr.put c k x t)):=by
 obtain ⟨p, rfl, h⟩:=hv
 exact zxf hc k x hB h hs
theorem mdrop_m {cf:Nat} {c:KT → KT → Int} (hc:Cmp cf c) (k:KT) {t:Tr KT VT} {v:Value} {w:World} {B:Heap} (hB:B.Le (hp w)) (hv:MF cf t v B) (hs:t.size < 1099511627776) :
  Ret Tryz.prog 178 [v, kv k] w B (MF cf (if (Tr.drop c k t).2 = true then (Tr.drop c k t).1 else t)):=by
 obtain ⟨p, rfl, h⟩:=hv
 exact zu1 hc k hB h hs
theorem len_m {fv:Value} {t:Tr KT VT} {v:Value} {w:World} {B:Heap} (hB:B.Le (hp w)) (hv:MA fv t v B) {n:Nat} (hn:t.size = n):Ret Tryz.prog 103 [v] w B (fun v _ => v = .int .i64 n):=by
 obtain ⟨p, rfl, h⟩:=hv
 subst hn
 exact len_ret hB h
theorem get_m {cf:Nat} {c:KT → KT → Int} (hc:Cmp cf c) (k:KT) {t:Tr KT VT} {v:Value} {w:World} {B:Heap} (hB:B.Le (hp w)) (hv:MF cf t v B) {o:Option VT} (ho:Tr.get c k t = o) :
  Ret Tryz.prog 176 [v, kv k] w B (fun v _ => v = tup (z4c o)):=by
 obtain ⟨p, rfl, h⟩:=hv
 subst ho
 exact z0c hc k hB h
end Go.V.UT
set_option maxRecDepth 20000
namespace Go.V.UT
open Go.Proofs Go.RowKit Go.V
theorem range_m {fv:Value} {t:Tr KT VT} (f e:Int) {v:Value} {w:World} {B:Heap} (hB:B.Le (hp w)) (hv:MA fv t v B) (hs:t.size < 1099511627776) {l:List (KT × VT)} (hl:rangeL t f e = l) :
  Ret Tryz.prog 172 [v, .int .i64 f, .int .i64 e] w B (PS l true):=by
 obtain ⟨p, rfl, h⟩:=hv
 subst hl
 exact zt2 f e hB h hs
end Go.V.UT
set_option maxRecDepth 20000
namespace Go.V.L6
open Go.Proofs Go.RowKit Go.V Go.V.L2 Go.V.L3
theorem _root_.Go.V.Zf6 {A B:Prop} (h:B) (t:Wr B → A:=by intro h; refine z7 (y6 (cs:=[_, _]) rfl rfl z4s rfl rfl) rfl ?_;refine ZaY ?_;exact h.h):A:=t ⟨h⟩
abbrev fvC:Value:=.func (.func 101) #[] #[]
abbrev fvS:Value:=.func (.func 109) #[] #[]
abbrev znc:TypeId:=91
abbrev chv (x:U) (d:Bool):Value:=.agg #[.string x.1.1.1, .string x.1.1.2, .string x.1.2, .string x.2.1.1, .string x.2.1.2, .string x.2.2, .bool d]
attribute [local irreducible] V N X VO Par StepOK Has Ret RetL RetO Src
theorem zwp {a b:U} {w:World} {B:Heap} (hB:B.Le (hp w)):Ret Tryz.prog 109 [uv a, uv b] w B (fun v _ => v = .int .i64 (zo0 a b)):=by
 refine qt Tryz.func109 rfl Tryz.ntmps109 (Nat.le_of_ble_eq_true rfl) hB ?_
 refine Zae ?_;refine Zd ?_;refine Zbt ?_;refine Zd4 ?_;refine Zd4 ?_;refine zd (zp L rfl rfl (zk rfl) rfl rfl rfl (fun u H hH _ _ => cmpU_ret hH)) rfl ?_;refine Zd4 ?_;refine Zd4 ?_;refine zd (zp L rfl rfl (zk rfl) rfl rfl rfl (fun u H hH _ _ => zm0 hH)) rfl ?_;refine ZeN ?_;refine zd (zp L rfl rfl (zk rfl) rfl rfl rfl (fun u H hH _ _ v hv => zmg hH hv)) rfl ?_;refine ZK ?_
 refine qq L (rs:=[.tmp 4]) rfl (fun _ _ h => h) Since.refl fun u H hH hle => ?_
 rfl
theorem z0k:UT.Cmp 101 zbt:=⟨rfl, fun _ _ _ _ hH => zc1 hH⟩
theorem z3u:UT.Cmp 109 zo0:=⟨rfl, fun _ _ _ _ hH => zwp hH⟩
def chT (c:U → U → Int) (x:U) (d:Bool) (t:Tr U Unit):Tr U Unit:=if d = true then (if (Tr.drop c x t).2 = true then (Tr.drop c x t).1 else t) else Tr.put c x () t
theorem zlr {cf:Nat} {c:U → U → Int} (hc:UT.Cmp cf c) {f:Value} {p:Option Addr} {t:Tr U Unit} (hf:f = .func (.func cf) #[] #[] ∨ (f = .nilFunc ∧ t = .nil)) (x:U) (d:Bool) {w:World} {B:Heap} (hB:B.Le (hp w)) (ht:UT.TA t (.pointer p) B) (hs:t.size + 1 < 1099511627776) :
  Ret Tryz.prog 108 [.agg #[f, .pointer p], chv x d, .func (.func cf) #[] #[]] w B (UT.MF cf (chT c x d t)):=by
 by_cases h0:t.size = 0
 ·have hn:t = .nil:=by
   cases t with
   | nil => rfl
   | node k y l r => simp only [Tr.size] at h0; omega
  subst hn
  have hz:UT.TA .nil (.pointer none) B:=rfl
  refine qt Tryz.func108 rfl Tryz.ntmps108 (Nat.le_of_ble_eq_true rfl) hB ?_
  unfold chT
  cases d
  ·refine ZaF ?_;refine zqe 3 rfl fun b hb => ?_;refine Zc1 ?_;refine ZaI ?_;refine Zn ?_;refine ZbN ?_;refine ZbW ?_;refine z7 (zp L rfl rfl (zk rfl) rfl rfl rfl (fun u H hH hle _ => UT.len_m hH (⟨_, rfl, ht.le hle⟩) h0)) rfl ?_;refine Z9 ?_;refine Zz ?_;refine Z2 ?_;refine z7 (zp L rfl rfl (zk rfl) rfl rfl rfl (fun u H hH _ _ => UT.new_ret _ hH)) rfl ?_;refine Zde ?_;refine Zaw ?_;refine Zo ?_;refine Zch ?_;refine Zt ?_;refine Zw ?_;refine ZbN ?_;refine ZbW ?_;refine ZaV ?_;refine ZaO ?_;refine z7 (y6 (cs:=[]) rfl rfl z1s rfl rfl) rfl ?_;refine z7 (zag (φ:=UT.MF cf (Tr.put c x () .nil)) L rfl rfl (zk rfl) rfl rfl rfl UT.MA.mono (fun u H hH hle _ => UT.mput_m hc x () hH (⟨_, rfl, hz.le hle⟩) hs)) rfl ?_;refine zd7 27 rfl ?_;rintro _ H27 hs27 ⟨q27, rfl, hp27⟩; refine Zf6 ?_
   refine qq L (rs:=[.cell 6 89]) rfl (fun _ _ h => h) hs27 fun u H hH hle => ?_
   exact ⟨_, qk rfl, rfl, q27, rfl, hp27.le hle⟩
  ·refine ZaF ?_;refine zqe 3 rfl fun b hb => ?_;refine Zc1 ?_;refine ZaI ?_;refine Zn ?_;refine ZbN ?_;refine ZbW ?_;refine z7 (zp L rfl rfl (zk rfl) rfl rfl rfl (fun u H hH hle _ => UT.len_m hH (⟨_, rfl, ht.le hle⟩) h0)) rfl ?_;refine Z9 ?_;refine Zz ?_;refine Z2 ?_;refine z7 (zp L rfl rfl (zk rfl) rfl rfl rfl (fun u H hH _ _ => UT.new_ret _ hH)) rfl ?_;refine Zde ?_;refine Zaw ?_;refine Zo ?_;refine Zch ?_;refine Zv ?_;refine Zp ?_;refine ZbN ?_;refine ZbW ?_;refine ZaV ?_;refine ZaO ?_;refine z7 (zag (φ:=UT.MF cf (if (Tr.drop c x .nil).2 = true then (Tr.drop c x .nil).1 else .nil)) L rfl rfl (zk rfl) rfl rfl rfl UT.MA.mono (fun u H hH hle _ => UT.mdrop_m hc x hH (⟨_, rfl, hz.le hle⟩) (by omega))) rfl ?_;refine zd7 20 rfl ?_;rintro _ H20 hs20 ⟨q20, rfl, hp20⟩; refine Zf6 ?_
   refine qq L (rs:=[.cell 6 89]) rfl (fun _ _ h => h) hs20 fun u H hH hle => ?_
   exact ⟨_, qk rfl, rfl, q20, rfl, hp20.le hle⟩
 ·obtain rfl:f = .func (.func cf) #[] #[]:=by
   rcases hf with h | ⟨_, h⟩
   ·exact h
   ·subst h; exact absurd rfl h0
  refine qt Tryz.func108 rfl Tryz.ntmps108 (Nat.le_of_ble_eq_true rfl) hB ?_
  unfold chT
  cases d
  ·refine ZaF ?_;refine zqe 3 rfl fun b hb => ?_;refine Zc1 ?_;refine ZaI ?_;refine Zn ?_;refine ZbN ?_;refine ZbW ?_;refine z7 (zp L rfl rfl (zk rfl) rfl rfl rfl (fun u H hH hle _ => UT.len_m hH (⟨_, rfl, ht.le hle⟩) rfl)) rfl ?_;refine ZL ?_;refine ZB ?_;refine Zo ?_;refine Zch ?_;refine Zt ?_;refine Zw ?_;refine ZbN ?_;refine ZbW ?_;refine ZaV ?_;refine ZaO ?_;refine z7 (y6 (cs:=[]) rfl rfl z1s rfl rfl) rfl ?_;refine z7 (zag (φ:=UT.MF cf (Tr.put c x () t)) L rfl rfl (zk rfl) rfl rfl rfl UT.MA.mono (fun u H hH hle _ => UT.mput_m hc x () hH (⟨_, rfl, ht.le hle⟩) hs)) rfl ?_;refine zd7 27 rfl ?_;rintro _ H27 hs27 ⟨q27, rfl, hp27⟩; refine Zf6 ?_
   refine qq L (rs:=[.cell 6 89]) rfl (fun _ _ h => h) hs27 fun u H hH hle => ?_
   exact ⟨_, qk rfl, rfl, q27, rfl, hp27.le hle⟩
  ·refine ZaF ?_;refine zqe 3 rfl fun b hb => ?_;refine Zc1 ?_;refine ZaI ?_;refine Zn ?_;refine ZbN ?_;refine ZbW ?_;refine z7 (zp L rfl rfl (zk rfl) rfl rfl rfl (fun u H hH hle _ => UT.len_m hH (⟨_, rfl, ht.le hle⟩) rfl)) rfl ?_;refine ZL ?_;refine ZB ?_;refine Zo ?_;refine Zch ?_;refine Zv ?_;refine Zp ?_;refine ZbN ?_;refine ZbW ?_;refine ZaV ?_;refine ZaO ?_;refine z7 (zag (φ:=UT.MF cf (if (Tr.drop c x t).2 = true then (Tr.drop c x t).1 else t)) L rfl rfl (zk rfl) rfl rfl rfl UT.MA.mono (fun u H hH hle _ => UT.mdrop_m hc x hH (⟨_, rfl, ht.le hle⟩) (by omega))) rfl ?_;refine zd7 20 rfl ?_;rintro _ H20 hs20 ⟨q20, rfl, hp20⟩; refine Zf6 ?_
   refine qq L (rs:=[.cell 6 89]) rfl (fun _ _ h => h) hs20 fun u H hH hle => ?_
   exact ⟨_, qk rfl, rfl, q20, rfl, hp20.le hle⟩
end Go.V.L6
set_option maxRecDepth 20000
namespace Go.V.L3
open Go.Proofs Go.RowKit Go.V Go.V.L2
abbrev fv (f:FT):Value:=.agg #[.string f.1.1.1, .string f.1.1.2, .string f.1.2, .string f.2.1.1.1, .string f.2.1.1.2, .string f.2.1.2, .bool f.2.2]
def FZ (f:FT):Prop:=(f.1.1.1.size ≤ 1099511627776 ∧ f.1.1.2.size ≤ 1099511627776 ∧ f.1.2.size ≤ 1099511627776) ∧ f.2.1.1.1.size ≤ 1099511627776 ∧ f.2.1.1.2.size ≤ 1099511627776 ∧ f.2.1.2.size ≤ 1099511627776
instance (f:FT):Decidable (FZ f):=inferInstanceAs (Decidable (_ ∧ _))
attribute [local irreducible] V N X VO Par StepOK Has Ret RetL RetO RetT Src
end Go.V.L3
set_option maxRecDepth 20000
namespace Go.V.L3
open Go.Proofs Go.RowKit Go.V Go.V.L2
attribute [local irreducible] V N X VO Par StepOK Has Ret RetL RetO RetT Src
end Go.V.L3
set_option maxRecDepth 20000
namespace Go.V.L3
open Go.Proofs Go.RowKit Go.V Go.V.L2
attribute [local irreducible] V N X VO Par StepOK Has Ret RetL RetO RetT Src
end Go.V.L3
set_option maxRecDepth 20000
namespace Go.V.L3
open Go.Proofs Go.RowKit Go.V Go.V.L2
theorem LE2.mk {φ:Value → Heap → Prop} {a tv:Value} {H:Heap} (h:φ tv H):TupS [φ, fun v _ => v = a] (.tuple #[tv, a]) H :=
 ⟨[tv, a], rfl, rfl, fun i ψ x hi hx => by
  rcases i with _ | _ | i
  ·simp at hi hx; subst hi hx; exact h
  ·simp at hi hx; subst hi hx; rfl
  ·simp at hi⟩
attribute [local irreducible] V N X VO Par StepOK Has Ret RetL RetO RetT Src
end Go.V.L3
set_option maxRecDepth 20000
namespace Go.V.L6
open Go.Proofs Go.RowKit Go.V Go.V.L2 Go.V.L3
theorem _root_.Go.V.ZbY {A B:Prop} (h:B) (t:Wr B → A:=by intro h; refine z7 (qd L rfl rfl rfl rfl rfl rfl (by assumption) rfl) rfl ?_;exact h.h):A:=t ⟨h⟩
theorem _root_.Go.V.Zdf {A B:Prop} (h:B) (t:Wr B → A:=by intro h; refine z7 (zy L (vs:=[_, _, _, _]) (qo rfl) rfl rfl rfl rfl ⟨_, rfl⟩) rfl ?_;exact h.h):A:=t ⟨h⟩
theorem _root_.Go.V.Zcs {A B:Prop} (h:B) (t:Wr B → A:=by intro h; refine z7 (y6 (cs:=[_, _, _, _]) rfl rfl z3h rfl rfl) rfl ?_;exact h.h):A:=t ⟨h⟩
theorem _root_.Go.V.Zex {A B:Prop} (h:B) (t:Wr B → A:=by intro h; refine zd (zy L (vs:=[_, _, _, _]) (qo rfl) rfl rfl rfl rfl ⟨_, rfl⟩) rfl ?_;exact h.h):A:=t ⟨h⟩
theorem _root_.Go.V.Zf7 {A B:Prop} (h:B) (t:Wr B → A:=by intro h; refine zd (zy L (vs:=[_, _, _, _, _, _, _]) (qo rfl) rfl rfl rfl rfl ⟨_, rfl⟩) rfl ?_;exact h.h):A:=t ⟨h⟩
theorem _root_.Go.V.Zf8 {A B:Prop} (h:B) (t:Wr B → A:=by intro h; refine Zcg ?_;refine zd (zul rfl rfl rfl rfl bt4 rfl) rfl ?_;exact h.h):A:=t ⟨h⟩
def SetV (l:List U):Value → Heap → Prop:=fun v H => ∃ p q t u, TS l t u ∧ UT.TA t (.pointer p) H ∧ UT.TA u (.pointer q) H ∧
 (v = .agg #[fvC, .pointer p, fvS, .pointer q] ∨ (l = [] ∧ p = none ∧ q = none ∧ v = .agg #[.nilFunc, .pointer p, .nilFunc, .pointer q]))
theorem SetV.mono {l:List U}:Kn.mono (.sat (SetV l)):=fun _ _ _ ⟨p, q, t, u, h1, h2, h3, h4⟩ hle => ⟨p, q, t, u, h1, h2.le hle, h3.le hle, h4⟩
theorem SetV.le {l:List U} {v:Value} {H H':Heap} (h:SetV l v H) (hle:H.Le H'):SetV l v H':=SetV.mono _ _ _ h hle
theorem SetV.shape {l:List U} {v:Value} {H:Heap} (h:SetV l v H):∃ f p k q, v = .agg #[f, .pointer p, k, .pointer q] ∧ (za8 (.agg #[f, .pointer p, k, .pointer q])).all zdh = true:=by
 obtain ⟨p, q, _, _, _, _, _, h | ⟨_, _, _, h⟩⟩:=h
 ·exact ⟨_, _, _, _, h, rfl⟩
 ·exact ⟨_, _, _, _, h, rfl⟩
abbrev nilSet:Value:=.agg #[.nilFunc, .pointer none, .nilFunc, .pointer none]
theorem SetV.nil {H:Heap}:SetV [] nilSet H:=⟨none, none, .nil, .nil, z1f, rfl, rfl, .inr ⟨rfl, rfl, rfl, rfl⟩⟩
attribute [local irreducible] V N X VO Par StepOK Has Ret RetL RetO Src
theorem zdj {l:List U} {n:Nat} (hn:l.length = n) {v:Value} {w:World} {B:Heap} (hB:B.Le (hp w)) (hv:SetV l v B):Ret Tryz.prog 36 [v] w B (fun v _ => v = .int .i64 n):=by
 subst hn
 obtain ⟨p, q, t, u, hT, ht, hu, rfl | ⟨rfl, rfl, rfl, rfl⟩⟩:=hv
 ·refine qt Tryz.func36 rfl Tryz.ntmps36 (Nat.le_of_ble_eq_true rfl) hB ?_
  refine Zbk ?_;refine Zb4 ?_;refine ZaV ?_;refine Zc2 ?_;refine z7 (zp L rfl rfl (zk rfl) rfl rfl rfl (fun u H hH hle _ => UT.len_m hH (⟨_, rfl, ht.le hle⟩) hT.size)) rfl ?_;refine Zc ?_
  refine qq L (rs:=[.tmp 2]) rfl (fun _ _ h => h) Since.refl fun u H hH hle => ?_
  rfl
 ·refine qt Tryz.func36 rfl Tryz.ntmps36 (Nat.le_of_ble_eq_true rfl) hB ?_
  refine Zbk ?_;refine Zb4 ?_;refine ZaV ?_;refine Zc2 ?_;refine z7 (zp L rfl rfl (zk rfl) rfl rfl rfl (fun u H hH hle _ => UT.len_m hH (⟨_, rfl, ht.le hle⟩) hT.size)) rfl ?_;refine Zc ?_
  refine qq L (rs:=[.tmp 2]) rfl (fun _ _ h => h) Since.refl fun u H hH hle => ?_
  rfl
theorem zc2 {l:List U} {x:U} {b:Bool} (hb:decide (x ∈ l) = b) {v:Value} {w:World} {B:Heap} (hB:B.Le (hp w)) (hv:SetV l v B):Ret Tryz.prog 107 [v, uv x] w B (fun v _ => v = .bool b):=by
 have hv0:=hv
 obtain ⟨p, q, t, u, hT, ht, hu, rfl | ⟨rfl, rfl, rfl, rfl⟩⟩:=hv
 ·have hg:=hT.get x
  refine qt Tryz.func107 rfl Tryz.ntmps107 (Nat.le_of_ble_eq_true rfl) hB ?_
  by_cases h0:l.length = 0
  ·have hn:l = []:=List.eq_nil_of_length_eq_zero h0
   subst hn
   have hb':b = false:=by rw [← hb]; simp
   subst hb'
   refine Zae ?_;refine Zf ?_;refine Zn ?_;refine Zdf ?_;refine z7 (zp L rfl rfl (zk rfl) rfl rfl rfl (fun u H hH hle _ => zdj rfl hH (hv0.le hle))) rfl ?_;refine Z9 ?_;refine Zdq ?_
   refine qq L (rs:=[.tmp 4]) rfl (fun _ _ h => h) Since.refl fun u H hH hle => ?_
   rfl
  ·cases b
   ·have hx:x ∉ l:=by simpa using hb
    rw [if_neg hx] at hg
    refine Zae ?_;refine Zf ?_;refine Zn ?_;refine Zdf ?_;refine z7 (zp L rfl rfl (zk rfl) rfl rfl rfl (fun u H hH hle _ => zdj rfl hH (hv0.le hle))) rfl ?_;refine ZaN ?_;refine Zo ?_;refine ZaV ?_;refine ZaV ?_;refine Zc2 ?_;refine ZaO ?_;refine z7 (zp L rfl rfl (zk rfl) rfl rfl rfl (fun u H hH hle _ => UT.get_m z0k x hH (⟨_, rfl, ht.le hle⟩) hg)) rfl ?_;refine ZeX ?_;refine Zd ?_;refine Zi ?_;refine Zc ?_
    refine qq L (rs:=[.tmp 4]) rfl (fun _ _ h => h) Since.refl fun u H hH hle => ?_
    rfl
   ·have hx:x ∈ l:=by simpa using hb
    rw [if_pos hx] at hg
    refine Zae ?_;refine Zf ?_;refine Zn ?_;refine Zdf ?_;refine z7 (zp L rfl rfl (zk rfl) rfl rfl rfl (fun u H hH hle _ => zdj rfl hH (hv0.le hle))) rfl ?_;refine ZaN ?_;refine Zo ?_;refine ZaV ?_;refine ZaV ?_;refine Zc2 ?_;refine ZaO ?_;refine z7 (zp L rfl rfl (zk rfl) rfl rfl rfl (fun u H hH hle _ => UT.get_m z0k x hH (⟨_, rfl, ht.le hle⟩) hg)) rfl ?_;refine ZeX ?_;refine Zd ?_;refine Zi ?_;refine Zc ?_
    refine qq L (rs:=[.tmp 4]) rfl (fun _ _ h => h) Since.refl fun u H hH hle => ?_
    rfl
 ·have hb':b = false:=by rw [← hb]; simp
  subst hb'
  refine qt Tryz.func107 rfl Tryz.ntmps107 (Nat.le_of_ble_eq_true rfl) hB ?_
  refine Zae ?_;refine Zf ?_;refine Zn ?_;refine Zdf ?_;refine z7 (zp L rfl rfl (zk rfl) rfl rfl rfl (fun u H hH hle _ => zdj rfl hH (hv0.le hle))) rfl ?_;refine Zep ?_;refine Zdq ?_
  refine qq L (rs:=[.tmp 4]) rfl (fun _ _ h => h) Since.refl fun u H hH hle => ?_
  rfl
def scs (x:Value × Option Addr × Value × Option Addr):List Value:=[x.1, .pointer x.2.1, x.2.2.1, .pointer x.2.2.2]
abbrev SXp:={ x:Value × Option Addr × Value × Option Addr // (scs x).all zdh = true }
abbrev ztu (l:List U) (x:SXp) (H:Heap):Prop:=SetV l (.agg (scs x.1).toArray) H
theorem zcr (l:List U):zhe (ztu l):=fun _ _ _ h hle => SetV.le h hle
theorem ztz {l:List U} (v:Value) (H:Heap) (h:SetV l v H):∃ x:SXp, ztu l x H ∧ za8 v = scs x.1:=by
 obtain ⟨f, p, k, q, rfl, hp⟩:=h.shape
 exact ⟨⟨(f, p, k, q), hp⟩, h, rfl⟩
abbrev z30 (l:List U) (e:Int):Value → Heap → Prop:=TupS [SetV l, fun v _ => v = .int .i64 e]
theorem mf4 {cf cg:Nat} {t u:Tr U Unit} {v1 v2:Value} {H:Heap} (h1:UT.MF cf t v1 H) (h2:UT.MF cg u v2 H):∃ p q, v1 = .agg #[.func (.func cf) #[] #[], .pointer p] ∧ v2 = .agg #[.func (.func cg) #[] #[], .pointer q] ∧ UT.TA t (.pointer p) H ∧ UT.TA u (.pointer q) H:=by
 obtain ⟨p, e1, h1⟩:=h1
 obtain ⟨q, e2, h2⟩:=h2
 exact ⟨p, q, e1, e2, h1, h2⟩
theorem z3f {l:List U} {t u:Tr U Unit} (h:TS l t u) {x:U} {d:Bool} (hx:decide (x ∈ l) = d) (hc:d = false → l.length < 4096) (he:tE x = 0):TS (zf6 l x d).1 (chT zbt x d t) (chT zo0 x d u) ∧ (zf6 l x d).2 = 0:=by
 unfold zf6 chT
 rw [if_pos he]
 cases d
 ·have hx':x ∉ l:=by simpa using hx
  rw [if_neg (by decide), if_neg hx', if_neg (by have:=hc rfl; omega), if_neg (by decide), if_neg (by decide)]
  exact ⟨h.put hx', rfl⟩
 ·have hx':x ∈ l:=by simpa using hx
  rw [if_pos rfl, if_pos rfl, if_pos rfl]
  exact ⟨h.drop hx', rfl⟩
set_option maxHeartbeats 1000000 in
theorem zwd {l m:List U} {x:U} {d:Bool} {e:Int} (hr:zf6 l x d = (m, e)) (hl:l.length ≤ 4096) (hz:TZ x) {v:Value} {w:World} {B:Heap} (hB:B.Le (hp w)) (hv:SetV l v B) :
  Ret Tryz.prog 40 [v, chv x d] w B (z30 m e):=by
 obtain ⟨f1, p1, f2, q1, hsh, hpl⟩:=hv.shape
 by_cases he:tE x = 0
 ·obtain ⟨hin, hin0⟩:∃ b, decide (x ∈ l) = b:=⟨_, rfl⟩
  by_cases hd:hin = d
  ·subst hd
   by_cases hfull:hin = false ∧ l.length = 4096
   ·obtain ⟨rfl, hlen⟩:=hfull
    have hw:zf6 l x false = ([], 3):=by
     unfold zf6
     rw [if_pos he, if_neg (by decide), if_neg (by simpa using hin0), if_pos (by omega)]
    rw [hw] at hr
    cases hr
    subst hsh
    refine qt Tryz.func40 rfl Tryz.ntmps40 (Nat.le_of_ble_eq_true rfl) hB ?_
    refine Zae ?_;refine Z6 ?_;refine ZeO ?_;refine ZaO ?_;refine z7 (zp L rfl rfl (zk rfl) rfl rfl rfl (fun u H hH _ _ => he ▸ zca hz hH)) rfl ?_;refine Za0 ?_;refine Zcp ?_;refine Zeb ?_;refine Zex ?_;refine Zbc ?_;refine ZbD ?_;refine zd (zp L rfl rfl (zk rfl) rfl rfl rfl (fun u H hH hle _ => zc2 hin0 hH (hv.le hle))) rfl ?_;refine Zf8 ?_;refine ZbP ?_;refine ZbR ?_;refine Zch ?_;refine Zu ?_;refine Za ?_;refine Zdf ?_;refine z7 (zp L rfl rfl (zk rfl) rfl rfl rfl (fun u H hH hle _ => zdj hlen hH (hv.le hle))) rfl ?_;refine Z9 ?_;refine ZaA ?_;refine ZH ?_;refine Zcs ?_;refine ZaL ?_
    refine qq L (rs:=[.cell 4 91, .tmp 5]) rfl (fun _ _ h => h) Since.refl fun u H hH hle => ?_
    exact ⟨_, qk rfl, rfl, LE2.mk SetV.nil⟩
   ·have hc:hin = false → l.length < 4096:=fun h => by
     rcases Nat.lt_or_ge l.length 4096 with h' | h'
     ·exact h'
     ·exact absurd ⟨h, by omega⟩ hfull
    obtain ⟨p, q, t, u, hT, ht, hu, hv1⟩:=id hv
    have hch:=z3f hT hin0 hc he
    rw [hr] at hch
    obtain ⟨hT', rfl⟩:=hch
    have hts:=hT.size
    have hus:=hT.zu
    have hf1:p1 = p ∧ q1 = q ∧ (f1 = fvC ∨ (f1 = .nilFunc ∧ t = .nil)) ∧ (f2 = fvS ∨ (f2 = .nilFunc ∧ u = .nil)):=by
     rcases hv1 with h | ⟨h0, rfl, rfl, h⟩
     ·rw [hsh] at h; cases h; exact ⟨rfl, rfl, .inl rfl, .inl rfl⟩
     ·rw [hsh] at h
      cases h
      subst h0
      have key:∀ {s:Tr U Unit}, s.size = 0 → s = .nil:=fun {s} hs => by
       cases s with
       | nil => rfl
       | node k y l r => simp only [Tr.size] at hs; omega
      exact ⟨rfl, rfl, .inr ⟨rfl, key hts⟩, .inr ⟨rfl, key hus⟩⟩
    obtain ⟨rfl, rfl, hf1, hf2⟩:=hf1
    subst hsh
    have hchg1:=fun (u1:World) (H:Heap) (hH:H.Le (hp u1)) (hle:B.Le H) => zlr z0k hf1 x hin hH (ht.le hle) (by omega)
    have hchg2:=fun (u1:World) (H:Heap) (hH:H.Le (hp u1)) (hle:B.Le H) => zlr z3u hf2 x hin hH (hu.le hle) (by omega)
    cases hin
    ·have hlen:=hc rfl
     refine qt Tryz.func40 rfl Tryz.ntmps40 (Nat.le_of_ble_eq_true rfl) hB ?_
     refine Zae ?_;refine Z6 ?_;refine ZeO ?_;refine ZaO ?_;refine z7 (zp L rfl rfl (zk rfl) rfl rfl rfl (fun u H hH _ _ => he ▸ zca hz hH)) rfl ?_;refine Za0 ?_;refine Zcp ?_;refine Zeb ?_;refine Zex ?_;refine Zbc ?_;refine ZbD ?_;refine zd (zp L rfl rfl (zk rfl) rfl rfl rfl (fun u H hH hle _ => zc2 hin0 hH (hv.le hle))) rfl ?_;refine Zf8 ?_;refine ZbP ?_;refine ZbR ?_;refine Zch ?_;refine Zu ?_;refine Za ?_;refine Zdf ?_;refine z7 (zp L rfl rfl (zk rfl) rfl rfl rfl (fun u H hH hle _ => zdj rfl hH (hv.le hle))) rfl ?_;refine ZL ?_;refine Zai ?_;refine Zb8 ?_;refine Zbc ?_;refine Zc3 ?_;refine Zf7 ?_;refine zd (zag (φ:=UT.MF 101 (chT zbt x false t)) L rfl rfl (zk rfl) rfl rfl rfl UT.MA.mono (fun u H hH hle _ => hchg1 u H hH hle)) rfl ?_;refine Zbc ?_;refine Zc3 ?_;refine Zf7 ?_;refine zd (zag (φ:=UT.MF 109 (chT zo0 x false u)) L rfl rfl (zk rfl) rfl rfl rfl UT.MA.mono (fun u H hH hle _ => hchg2 u H hH hle)) rfl ?_;refine zd (zn7 (ψ:=SetV m) rfl rfl z3h SetV.mono (fun H _ v1 h1 v2 h2 => by obtain ⟨p, q, rfl, rfl, k1, k2⟩:=mf4 h1 h2; exact ⟨_, rfl, p, q, _, _, hT', k1, k2, .inl rfl⟩)) rfl ?_;refine zd (zjy L (X:=SXp) (fun x => scs x.1) (ztu m) (zcr m) ztz (fun x => ⟨rfl, x.2⟩) rfl rfl rfl rfl rfl) rfl ?_;refine ZK ?_
     refine zid 4 rfl fun x4 H4 hs4 hx4 => ?_
     refine qq L (rs:=[.cell 4 91, .tmp 5]) rfl (fun _ _ h => h) hs4 fun u H hH hle => ?_
     exact ⟨_, qk rfl, rfl, LE2.mk (hx4.le hle)⟩
    ·refine qt Tryz.func40 rfl Tryz.ntmps40 (Nat.le_of_ble_eq_true rfl) hB ?_
     refine Zae ?_;refine Z6 ?_;refine ZeO ?_;refine ZaO ?_;refine z7 (zp L rfl rfl (zk rfl) rfl rfl rfl (fun u H hH _ _ => he ▸ zca hz hH)) rfl ?_;refine Za0 ?_;refine Zcp ?_;refine Zeb ?_;refine Zex ?_;refine Zbc ?_;refine ZbD ?_;refine zd (zp L rfl rfl (zk rfl) rfl rfl rfl (fun u H hH hle _ => zc2 hin0 hH (hv.le hle))) rfl ?_;refine Zf8 ?_;refine ZbP ?_;refine ZbR ?_;refine Zch ?_;refine Zu ?_;refine Zad ?_;refine Zt ?_;refine Zb8 ?_;refine Zbc ?_;refine Zc3 ?_;refine Zf7 ?_;refine zd (zag (φ:=UT.MF 101 (chT zbt x true t)) L rfl rfl (zk rfl) rfl rfl rfl UT.MA.mono (fun u H hH hle _ => hchg1 u H hH hle)) rfl ?_;refine Zbc ?_;refine Zc3 ?_;refine Zf7 ?_;refine zd (zag (φ:=UT.MF 109 (chT zo0 x true u)) L rfl rfl (zk rfl) rfl rfl rfl UT.MA.mono (fun u H hH hle _ => hchg2 u H hH hle)) rfl ?_;refine zd (zn7 (ψ:=SetV m) rfl rfl z3h SetV.mono (fun H _ v1 h1 v2 h2 => by obtain ⟨p, q, rfl, rfl, k1, k2⟩:=mf4 h1 h2; exact ⟨_, rfl, p, q, _, _, hT', k1, k2, .inl rfl⟩)) rfl ?_;refine zd (zjy L (X:=SXp) (fun x => scs x.1) (ztu m) (zcr m) ztz (fun x => ⟨rfl, x.2⟩) rfl rfl rfl rfl rfl) rfl ?_;refine ZK ?_
     refine zid 4 rfl fun x4 H4 hs4 hx4 => ?_
     refine qq L (rs:=[.cell 4 91, .tmp 5]) rfl (fun _ _ h => h) hs4 fun u H hH hle => ?_
     exact ⟨_, qk rfl, rfl, LE2.mk (hx4.le hle)⟩
  ·have hw:zf6 l x d = (l, 0):=by
    unfold zf6
    rw [if_pos he]
    cases d
    ·have:hin = true:=by cases hin; exact absurd rfl hd; rfl
     subst this
     rw [if_neg (by decide), if_pos (by simpa using hin0)]
    ·have:hin = false:=by cases hin; rfl; exact absurd rfl hd
     subst this
     rw [if_pos rfl, zsr (by simpa using hin0)]
   rw [hw] at hr
   cases hr
   have hb:(hin == d) = false:=by cases hin <;> cases d <;> first | rfl | exact absurd rfl hd
   subst hsh
   refine qt Tryz.func40 rfl Tryz.ntmps40 (Nat.le_of_ble_eq_true rfl) hB ?_
   have hb2:(!(hin == d)) = true:=by rw [hb]; rfl
   refine Zae ?_;refine Z6 ?_;refine ZeO ?_;refine ZaO ?_;refine z7 (zp L rfl rfl (zk rfl) rfl rfl rfl (fun u H hH _ _ => he ▸ zca hz hH)) rfl ?_;refine Za0 ?_;refine Zcp ?_;refine Zeb ?_;refine Zex ?_;refine Zbc ?_;refine ZbD ?_;refine zd (zp L rfl rfl (zk rfl) rfl rfl rfl (fun u H hH hle _ => zc2 hin0 hH (hv.le hle))) rfl ?_;refine Zcg ?_;refine zd (zul rfl rfl rfl rfl bt4 hb2) rfl ?_;refine Zb9 ?_;refine Zbq ?_;refine Zdf ?_;refine ZbY ?_;refine Zc ?_
   refine qq L (rs:=[.cell 4 91, .tmp 5]) rfl (fun _ _ h => h) Since.refl fun u H hH hle => ?_
   exact ⟨_, qk rfl, rfl, LE2.mk (hv.le hle)⟩
 ·have hw:zf6 l x d = ([], tE x):=if_neg he
  rw [hw] at hr
  cases hr
  subst hsh
  refine qt Tryz.func40 rfl Tryz.ntmps40 (Nat.le_of_ble_eq_true rfl) hB ?_
  refine Zae ?_;refine Z6 ?_;refine ZeO ?_;refine ZaO ?_;refine z7 (zp L rfl rfl (zk rfl) rfl rfl rfl (fun u H hH _ _ => zca hz hH)) rfl ?_;refine Za0 ?_;refine ZF ?_;refine Zo ?_;refine Zcs ?_;refine ZbL ?_
  refine qq L (rs:=[.cell 4 91, .tmp 5]) rfl (fun _ _ h => h) Since.refl fun u H hH hle => ?_
  exact ⟨_, qk rfl, rfl, LE2.mk SetV.nil⟩
end Go.V.L6
set_option maxRecDepth 20000
namespace Go.V.L2
open Go.Proofs Go.RowKit Go.V
theorem zte:∀ (l:List U), (l.flatMap ucs).length = l.length * 6
 | [] => rfl
 | y :: l => by rw [List.flatMap_cons, List.length_append, zte l, zl3, List.length_cons]; omega
attribute [local irreducible] V N X VO Par StepOK Has Ret RetL Src
end Go.V.L2
set_option maxRecDepth 20000
namespace Go.V.L6
open Go.Proofs Go.RowKit Go.V Go.V.L2 Go.V.L3
theorem _root_.Go.V.Zfs {A B:Prop} (h:B) (t:Wr B → A:=by intro h; refine z7 (zsd L rfl rfl rfl rfl) rfl ?_;exact h.h):A:=t ⟨h⟩
theorem _root_.Go.V.ZbZ {A B:Prop} (h:B) (t:Wr B → A:=by intro h; refine Zl ?_;refine Za ?_;exact h.h):A:=t ⟨h⟩
theorem zvl (N:List (U × Unit)):UT.flat N = (kS N).flatMap ucs:=by
 unfold UT.flat kS
 rw [List.flatMap_map]
 rfl
theorem zr6 {t:Tr U Unit} {r k:Nat} (hk:k ≤ t.size):kS (UT.rangeL t (r:Int) (k:Int)) = ((kS t.list).take k).drop r:=by
 unfold UT.rangeL
 have h0:max (r:Int) 0 = (r:Int):=by omega
 have h1:min (k:Int) (t.size:Int) = (k:Int):=by omega
 rw [h0, h1]
 by_cases h:(r:Int) ≥ k
 ·rw [if_pos h, List.drop_eq_nil_of_le (by rw [List.length_take]; omega)]
  rfl
 ·rw [if_neg h, Tr.prs_list]
  have:=zrd r k t.list 0
  rw [show ((0:Nat):Int) = 0 from rfl] at this
  rw [this, Nat.sub_zero, Nat.sub_zero]
  unfold kS
  rw [List.map_drop, List.map_take]
attribute [local irreducible] V N X VO Par StepOK Has Ret RetL RetO Src
set_option maxHeartbeats 1000000 in
theorem zsm {fv:Value} {p:Option Addr} {t:Tr U Unit} {f e:Int} {M:List U} (hM:kS (UT.rangeL t f e) = M) (hs:t.size ≤ 100000) {w:World} {B:Heap} (hB:B.Le (hp w)) (ht:UT.TA t (.pointer p) B) :
  RetO Tryz.prog 105 [.agg #[fv, .pointer p], .int .i64 f, .int .i64 e] w B (SlE tyU 6 M.length (M.flatMap ucs)):=by
 obtain ⟨N, hN⟩:∃ N, UT.rangeL t f e = N:=⟨_, rfl⟩
 rw [hN] at hM
 have hfl:=zvl N
 have hNM:N.length = M.length:=by rw [← hM]; simp
 have hlen:M.length ≤ 100000:=by
  rw [← hNM, ← hN]
  unfold UT.rangeL
  split
  ·exact Nat.zero_le _
  ·exact Nat.le_trans (Tr.prs_length_le _ _ _ _) hs
 have hat:∀ {k:Nat} {g:U}, M[k]? = some g → ((UT.flat N).drop (k * 6)).take 6 = [.string g.1.1.1, .string g.1.1.2, .string g.1.2, .string g.2.1.1, .string g.2.1.2, .string g.2.2]:=fun {k g} h => by
  rw [hfl, hM]; exact zi7 h
 clear hM hfl
 refine zdp Tryz.func105 rfl Tryz.ntmps105 (Nat.le_of_ble_eq_true rfl) hB ?_
 refine Zbk ?_;refine Zb4 ?_;refine Zc2 ?_;refine Zb ?_;refine z7 (zag (φ:=UT.PS N true) L rfl rfl (zk rfl) rfl rfl rfl UT.PS.mono (fun u H hH hle _ => UT.range_m _ _ hH (⟨_, rfl, ht.le hle⟩) (by omega) hN)) rfl ?_;refine Zdd ?_;refine Z5 ?_;refine Zx ?_;refine z7 (zw8 L _ rfl rfl rfl z3t rfl rfl rfl rfl (by omega) (by simp only [maxLen]; omega)) rfl ?_;refine q8 (zal (.inr rfl) rfl rfl rfl rfl) ?_;refine Zaw ?_;refine Zo ?_;refine ZbK ?_
 have hzl:=zkx (P:=Tryz.prog) (k:=N.length * 6) z3t
 generalize zsL Tryz.prog tyU (N.length * 6) = zs0 at hzl
 rw [hNM] at hzl ⊢
 refine zan (fun s:Nat × List Value => [(7, .sat (UT.PS N true)), (8, .own (SlE tyU 6 M.length ((M.take s.1).flatMap ucs ++ s.2))), (19, .is (.int .i64 M.length)), (20, .is (.int .i64 s.1))])
  (fun s => s.1 ≤ M.length ∧ s.2.length = (M.length - s.1) * 6) (fun s => M.length - s.1) (0, zs0) ⟨Nat.zero_le _, hzl⟩ ⟨rfl, rfl, rfl, rfl, trivial⟩ ?_
 rintro ⟨k, zs⟩ ⟨hk, hz⟩
 dsimp only at hk hz ⊢
 by_cases hlt:k < M.length
 ·obtain ⟨g, hg⟩:=zaw hlt
  have hc:=hat hg
  have hlN:k < N.length:=by omega
  have ht1:M.take (k + 1) = M.take k ++ [g]:=by rw [List.take_add_one, hg]; rfl
  have hr:List.take (0 + k * 6) ((M.take k).flatMap ucs ++ zs) ++ (ucs g ++ List.drop (0 + k * 6 + 6) ((M.take k).flatMap ucs ++ zs)) = (M.take (k + 1)).flatMap ucs ++ zs.drop 6:=by
   rw [ht1, Nat.zero_add]
   exact z1m zl3 (M.take k) k M.length zs g (by rw [List.length_take]; omega) hz hlt
  have hlen':((M.take (k + 1)).flatMap ucs ++ zs.drop 6).length = M.length * 6:=by
   rw [List.length_append, zte, List.length_take, List.length_drop, hz]; omega
  refine z22 8 (by omega) rfl fun b hb => ?_
  have hle1:0 + k * 6 + 6 ≤ ((M.take k).flatMap ucs ++ zs).length:=by rw [hb.1]; omega
  refine Zce ?_;refine ZT ?_;refine ZY ?_;refine Zc ?_;refine Zak ?_;refine Zb ?_;refine ZbZ ?_;refine ZaU ?_;refine Zfs ?_;refine Zec ?_;refine z7 (q0 L _ rfl rfl rfl rfl rfl rfl rfl (by omega)) rfl ?_;refine zor L (O1:=[]) (cs':=(M.take (k + 1)).flatMap ucs ++ zs.drop 6) rfl rfl rfl rfl rfl rfl (Nat.ble_eq_true_of_le hle1) rfl hr ?_;refine ZcZ ?_
  refine zx6 (s:=6) 8 [] rfl rfl hlen' hb.2 ?_
  refine ZH ?_;refine ZbJ ?_
  exact qy (x:=(k, zs)) (k + 1, zs.drop 6) ⟨hlt, by dsimp only; rw [List.length_drop, hz]; omega⟩ (by dsimp only; omega) ⟨rfl, rfl, rfl, rfl, trivial⟩
 ·obtain rfl:k = M.length:=by omega
  have hzn:zs = []:=List.eq_nil_of_length_eq_zero (by rw [hz]; omega)
  rw [hzn, List.append_nil, List.take_length]
  refine Zce ?_;refine ZaD ?_;refine ZA ?_;refine q8 (zal (.inl rfl) rfl rfl rfl rfl) ?_;refine q8 (zal (.inr rfl) rfl rfl rfl rfl) ?_;refine Z1 ?_
  exact zko rfl (fun _ _ h => h) Since.refl rfl
end Go.V.L6
set_option maxRecDepth 20000
namespace Go.V.L6
open Go.Proofs Go.RowKit Go.V Go.V.L2 Go.V.L3
attribute [local irreducible] V N X VO Par StepOK Has Ret RetL RetO Src
theorem SetV.trees {l:List U} {v:Value} {B:Heap} (hv:SetV l v B):∃ f p k q t u, v = .agg #[f, .pointer p, k, .pointer q] ∧ TS l t u ∧ UT.TA t (.pointer p) B ∧ UT.TA u (.pointer q) B:=by
 obtain ⟨p, q, t, u, hT, ht, hu, rfl | ⟨rfl, rfl, rfl, rfl⟩⟩:=hv
 ·exact ⟨_, _, _, _, t, u, rfl, hT, ht, hu⟩
 ·exact ⟨_, _, _, _, t, u, rfl, hT, ht, hu⟩
theorem z1k {l:List U} (hl:l.length ≤ 100000) {v:Value} {w:World} {B:Heap} (hB:B.Le (hp w)) (hv:SetV l v B):RetO Tryz.prog 38 [v] w B (SlE tyU 6 l.length (l.flatMap ucs)):=by
 obtain ⟨f, p, k, q, t, u, rfl, hT, ht, hu⟩:=hv.trees
 have hts:=hT.size
 have hr:kS (UT.rangeL t 0 (l.length:Int)) = l:=by
  have:=zr6 (t:=t) (r:=0) (k:=l.length) (by omega)
  rw [show ((0:Nat):Int) = 0 from rfl] at this
  rw [this, hT.kt, List.drop_zero, List.take_length]
 refine zdp Tryz.func38 rfl Tryz.ntmps38 (Nat.le_of_ble_eq_true rfl) hB ?_
 refine Zbk ?_;refine q4 (id:=1) [(2, [7])] mixed (by kernel_rfl) ?_;refine Zbc ?_;refine Zc3 ?_;refine Zex ?_;refine zd (zp L rfl rfl (zk rfl) rfl rfl rfl (fun u H hH hle _ => zdj rfl hH (hv.le hle))) rfl ?_;refine zd (zc5 L rfl rfl (zk rfl) rfl rfl rfl (fun u H hH hle _ => zsm hr (by omega) hH (ht.le hle))) rfl ?_;refine zbi (zal (.inr rfl) rfl rfl rfl rfl) rfl rfl ?_;refine ZcR ?_
 exact zko rfl (fun _ _ h => h) Since.refl rfl
end Go.V.L6
set_option maxRecDepth 20000
namespace Go.V.L6
open Go.Proofs Go.RowKit Go.V Go.V.L2 Go.V.L3
attribute [local irreducible] V N X VO Par StepOK Has Ret RetL RetO RetT Src
end Go.V.L6
set_option maxRecDepth 20000
namespace Go.V.L6
open Go.Proofs Go.RowKit Go.V Go.V.L2
attribute [local irreducible] V N X VO Par StepOK Has Ret RetL RetO Src
end Go.V.L6
set_option maxRecDepth 20000
namespace Go.V.L6
open Go.Proofs Go.RowKit Go.V Go.V.L2 Go.V.L3
theorem LE2.out {φ:Value → Heap → Prop} {a v:Value} {H:Heap} (h:TupS [φ, fun v _ => v = a] v H):∃ tv, v = .tuple #[tv, a] ∧ φ tv H:=by
 obtain ⟨vs, rfl, hl, h⟩:=h
 match vs, hl with
 | [x, y], _ =>
  have h1:=h 0 _ x rfl rfl
  have h2:=h 1 _ y rfl rfl
  subst h2
  exact ⟨x, rfl, h1⟩
def WithP (l:List U) (e:Int) (r:Value) (H:Heap):Prop:=∃ tv, r = .tuple #[tv, .int .i64 e] ∧ SetV l tv H
theorem WithP.mono {l:List U} {e:Int}:Kn.mono (.sat (WithP l e)):=fun _ _ _ ⟨tv, h1, h2⟩ hle => ⟨tv, h1, h2.le hle⟩
theorem zjk {l:List U} (hl:l.length ≤ 100000) {v:Value} {w:World} {B:Heap} (hB:B.Le (hp w)) (hv:SetV l v B):Ret Tryz.prog 38 [v] w B (US l true):=(z1k hl hB hv).toRet zq3
theorem zna {l m:List U} {x:U} {d:Bool} {e:Int} (hr:zf6 l x d = (m, e)) (hl:l.length ≤ 4096) (hz:TZ x) {v:Value} {w:World} {B:Heap} (hB:B.Le (hp w)) (hv:SetV l v B) :
  Ret Tryz.prog 40 [v, chv x d] w B (WithP m e):=(zwd hr hl hz hB hv).mono fun _ _ _ h => LE2.out h
attribute [local irreducible] V N X VO Par StepOK Has Ret RetL RetO RetT Src
end Go.V.L6
set_option maxRecDepth 20000
namespace Go.V.L3
open Go.Proofs Go.RowKit Go.V Go.V.L2
attribute [local irreducible] V N X VO Par StepOK Has Ret RetL RetO RetT Src
end Go.V.L3
set_option maxRecDepth 20000
namespace Go.V.L3
open Go.Proofs Go.RowKit Go.V Go.V.L2
attribute [local irreducible] V N X VO Par StepOK Has Ret RetL RetO RetT Src
end Go.V.L3
set_option maxRecDepth 20000
namespace Go.V.L6
open Go.Proofs Go.RowKit Go.V Go.V.L2 Go.V.L3
theorem z1g (t:U):tE t = 0 ∨ tE t = 6:=by
 unfold tE
 split
 ·exact zto _ _ _
 ·rename_i h; exact .inr ((zm4 _).resolve_left h)
attribute [local irreducible] V N X VO Par StepOK Has Ret RetL RetO RetT Src
end Go.V.L6
set_option maxRecDepth 20000
namespace Go.V.L2
open Go.Proofs Go.RowKit Go.V
def TM (t:U):Prop:=(t.1.1.1.size ≤ 9223372036854775807 ∧ t.1.1.2.size ≤ 9223372036854775807 ∧ t.1.2.size ≤ 9223372036854775807) ∧ t.2.1.1.size ≤ 9223372036854775807 ∧ t.2.1.2.size ≤ 9223372036854775807 ∧ t.2.2.size ≤ 9223372036854775807
attribute [local irreducible] V N X VO Par StepOK Has Ret RetL Src
end Go.V.L2
set_option maxRecDepth 20000
namespace Go.V.L8
open Go.Proofs Go.RowKit Go.V Go.V.L2 Go.V.L3 Go.V.L6
abbrev tyM:TypeId:=362
abbrev tyC:TypeId:=42
abbrev z4p:TypeId:=223
abbrev zy9:TypeId:=39
def ccs (c:CH):List Value:=[.string c.1.1.1.1, .string c.1.1.1.2, .string c.1.1.2, .string c.1.2.1.1, .string c.1.2.1.2, .string c.1.2.2, .bool c.2]
theorem zvy (c:CH):(ccs c).length = 7:=rfl
abbrev KS (ty:TypeId) (l:List CH) (fu:Bool):Value → Heap → Prop:=SlV ty 7 (l.flatMap ccs) l.length fu
theorem zka {l:List CH} {i:Nat} {c:CH} (h:l[i]? = some c):((l.flatMap ccs).drop (i * 7)).take 7 = [.string c.1.1.1.1, .string c.1.1.1.2, .string c.1.1.2, .string c.1.2.1.1, .string c.1.2.1.2, .string c.1.2.2, .bool c.2]:=zf2 zvy l i c h
theorem zgm {ty:TypeId} {κ:Kap} {s:Nat} {r:List CH} {c:CH} (h:κ s = some (.own (SlR ty 7 (r.length + 1) (r.flatMap ccs ++ [.string c.1.1.1.1, .string c.1.1.1.2, .string c.1.1.2, .string c.1.2.1.1, .string c.1.2.1.2, .string c.1.2.2, .bool c.2])))):κ s = some (.own (SlR ty 7 (r ++ [c]).length ((r ++ [c]).flatMap ccs))):=by
 rw [h, List.flatMap_append, List.length_append]; rfl
theorem z3w {n:Nat} {l:List CH} (hl:¬ n < l.length) {i:Nat} {c:CH} (hc:l[i]? = some c) (h:¬ tE c.1 = 0):cE n l = 6:=by
 unfold cE
 rw [if_neg hl, if_pos]
 rw [List.any_eq_true]
 exact ⟨c, List.mem_of_getElem? hc, by simp [h]⟩
theorem z2t {n:Nat} {l:List CH} (hl:¬ n < l.length) (h:∀ (j:Nat) c, l[j]? = some c → tE c.1 = 0):cE n l = 0:=by
 unfold cE
 rw [if_neg hl, if_neg]
 rw [List.any_eq_true]
 rintro ⟨c, hc, h1⟩
 obtain ⟨j, hj⟩:=List.getElem?_of_mem hc
 rw [decide_eq_true (h j c hj)] at h1
 cases h1
attribute [local irreducible] V N X VO Par StepOK Has Ret RetL RetO RetT Src
theorem ztl {t:U} (hz:TM t) {w:World} {B:Heap} (hB:B.Le (hp w)):Ret Tryz.prog 100 [uv t] w B (fun v _ => v = .int .i64 (tE t)):=by
 obtain ⟨⟨z1, z2, z3⟩, z4, z5, z6⟩:=hz
 unfold tE
 refine qt Tryz.func100 rfl Tryz.ntmps100 (Nat.le_of_ble_eq_true rfl) hB ?_
 by_cases h:zcw [t.1.1.1, t.1.1.2, t.1.2] = 0
 ·rw [if_pos h]
  refine Zds ?_;refine Zdr ?_;refine z7 (zp L rfl rfl (zk rfl) rfl rfl rfl (fun u H hH _ _ => ze4 (by first | assumption | omega | decide) (by first | assumption | omega | decide) (by first | assumption | omega | decide) hH)) rfl ?_;refine Za0 ?_;refine ZV ?_;refine Zp ?_;refine ZaV ?_;refine Zdr ?_;refine z7 (zp L rfl rfl (zk rfl) rfl rfl rfl (fun u H hH _ _ => zjd (by first | assumption | omega | decide) (by first | assumption | omega | decide) (by first | assumption | omega | decide) hH)) rfl ?_;refine Zc ?_
  refine qq L (rs:=[.tmp 2]) rfl (fun _ _ h => h) Since.refl fun u H hH hle => ?_
  rfl
 ·rw [if_neg h]
  refine Zds ?_;refine Zdr ?_;refine z7 (zp L rfl rfl (zk rfl) rfl rfl rfl (fun u H hH _ _ => ze4 (by first | assumption | omega | decide) (by first | assumption | omega | decide) (by first | assumption | omega | decide) hH)) rfl ?_;refine Za0 ?_;refine ZF ?_;refine Zk ?_;refine Zc ?_
  refine qq L (rs:=[.tmp 2]) rfl (fun _ _ h => h) Since.refl fun u H hH hle => ?_
  rfl
theorem zz5 {l:List CH} {fu:Bool} {b i:Nat} {c:CH} (hc0:l[i]? = some c) {v:Value} {w:World} {B:Heap} (hB:B.Le (hp w)) (hb:B b = some (.cells #[v] z4p)) (hv:KS tyM l fu v B) :
  Ret Tryz.prog 252 ([.int .i64 i] ++ [.pointer (some ⟨b, 0, none⟩)]) w B (fun r _ => r = uv c.1):=by
 have hc:=zka hc0
 have hil:=get_lt hc0
 refine qt Tryz.func252 rfl Tryz.ntmps252 (Nat.le_of_ble_eq_true rfl) hB ?_
 refine ZaK ?_;refine Zj ?_;refine Zn ?_;refine Zee ?_;refine zl0 4 (KS tyM l fu) rfl SlV.mono hv ?_;refine Za ?_;refine ZaU ?_;refine Zfs ?_;refine Zec ?_;refine ZaY ?_
 refine qq L (rs:=[.cell 3 34]) rfl (fun _ _ h => h) Since.refl fun u H hH hle => ?_
 refine Zev ?_
 rfl
theorem z0o {l:List CH} {fu:Bool} {b i:Nat} {c:CH} (hc0:l[i]? = some c) {v:Value} {w:World} {B:Heap} (hB:B.Le (hp w)) (hb:B b = some (.cells #[v] zy9)) (hv:KS tyC l fu v B) :
  Ret Tryz.prog 253 ([.int .i64 i] ++ [.pointer (some ⟨b, 0, none⟩)]) w B (fun r _ => r = uv c.1):=by
 have hc:=zka hc0
 have hil:=get_lt hc0
 refine qt Tryz.func253 rfl Tryz.ntmps253 (Nat.le_of_ble_eq_true rfl) hB ?_
 refine ZaK ?_;refine Zj ?_;refine Zn ?_;refine Zee ?_;refine zl0 4 (KS tyC l fu) rfl SlV.mono hv ?_;refine Za ?_;refine ZaU ?_;refine Zfs ?_;refine Zec ?_;refine ZaY ?_
 refine qq L (rs:=[.cell 3 34]) rfl (fun _ _ h => h) Since.refl fun u H hH hle => ?_
 refine Zev ?_
 rfl
theorem zlg {l:List CH} {cf:Nat} {caps:List Value} (hz:∀ c ∈ l, TM c.1) (hl:l.length ≤ 9223372036854775807) (hfn:L.fn cf = some ()) {e:Int} (he:cE 32 l = e) {w:World} {B:Heap} (hB:B.Le (hp w))
  (hcl:∀ (i:Nat) (c:CH), l[i]? = some c → ∀ (u:World) (H:Heap), H.Le (hp u) → B.Le H → Ret Tryz.prog cf ([.int .i64 i] ++ caps) u H (fun r _ => r = uv c.1)) :
  Ret Tryz.prog 251 [.int .i64 l.length, .func (.func cf) #[] caps.toArray] w B (fun v _ => v = .int .i64 e):=by
 subst he
 refine qt Tryz.func251 rfl Tryz.ntmps251 (Nat.le_of_ble_eq_true rfl) hB ?_
 by_cases h32:32 < l.length
 ·have:cE 32 l = 3:=if_pos h32
  rw [this]
  refine ZaT ?_;refine ZW ?_;refine Zdq ?_
  refine qq L (rs:=[.tmp 4]) rfl (fun _ _ h => h) Since.refl fun u H hH hle => ?_
  rfl
 ·refine ZaT ?_;refine Z3 ?_;refine ZB ?_;refine Zo ?_;refine Zb ?_;refine ZbI ?_
  refine zan (fun i:Nat => [(1, .is (.func (.func cf) #[] caps.toArray)), (9, .is (.int .i64 l.length)), (10, .is (.int .i64 i))]) (fun i => i ≤ l.length ∧ ∀ (j:Nat) c, j < i → l[j]? = some c → tE c.1 = 0) (fun i => l.length - i) 0 ⟨Nat.zero_le _, fun j c h => absurd h (Nat.not_lt_zero _)⟩ ⟨rfl, rfl, rfl, trivial⟩ ?_
  rintro i ⟨hi, hok⟩
  by_cases hlt:i < l.length
  ·obtain ⟨c, hc⟩:=zaw hlt
   have hzc:=hz c (List.mem_of_getElem? hc)
   by_cases h0:tE c.1 = 0
   ·refine Zce ?_;refine ZT ?_;refine ZY ?_;refine Zdn ?_;refine Zb ?_;refine z7 (zp L rfl rfl (zk rfl) rfl rfl hfn (fun u H hH hle _ => hcl i c hc u H hH hle)) rfl ?_;refine z7 (zp L rfl rfl (zk rfl) rfl rfl rfl (fun u H hH _ _ => h0 ▸ ztl hzc hH)) rfl ?_;refine Zd ?_;refine ZC ?_;refine Zal ?_;refine Zbj ?_;refine Zah ?_;refine ZbJ ?_
    exact qy (x:=i) (i + 1) ⟨hlt, fun j c' hj hc' => by
     rcases Nat.lt_or_ge j i with h | h
     ·exact hok j c' h hc'
     ·have:j = i:=by omega
      subst this; rw [hc] at hc'; cases hc'; exact h0⟩ (by omega) ⟨rfl, rfl, rfl, trivial⟩
   ·have h6:=(z1g c.1).resolve_left h0
    rw [z3w h32 hc h0]
    refine Zce ?_;refine ZT ?_;refine ZY ?_;refine Zdn ?_;refine Zb ?_;refine z7 (zp L rfl rfl (zk rfl) rfl rfl hfn (fun u H hH hle _ => hcl i c hc u H hH hle)) rfl ?_;refine z7 (zp L rfl rfl (zk rfl) rfl rfl rfl (fun u H hH _ _ => h6 ▸ ztl hzc hH)) rfl ?_;refine Zd ?_;refine ZC ?_;refine ZF ?_;refine ZS ?_;refine Zc ?_
    refine qq L (rs:=[.tmp 4]) rfl (fun _ _ h => h) Since.refl fun u H hH hle => ?_
    rfl
  ·rw [z2t h32 (fun j c hj => hok j c (by have:=get_lt hj; omega) hj)]
   refine Zce ?_;refine ZaD ?_;refine Zap ?_;refine Zc ?_
   refine qq L (rs:=[.tmp 4]) rfl (fun _ _ h => h) Since.refl fun u H hH hle => ?_
   rfl
theorem znp {e:TypeId} {s n:Nat} {xs:List Value} {fu:Bool} {v:Value} {H:Heap} (h:SlV e s xs n fu v H):∃ p m c, v = .slice p m c:=by
 rcases h.2 with ⟨_, _, h⟩ | ⟨b, off, cap, cs, ty0, fr, h, _⟩
 ·exact ⟨_, _, _, h⟩
 ·exact ⟨_, _, _, h⟩
theorem zfz {l:List CH} {fu:Bool} (hz:∀ c ∈ l, TM c.1) (hl:l.length ≤ 9223372036854775807) {e:Int} (he:cE 32 l = e) {v:Value} {w:World} {B:Heap} (hB:B.Le (hp w)) (hv:KS tyM l fu v B) :
  Ret Tryz.prog 191 [v] w B (fun r _ => r = .int .i64 e):=by
 obtain ⟨p, m, c, rfl⟩:=znp hv
 refine qt Tryz.func191 rfl Tryz.ntmps191 (Nat.le_of_ble_eq_true rfl) hB ?_
 refine Zbk ?_
 refine zkq 1 rfl fun q H1 hs1 ⟨b, hpb, hb1⟩ => ?_
 subst hpb
 refine Zn ?_;refine Zee ?_;refine zl0 3 (KS tyM l fu) rfl SlV.mono (hv.le hs1.le) ?_;refine Zfy ?_;refine Zby ?_;refine z7 (zp L rfl rfl (zk rfl) rfl rfl rfl (fun u H hH hle _ => zlg (caps:=[.pointer (some ⟨b, 0, none⟩)]) hz hl rfl he hH (fun i c hc u' H' hH' hle' => zz5 hc hH' (hle' _ _ (hle _ _ hb1)) ((hv.le hs1.le).le (Heap.Le.trans hle hle'))))) rfl ?_;refine Zc ?_
 refine qq L (rs:=[.tmp 2]) rfl (fun _ _ h => h) hs1 fun u H hH hle => ?_
 rfl
end Go.V.L8
set_option maxRecDepth 20000
namespace Go.V.L11
open Go.Proofs Go.RowKit Go.V Go.V.L2 Go.V.L4 Go.V.Bd Go.V.L8
theorem _root_.Go.V.Zgk {A B:Prop} (h:B) (t:Wr B → A:=by intro h; refine z7 (yf L (vs:=[_, _, _, _, _, _, _]) rfl rfl rfl rfl rfl ⟨_, rfl⟩) rfl ?_;exact h.h):A:=t ⟨h⟩
theorem _root_.Go.V.ZdD {A B:Prop} (h:B) (t:Wr B → A:=by intro h; refine z7 (zy L (vs:=[_, _, _, _, _, _, _]) (qk rfl) rfl rfl rfl rfl ⟨_, rfl⟩) rfl ?_;exact h.h):A:=t ⟨h⟩
theorem _root_.Go.V.Zf9 {A B:Prop} (h:B) (t:Wr B → A:=by intro h; refine zd (zy L (vs:=[_, _, _, _, _, _, _]) (qk rfl) rfl rfl rfl rfl ⟨_, rfl⟩) rfl ?_;exact h.h):A:=t ⟨h⟩
theorem _root_.Go.V.ZcK {A B:Prop} (h:B) (t:Wr B → A:=by intro h; refine ZaU ?_;refine Zgk ?_;exact h.h):A:=t ⟨h⟩
abbrev cvC (t:CH):Value:=.agg #[.string t.1.1.1.1, .string t.1.1.1.2, .string t.1.1.2, .string t.1.2.1.1, .string t.1.2.1.2, .string t.1.2.2, .bool t.2]
def zzg (t:CH):ByteArray:=if t.2 = true then ⟨#[45]⟩ else ⟨#[43]⟩
theorem zir (t:CH):(zzg t).size = 1:=by unfold zzg; split <;> rfl
def zeg (t:CH):ByteArray:=(zzg t ++ tT t.1) ++ ⟨#[10]⟩
def zf7 (l:List CH):List Nat:=l.flatMap fun t => zfr (zeg t)
def zth:List CH → Int
 | [] => 0
 | t :: l => if tE t.1 ≠ 0 then tE t.1 else zth l
theorem ztg {l:List CH} {i:Nat} {t:CH} (hi:l[i]? = some t):zth (l.drop i) = if tE t.1 ≠ 0 then tE t.1 else zth (l.drop (i + 1)):=by
 rw [List.drop_eq_getElem_cons (get_lt hi), zib hi]
 rfl
theorem zk0 {l:List CH} {i:Nat} {t:CH} (hi:l[i]? = some t):zf7 (l.take (i + 1)) = zf7 (l.take i) ++ zfr (zeg t):=by
 unfold zf7
 rw [znl hi, List.flatMap_append, List.flatMap_cons, List.flatMap_nil, List.append_nil]
theorem zgp {l:List CH} (hs:∀ t ∈ l, (zeg t).size ≤ 1000):∀ i, (zf7 (l.take i)).length ≤ i * 1000
 | 0 => by rw [List.take_zero]; exact Nat.le_refl _
 | i + 1 => by
  cases h:l[i]? with
  | none =>
   have:=List.getElem?_eq_none_iff.1 h
   rw [List.take_of_length_le (by omega)]
   have h2:=zgp hs i
   rw [List.take_of_length_le (by omega)] at h2
   omega
  | some t =>
   rw [zk0 h, List.length_append, zfq]
   have h2:=zgp hs i
   have:=hs t (List.mem_of_getElem? h)
   omega
theorem zwl (l:List CH):∀ b ∈ zf7 l, b ≤ 255:=fun b hb => by
 obtain ⟨t, _, h⟩:=List.mem_flatMap.1 hb
 exact zrh _ b h
attribute [local irreducible] V N X VO Par StepOK Has Ret RetL RetO RetT zbd RetX RetY Src
theorem zo5 {t:CH} {w:World} {B:Heap} (hB:B.Le (hp w)):Ret Tryz.prog 56 [cvC t] w B (fun v _ => v = uv t.1):=by
 refine qt Tryz.func56 rfl Tryz.ntmps56 (Nat.le_of_ble_eq_true rfl) hB ?_
 refine Za3 ?_;refine Zb0 ?_;refine Zb4 ?_;refine ZaO ?_;refine ZaY ?_
 refine qq L (rs:=[.cell 2 34]) rfl (fun _ _ h => h) Since.refl fun u H hH hle => ?_
 exact ⟨_, qk rfl, rfl, rfl⟩
theorem zzf {t:CH} {w:World} {B:Heap} (hB:B.Le (hp w)):Ret Tryz.prog 57 [cvC t] w B (fun v _ => v = .string (zzg t)):=by
 obtain ⟨t, d⟩:=t
 refine qt Tryz.func57 rfl Tryz.ntmps57 (Nat.le_of_ble_eq_true rfl) hB ?_
 dsimp only [cvC]
 refine Za3 ?_;refine Zf ?_
 cases d with
 | true =>
  refine Zb4 ?_;refine Zaq ?_;refine Zdq ?_
  refine qq L (rs:=[.tmp 2]) rfl (fun _ _ h => h) Since.refl fun u H hH hle => ?_
  rfl
 | false =>
  refine Zb4 ?_;refine Zaq ?_;refine Zt ?_;refine Zo ?_;refine Zc ?_
  refine qq L (rs:=[.tmp 2]) rfl (fun _ _ h => h) Since.refl fun u H hH hle => ?_
  rfl
theorem zli (t:CH):(zeg t).size = (tT t.1).size + 2:=by
 unfold zeg
 rw [ByteArray.size_append, ByteArray.size_append]
 have h1:=zir t
 have h2:(⟨#[10]⟩:ByteArray).size = 1:=rfl
 omega
theorem zwk {l:List CH} (h:l ≠ []):zf7 l ≠ []:=fun e => by
 cases l with
 | nil => exact h rfl
 | cons t l =>
  unfold zf7 at e
  rw [List.flatMap_cons] at e
  have h1:=(List.append_eq_nil_iff.1 e).1
  have h2:=zfq (zeg t)
  rw [h1, zli] at h2
  cases h2
set_option maxRecDepth 20000 in
set_option maxHeartbeats 1000000 in
theorem ztk {l:List CH} {fu:Bool} (hln:l.length ≤ 4096) (hz:∀ t ∈ l, TZ t.1) (hs:∀ t ∈ l, (zeg t).size ≤ 1000) {v:Value} {w:World} {B:Heap} (hB:B.Le (hp w)) (hv:KS tyC l fu v B) :
  Ret Tryz.prog 55 [v, .func (.func 56) #[] #[], .func (.func 57) #[] #[]] w B (fun r _ => r = .tuple #[.string (if zth l ≠ 0 then ⟨#[]⟩ else zfa (zf7 l)), .int .i64 (zth l)]):=by
 refine qt Tryz.func55 rfl Tryz.ntmps55 (Nat.le_of_ble_eq_true rfl) hB ?_
 refine zbl 0 (KS tyC l fu) rfl SlV.mono hv ?_
 refine Zbz ?_;refine Zb3 ?_;refine ZaX ?_;refine Zo ?_;refine ZaI ?_
 refine za5 8 900 rfl fun bb => ?_
 by_cases hl0:l = []
 ·subst hl0
  refine Zp ?_;refine ZbK ?_
  refine zan (fun _:Nat => [(8, .is (za3 bb)), (16, .is (.int .i64 0)), (17, .is (.int .i64 0)), (900, .own (zaj bb [.pointer none, .slice none 0 0] zi9))]) (fun _ => True) (fun i => i) 0 trivial ⟨rfl, rfl, rfl, rfl, trivial⟩ ?_
  rintro _ _
  refine Zbq ?_;refine ZaD ?_;refine ZN ?_;refine q8 (y3 L 900 (zab bb [.pointer none, .slice none 0 0] zi9) (.string .empty) (r:=zab bb [.pointer none, .slice none 0 0] zi9) rfl rfl rfl rfl rfl (fun u H C hH _ hr hC => zje hH hr hC)) ?_;refine Zy ?_
  refine qq L (rs:=[.tmp 6, .tmp 7]) rfl (fun _ _ h => h) Since.refl fun u H hH hle => ?_
  rfl
 ·refine zh1 901 zs4 1 ?_
  refine Zfo ?_
  refine zlv (X:=Value × Value) 900 (r:=fun x => (GBv bb [] x).res) (φ:=fun x _ => z05 bb x) (zet bb) (.pointer none, .slice none 0 0) ⟨.inl rfl, _, _, _, rfl⟩ rfl ?_
  refine Zp ?_;refine ZbK ?_
  refine zan (fun i:Nat => [(1, .is (.func (.func 56) #[] #[])), (2, .is (.func (.func 57) #[] #[])), (8, .is (za3 bb)), (15, .sat (KS tyC l fu)), (16, .is (.int .i64 l.length)), (17, .is (.int .i64 i)), (900, .own (GBd bb (zf7 (l.take i))).res)]) (fun i => i ≤ l.length ∧ zth (l.drop i) = zth l) (fun i => l.length - i) 0 ⟨Nat.zero_le _, rfl⟩ ⟨rfl, rfl, rfl, rfl, rfl, rfl, rfl, trivial⟩ ?_
  rintro i ⟨hi, hte⟩
  dsimp only at hi hte ⊢
  by_cases hlt:i < l.length
  ·obtain ⟨t, ht⟩:=zaw hlt
   have hcr:=zka ht
   have hzt:=hz t (List.mem_of_getElem? ht)
   have hst:=hs t (List.mem_of_getElem? ht)
   have hsl:=zli t
   rw [ztg ht] at hte
   have hsn:=zk0 ht
   have hbl:=zgp hs i
   have hwk:IntKind.i64.wrap ((i:Int) + 1) = ((i + 1:Nat):Int):=zaa (by omega) (by omega)
   by_cases he:tE t.1 = 0
   ·rw [if_neg (fun h => h he)] at hte
    have hs1:(zzg t).size + (tT t.1).size ≤ 9223372036854775807:=by have h1:=zir t; omega
    have hs2:(zzg t ++ tT t.1).size + (⟨#[10]⟩:ByteArray).size ≤ 9223372036854775807:=by rw [ByteArray.size_append]; have h1:=zir t; have h2:(⟨#[10]⟩:ByteArray).size = 1:=rfl; omega
    refine Zbq ?_;refine ZT ?_;refine Zak ?_;refine ZcK ?_;refine Ze5 ?_;refine ZC ?_;refine ZdD ?_;refine z7 (zp L rfl rfl (zk rfl) rfl rfl rfl (fun u H hH _ _ => zo5 hH)) rfl ?_;refine z7 (zp L rfl rfl (zk rfl) rfl rfl rfl (fun u H hH _ _ => zca hzt hH)) rfl ?_;refine Zd ?_;refine ZS ?_;refine Zal ?_;refine Zd1 ?_
    refine q4 (id:=10) [(37, [900])] mixed (by kernel_rfl) ?_;refine Zh ?_;refine Zf9 ?_;refine zd (zp L rfl rfl (zk rfl) rfl rfl rfl (fun u H hH _ _ => zzf hH)) rfl ?_;refine Zh ?_;refine Zf9 ?_;refine zd (zp L rfl rfl (zk rfl) rfl rfl rfl (fun u H hH _ _ => zo5 hH)) rfl ?_;refine zd (zp L rfl rfl (zk rfl) rfl rfl rfl (fun u H hH _ _ => zne hzt hH)) rfl ?_;refine Zel ?_;refine Zel ?_;refine zbi (y3 L 900 (GBd bb (zf7 (l.take (i + 1)))) (.tuple #[.int .i64 (zeg t).size, .nilIface]) (r:=GBd bb (zf7 (l.take i))) rfl rfl rfl rfl rfl (fun u H C hH _ hr hC => by rw [hsn]; exact write_ret (str:=zeg t) (by omega) hH hr hC)) rfl rfl ?_;refine Zco ?_;refine ZE ?_;refine ZM ?_;refine Zdm ?_
    exact qy (x:=i) (i + 1) ⟨hlt, hte⟩ (by omega) ⟨rfl, rfl, rfl, rfl, rfl, rfl, rfl, trivial⟩
   ·rw [if_pos he] at hte
    refine Zbq ?_;refine ZT ?_;refine Zak ?_;refine ZcK ?_;refine Ze5 ?_;refine ZC ?_;refine ZdD ?_;refine z7 (zp L rfl rfl (zk rfl) rfl rfl rfl (fun u H hH _ _ => zo5 hH)) rfl ?_;refine z7 (zp L rfl rfl (zk rfl) rfl rfl rfl (fun u H hH _ _ => zca hzt hH)) rfl ?_;refine Zd ?_;refine ZS ?_;refine ZF ?_;refine Zaz ?_;refine Zy ?_
    refine qq L (rs:=[.tmp 6, .tmp 7]) rfl (fun _ _ h => h) Since.refl fun u H hH hle => ?_
    rw [← hte, if_pos he]
    rfl
  ·obtain rfl:i = l.length:=by omega
   rw [List.drop_length] at hte
   rw [List.take_length]
   have hbl:=zgp hs l.length
   rw [List.take_length] at hbl
   refine Zbq ?_;refine ZaD ?_;refine ZN ?_;refine q8 (y3 L 900 GNo (.string (zfa (zf7 l))) (r:=GBd bb (zf7 l)) rfl rfl rfl rfl rfl (fun u H C hH _ hr hC => zk4 (zwl l) (zwk hl0) (by omega) hH hr hC)) ?_;refine Zy ?_
   refine qq L (rs:=[.tmp 6, .tmp 7]) rfl (fun _ _ h => h) Since.refl fun u H hH hle => ?_
   rw [← hte]
   rfl
def znh (l:List CH):ByteArray × Int:=if 4096 < l.length then (⟨#[]⟩, 3) else (if zth l ≠ 0 then ⟨#[]⟩ else zfa (zf7 l), zth l)
theorem zng {l:List CH} {fu:Bool} {f g:Value} (hln:4096 < l.length) {v:Value} {w:World} {B:Heap} (hB:B.Le (hp w)) (hv:KS tyC l fu v B) :
  Ret Tryz.prog 55 [v, f, g] w B (fun r _ => r = .tuple #[.string ⟨#[]⟩, .int .i64 3]):=by
 refine qt Tryz.func55 rfl Tryz.ntmps55 (Nat.le_of_ble_eq_true rfl) hB ?_
 refine zbl 0 (KS tyC l fu) rfl SlV.mono hv ?_
 refine Zbz ?_;refine Zb3 ?_;refine ZW ?_;refine ZdS ?_;refine Zy ?_
 refine qq L (rs:=[.tmp 6, .tmp 7]) rfl (fun _ _ h => h) Since.refl fun u H hH hle => ?_
 rfl
theorem zrt {l:List CH} {fu:Bool} (hz:∀ t ∈ l, TZ t.1) (hs:∀ t ∈ l, (zeg t).size ≤ 1000) {v:Value} {w:World} {B:Heap} (hB:B.Le (hp w)) (hv:KS tyC l fu v B) :
  Ret Tryz.prog 13 [v] w B (fun r _ => r = .tuple #[.string (znh l).1, .int .i64 (znh l).2]):=by
 unfold znh
 refine qt Tryz.func13 rfl Tryz.ntmps13 (Nat.le_of_ble_eq_true rfl) hB ?_
 refine zbl 0 (KS tyC l fu) rfl SlV.mono hv ?_
 by_cases hln:4096 < l.length
 ·rw [if_pos hln]
  refine ZcU ?_;refine Zda ?_;refine z7 (zp L rfl rfl (zk rfl) rfl rfl rfl (fun u H hH hle _ v1 h1 => zng hln hH h1)) rfl ?_;refine ZdU ?_;refine Zy ?_
  refine qq L (rs:=[.tmp 2, .tmp 3]) rfl (fun _ _ h => h) Since.refl fun u H hH hle => ?_
  rfl
 ·rw [if_neg hln]
  refine ZcU ?_;refine Zda ?_;refine z7 (zp L rfl rfl (zk rfl) rfl rfl rfl (fun u H hH hle _ v1 h1 => ztk (by omega) hz hs hH h1)) rfl ?_;refine ZdU ?_;refine Zy ?_
  refine qq L (rs:=[.tmp 2, .tmp 3]) rfl (fun _ _ h => h) Since.refl fun u H hH hle => ?_
  rfl
end Go.V.L11
set_option maxRecDepth 20000
namespace Go.V
open Go.Proofs Go.RowKit
section
variable {α β:Type} [DecidableEq α] [DecidableEq β] {k:α → β} {c:β → β → Int}
def Eqv (k:α → β) (S S':List α):Prop:=∀ t, S'.filter (fun x => decide (k x = t)) = S.filter (fun x => decide (k x = t))
def Srt (k:α → β) (c:β → β → Int) (l:List α):Prop:=l.Pairwise fun x y => ¬ c (k y) (k x) < 0
def Stb (k:α → β) (c:β → β → Int) (S S':List α):Prop:=Srt k c S' ∧ Eqv k S S'
omit [DecidableEq α] in
theorem Eqv.refl (S:List α):Eqv k S S:=fun _ => rfl
omit [DecidableEq α] in
theorem Eqv.trans {A B C:List α} (h1:Eqv k A B) (h2:Eqv k B C):Eqv k A C:=fun t => (h2 t).trans (h1 t)
omit [DecidableEq α] in
theorem Eqv.app {A A' B B':List α} (h1:Eqv k A A') (h2:Eqv k B B'):Eqv k (A ++ B) (A' ++ B'):=fun t => by rw [List.filter_append, List.filter_append, h1 t, h2 t]
omit [DecidableEq α] in
theorem Eqv.swap {A B:List α} (h:∀ a ∈ A, ∀ b ∈ B, k a ≠ k b):Eqv k (A ++ B) (B ++ A):=fun t => by
 rw [List.filter_append, List.filter_append]
 by_cases ha:∃ a ∈ A, k a = t
 ·obtain ⟨a, ha, rfl⟩:=ha
  have:B.filter (fun x => decide (k x = k a)) = []:=List.filter_eq_nil_iff.2 fun b hb e => h a ha b hb (by simpa using e:k b = k a).symm
  rw [this, List.append_nil, List.nil_append]
 ·have:A.filter (fun x => decide (k x = t)) = []:=List.filter_eq_nil_iff.2 fun a h1 e => ha ⟨a, h1, by simpa using e⟩
  rw [this, List.append_nil, List.nil_append]
theorem Eqv.count {S S':List α} (h:Eqv k S S') (x:α):S'.count x = S.count x:=by
 have e:∀ l:List α, (l.filter fun y => decide (k y = k x)).count x = l.count x:=fun l => List.count_filter (by simp)
 rw [← e S', ← e S, h (k x)]
theorem Eqv.perm {S S':List α} (h:Eqv k S S'):S'.Perm S:=List.perm_iff_count.2 fun x => h.count x
theorem Eqv.length {S S':List α} (h:Eqv k S S'):S'.length = S.length:=h.perm.length_eq
theorem Eqv.mem {S S':List α} (h:Eqv k S S') {x:α}:x ∈ S' ↔ x ∈ S:=h.perm.mem_iff
omit [DecidableEq α] [DecidableEq β] in
theorem zdt {A B:List α}:Srt k c (A ++ B) ↔ Srt k c A ∧ Srt k c B ∧ ∀ a ∈ A, ∀ b ∈ B, ¬ c (k b) (k a) < 0:=List.pairwise_append
omit [DecidableEq α] [DecidableEq β] in
theorem zu5 (ho:Ord3 c) {a b:β} (h:c a b < 0):b ≠ a:=fun e => by subst e; exact ho.irr _ h
omit [DecidableEq α] in
theorem zpc (ho:Ord3 c) {A B:List α} {x:α} (hs:Srt k c (A ++ B)) (ha:∀ a ∈ A, ¬ c (k x) (k a) < 0) (hb:∀ b ∈ B, c (k x) (k b) < 0):Stb k c (A ++ B ++ [x]) (A ++ x :: B):=by
 obtain ⟨s1, s2, s3⟩:=zdt.1 hs
 refine ⟨zdt.2 ⟨s1, List.pairwise_cons.2 ⟨fun b h => ho.asym (hb b h), s2⟩, fun a h b hm => ?_⟩, ?_⟩
 ·rcases List.mem_cons.1 hm with rfl | hm
  ·exact ha a h
  ·exact s3 a h b hm
 ·rw [List.append_assoc]
  exact (Eqv.refl A).app (Eqv.swap (A:=B) (B:=[x]) fun b h y hy => by
   simp at hy; subst hy
   exact zu5 ho (hb b h))
omit [DecidableEq α] in
theorem zzc (ho:Ord3 c) {A B:List α} {x:α} (hs:Srt k c (A ++ B)) (ha:∀ a ∈ A, c (k a) (k x) < 0) (hb:∀ b ∈ B, ¬ c (k b) (k x) < 0):Stb k c (x :: (A ++ B)) (A ++ x :: B):=by
 obtain ⟨s1, s2, s3⟩:=zdt.1 hs
 refine ⟨zdt.2 ⟨s1, List.pairwise_cons.2 ⟨hb, s2⟩, fun a h b hm => ?_⟩, ?_⟩
 ·rcases List.mem_cons.1 hm with rfl | hm
  ·exact ho.asym (ha a h)
  ·exact s3 a h b hm
 ·have e:A ++ x :: B = A ++ [x] ++ B:=by simp
  have e2:x :: (A ++ B) = [x] ++ A ++ B:=by simp
  rw [e, e2]
  exact (Eqv.swap (A:=[x]) (B:=A) fun y hy a h => by
   simp at hy; subst hy
   exact zu5 ho (ha a h)).app (Eqv.refl B)
theorem zwt (ho:Ord3 c) {A1 A2 B1 B2 S1 S2:List α} (hA:Srt k c (A1 ++ A2)) (hB:Srt k c (B1 ++ B2)) (h12:∀ a ∈ A2, ∀ b ∈ B1, c (k b) (k a) < 0) (h21:∀ a ∈ A1, ∀ b ∈ B2, ¬ c (k b) (k a) < 0)
  (h1:Stb k c (A1 ++ B1) S1) (h2:Stb k c (A2 ++ B2) S2):Stb k c (A1 ++ A2 ++ (B1 ++ B2)) (S1 ++ S2):=by
 obtain ⟨a1, a2, a3⟩:=zdt.1 hA
 obtain ⟨b1, b2, b3⟩:=zdt.1 hB
 refine ⟨zdt.2 ⟨h1.1, h2.1, fun x hx y hy => ?_⟩, ?_⟩
 ·rcases List.mem_append.1 (h1.2.mem.1 hx) with hx | hx <;> rcases List.mem_append.1 (h2.2.mem.1 hy) with hy | hy
  ·exact a3 x hx y hy
  ·exact h21 x hx y hy
  ·exact ho.asym (h12 y hy x hx)
  ·exact b3 x hx y hy
 ·refine Eqv.trans ?_ (h1.2.app h2.2)
  have e1:A1 ++ A2 ++ (B1 ++ B2) = A1 ++ (A2 ++ B1) ++ B2:=by simp
  have e2:A1 ++ B1 ++ (A2 ++ B2) = A1 ++ (B1 ++ A2) ++ B2:=by simp
  rw [e1, e2]
  exact ((Eqv.refl A1).app (Eqv.swap fun a ha b hb => zu5 ho (h12 a ha b hb))).app (Eqv.refl B2)
omit [DecidableEq α] [DecidableEq β] in
theorem ze8 (ho:Ord3 c) {l:List α} (h:Srt k c l) {i j:Nat} {x y:α} (hi:l[i]? = some x) (hj:l[j]? = some y) (hij:i ≤ j):¬ c (k y) (k x) < 0:=by
 rcases Nat.lt_or_ge i j with h1 | h1
 ·obtain ⟨hi', rfl⟩:=List.getElem?_eq_some_iff.1 hi
  obtain ⟨hj', rfl⟩:=List.getElem?_eq_some_iff.1 hj
  exact List.pairwise_iff_getElem.1 h i j hi' hj' h1
 ·have:i = j:=by omega
  subst this
  rw [hi] at hj; cases hj
  exact ho.irr _
end
end Go.V
set_option maxRecDepth 20000
namespace Go.V.L8
open Go.Proofs Go.RowKit Go.V Go.V.L2 Go.V.L3 Go.V.L6
abbrev zC:CH:=((n3, n3), false)
def zve (l:List CH) (t:U) (z:CH):CH:=l.foldl (fun a c => if c.1 = t then c else a) z
def zgl (l:List CH) (t:U):Option CH:=(l.filter fun c => decide (c.1 = t)).getLast?
theorem zen (c:CH) (l:List CH) (t:U):zgl (c :: l) t = (zgl l t).or (if c.1 = t then some c else none):=by
 unfold zgl
 by_cases h:c.1 = t
 ·rw [if_pos h, List.filter_cons_of_pos (by simpa using h), List.getLast?_cons]
  cases (l.filter fun c => decide (c.1 = t)).getLast? <;> rfl
 ·rw [if_neg h, List.filter_cons_of_neg (by simpa using h)]
  cases (l.filter fun c => decide (c.1 = t)).getLast? <;> rfl
theorem zfm {l:List CH} {t:U} {c:CH} (h:zgl l t = some c):c.1 = t ∧ c ∈ l:=by
 have:=List.mem_of_getLast? h
 rw [List.mem_filter] at this
 exact ⟨by simpa using this.2, this.1⟩
theorem zlk {l:List CH} {t:U}:zgl l t = none ↔ ∀ c ∈ l, c.1 ≠ t:=by
 unfold zgl
 rw [List.getLast?_eq_none_iff, List.filter_eq_nil_iff]
 simp
theorem zq5 (l:List CH) (t:U) (z:CH):zve l t z = (zgl l t).getD z:=by
 induction l generalizing z with
 | nil => rfl
 | cons c r ih =>
  have:zve (c :: r) t z = zve r t (if c.1 = t then c else z):=rfl
  rw [this, ih, zen]
  cases zgl r t with
  | some d => rfl
  | none => by_cases h:c.1 = t <;> simp [h]
theorem zog {l:List CH} {t:U} {z:CH} (h:∃ c ∈ l, c.1 = t):zgl l t = some (zve l t z):=by
 rw [zq5]
 cases hk:zgl l t with
 | some d => rfl
 | none => obtain ⟨c, hc, he⟩:=h; exact absurd he (zlk.1 hk c hc)
def zj1 (l:List CH):List CH:=(zr0 (l.map (·.1))).map fun t => zve l t zC
theorem zjj {l:List U} {t:U}:t ∈ zr0 l ↔ t ∈ l:=by unfold zr0; rw [zj6]; simp
theorem ztv (l:List U):Sst zbt (zr0 l):=zjg cmpT_ord Sst.nil
theorem zur {l:List CH} {c:CH}:c ∈ zj1 l ↔ zgl l c.1 = some c:=by
 unfold zj1
 rw [List.mem_map]
 constructor
 ·rintro ⟨t, ht, rfl⟩
  rw [zjj, List.mem_map] at ht
  have:=zog (z:=zC) ht
  rw [(zfm this).1]
  exact this
 ·intro h
  have hm:=zfm h
  exact ⟨c.1, zjj.2 (List.mem_map.2 ⟨c, hm.2, rfl⟩), by rw [zq5, h]; rfl⟩
theorem zsf (l:List CH):(zj1 l).map (·.1) = zr0 (l.map (·.1)):=by
 unfold zj1
 rw [List.map_map]
 conv => rhs; rw [← List.map_id (zr0 (l.map (·.1)))]
 refine List.map_congr_left fun t ht => ?_
 rw [zjj, List.mem_map] at ht
 exact (zfm (zog (z:=zC) ht)).1
def zyh (l:List CH):Prop:=Sst zbt (l.map (·.1))
theorem zuq (l:List CH):zyh (zj1 l):=by unfold zyh; rw [zsf]; exact ztv _
theorem zxc {l:List CH} (h:zyh l):l.Pairwise fun a b => a.1 ≠ b.1:=by
 unfold zyh Sst at h
 rw [List.pairwise_map] at h
 exact h.imp fun h1 => cmpT_ord.ne h1
theorem zz2 {l m:List CH} (hl:zyh l) (hm:zyh m) (h:∀ c, c ∈ l ↔ c ∈ m):l = m:=by
 have hk:l.map (·.1) = m.map (·.1):=zpd cmpT_ord hl hm fun t => by
  rw [List.mem_map, List.mem_map]
  exact ⟨fun ⟨c, hc, e⟩ => ⟨c, (h c).1 hc, e⟩, fun ⟨c, hc, e⟩ => ⟨c, (h c).2 hc, e⟩⟩
 have uni:∀ {l:List CH}, zyh l → ∀ a ∈ l, ∀ b ∈ l, a.1 = b.1 → a = b:=fun {l} hn a ha b hb e => by
  by_cases hab:a = b
  ·exact hab
  ·exfalso
   obtain ⟨i, hi⟩:=List.getElem?_of_mem ha
   obtain ⟨j, hj⟩:=List.getElem?_of_mem hb
   obtain ⟨hi', rfl⟩:=List.getElem?_eq_some_iff.1 hi
   obtain ⟨hj', rfl⟩:=List.getElem?_eq_some_iff.1 hj
   have hp:=List.pairwise_iff_getElem.1 (zxc hn)
   rcases Nat.lt_trichotomy i j with h | h | h
   ·exact hp i j hi' hj' h e
   ·subst h; exact hab rfl
   ·exact hp j i hj' hi' h e.symm
 have hlen:l.length = m.length:=by rw [← List.length_map (f:=(·.1)), hk, List.length_map]
 refine List.ext_getElem hlen fun i h1 h2 => ?_
 have e:l[i].1 = m[i].1:=by
  have:=congrArg (·[i]?) hk
  simp only [List.getElem?_map, List.getElem?_eq_getElem h1, List.getElem?_eq_getElem h2, Option.map_some, Option.some.injEq] at this
  exact this
 exact uni hm _ ((h _).1 (List.getElem_mem h1)) _ (List.getElem_mem h2) e
def ze2:List CH → List CH
 | [] => []
 | [c] => [c]
 | c :: d :: r => if zbt c.1 d.1 = 0 then ze2 (d :: r) else c :: ze2 (d :: r)
theorem zsl {l:List CH} {i:Nat} {c:CH} (h:l[i]? = some c):ze2 (l.drop i) = (match l[i + 1]? with | none => [c] | some d => if zbt c.1 d.1 = 0 then [] else [c]) ++ ze2 (l.drop (i + 1)):=by
 have h1:l.drop i = c :: l.drop (i + 1):=zh9 h
 rw [h1]
 cases h2:l[i + 1]? with
 | none =>
  have:l.drop (i + 1) = []:=List.drop_eq_nil_of_le (by simpa using h2)
  rw [this]; rfl
 | some d =>
  have h3:l.drop (i + 1) = d :: l.drop (i + 1 + 1):=zh9 h2
  rw [h3]
  show (if zbt c.1 d.1 = 0 then _ else _) = (if zbt c.1 d.1 = 0 then _ else _) ++ _
  split <;> rfl
theorem zll:∀ {S:List CH}, Srt (·.1) zbt S → (∀ c ∈ ze2 S, zgl S c.1 = some c) ∧ (∀ x ∈ S, ∃ c ∈ ze2 S, c.1 = x.1) ∧ zyh (ze2 S)
 | [], _ => ⟨fun c hc => (by cases hc), fun c hc => (by cases hc), Sst.nil⟩
 | [c], _ => by
  have e:ze2 [c] = [c]:=rfl
  rw [e]
  refine ⟨fun d hd => ?_, fun x hx => ⟨x, hx, rfl⟩, List.pairwise_singleton _ _⟩
  rw [List.mem_singleton] at hd; subst hd
  rw [zen, if_pos rfl]; rfl
 | c :: d :: r, h => by
  obtain ⟨h1, h2⟩:=List.pairwise_cons.1 h
  obtain ⟨g1, g2, g3⟩:=zll (S:=d :: r) h2
  have e:ze2 (c :: d :: r) = if zbt c.1 d.1 = 0 then ze2 (d :: r) else c :: ze2 (d :: r):=rfl
  by_cases h0:zbt c.1 d.1 = 0
  ·rw [e, if_pos h0]
   have hcd:=cmpT_ord.eq _ _ h0
   refine ⟨fun x hx => by rw [zen, g1 x hx]; rfl, fun x hx => ?_, g3⟩
   rcases List.mem_cons.1 hx with rfl | hx
   ·obtain ⟨y, hy, e⟩:=g2 d (List.mem_cons_self ..)
    exact ⟨y, hy, e.trans hcd.symm⟩
   ·exact g2 x hx
  ·rw [e, if_neg h0]
   have hlt:∀ y ∈ d :: r, zbt c.1 y.1 < 0:=fun y hy => by
    have hcd:zbt c.1 d.1 < 0:=by
     have h3:=h1 d (List.mem_cons_self ..)
     have:=cmpT_ord.anti c.1 d.1
     dsimp only at h3
     omega
    rcases List.mem_cons.1 hy with rfl | hy
    ·exact hcd
    ·have h3:=(List.pairwise_cons.1 h2).1 y hy
     dsimp only at h3
     by_cases h5:zbt d.1 y.1 < 0
     ·exact cmpT_ord.tr hcd h5
     ·have h6:zbt d.1 y.1 = 0:=by have:=cmpT_ord.anti d.1 y.1; omega
      rw [← cmpT_ord.eq _ _ h6]; exact hcd
   refine ⟨fun x hx => ?_, fun x hx => ?_, ?_⟩
   ·rcases List.mem_cons.1 hx with rfl | hx
    ·rw [zen, if_pos rfl, zlk.2 fun y hy e => cmpT_ord.irr x.1 (by rw [← e] ; exact absurd (hlt y hy) (by rw [e]; exact cmpT_ord.irr _))]; rfl
    ·rw [zen, g1 x hx]; rfl
   ·rcases List.mem_cons.1 hx with rfl | hx
    ·exact ⟨x, List.mem_cons_self .., rfl⟩
    ·obtain ⟨y, hy, e⟩:=g2 x hx
     exact ⟨y, List.mem_cons_of_mem _ hy, e⟩
   ·unfold zyh
    rw [List.map_cons]
    refine List.pairwise_cons.2 ⟨fun t ht => ?_, g3⟩
    obtain ⟨y, hy, rfl⟩:=List.mem_map.1 ht
    exact hlt y (zfm (g1 y hy)).2
theorem zvh {l S:List CH} (h:Stb (·.1) zbt l S):ze2 S = zj1 l:=by
 obtain ⟨g1, g2, g3⟩:=zll h.1
 have hK:∀ t, zgl S t = zgl l t:=fun t => by unfold zgl; rw [h.2 t]
 refine zz2 g3 (zuq l) fun c => ?_
 rw [zur]
 constructor
 ·exact fun hc => by rw [← hK]; exact g1 c hc
 ·intro hc
  rw [← hK] at hc
  obtain ⟨d, hd, e⟩:=g2 c (zfm hc).2
  have:=g1 d hd
  rw [e, hc] at this
  cases this; exact hd
end Go.V.L8
set_option maxRecDepth 20000
namespace Go.V.L11
open Go.Proofs Go.RowKit Go.V Go.V.L2 Go.V.L4 Go.V.L8
theorem _root_.Go.V.Zey {A B:Prop} (h:B) (t:Wr B → A:=by intro h; refine z7 (y6 (cs:=[_, _, _, _, _, _, _]) rfl rfl z3i rfl rfl) rfl ?_;exact h.h):A:=t ⟨h⟩
theorem _root_.Go.V.Zft {A B:Prop} (h:B) (t:Wr B → A:=by intro h; refine z7 (zjz rfl rfl rfl rfl (decide_eq_true rfl)) rfl ?_;exact h.h):A:=t ⟨h⟩
theorem _root_.Go.V.ZdE {A B:Prop} (h:B) (t:Wr B → A:=by intro h; refine ZfL ?_;refine ZaC ?_;exact h.h):A:=t ⟨h⟩
def prB (c:UInt8) (b:ByteArray):CH × Int:=if c = 43 ∨ c = 45 then (if (ptA b).2 ≠ 0 then (zC, (ptA b).2) else (((ptA b).1, decide (c = 45)), 0)) else (zC, 5)
def prC (s:ByteArray):CH × Int:=match s.data.toList with
 | [] => (zC, 5)
 | c :: l => prB c ⟨l.toArray⟩
theorem zme (c:UInt8) (b:ByteArray):prC (⟨#[c]⟩ ++ b) = prB c b:=by
 unfold prC
 have e:(⟨#[c]⟩ ++ b:ByteArray).data.toList = c :: b.data.toList:=by rw [zar]; rfl
 rw [e]
theorem zl6 (s:ByteArray):s = ⟨#[]⟩ ∨ ∃ c b, s = ⟨#[c]⟩ ++ b:=by
 cases h:s.data.toList with
 | nil => exact .inl (zbf h)
 | cons c l => exact .inr ⟨c, ⟨l.toArray⟩, zbf (by rw [zar, h]; rfl)⟩
attribute [local irreducible] V N X VO Par StepOK Has Ret RetL RetO RetT zbd RetX RetY Src
set_option maxHeartbeats 1000000 in
theorem zzm {s:ByteArray} (hs:s.size ≤ 1000000) {w:World} {B:Heap} (hB:B.Le (hp w)) (hM:GlobM B) :
  Ret Tryz.prog 65 [.string s] w B (fun v _ => v = .tuple #[cvC (prC s).1, .int .i64 (prC s).2]):=by
 rcases zl6 s with rfl | ⟨c, b, rfl⟩
 ·refine qt Tryz.func65 rfl Tryz.ntmps65 (Nat.le_of_ble_eq_true rfl) hB ?_
  refine ZcI ?_;refine Zft ?_;refine Zdp ?_;refine Zcd ?_;refine ZaA ?_;refine Z5 ?_;refine Zey ?_;refine ZaL ?_
  refine qq L (rs:=[.cell 2 42, .tmp 3]) rfl (fun _ _ h => h) Since.refl fun u H hH hle => ?_
  first | exact rfl | exact ⟨_, qk rfl, rfl, rfl⟩
 ·rw [zme]
  have hsz:(⟨#[c]⟩ ++ b:ByteArray).size = 1 + b.size:=by rw [ByteArray.size_append]; rfl
  have hne:(⟨#[c]⟩ ++ b:ByteArray) ≠ ⟨#[]⟩:=fun e => by rw [e] at hsz; have:(⟨#[]⟩:ByteArray).size = 0:=rfl; omega
  have hc:(⟨#[c]⟩ ++ b:ByteArray)[0]? = some c:=by
   show (⟨#[c]⟩ ++ b:ByteArray).data[0]? = some c
   rw [← Array.getElem?_toList, zar]; rfl
  have x2:(⟨#[c]⟩ ++ b:ByteArray).extract 1 (⟨#[c]⟩ ++ b:ByteArray).size = b:=by
   have:=zd2 ⟨#[c]⟩ b ⟨#[]⟩ 1 (⟨#[c]⟩ ++ b:ByteArray).size rfl (by rw [hsz]; rfl)
   rw [show (⟨#[c]⟩ ++ b ++ ⟨#[]⟩:ByteArray) = ⟨#[c]⟩ ++ b from zbf (by simp [zar])] at this
   exact this
  generalize (⟨#[c]⟩ ++ b:ByteArray) = s at hs hsz hne hc x2
  have hb:b.size ≤ 1000000:=by omega
  obtain ⟨t, e, ht⟩:∃ t e, ptA b = (t, e):=⟨_, _, rfl⟩
  have h255:=zwh c
  by_cases h43:c = 43
  ·subst h43
   by_cases h0:e = 0
   ·subst h0
    refine qt Tryz.func65 rfl Tryz.ntmps65 (Nat.le_of_ble_eq_true rfl) hB ?_
    refine ZcI ?_;refine ZdE ?_;refine Zfl ?_;refine Zad ?_;refine Zai ?_;refine Zk ?_;refine z7 (zap L (kh:=.i64) (ph:=0) 1 _ rfl rfl rfl rfl ⟨rfl, rfl⟩ rfl (by omega) (by omega) x2) rfl ?_;refine z7 (zp L rfl rfl (zk rfl) rfl rfl rfl (fun u H hH hle _ => zek ht hb hH (hM.mono hle))) rfl ?_;refine ZaG ?_;refine Zi ?_;refine ZV ?_;refine Zes ?_;refine ZeY ?_;refine Zh ?_;refine zd (ya L rfl rfl rfl rfl rfl (by assumption)) rfl ?_;refine zd (y7 rfl rfl rfl rfl rfl) rfl ?_;refine zd (y6 (cs:=[_, _, _, _, _, _, _]) rfl rfl z3i rfl rfl) rfl ?_;refine ZdX ?_;refine ZK ?_
    refine qq L (rs:=[.cell 2 42, .tmp 3]) rfl (fun _ _ h => h) Since.refl fun u H hH hle => ?_
    unfold prB
    rw [if_pos (.inl rfl), ht, if_neg (by simp)]
    first | exact rfl | exact ⟨_, qk rfl, rfl, rfl⟩
   ·refine qt Tryz.func65 rfl Tryz.ntmps65 (Nat.le_of_ble_eq_true rfl) hB ?_
    refine ZcI ?_;refine ZdE ?_;refine Zfl ?_;refine Zad ?_;refine Zai ?_;refine Zk ?_;refine z7 (zap L (kh:=.i64) (ph:=0) 1 _ rfl rfl rfl rfl ⟨rfl, rfl⟩ rfl (by omega) (by omega) x2) rfl ?_;refine z7 (zp L rfl rfl (zk rfl) rfl rfl rfl (fun u H hH hle _ => zek ht hb hH (hM.mono hle))) rfl ?_;refine ZaG ?_;refine Zi ?_;refine ZF ?_;refine Zw ?_;refine Zey ?_;refine ZbL ?_
    refine qq L (rs:=[.cell 2 42, .tmp 3]) rfl (fun _ _ h => h) Since.refl fun u H hH hle => ?_
    unfold prB
    rw [if_pos (.inl rfl), ht, if_pos (by exact h0)]
    first | exact rfl | exact ⟨_, qk rfl, rfl, rfl⟩
  ·have hx43:(c.toNat:Int) ≠ 43:=fun e => h43 (UInt8.toNat_inj.1 (by show c.toNat = 43; omega))
   by_cases h45:c = 45
   ·subst h45
    by_cases h0:e = 0
    ·subst h0
     refine qt Tryz.func65 rfl Tryz.ntmps65 (Nat.le_of_ble_eq_true rfl) hB ?_
     refine ZcI ?_;refine ZdE ?_;refine Zam ?_;refine ZaC ?_;refine Zcm ?_;refine Zai ?_;refine Zk ?_;refine z7 (zap L (kh:=.i64) (ph:=0) 1 _ rfl rfl rfl rfl ⟨rfl, rfl⟩ rfl (by omega) (by omega) x2) rfl ?_;refine z7 (zp L rfl rfl (zk rfl) rfl rfl rfl (fun u H hH hle _ => zek ht hb hH (hM.mono hle))) rfl ?_;refine ZaG ?_;refine Zi ?_;refine ZV ?_;refine Zes ?_;refine ZeY ?_;refine Zh ?_;refine zd (ya L rfl rfl rfl rfl rfl (by assumption)) rfl ?_;refine zd (y7 rfl rfl rfl rfl rfl) rfl ?_;refine zd (y6 (cs:=[_, _, _, _, _, _, _]) rfl rfl z3i rfl rfl) rfl ?_;refine ZdX ?_;refine ZK ?_
     refine qq L (rs:=[.cell 2 42, .tmp 3]) rfl (fun _ _ h => h) Since.refl fun u H hH hle => ?_
     unfold prB
     rw [if_pos (.inr rfl), ht, if_neg (by simp)]
     first | exact rfl | exact ⟨_, qk rfl, rfl, rfl⟩
    ·refine qt Tryz.func65 rfl Tryz.ntmps65 (Nat.le_of_ble_eq_true rfl) hB ?_
     refine ZcI ?_;refine ZdE ?_;refine Zam ?_;refine ZaC ?_;refine Zcm ?_;refine Zai ?_;refine Zk ?_;refine z7 (zap L (kh:=.i64) (ph:=0) 1 _ rfl rfl rfl rfl ⟨rfl, rfl⟩ rfl (by omega) (by omega) x2) rfl ?_;refine z7 (zp L rfl rfl (zk rfl) rfl rfl rfl (fun u H hH hle _ => zek ht hb hH (hM.mono hle))) rfl ?_;refine ZaG ?_;refine Zi ?_;refine ZF ?_;refine Zw ?_;refine Zey ?_;refine ZbL ?_
     refine qq L (rs:=[.cell 2 42, .tmp 3]) rfl (fun _ _ h => h) Since.refl fun u H hH hle => ?_
     unfold prB
     rw [if_pos (.inr rfl), ht, if_pos (by exact h0)]
     first | exact rfl | exact ⟨_, qk rfl, rfl, rfl⟩
   ·have hx45:(c.toNat:Int) ≠ 45:=fun e => h45 (UInt8.toNat_inj.1 (by show c.toNat = 45; omega))
    refine qt Tryz.func65 rfl Tryz.ntmps65 (Nat.le_of_ble_eq_true rfl) hB ?_
    refine ZcI ?_;refine ZdE ?_;refine Zam ?_;refine ZaC ?_;refine Zam ?_;refine Zg ?_;refine ZaA ?_;refine Z5 ?_;refine Zey ?_;refine ZaL ?_
    refine qq L (rs:=[.cell 2 42, .tmp 3]) rfl (fun _ _ h => h) Since.refl fun u H hH hle => ?_
    unfold prB
    rw [if_neg (fun h => h.elim h43 h45)]
    first | exact rfl | exact ⟨_, qk rfl, rfl, rfl⟩
end Go.V.L11
set_option maxRecDepth 20000
namespace Go.V.L2
open Go.Proofs Go.RowKit Go.V
theorem _root_.Go.V.Zgl {A B:Prop} (h:B) (t:Wr B → A:=by intro h; refine zd (y5 L 0 rfl rfl rfl rfl rfl rfl rfl (by first | omega | decide) (by assumption)) rfl ?_;exact h.h):A:=t ⟨h⟩
theorem _root_.Go.V.Zgm {A B:Prop} (h:B) (t:Wr B → A:=by intro h; refine z7 (y5 L 0 rfl rfl rfl rfl rfl rfl rfl (by first | omega | decide) (by assumption)) rfl ?_;exact h.h):A:=t ⟨h⟩
theorem _root_.Go.V.Za1 {A B:Prop} (h:B) (t:Wr B → A:=by intro h; refine zf (id:=20) ?_;exact h.h):A:=t ⟨h⟩
theorem _root_.Go.V.ZeD {A B:Prop} (h:B) (t:Wr B → A:=by intro h; refine q8 (zce L rfl rfl rfl (zkw rfl) rfl z3t rfl rfl (by omega) (by omega)) ?_;exact h.h):A:=t ⟨h⟩
theorem _root_.Go.V.Zct {A B:Prop} (h:B) (t:Wr B → A:=by intro h; refine zf (id:=21) ?_;exact h.h):A:=t ⟨h⟩
theorem _root_.Go.V.Zdg {A B:Prop} (h:B) (t:Wr B → A:=by intro h; refine zf (id:=22) ?_;exact h.h):A:=t ⟨h⟩
theorem _root_.Go.V.ZdF {A B:Prop} (h:B) (t:Wr B → A:=by intro h; refine zf (id:=19) ?_;exact h.h):A:=t ⟨h⟩
theorem _root_.Go.V.Zcu {A B:Prop} (h:B) (t:Wr B → A:=by intro h; refine Zed ?_;refine Za ?_;exact h.h):A:=t ⟨h⟩
theorem _root_.Go.V.ZbE {A B:Prop} (h:B) (t:Wr B → A:=by intro h; refine Ze ?_;refine Zak ?_;exact h.h):A:=t ⟨h⟩
theorem _root_.Go.V.ZbF {A B:Prop} (h:B) (t:Wr B → A:=by intro h; refine ZL ?_;refine ZcE ?_;exact h.h):A:=t ⟨h⟩
theorem _root_.Go.V.Zgn {A B:Prop} (h:B) (t:Wr B → A:=by intro h; refine ZcD ?_;refine Zgl ?_;exact h.h):A:=t ⟨h⟩
theorem _root_.Go.V.ZcL {A B:Prop} (h:B) (t:Wr B → A:=by intro h; refine Zgn ?_;refine Zea ?_;exact h.h):A:=t ⟨h⟩
theorem _root_.Go.V.Zdh {A B:Prop} (h:B) (t:Wr B → A:=by intro h; refine Zx ?_;refine ZW ?_;exact h.h):A:=t ⟨h⟩
theorem _root_.Go.V.Zgo {A B:Prop} (h:B) (t:Wr B → A:=by intro h; refine ZcA ?_;refine ZH ?_;exact h.h):A:=t ⟨h⟩
theorem _root_.Go.V.Zgp {A B:Prop} (h:B) (t:Wr B → A:=by intro h; refine Zgo ?_;refine Zd ?_;exact h.h):A:=t ⟨h⟩
theorem _root_.Go.V.Zgq {A B:Prop} (h:B) (t:Wr B → A:=by intro h; refine Zgp ?_;refine ZfR ?_;exact h.h):A:=t ⟨h⟩
theorem _root_.Go.V.ZdG {A B:Prop} (h:B) (t:Wr B → A:=by intro h; refine Zgq ?_;refine Zx ?_;exact h.h):A:=t ⟨h⟩
theorem _root_.Go.V.Zgr {A B:Prop} (h:B) (t:Wr B → A:=by intro h; refine ZbH ?_;refine ZbO ?_;exact h.h):A:=t ⟨h⟩
theorem _root_.Go.V.Zgs {A B:Prop} (h:B) (t:Wr B → A:=by intro h; refine Zgr ?_;refine Zcn ?_;exact h.h):A:=t ⟨h⟩
theorem _root_.Go.V.Zgt {A B:Prop} (h:B) (t:Wr B → A:=by intro h; refine Zgs ?_;refine Ze5 ?_;exact h.h):A:=t ⟨h⟩
theorem _root_.Go.V.ZdH {A B:Prop} (h:B) (t:Wr B → A:=by intro h; refine Zgt ?_;refine Zc5 ?_;exact h.h):A:=t ⟨h⟩
theorem _root_.Go.V.Zgu {A B:Prop} (h:B) (t:Wr B → A:=by intro h; refine Zl ?_;refine Zgm ?_;exact h.h):A:=t ⟨h⟩
theorem _root_.Go.V.ZdI {A B:Prop} (h:B) (t:Wr B → A:=by intro h; refine Zgu ?_;refine Zec ?_;exact h.h):A:=t ⟨h⟩
theorem _root_.Go.V.ZdJ {A B:Prop} (h:B) (t:Wr B → A:=by intro h; refine Zaw ?_;refine Zcu ?_;exact h.h):A:=t ⟨h⟩
theorem _root_.Go.V.ZdK {A B:Prop} (h:B) (t:Wr B → A:=by intro h; refine Za1 ?_;refine Zb ?_;exact h.h):A:=t ⟨h⟩
theorem zrx {φ:Value → Heap → Prop} {a tv:Value} {H:Heap} (h:φ tv H):TupS [φ, fun v _ => v = a] (.tuple #[tv, a]) H :=
 ⟨[tv, a], rfl, rfl, fun i ψ x hi hx => by
  rcases i with _ | _ | i
  ·simp at hi hx; subst hi hx; exact h
  ·simp at hi hx; subst hi hx; rfl
  ·simp at hi⟩
theorem zrw {φ:Value → Heap → Prop} {a:Value} (h:Kn.mono (.sat φ)):Kn.mono (.sat (TupS [φ, fun v _ => v = a])):=TupS.mono fun ψ hψ => by
 rcases List.mem_cons.1 hψ with rfl | hψ
 ·exact h
 ·rw [List.mem_singleton] at hψ
  subst hψ
  exact fun _ _ _ h _ => h
theorem zcy {α:Type} {c:α → α → Int} {f:Bool → Bool → Bool}:∀ (n:Nat) (l m:List α), l.length + m.length ≤ n → (zeb c f n l m).length ≤ l.length + m.length
 | 0, _, _, _ => by simp [zeb]
 | n + 1, [], [], _ => by simp [zeb]
 | n + 1, a :: l, [], h => by
  have:=zcy (c:=c) (f:=f) n l [] (by simp only [List.length_cons, List.length_nil] at h ⊢; omega)
  simp only [zeb, List.length_append, List.length_cons, List.length_nil] at this ⊢
  split <;> simp only [List.length_cons, List.length_nil] <;> omega
 | n + 1, [], b :: m, h => by
  have:=zcy (c:=c) (f:=f) n [] m (by simp only [List.length_cons, List.length_nil] at h ⊢; omega)
  simp only [zeb, List.length_append, List.length_cons, List.length_nil] at this ⊢
  split <;> simp only [List.length_cons, List.length_nil] <;> omega
 | n + 1, a :: l, b :: m, h => by
  simp only [List.length_cons] at h
  have h1:=zcy (c:=c) (f:=f) n l (b :: m) (by simp only [List.length_cons]; omega)
  have h2:=zcy (c:=c) (f:=f) n (a :: l) m (by simp only [List.length_cons]; omega)
  have h3:=zcy (c:=c) (f:=f) n l m (by omega)
  simp only [List.length_cons] at h1 h2
  simp only [zeb]
  split
  ·rw [List.length_append]; split <;> simp only [List.length_cons, List.length_nil] <;> omega
  ·split
   ·rw [List.length_append]; split <;> simp only [List.length_cons, List.length_nil] <;> omega
   ·rw [List.length_append]; split <;> simp only [List.length_cons, List.length_nil] <;> omega
def z19 (f:Bool → Bool → Bool) (l m:List U):List U × Int :=
 if 4096 < l.length ∨ 4096 < m.length then ([], 3) else if (isB l && isB m) = true then (zeb zbt f (l.length + m.length) l m, 0) else ([], 18)
abbrev LE (r:List U × Int):Value → Heap → Prop:=TupS [US r.1 true, fun v _ => v = .int .i64 r.2]
theorem LE.mono {r:List U × Int}:Kn.mono (.sat (LE r)):=zrw SlV.mono
theorem zl5 (a:U) (l:List U):(((a :: l).flatMap ucs).drop (1 * 6)).take (((a :: l).length - 1) * 6) = l.flatMap ucs:=by
 rw [List.flatMap_cons, List.drop_left' (by rfl), List.length_cons, Nat.add_sub_cancel, List.take_of_length_le (Nat.le_of_eq (zkg zl3 l))]
theorem zi6 {κ:Kap} {s:Nat} {out:List U} {t:U} (h:κ s = some (.own (SlR tyU 6 (out.length + 1) (out.flatMap ucs ++ [.string t.1.1.1, .string t.1.1.2, .string t.1.2, .string t.2.1.1, .string t.2.1.2, .string t.2.2])))):κ s = some (.own (SlR tyU 6 (out ++ [t]).length ((out ++ [t]).flatMap ucs))):=by
 rw [h, List.flatMap_append, List.length_append]; simp [ucs]
attribute [local irreducible] V N X VO Par StepOK Has Ret RetL Src
set_option maxHeartbeats 4000000 in
theorem zuy {f:Bool → Bool → Bool} {tf:Nat} (hfn:L.fn tf = some ()) (hf:∀ (p q:Bool) (u:World) (H:Heap), H.Le (hp u) → Ret Tryz.prog tf [.bool p, .bool q] u H (fun v _ => v = .bool (f p q))) {l m:List U} {fa fb:Bool}
  {r:List U × Int} (hr:z19 f l m = r) {v v2:Value} {w:World} {B:Heap} (hB:B.Le (hp w)) (hv:US l fa v B) (hv2:US m fb v2 B) :
  Ret Tryz.prog 225 [v, v2, .func (.func tf) #[] #[]] w B (LE r):=by
 subst hr
 unfold z19
 refine qt Tryz.func225 rfl Tryz.ntmps225 (Nat.le_of_ble_eq_true rfl) hB ?_
 refine zbl 0 (US l fa) rfl SlV.mono hv ?_
 refine zbl 1 (US m fb) rfl SlV.mono hv2 ?_
 by_cases z1:4096 < l.length
 ·rw [if_pos (.inl z1)]
  refine Zbz ?_;refine Zb3 ?_;refine ZW ?_;refine Zad ?_;refine ZdS ?_;refine Zy ?_
  refine qq L (rs:=[.tmp 6, .tmp 7]) rfl (fun _ _ h => h) Since.refl fun u H hH hle => ?_
  exact zrx SlV.nil
 ·by_cases z2:4096 < m.length
  ·rw [if_pos (.inr z2)]
   refine Zbz ?_;refine Zb3 ?_;refine Z3 ?_;refine Za ?_;refine Zdh ?_;refine ZaA ?_;refine Z5 ?_;refine Zy ?_
   refine qq L (rs:=[.tmp 6, .tmp 7]) rfl (fun _ _ h => h) Since.refl fun u H hH hle => ?_
   exact zrx SlV.nil
  ·rw [if_neg (by omega)]
   cases h1:isB l
   ·rw [if_neg (by simp)]
    refine Zbz ?_;refine Zb3 ?_;refine Z3 ?_;refine Za ?_;refine Zx ?_;refine Z3 ?_;refine Zc0 ?_;refine Zo ?_;refine Zl ?_;refine z7 (zp L rfl rfl (zk rfl) rfl rfl rfl (fun u H hH _ _ v1 hv1 => zja (by omega) h1 hH hv1)) rfl ?_;refine Zu ?_;refine Zad ?_;refine Zv ?_;refine Zp ?_;refine Zy ?_
    refine qq L (rs:=[.tmp 6, .tmp 7]) rfl (fun _ _ h => h) Since.refl fun u H hH hle => ?_
    exact zrx SlV.nil
   ·cases h2:isB m
    ·rw [if_neg (by simp)]
     refine Zbz ?_;refine Zb3 ?_;refine Z3 ?_;refine Za ?_;refine Zx ?_;refine Z3 ?_;refine Zc0 ?_;refine Zo ?_;refine Zl ?_;refine z7 (zp L rfl rfl (zk rfl) rfl rfl rfl (fun u H hH _ _ v1 hv1 => zja (by omega) h1 hH hv1)) rfl ?_;refine Zu ?_;refine Za ?_;refine Zl ?_;refine z7 (zp L rfl rfl (zk rfl) rfl rfl rfl (fun u H hH _ _ v1 hv1 => zja (by omega) h2 hH hv1)) rfl ?_;refine Zu ?_;refine ZaA ?_;refine Zp ?_;refine Zy ?_
     refine qq L (rs:=[.tmp 6, .tmp 7]) rfl (fun _ _ h => h) Since.refl fun u H hH hle => ?_
     exact zrx SlV.nil
    ·rw [if_pos (by rfl)]
     refine Zbz ?_;refine Zb3 ?_;refine Z3 ?_;refine Za ?_;refine Zx ?_;refine Z3 ?_;refine Zc0 ?_;refine Zo ?_;refine Zl ?_;refine z7 (zp L rfl rfl (zk rfl) rfl rfl rfl (fun u H hH _ _ v1 hv1 => zja (by omega) h1 hH hv1)) rfl ?_;refine Zu ?_;refine Za ?_;refine Zl ?_;refine z7 (zp L rfl rfl (zk rfl) rfl rfl rfl (fun u H hH _ _ v1 hv1 => zja (by omega) h2 hH hv1)) rfl ?_;refine Zu ?_;refine Zai ?_;refine Zw ?_;refine Zd ?_;refine q6 ?_
     refine zv6 0 (US l false) rfl SlV.mono (fun _ _ h => h.nofu) ?_
     refine zv6 1 (US m false) rfl SlV.mono (fun _ _ h => h.nofu) ?_
     refine zge 8 tyU 6 rfl ?_
     refine zan (fun s:Nat × List U × List U × List U => [(0, .sat (US s.2.1 false)), (1, .sat (US s.2.2.1 false)), (2, .is (.func (.func tf) #[] #[])), (8, .own (SlR tyU 6 s.2.2.2.length (s.2.2.2.flatMap ucs)))])
      (fun s => s.2.1.length + s.2.2.1.length ≤ s.1 ∧ s.2.2.2 ++ zeb zbt f s.1 s.2.1 s.2.2.1 = zeb zbt f (l.length + m.length) l m ∧ s.2.2.2.length + s.2.1.length + s.2.2.1.length ≤ 8192) (fun s => s.1) (l.length + m.length, l, m, []) ⟨Nat.le_refl _, rfl, by simp only [List.length_nil]; omega⟩ ⟨rfl, rfl, rfl, rfl, trivial⟩ ?_
     generalize zeb zbt f (l.length + m.length) l m = R
     clear h1 h2 z1 z2 hv hv2
     rintro ⟨n, x, y, out⟩ ⟨hn, hR, hz⟩
     dsimp only at hn hR hz ⊢
     rcases x with _ | ⟨a, x⟩
     ·rcases y with _ | ⟨b, y⟩
      ·have hR:out = R:=by rw [← hR]; cases n <;> simp [zeb]
       subst hR
       have l0:([]:List U).length = 0:=rfl
       refine ZbE ?_;refine Zx ?_;refine Z3 ?_;refine Za ?_;refine Zx ?_;refine Z3 ?_;refine Zg ?_;refine Zbd ?_
       refine zkp 8 rfl ?_
       refine Zdg ?_;refine Zl ?_;refine Zx ?_;refine Zx ?_;refine Zer ?_;refine Zaa ?_;refine Zc ?_
       refine qq L (rs:=[.tmp 6, .tmp 7]) rfl (fun _ _ h => h) Since.refl fun u H hH hle => ?_
       exact fun v hv => zrx hv
      ·have l0:([]:List U).length = 0:=rfl
       have lb:(b :: y).length = y.length + 1:=rfl
       have hb:=zi7 (l:=b :: y) (i:=0) (t:=b) rfl
       have tb:=zl5 b y
       rcases n with _ | n
       ·simp only [List.length_cons, List.length_nil] at hn; omega
       cases hft:f false true
       ·have hR:out ++ zeb zbt f n [] y = R:=by rw [← hR]; simp [zeb, hft]
        have hfv:∀ (u:World) (H:Heap), H.Le (hp u) → Ret Tryz.prog tf [.bool false, .bool true] u H (fun v _ => v = .bool false):=fun u H h => by have:=hf false true u H h; rwa [hft] at this
        refine ZbE ?_;refine Zx ?_;refine Z3 ?_;refine Za ?_;refine Zdh ?_;refine Zg ?_;refine ZdG ?_;refine Z9 ?_;refine ZeZ ?_;refine Zap ?_;refine ZG ?_;refine ZdH ?_;refine ZW ?_;refine Zz ?_;refine Zag ?_;refine ZdI ?_;refine Zan ?_;refine ZdJ ?_;refine Za7 ?_;refine ZdF ?_;refine Zl ?_;refine z7 (zbj L (kh:=.i64) (ph:=0) (km:=.i64) (pm:=0) 1 _ false rfl rfl rfl rfl rfl ⟨rfl, rfl⟩ ⟨rfl, rfl⟩ (fun h => by cases h) (by omega) (by omega) (by assumption)) rfl ?_;refine Zdd ?_;refine ZdK ?_;refine Zb6 ?_;refine Za ?_;refine Za5 ?_;refine z7 (zp L rfl rfl (zk rfl) rfl rfl hfn (fun u H hH _ _ => hfv u H hH)) rfl ?_;refine ZX ?_;refine qp ?_
        exact qy (x:=(n + 1, [], b :: y, out)) (n, [], y, out) ⟨by simp only [List.length_cons, List.length_nil] at hn ⊢; omega, hR, by simp only [List.length_cons, List.length_nil, List.length_append] at hz ⊢; omega⟩ (by dsimp only; omega) ⟨rfl, rfl, rfl, rfl, trivial⟩
       ·have hR:out ++ [b] ++ zeb zbt f n [] y = R:=by rw [← hR]; simp [zeb, hft]
        have hfv:∀ (u:World) (H:Heap), H.Le (hp u) → Ret Tryz.prog tf [.bool false, .bool true] u H (fun v _ => v = .bool true):=fun u H h => by have:=hf false true u H h; rwa [hft] at this
        refine ZbE ?_;refine Zx ?_;refine Z3 ?_;refine Za ?_;refine Zdh ?_;refine Zg ?_;refine ZdG ?_;refine Z9 ?_;refine ZeZ ?_;refine Zap ?_;refine ZG ?_;refine ZdH ?_;refine ZW ?_;refine Zz ?_;refine Zag ?_;refine ZdI ?_;refine Zan ?_;refine ZdJ ?_;refine Za7 ?_;refine ZdF ?_;refine Zl ?_;refine z7 (zbj L (kh:=.i64) (ph:=0) (km:=.i64) (pm:=0) 1 _ false rfl rfl rfl rfl rfl ⟨rfl, rfl⟩ ⟨rfl, rfl⟩ (fun h => by cases h) (by omega) (by omega) (by assumption)) rfl ?_;refine Zdd ?_;refine ZdK ?_;refine Zb6 ?_;refine Za ?_;refine Za5 ?_;refine z7 (zp L rfl rfl (zk rfl) rfl rfl hfn (fun u H hH _ _ => hfv u H hH)) rfl ?_;refine Zz ?_;refine Zct ?_;refine q8 (zal (.inl rfl) rfl rfl rfl rfl) ?_;refine ZaH ?_;refine ZR ?_;refine ZeD ?_;refine q8 (zal (.inr rfl) rfl rfl rfl rfl) ?_;refine zi ?_;refine qp ?_
        exact qy (x:=(n + 1, [], b :: y, out)) (n, [], y, out ++ [b]) ⟨by simp only [List.length_cons, List.length_nil] at hn ⊢; omega, hR, by simp only [List.length_cons, List.length_nil, List.length_append] at hz ⊢; omega⟩ (by dsimp only; omega) ⟨rfl, rfl, rfl, zi6 rfl, trivial⟩
     ·have la:(a :: x).length = x.length + 1:=rfl
      have ha:=zi7 (l:=a :: x) (i:=0) (t:=a) rfl
      have ta:=zl5 a x
      rcases y with _ | ⟨b, y⟩
      ·have l0:([]:List U).length = 0:=rfl
       rcases n with _ | n
       ·simp only [List.length_cons, List.length_nil] at hn; omega
       cases hft:f true false
       ·have hR:out ++ zeb zbt f n x [] = R:=by rw [← hR]; simp [zeb, hft]
        have hfv:∀ (u:World) (H:Heap), H.Le (hp u) → Ret Tryz.prog tf [.bool true, .bool false] u H (fun v _ => v = .bool false):=fun u H h => by have:=hf true false u H h; rwa [hft] at this
        refine ZbE ?_;refine Zdh ?_;refine Zad ?_;refine ZdG ?_;refine ZbF ?_;refine ZE ?_;refine Zx ?_;refine Z9 ?_;refine ZeZ ?_;refine ZN ?_;refine ZG ?_;refine ZdH ?_;refine Z3 ?_;refine ZcC ?_;refine Zaj ?_;refine ZdI ?_;refine ZaY ?_;refine Zb1 ?_;refine Zl ?_;refine z7 (zbj L (kh:=.i64) (ph:=0) (km:=.i64) (pm:=0) 1 _ false rfl rfl rfl rfl rfl ⟨rfl, rfl⟩ ⟨rfl, rfl⟩ (fun h => by cases h) (by omega) (by omega) (by assumption)) rfl ?_;refine Zaa ?_;refine ZdJ ?_;refine ZD ?_;refine Zt ?_;refine ZdK ?_;refine Zbo ?_;refine Za ?_;refine ZD ?_;refine z7 (zp L rfl rfl (zk rfl) rfl rfl hfn (fun u H hH _ _ => hfv u H hH)) rfl ?_;refine ZX ?_;refine qp ?_
        exact qy (x:=(n + 1, a :: x, [], out)) (n, x, [], out) ⟨by simp only [List.length_cons, List.length_nil] at hn ⊢; omega, hR, by simp only [List.length_cons, List.length_nil, List.length_append] at hz ⊢; omega⟩ (by dsimp only; omega) ⟨rfl, rfl, rfl, rfl, trivial⟩
       ·have hR:out ++ [a] ++ zeb zbt f n x [] = R:=by rw [← hR]; simp [zeb, hft]
        have hfv:∀ (u:World) (H:Heap), H.Le (hp u) → Ret Tryz.prog tf [.bool true, .bool false] u H (fun v _ => v = .bool true):=fun u H h => by have:=hf true false u H h; rwa [hft] at this
        refine ZbE ?_;refine Zdh ?_;refine Zad ?_;refine ZdG ?_;refine ZbF ?_;refine ZE ?_;refine Zx ?_;refine Z9 ?_;refine ZeZ ?_;refine ZN ?_;refine ZG ?_;refine ZdH ?_;refine Z3 ?_;refine ZcC ?_;refine Zaj ?_;refine ZdI ?_;refine ZaY ?_;refine Zb1 ?_;refine Zl ?_;refine z7 (zbj L (kh:=.i64) (ph:=0) (km:=.i64) (pm:=0) 1 _ false rfl rfl rfl rfl rfl ⟨rfl, rfl⟩ ⟨rfl, rfl⟩ (fun h => by cases h) (by omega) (by omega) (by assumption)) rfl ?_;refine Zaa ?_;refine ZdJ ?_;refine ZD ?_;refine Zt ?_;refine ZdK ?_;refine Zbo ?_;refine Za ?_;refine ZD ?_;refine z7 (zp L rfl rfl (zk rfl) rfl rfl hfn (fun u H hH _ _ => hfv u H hH)) rfl ?_;refine Zz ?_;refine Zct ?_;refine q8 (zal (.inl rfl) rfl rfl rfl rfl) ?_;refine ZaH ?_;refine ZR ?_;refine ZeD ?_;refine q8 (zal (.inr rfl) rfl rfl rfl rfl) ?_;refine zi ?_;refine qp ?_
        exact qy (x:=(n + 1, a :: x, [], out)) (n, x, [], out ++ [a]) ⟨by simp only [List.length_cons, List.length_nil] at hn ⊢; omega, hR, by simp only [List.length_cons, List.length_nil, List.length_append] at hz ⊢; omega⟩ (by dsimp only; omega) ⟨rfl, rfl, rfl, zi6 rfl, trivial⟩
      ·have lb:(b :: y).length = y.length + 1:=rfl
       have hb:=zi7 (l:=b :: y) (i:=0) (t:=b) rfl
       have tb:=zl5 b y
       by_cases c1:zbt a b < 0
       ·rcases n with _ | n
        ·simp only [List.length_cons, List.length_nil] at hn; omega
        cases hft:f true false
        ·have hR:out ++ zeb zbt f n x (b :: y) = R:=by rw [← hR]; simp [zeb, c1, hft]
         have hfv:∀ (u:World) (H:Heap), H.Le (hp u) → Ret Tryz.prog tf [.bool true, .bool false] u H (fun v _ => v = .bool false):=fun u H h => by have:=hf true false u H h; rwa [hft] at this
         refine ZbE ?_;refine Zdh ?_;refine Zad ?_;refine ZdG ?_;refine ZbF ?_;refine ZE ?_;refine Zx ?_;refine ZL ?_;refine Zd8 ?_;refine Zb8 ?_;refine ZcL ?_;refine ZcL ?_;refine zd (zp L rfl rfl (zk rfl) rfl rfl rfl (fun u H hH _ _ => zc1 hH)) rfl ?_;refine Za2 ?_;refine qe ?_;refine qp ?_;refine ZdH ?_;refine Z3 ?_;refine ZcC ?_;refine Zaj ?_;refine ZdI ?_;refine ZaY ?_;refine Zb1 ?_;refine Zl ?_;refine z7 (zbj L (kh:=.i64) (ph:=0) (km:=.i64) (pm:=0) 1 _ false rfl rfl rfl rfl rfl ⟨rfl, rfl⟩ ⟨rfl, rfl⟩ (fun h => by cases h) (by omega) (by omega) (by assumption)) rfl ?_;refine Zaa ?_;refine ZdJ ?_;refine ZD ?_;refine Zt ?_;refine ZdK ?_;refine Zbo ?_;refine Za ?_;refine ZD ?_;refine z7 (zp L rfl rfl (zk rfl) rfl rfl hfn (fun u H hH _ _ => hfv u H hH)) rfl ?_;refine ZX ?_;refine qp ?_
         exact qy (x:=(n + 1, a :: x, b :: y, out)) (n, x, (b :: y), out) ⟨by simp only [List.length_cons, List.length_nil] at hn ⊢; omega, hR, by simp only [List.length_cons, List.length_nil, List.length_append] at hz ⊢; omega⟩ (by dsimp only; omega) ⟨rfl, rfl, rfl, rfl, trivial⟩
        ·have hR:out ++ [a] ++ zeb zbt f n x (b :: y) = R:=by rw [← hR]; simp [zeb, c1, hft]
         have hfv:∀ (u:World) (H:Heap), H.Le (hp u) → Ret Tryz.prog tf [.bool true, .bool false] u H (fun v _ => v = .bool true):=fun u H h => by have:=hf true false u H h; rwa [hft] at this
         refine ZbE ?_;refine Zdh ?_;refine Zad ?_;refine ZdG ?_;refine ZbF ?_;refine ZE ?_;refine Zx ?_;refine ZL ?_;refine Zd8 ?_;refine Zb8 ?_;refine ZcL ?_;refine ZcL ?_;refine zd (zp L rfl rfl (zk rfl) rfl rfl rfl (fun u H hH _ _ => zc1 hH)) rfl ?_;refine Za2 ?_;refine qe ?_;refine qp ?_;refine ZdH ?_;refine Z3 ?_;refine ZcC ?_;refine Zaj ?_;refine ZdI ?_;refine ZaY ?_;refine Zb1 ?_;refine Zl ?_;refine z7 (zbj L (kh:=.i64) (ph:=0) (km:=.i64) (pm:=0) 1 _ false rfl rfl rfl rfl rfl ⟨rfl, rfl⟩ ⟨rfl, rfl⟩ (fun h => by cases h) (by omega) (by omega) (by assumption)) rfl ?_;refine Zaa ?_;refine ZdJ ?_;refine ZD ?_;refine Zt ?_;refine ZdK ?_;refine Zbo ?_;refine Za ?_;refine ZD ?_;refine z7 (zp L rfl rfl (zk rfl) rfl rfl hfn (fun u H hH _ _ => hfv u H hH)) rfl ?_;refine Zz ?_;refine Zct ?_;refine q8 (zal (.inl rfl) rfl rfl rfl rfl) ?_;refine ZaH ?_;refine ZR ?_;refine ZeD ?_;refine q8 (zal (.inr rfl) rfl rfl rfl rfl) ?_;refine zi ?_;refine qp ?_
         exact qy (x:=(n + 1, a :: x, b :: y, out)) (n, x, (b :: y), out ++ [a]) ⟨by simp only [List.length_cons, List.length_nil] at hn ⊢; omega, hR, by simp only [List.length_cons, List.length_nil, List.length_append] at hz ⊢; omega⟩ (by dsimp only; omega) ⟨rfl, rfl, rfl, zi6 rfl, trivial⟩
       ·by_cases c2:0 < zbt a b
        ·rcases n with _ | n
         ·simp only [List.length_cons, List.length_nil] at hn; omega
         cases hft:f false true
         ·have hR:out ++ zeb zbt f n (a :: x) y = R:=by rw [← hR]; simp [zeb, c1, c2, hft]
          have hfv:∀ (u:World) (H:Heap), H.Le (hp u) → Ret Tryz.prog tf [.bool false, .bool true] u H (fun v _ => v = .bool false):=fun u H h => by have:=hf false true u H h; rwa [hft] at this
          refine ZbE ?_;refine Zdh ?_;refine Zad ?_;refine ZdG ?_;refine ZbF ?_;refine ZE ?_;refine Zx ?_;refine ZL ?_;refine Zd8 ?_;refine Zb8 ?_;refine ZcL ?_;refine ZcL ?_;refine zd (zp L rfl rfl (zk rfl) rfl rfl rfl (fun u H hH _ _ => zc1 hH)) rfl ?_;refine Za2 ?_;refine qe ?_;refine qp ?_;refine ZdH ?_;refine ZW ?_;refine Zz ?_;refine Zag ?_;refine ZdI ?_;refine Zan ?_;refine ZdJ ?_;refine Za7 ?_;refine ZdF ?_;refine Zl ?_;refine z7 (zbj L (kh:=.i64) (ph:=0) (km:=.i64) (pm:=0) 1 _ false rfl rfl rfl rfl rfl ⟨rfl, rfl⟩ ⟨rfl, rfl⟩ (fun h => by cases h) (by omega) (by omega) (by assumption)) rfl ?_;refine Zdd ?_;refine ZdK ?_;refine Zb6 ?_;refine Za ?_;refine Za5 ?_;refine z7 (zp L rfl rfl (zk rfl) rfl rfl hfn (fun u H hH _ _ => hfv u H hH)) rfl ?_;refine ZX ?_;refine qp ?_
          exact qy (x:=(n + 1, a :: x, b :: y, out)) (n, (a :: x), y, out) ⟨by simp only [List.length_cons, List.length_nil] at hn ⊢; omega, hR, by simp only [List.length_cons, List.length_nil, List.length_append] at hz ⊢; omega⟩ (by dsimp only; omega) ⟨rfl, rfl, rfl, rfl, trivial⟩
         ·have hR:out ++ [b] ++ zeb zbt f n (a :: x) y = R:=by rw [← hR]; simp [zeb, c1, c2, hft]
          have hfv:∀ (u:World) (H:Heap), H.Le (hp u) → Ret Tryz.prog tf [.bool false, .bool true] u H (fun v _ => v = .bool true):=fun u H h => by have:=hf false true u H h; rwa [hft] at this
          refine ZbE ?_;refine Zdh ?_;refine Zad ?_;refine ZdG ?_;refine ZbF ?_;refine ZE ?_;refine Zx ?_;refine ZL ?_;refine Zd8 ?_;refine Zb8 ?_;refine ZcL ?_;refine ZcL ?_;refine zd (zp L rfl rfl (zk rfl) rfl rfl rfl (fun u H hH _ _ => zc1 hH)) rfl ?_;refine Za2 ?_;refine qe ?_;refine qp ?_;refine ZdH ?_;refine ZW ?_;refine Zz ?_;refine Zag ?_;refine ZdI ?_;refine Zan ?_;refine ZdJ ?_;refine Za7 ?_;refine ZdF ?_;refine Zl ?_;refine z7 (zbj L (kh:=.i64) (ph:=0) (km:=.i64) (pm:=0) 1 _ false rfl rfl rfl rfl rfl ⟨rfl, rfl⟩ ⟨rfl, rfl⟩ (fun h => by cases h) (by omega) (by omega) (by assumption)) rfl ?_;refine Zdd ?_;refine ZdK ?_;refine Zb6 ?_;refine Za ?_;refine Za5 ?_;refine z7 (zp L rfl rfl (zk rfl) rfl rfl hfn (fun u H hH _ _ => hfv u H hH)) rfl ?_;refine Zz ?_;refine Zct ?_;refine q8 (zal (.inl rfl) rfl rfl rfl rfl) ?_;refine ZaH ?_;refine ZR ?_;refine ZeD ?_;refine q8 (zal (.inr rfl) rfl rfl rfl rfl) ?_;refine zi ?_;refine qp ?_
          exact qy (x:=(n + 1, a :: x, b :: y, out)) (n, (a :: x), y, out ++ [b]) ⟨by simp only [List.length_cons, List.length_nil] at hn ⊢; omega, hR, by simp only [List.length_cons, List.length_nil, List.length_append] at hz ⊢; omega⟩ (by dsimp only; omega) ⟨rfl, rfl, rfl, zi6 rfl, trivial⟩
        ·rcases n with _ | n
         ·simp only [List.length_cons, List.length_nil] at hn; omega
         cases hft:f true true
         ·have hR:out ++ zeb zbt f n x y = R:=by rw [← hR]; simp [zeb, c1, c2, hft]
          have hfv:∀ (u:World) (H:Heap), H.Le (hp u) → Ret Tryz.prog tf [.bool true, .bool true] u H (fun v _ => v = .bool false):=fun u H h => by have:=hf true true u H h; rwa [hft] at this
          refine ZbE ?_;refine Zdh ?_;refine Zad ?_;refine ZdG ?_;refine ZbF ?_;refine ZE ?_;refine Zx ?_;refine ZL ?_;refine Zd8 ?_;refine Zb8 ?_;refine ZcL ?_;refine ZcL ?_;refine zd (zp L rfl rfl (zk rfl) rfl rfl rfl (fun u H hH _ _ => zc1 hH)) rfl ?_;refine Za2 ?_;refine qe ?_;refine qp ?_;refine ZdH ?_;refine Z3 ?_;refine ZcC ?_;refine Zaj ?_;refine ZdI ?_;refine ZaY ?_;refine Zb1 ?_;refine Zl ?_;refine z7 (zbj L (kh:=.i64) (ph:=0) (km:=.i64) (pm:=0) 1 _ false rfl rfl rfl rfl rfl ⟨rfl, rfl⟩ ⟨rfl, rfl⟩ (fun h => by cases h) (by omega) (by omega) (by assumption)) rfl ?_;refine Zaa ?_;refine ZdJ ?_;refine Za7 ?_;refine ZdF ?_;refine Zl ?_;refine z7 (zbj L (kh:=.i64) (ph:=0) (km:=.i64) (pm:=0) 1 _ false rfl rfl rfl rfl rfl ⟨rfl, rfl⟩ ⟨rfl, rfl⟩ (fun h => by cases h) (by omega) (by omega) (by assumption)) rfl ?_;refine Zdd ?_;refine ZdK ?_;refine Zbo ?_;refine Za ?_;refine Za5 ?_;refine z7 (zp L rfl rfl (zk rfl) rfl rfl hfn (fun u H hH _ _ => hfv u H hH)) rfl ?_;refine ZX ?_;refine qp ?_
          exact qy (x:=(n + 1, a :: x, b :: y, out)) (n, x, y, out) ⟨by simp only [List.length_cons, List.length_nil] at hn ⊢; omega, hR, by simp only [List.length_cons, List.length_nil, List.length_append] at hz ⊢; omega⟩ (by dsimp only; omega) ⟨rfl, rfl, rfl, rfl, trivial⟩
         ·have hR:out ++ [a] ++ zeb zbt f n x y = R:=by rw [← hR]; simp [zeb, c1, c2, hft]
          have hfv:∀ (u:World) (H:Heap), H.Le (hp u) → Ret Tryz.prog tf [.bool true, .bool true] u H (fun v _ => v = .bool true):=fun u H h => by have:=hf true true u H h; rwa [hft] at this
          refine ZbE ?_;refine Zdh ?_;refine Zad ?_;refine ZdG ?_;refine ZbF ?_;refine ZE ?_;refine Zx ?_;refine ZL ?_;refine Zd8 ?_;refine Zb8 ?_;refine ZcL ?_;refine ZcL ?_;refine zd (zp L rfl rfl (zk rfl) rfl rfl rfl (fun u H hH _ _ => zc1 hH)) rfl ?_;refine Za2 ?_;refine qe ?_;refine qp ?_;refine ZdH ?_;refine Z3 ?_;refine ZcC ?_;refine Zaj ?_;refine ZdI ?_;refine ZaY ?_;refine Zb1 ?_;refine Zl ?_;refine z7 (zbj L (kh:=.i64) (ph:=0) (km:=.i64) (pm:=0) 1 _ false rfl rfl rfl rfl rfl ⟨rfl, rfl⟩ ⟨rfl, rfl⟩ (fun h => by cases h) (by omega) (by omega) (by assumption)) rfl ?_;refine Zaa ?_;refine ZdJ ?_;refine Za7 ?_;refine ZdF ?_;refine Zl ?_;refine z7 (zbj L (kh:=.i64) (ph:=0) (km:=.i64) (pm:=0) 1 _ false rfl rfl rfl rfl rfl ⟨rfl, rfl⟩ ⟨rfl, rfl⟩ (fun h => by cases h) (by omega) (by omega) (by assumption)) rfl ?_;refine Zdd ?_;refine ZdK ?_;refine Zbo ?_;refine Za ?_;refine Za5 ?_;refine z7 (zp L rfl rfl (zk rfl) rfl rfl hfn (fun u H hH _ _ => hfv u H hH)) rfl ?_;refine Zz ?_;refine Zct ?_;refine q8 (zal (.inl rfl) rfl rfl rfl rfl) ?_;refine ZaH ?_;refine ZR ?_;refine ZeD ?_;refine q8 (zal (.inr rfl) rfl rfl rfl rfl) ?_;refine zi ?_;refine qp ?_
          exact qy (x:=(n + 1, a :: x, b :: y, out)) (n, x, y, out ++ [a]) ⟨by simp only [List.length_cons, List.length_nil] at hn ⊢; omega, hR, by simp only [List.length_cons, List.length_nil, List.length_append] at hz ⊢; omega⟩ (by dsimp only; omega) ⟨rfl, rfl, rfl, zi6 rfl, trivial⟩
end Go.V.L2
set_option maxRecDepth 20000
namespace Go.V.L11
open Go.Proofs Go.RowKit Go.V Go.V.L2 Go.V.L4
theorem _root_.Go.V.Zca {A B:Prop} (h:B) (t:Wr B → A:=by intro h; refine Ze ?_;refine ZC ?_;exact h.h):A:=t ⟨h⟩
abbrev z07:Nat:=37
abbrev tyI:Nat:=3
abbrev tyE:Nat:=43
attribute [local irreducible] V N X VO Par StepOK Has Ret RetL RetO RetT zbd RetX RetY Src
theorem zi1 {y r:ByteArray} (h:zij y = some r) (hs:y.size ≤ 9223372036854775807) {w:World} {B:Heap} (hB:B.Le (hp w)) :
  Ret Tryz.prog 130 [.string y, .string ⟨#[10]⟩] w B (fun v _ => v = .tuple #[.string r, .bool true]):=by
 have e1:=zg5 h
 have e:y.data.toList = r.data.toList ++ [10]:=by rw [e1, zar]
 have h1:Lib.hasSuffix y.data.toList [10] = true:=by
  rw [e]
  exact List.isSuffixOf_iff_suffix.2 (List.suffix_append _ _)
 refine zre hs h1 ?_ hB
 unfold Lib.trimSuffix
 rw [if_pos h1, e]
 apply zbf
 simp
theorem zvs {y:ByteArray} (h:zij y = none) (hs:y.size ≤ 9223372036854775807) {w:World} {B:Heap} (hB:B.Le (hp w)) :
  Ret Tryz.prog 130 [.string y, .string ⟨#[10]⟩] w B (fun v _ => v = .tuple #[.string y, .bool false]):=by
 have h1:Lib.hasSuffix y.data.toList [10] = false:=by
  cases hh:Lib.hasSuffix y.data.toList [10]
  ·rfl
  ·obtain ⟨t, ht⟩:=List.isSuffixOf_iff_suffix.1 hh
   unfold zij at h
   rw [if_pos (by rw [← ht]; simp)] at h
   cases h
 refine zre hs h1 ?_ hB
 unfold Lib.trimSuffix
 rw [if_neg (by rw [h1]; decide)]
set_option maxRecDepth 20000 in
set_option maxHeartbeats 2000000 in
theorem zr7 {rd:ByteArray → U × Int} {rdf:Nat} (hfn:L.fn rdf = some ()) {s:ByteArray} (hs:s.size ≤ 1000000) {w:World} {B:Heap} (hB:B.Le (hp w))
  (hrd:∀ (r:ByteArray), r.size ≤ 1000000 → ∀ (u:World) (H:Heap), H.Le (hp u) → B.Le H → Ret Tryz.prog rdf [.string r] u H (fun v _ => v = .tuple #[uv (rd r).1, .int .i64 (rd r).2])) :
  Ret Tryz.prog 62 [.string s, .func (.func rdf) #[] #[]] w B (TupS [US (zfb rd s).1 true, fun v _ => v = .int .i64 (zfb rd s).2.1, fun v _ => v = .int .i64 (zfb rd s).2.2]):=by
 have hF:zfb rd s = zde rd [] 1 (zb9 s):=if_neg (by omega)
 rw [hF]
 refine qt Tryz.func62 rfl Tryz.ntmps62 (Nat.le_of_ble_eq_true rfl) hB ?_
 refine ZaF ?_;refine Z6 ?_;refine Z6 ?_;refine ZaI ?_;refine Z4 ?_;refine ZaB ?_;refine ZaX ?_;refine Zo ?_;refine ZaI ?_;refine Zi ?_;refine z7 (zag L rfl rfl (zk rfl) rfl rfl rfl LinAt.mono (fun u H hH _ _ => zod hH)) rfl ?_;refine ZbI ?_
 refine za5 3 83 rfl fun b3 => ?_
 refine zgd 83 rfl fun H1 hs1 _ hb3 => ?_
 refine za5 4 84 rfl fun b4 => ?_
 refine za5 5 85 rfl fun b5 => ?_
 refine za5 6 86 rfl fun b6 => ?_
 refine zfu 7 rfl fun b7 hb7 => ?_
 refine zh1 87 tyU 6 ?_
 refine zh2 87 [] rfl rfl ?_
 refine zkq 18 rfl fun v18 H2 hs2 ⟨lb, e18, hlb⟩ => ?_
 subst e18
 have hsB:=hs1.trans hs2
 have hnil:zde rd [] 1 (zhi []) = ([], 0, 0):=rfl
 refine zd5 L (gf:=198) (caps:=[za3 lb]) [(3, za3 b3), (4, za3 b4), (5, za3 b5), (6, za3 b6), (7, za3 b7)]
  (fun pre => [(84, zaj b4 [.slice none 0 0] z07), (85, zaj b5 [.int .i64 (zde rd [] 1 (zhi pre)).2.1] tyI), (86, zaj b6 [.int .i64 (zde rd [] 1 (zhi pre)).2.2] tyE), (87, zs7 b7 z07 (SlR tyU 6 (zig rd 1 (zhi pre)).length ((zig rd 1 (zhi pre)).flatMap ucs)))])
  (fun pre x => [(84, .own (zaj b4 [.slice none 0 0] z07)), (85, .own (zaj b5 [.int .i64 (zde rd [] 1 (zhi pre)).2.1] tyI)), (86, .own (zaj b6 [.int .i64 (zde rd [] 1 (zhi pre)).2.2] tyE)), (87, .own (zs7 b7 z07 (SlR tyU 6 (zig rd 1 (zhi pre)).length ((zig rd 1 (zhi pre)).flatMap ucs)))),
   (3, .is (za3 b3)), (4, .is (za3 b4)), (5, .is (za3 b5)), (6, .is (za3 b6)), (7, .is (za3 b7)), (8, .is (x.headD undef)), (9, .is (x.tail.headD undef))])
  (zc6 1 (zb6 (zb9 s))) (fun p => !zba rd 1 (zhi p)) (fun _ => .ret) rfl rfl rfl ⟨rfl, rfl, rfl, rfl, rfl, rfl, rfl, rfl, rfl, trivial⟩
  (fun pre p hp => by simp only [List.mem_cons, List.not_mem_nil, or_false] at hp; rcases hp with rfl | rfl | rfl | rfl <;> exact Nat.le_of_ble_eq_true rfl) rfl
  (fun x hx => by obtain ⟨p, q, e⟩:=List.append_of_mem hx; obtain ⟨ls, y, _, rfl, _⟩:=zlf (pre:=p) (x:=x) ⟨q, by rw [e]; simp⟩; rfl) (by decide)
  (fun u H hH hle => zj7 (by omega) hH (hle _ _ hlb)) ?asg ?bd ?dn ?st
 case asg =>
  intro w1 Ln B' l' D' o pre x' hpre hstp hBB
  obtain ⟨ls, y, rfl, rfl, hls⟩:=zlf hpre
  refine Zbq ?_;refine Zc ?_;refine Zak ?_;refine Zax ?_
  exact zsz Since.refl ⟨rfl, rfl, rfl, rfl, rfl, rfl, rfl, rfl, rfl, rfl, rfl, trivial⟩
 case bd =>
  intro w1 Ln B' l' D' o pre x' hpre hstp hBB
  obtain ⟨ls, y, rfl, rfl, hls⟩:=zlf hpre
  have hg:zba rd 1 ls = true:=by
   have:=hstp
   rw [za0] at this
   simpa using this
  have e3:=zgy ls y
  rw [← e3]
  have hb3':=hBB _ _ (hs2.le _ _ hb3)
  have hln:ls.length + 1 ≤ 1000000:=by
   have h1:=hls.length_le
   have h2:=zf0 s
   rw [List.length_append] at h1
   simp at h1
   omega
  have hys:y.size ≤ 1000000:=by
   have:=zoe (s:=s) (y:=y) (hls.subset (by simp))
   omega
  rw [za0, zey hg, zhs hg]
  have hvl:(zd8 rd ls).length ≤ ls.length:=zev
  by_cases hn:4096 < ls.length + 1
  ·have hp:=zgw (rd:=rd) (ys:=[]) (y:=y) hg (by omega)
   have hbad:zba rd 1 (ls ++ [y]) = false:=by rw [zbg, hg]; unfold zf4; simp; omega
   have how:zig rd 1 (ls ++ [y]) = zd8 rd ls:=by rw [zdb hg]; unfold zig; rw [if_pos (by unfold zf4; simp; omega), List.append_nil]
   refine q6 ?_;refine Zca ?_;refine ZW ?_;refine Zv ?_;refine ZS ?_;refine zam (qs L (q:=84) (cs':=[.slice none 0 0]) rfl rfl rfl rfl rfl rfl rfl rfl rfl) ?_;refine zam (qs L (q:=85) (cs':=[.int .i64 ((ls.length + 1:Nat):Int)]) rfl rfl rfl rfl rfl rfl rfl rfl rfl) ?_;refine zam (qs L (q:=86) (cs':=[.int .i64 3]) rfl rfl rfl rfl rfl rfl rfl rfl rfl) ?_;refine Z1 ?_
   refine zha (zkr (ze6 (zm7 Since.refl (by rw [za0, hbad]; rfl) rfl ?_)))
   rw [za0, hp, how, Nat.add_comm 1]
   exact ⟨rfl, rfl, rfl, rfl, trivial⟩
  ·cases he:zij y with
   | none =>
    have hp:=zfj (rd:=rd) (ys:=[]) (y:=y) hg (by omega) he
    have hbad:zba rd 1 (ls ++ [y]) = false:=by rw [zbg, hg]; unfold zf4; rw [he]; simp
    have how:zig rd 1 (ls ++ [y]) = zd8 rd ls:=by rw [zdb hg]; unfold zig; rw [if_pos (by unfold zf4; rw [he]; simp), List.append_nil]
    refine q6 ?_;refine Zca ?_;refine ZaX ?_;refine Zaz ?_;refine z7 (zp L rfl rfl (zk rfl) rfl rfl rfl (fun u H hH _ _ => zvs he (by omega) hH)) rfl ?_;refine Zck ?_;refine Zcq ?_;refine Zu ?_;refine Zv ?_;refine ZaZ ?_;refine zam (qs L (q:=84) (cs':=[.slice none 0 0]) rfl rfl rfl rfl rfl rfl rfl rfl rfl) ?_;refine zam (qs L (q:=85) (cs':=[.int .i64 ((ls.length + 1:Nat):Int)]) rfl rfl rfl rfl rfl rfl rfl rfl rfl) ?_;refine zam (qs L (q:=86) (cs':=[.int .i64 5]) rfl rfl rfl rfl rfl rfl rfl rfl rfl) ?_;refine Z1 ?_
    refine zha (zkr (ze6 (zm7 Since.refl (by rw [za0, hbad]; rfl) rfl ?_)))
    rw [za0, hp, how, Nat.add_comm 1]
    exact ⟨rfl, rfl, rfl, rfl, trivial⟩
   | some r =>
    have hrs:r.size ≤ 1000000:=by
     have:=congrArg ByteArray.size (zg5 he)
     rw [ByteArray.size_append] at this
     omega
    obtain ⟨t, e, hrt⟩:∃ t e, rd r = (t, e):=⟨_, _, rfl⟩
    have hrr:=hrd r hrs
    rw [hrt] at hrr
    by_cases h0:e = 0
    ·subst h0
     have hgood:zba rd 1 (ls ++ [y]) = true:=by rw [zbg, hg]; unfold zf4; rw [he]; simp [hrt]; omega
     have hp:=zey hgood
     have how:=zhs hgood
     have hvs:=zff (rd:=rd) (ls:=ls) he
     rw [hrt] at hvs
     refine q6 ?_;refine Zca ?_;refine ZaX ?_;refine Zaz ?_;refine z7 (zp L rfl rfl (zk rfl) rfl rfl rfl (fun u H hH _ _ => zi1 he (by omega) hH)) rfl ?_;refine Zck ?_;refine Zcq ?_;refine Zu ?_;refine Zt ?_;refine ZN ?_;refine z7 (q9 L (qm rfl hb3') rfl rfl rfl rfl) rfl ?_;refine Za ?_;refine z7 (zp L rfl rfl (zk rfl) rfl rfl hfn (fun u H hH hle _ => hrr u H hH (hsB.le.trans (hBB.trans hle)))) rfl ?_;refine ZaG ?_;refine ZbC ?_;refine Zal ?_;refine Zd1 ?_
     refine zeu 87 _ rfl SlR.shape fun z hz => ?_
     obtain ⟨p, c, rfl⟩:=hz
     refine Zag ?_;refine ZbX ?_;refine zcq 42 87 rfl rfl ?_;refine ZaH ?_;refine ZR ?_;refine ZeD ?_;refine zej 45 87 _ rfl SlR.shape fun z hz => ?_;obtain ⟨p', c', rfl⟩:=hz; refine Zf2 ?_;refine zi ?_;refine qp ?_
     refine zh3 87 [] rfl rfl ?_
     refine zs1 Since.refl (by rw [za0, hgood]; rfl) ?_
     rw [za0, hp, how, hvs, List.flatMap_append, List.length_append]
     exact ⟨rfl, rfl, rfl, rfl, trivial⟩
    ·have hp:=zdk (rd:=rd) (ys:=[]) (y:=y) hg (by omega) he (by rw [hrt]; exact h0)
     rw [hrt] at hp
     have hbad:zba rd 1 (ls ++ [y]) = false:=by rw [zbg, hg]; unfold zf4; rw [he]; simp [hrt, h0]
     have how:zig rd 1 (ls ++ [y]) = zd8 rd ls:=by rw [zdb hg]; unfold zig; rw [if_pos (by unfold zf4; rw [he]; simp [hrt, h0]), List.append_nil]
     refine q6 ?_;refine Zca ?_;refine ZaX ?_;refine Zaz ?_;refine z7 (zp L rfl rfl (zk rfl) rfl rfl rfl (fun u H hH _ _ => zi1 he (by omega) hH)) rfl ?_;refine Zck ?_;refine Zcq ?_;refine Zu ?_;refine Zt ?_;refine ZN ?_;refine z7 (q9 L (qm rfl hb3') rfl rfl rfl rfl) rfl ?_;refine Za ?_;refine z7 (zp L rfl rfl (zk rfl) rfl rfl hfn (fun u H hH hle _ => hrr u H hH (hsB.le.trans (hBB.trans hle)))) rfl ?_;refine ZaG ?_;refine ZbC ?_;refine ZF ?_;refine Zay ?_;refine Zb ?_;refine zam (qs L (q:=84) (cs':=[.slice none 0 0]) rfl rfl rfl rfl rfl rfl rfl rfl rfl) ?_;refine zam (qs L (q:=85) (cs':=[.int .i64 ((ls.length + 1:Nat):Int)]) rfl rfl rfl rfl rfl rfl rfl rfl rfl) ?_;refine zam (qs L (q:=86) (cs':=[.int .i64 e]) rfl rfl rfl rfl rfl rfl rfl rfl rfl) ?_;refine Z1 ?_
     refine zha (zkr (ze6 (zm7 Since.refl (by rw [za0, hbad]; rfl) rfl ?_)))
     rw [za0, hp, how, Nat.add_comm 1]
     exact ⟨rfl, rfl, rfl, rfl, trivial⟩
 case st =>
  intro l' D' o hstop
  obtain ⟨ks, h1, h2, h3⟩:=zfg rd (zb9 s) [] rfl
  have h1':za7 (fun p => !zba rd 1 (zhi p)) [] (zc6 1 (zb6 (zb9 s))) = zc6 1 (zb6 ks):=h1
  rw [h1', za0] at hstop
  have hbad:zba rd 1 ks = false:=by simpa using hstop
  have hn1:=zgv (out:=[]) hbad
  have h2':zde rd [] 1 ks = zde rd [] 1 (zb9 s):=h2
  rw [h1', za0, h2']
  rw [h2'] at hn1
  generalize zde rd [] 1 (zb9 s) = R at hn1 ⊢
  obtain ⟨R1, R2, R3⟩:=R
  dsimp only at hn1
  subst hn1
  refine zb3 4 84 rfl rfl ?_
  refine zb3 5 85 rfl rfl ?_
  refine zb3 6 86 rfl rfl ?_
  refine zov L (rs:=[.cell 4 z07, .cell 5 tyI, .cell 6 tyE]) rfl (fun _ _ h => h) hsB fun O' u H hH hle => ?_
  exact zbc (qk rfl) rfl (zbc (qk rfl) rfl (zbc (qk rfl) rfl (tup3 SlV.nil rfl rfl)))
 case dn =>
  intro l' D' o hgo
  obtain ⟨ks, h1, h2, h3⟩:=zfg rd (zb9 s) [] rfl
  have h1':za7 (fun p => !zba rd 1 (zhi p)) [] (zc6 1 (zb6 (zb9 s))) = zc6 1 (zb6 ks):=h1
  rw [h1', za0] at hgo
  have hg:zba rd 1 ks = true:=by simpa using hgo
  have hkl:ks = zb9 s:=h3 hg
  have hll:=zf0 s
  have hvl:(zd8 rd ks).length ≤ ks.length:=zev
  rw [h1', za0, ← hkl, zey hg, zhs hg]
  refine qp ?_
  refine zj ?_
  refine zeu 87 _ rfl SlR.shape fun z hz => ?_
  obtain ⟨p, c, rfl⟩:=hz
  refine zh ?_;refine Zaj ?_;refine ZbX ?_;refine zcq 46 87 rfl rfl ?_;refine zi5 46 rfl ?_;refine ZbX ?_;refine Zdy ?_;refine ZbX ?_;refine Zdy ?_;refine Zer ?_;refine zd7 51 rfl fun sv H3 hs3 hsv => ?_;obtain ⟨p1, c1, rfl⟩:=zcj hsv; refine zam (qs L (q:=84) (cs':=[.slice p1 (zd8 rd ks).length c1]) rfl rfl rfl rfl rfl rfl rfl rfl rfl) ?_;refine zam (qs L (q:=85) (cs':=[.int .i64 0]) rfl rfl rfl rfl rfl rfl rfl rfl rfl) ?_;refine zam (qs L (q:=86) (cs':=[.int .i64 0]) rfl rfl rfl rfl rfl rfl rfl rfl rfl) ?_;refine Z1 ?_
  refine zb3 4 84 rfl rfl ?_
  refine zb3 5 85 rfl rfl ?_
  refine zb3 6 86 rfl rfl ?_
  refine zov L (rs:=[.cell 4 z07, .cell 5 tyI, .cell 6 tyE]) rfl (fun _ _ h => h) (hsB.trans hs3) fun O' u H hH hle => ?_
  exact zbc (qk rfl) rfl (zbc (qk rfl) rfl (zbc (qk rfl) rfl (tup3 (hsv.le hle) rfl rfl)))
end Go.V.L11
set_option maxRecDepth 20000
namespace Go.V.L11
open Go.Proofs Go.RowKit Go.V Go.V.L2 Go.V.L4 Go.V.L8
theorem _root_.Go.V.Zez {A B:Prop} (h:B) (t:Wr B → A:=by intro h; refine q8 (zce L rfl rfl rfl (zkw rfl) rfl z2o rfl rfl (by omega) (by omega)) ?_;exact h.h):A:=t ⟨h⟩
attribute [local irreducible] V N X VO Par StepOK Has Ret RetL RetO RetT zbd RetX RetY Src
set_option maxRecDepth 20000 in
set_option maxHeartbeats 2000000 in
theorem zr8 {rd:ByteArray → CH × Int} {rdf:Nat} (hfn:L.fn rdf = some ()) {s:ByteArray} (hs:s.size ≤ 1000000) {w:World} {B:Heap} (hB:B.Le (hp w))
  (hrd:∀ (r:ByteArray), r.size ≤ 1000000 → ∀ (u:World) (H:Heap), H.Le (hp u) → B.Le H → Ret Tryz.prog rdf [.string r] u H (fun v _ => v = .tuple #[cvC (rd r).1, .int .i64 (rd r).2])) :
  Ret Tryz.prog 64 [.string s, .func (.func rdf) #[] #[]] w B (TupS [KS tyC (zfb rd s).1 true, fun v _ => v = .int .i64 (zfb rd s).2.1, fun v _ => v = .int .i64 (zfb rd s).2.2]):=by
 have hF:zfb rd s = zde rd [] 1 (zb9 s):=if_neg (by omega)
 rw [hF]
 refine qt Tryz.func64 rfl Tryz.ntmps64 (Nat.le_of_ble_eq_true rfl) hB ?_
 refine ZaF ?_;refine Z6 ?_;refine Z6 ?_;refine ZaI ?_;refine Z4 ?_;refine ZaB ?_;refine ZaX ?_;refine Zo ?_;refine ZaI ?_;refine Zi ?_;refine z7 (zag L rfl rfl (zk rfl) rfl rfl rfl LinAt.mono (fun u H hH _ _ => zod hH)) rfl ?_;refine ZbI ?_
 refine za5 3 83 rfl fun b3 => ?_
 refine zgd 83 rfl fun H1 hs1 _ hb3 => ?_
 refine za5 4 84 rfl fun b4 => ?_
 refine za5 5 85 rfl fun b5 => ?_
 refine za5 6 86 rfl fun b6 => ?_
 refine zfu 7 rfl fun b7 hb7 => ?_
 refine zh1 87 tyC 7 ?_
 refine zh2 87 [] rfl rfl ?_
 refine zkq 18 rfl fun v18 H2 hs2 ⟨lb, e18, hlb⟩ => ?_
 subst e18
 have hsB:=hs1.trans hs2
 have hnil:zde rd [] 1 (zhi []) = ([], 0, 0):=rfl
 refine zd5 L (gf:=198) (caps:=[za3 lb]) [(3, za3 b3), (4, za3 b4), (5, za3 b5), (6, za3 b6), (7, za3 b7)]
  (fun pre => [(84, zaj b4 [.slice none 0 0] zy9), (85, zaj b5 [.int .i64 (zde rd [] 1 (zhi pre)).2.1] tyI), (86, zaj b6 [.int .i64 (zde rd [] 1 (zhi pre)).2.2] tyE), (87, zs7 b7 zy9 (SlR tyC 7 (zig rd 1 (zhi pre)).length ((zig rd 1 (zhi pre)).flatMap ccs)))])
  (fun pre x => [(84, .own (zaj b4 [.slice none 0 0] zy9)), (85, .own (zaj b5 [.int .i64 (zde rd [] 1 (zhi pre)).2.1] tyI)), (86, .own (zaj b6 [.int .i64 (zde rd [] 1 (zhi pre)).2.2] tyE)), (87, .own (zs7 b7 zy9 (SlR tyC 7 (zig rd 1 (zhi pre)).length ((zig rd 1 (zhi pre)).flatMap ccs)))),
   (3, .is (za3 b3)), (4, .is (za3 b4)), (5, .is (za3 b5)), (6, .is (za3 b6)), (7, .is (za3 b7)), (8, .is (x.headD undef)), (9, .is (x.tail.headD undef))])
  (zc6 1 (zb6 (zb9 s))) (fun p => !zba rd 1 (zhi p)) (fun _ => .ret) rfl rfl rfl ⟨rfl, rfl, rfl, rfl, rfl, rfl, rfl, rfl, rfl, trivial⟩
  (fun pre p hp => by simp only [List.mem_cons, List.not_mem_nil, or_false] at hp; rcases hp with rfl | rfl | rfl | rfl <;> exact Nat.le_of_ble_eq_true rfl) rfl
  (fun x hx => by obtain ⟨p, q, e⟩:=List.append_of_mem hx; obtain ⟨ls, y, _, rfl, _⟩:=zlf (pre:=p) (x:=x) ⟨q, by rw [e]; simp⟩; rfl) (by decide)
  (fun u H hH hle => zj7 (by omega) hH (hle _ _ hlb)) ?asg ?bd ?dn ?st
 case asg =>
  intro w1 Ln B' l' D' o pre x' hpre hstp hBB
  obtain ⟨ls, y, rfl, rfl, hls⟩:=zlf hpre
  refine Zbq ?_;refine Zc ?_;refine Zak ?_;refine Zax ?_
  exact zsz Since.refl ⟨rfl, rfl, rfl, rfl, rfl, rfl, rfl, rfl, rfl, rfl, rfl, trivial⟩
 case bd =>
  intro w1 Ln B' l' D' o pre x' hpre hstp hBB
  obtain ⟨ls, y, rfl, rfl, hls⟩:=zlf hpre
  have hg:zba rd 1 ls = true:=by
   have:=hstp
   rw [za0] at this
   simpa using this
  have e3:=zgy ls y
  rw [← e3]
  have hb3':=hBB _ _ (hs2.le _ _ hb3)
  have hln:ls.length + 1 ≤ 1000000:=by
   have h1:=hls.length_le
   have h2:=zf0 s
   rw [List.length_append] at h1
   simp at h1
   omega
  have hys:y.size ≤ 1000000:=by
   have:=zoe (s:=s) (y:=y) (hls.subset (by simp))
   omega
  rw [za0, zey hg, zhs hg]
  have hvl:(zd8 rd ls).length ≤ ls.length:=zev
  by_cases hn:4096 < ls.length + 1
  ·have hp:=zgw (rd:=rd) (ys:=[]) (y:=y) hg (by omega)
   have hbad:zba rd 1 (ls ++ [y]) = false:=by rw [zbg, hg]; unfold zf4; simp; omega
   have how:zig rd 1 (ls ++ [y]) = zd8 rd ls:=by rw [zdb hg]; unfold zig; rw [if_pos (by unfold zf4; simp; omega), List.append_nil]
   refine q6 ?_;refine Zca ?_;refine ZW ?_;refine Zv ?_;refine ZS ?_;refine zam (qs L (q:=84) (cs':=[.slice none 0 0]) rfl rfl rfl rfl rfl rfl rfl rfl rfl) ?_;refine zam (qs L (q:=85) (cs':=[.int .i64 ((ls.length + 1:Nat):Int)]) rfl rfl rfl rfl rfl rfl rfl rfl rfl) ?_;refine zam (qs L (q:=86) (cs':=[.int .i64 3]) rfl rfl rfl rfl rfl rfl rfl rfl rfl) ?_;refine Z1 ?_
   refine zha (zkr (ze6 (zm7 Since.refl (by rw [za0, hbad]; rfl) rfl ?_)))
   rw [za0, hp, how, Nat.add_comm 1]
   exact ⟨rfl, rfl, rfl, rfl, trivial⟩
  ·cases he:zij y with
   | none =>
    have hp:=zfj (rd:=rd) (ys:=[]) (y:=y) hg (by omega) he
    have hbad:zba rd 1 (ls ++ [y]) = false:=by rw [zbg, hg]; unfold zf4; rw [he]; simp
    have how:zig rd 1 (ls ++ [y]) = zd8 rd ls:=by rw [zdb hg]; unfold zig; rw [if_pos (by unfold zf4; rw [he]; simp), List.append_nil]
    refine q6 ?_;refine Zca ?_;refine ZaX ?_;refine Zaz ?_;refine z7 (zp L rfl rfl (zk rfl) rfl rfl rfl (fun u H hH _ _ => zvs he (by omega) hH)) rfl ?_;refine Zck ?_;refine Zcq ?_;refine Zu ?_;refine Zv ?_;refine ZaZ ?_;refine zam (qs L (q:=84) (cs':=[.slice none 0 0]) rfl rfl rfl rfl rfl rfl rfl rfl rfl) ?_;refine zam (qs L (q:=85) (cs':=[.int .i64 ((ls.length + 1:Nat):Int)]) rfl rfl rfl rfl rfl rfl rfl rfl rfl) ?_;refine zam (qs L (q:=86) (cs':=[.int .i64 5]) rfl rfl rfl rfl rfl rfl rfl rfl rfl) ?_;refine Z1 ?_
    refine zha (zkr (ze6 (zm7 Since.refl (by rw [za0, hbad]; rfl) rfl ?_)))
    rw [za0, hp, how, Nat.add_comm 1]
    exact ⟨rfl, rfl, rfl, rfl, trivial⟩
   | some r =>
    have hrs:r.size ≤ 1000000:=by
     have:=congrArg ByteArray.size (zg5 he)
     rw [ByteArray.size_append] at this
     omega
    obtain ⟨t, e, hrt⟩:∃ t e, rd r = (t, e):=⟨_, _, rfl⟩
    have hrr:=hrd r hrs
    rw [hrt] at hrr
    by_cases h0:e = 0
    ·subst h0
     have hgood:zba rd 1 (ls ++ [y]) = true:=by rw [zbg, hg]; unfold zf4; rw [he]; simp [hrt]; omega
     have hp:=zey hgood
     have how:=zhs hgood
     have hvs:=zff (rd:=rd) (ls:=ls) he
     rw [hrt] at hvs
     refine q6 ?_;refine Zca ?_;refine ZaX ?_;refine Zaz ?_;refine z7 (zp L rfl rfl (zk rfl) rfl rfl rfl (fun u H hH _ _ => zi1 he (by omega) hH)) rfl ?_;refine Zck ?_;refine Zcq ?_;refine Zu ?_;refine Zt ?_;refine ZN ?_;refine z7 (q9 L (qm rfl hb3') rfl rfl rfl rfl) rfl ?_;refine Za ?_;refine z7 (zp L rfl rfl (zk rfl) rfl rfl hfn (fun u H hH hle _ => hrr u H hH (hsB.le.trans (hBB.trans hle)))) rfl ?_;refine ZaG ?_;refine ZbC ?_;refine Zal ?_;refine Zd1 ?_
     refine zeu 87 _ rfl SlR.shape fun z hz => ?_
     obtain ⟨p, c, rfl⟩:=hz
     refine Zag ?_;refine ZbX ?_;refine zcq 42 87 rfl rfl ?_;refine ZdD ?_;refine ZR ?_;refine Zez ?_;refine zej 45 87 _ rfl SlR.shape fun z hz => ?_;obtain ⟨p', c', rfl⟩:=hz; refine Zf2 ?_;refine zi ?_;refine qp ?_
     refine zh3 87 [] rfl rfl ?_
     refine zs1 Since.refl (by rw [za0, hgood]; rfl) ?_
     rw [za0, hp, how, hvs, List.flatMap_append, List.length_append]
     exact ⟨rfl, rfl, rfl, rfl, trivial⟩
    ·have hp:=zdk (rd:=rd) (ys:=[]) (y:=y) hg (by omega) he (by rw [hrt]; exact h0)
     rw [hrt] at hp
     have hbad:zba rd 1 (ls ++ [y]) = false:=by rw [zbg, hg]; unfold zf4; rw [he]; simp [hrt, h0]
     have how:zig rd 1 (ls ++ [y]) = zd8 rd ls:=by rw [zdb hg]; unfold zig; rw [if_pos (by unfold zf4; rw [he]; simp [hrt, h0]), List.append_nil]
     refine q6 ?_;refine Zca ?_;refine ZaX ?_;refine Zaz ?_;refine z7 (zp L rfl rfl (zk rfl) rfl rfl rfl (fun u H hH _ _ => zi1 he (by omega) hH)) rfl ?_;refine Zck ?_;refine Zcq ?_;refine Zu ?_;refine Zt ?_;refine ZN ?_;refine z7 (q9 L (qm rfl hb3') rfl rfl rfl rfl) rfl ?_;refine Za ?_;refine z7 (zp L rfl rfl (zk rfl) rfl rfl hfn (fun u H hH hle _ => hrr u H hH (hsB.le.trans (hBB.trans hle)))) rfl ?_;refine ZaG ?_;refine ZbC ?_;refine ZF ?_;refine Zay ?_;refine Zb ?_;refine zam (qs L (q:=84) (cs':=[.slice none 0 0]) rfl rfl rfl rfl rfl rfl rfl rfl rfl) ?_;refine zam (qs L (q:=85) (cs':=[.int .i64 ((ls.length + 1:Nat):Int)]) rfl rfl rfl rfl rfl rfl rfl rfl rfl) ?_;refine zam (qs L (q:=86) (cs':=[.int .i64 e]) rfl rfl rfl rfl rfl rfl rfl rfl rfl) ?_;refine Z1 ?_
     refine zha (zkr (ze6 (zm7 Since.refl (by rw [za0, hbad]; rfl) rfl ?_)))
     rw [za0, hp, how, Nat.add_comm 1]
     exact ⟨rfl, rfl, rfl, rfl, trivial⟩
 case st =>
  intro l' D' o hstop
  obtain ⟨ks, h1, h2, h3⟩:=zfg rd (zb9 s) [] rfl
  have h1':za7 (fun p => !zba rd 1 (zhi p)) [] (zc6 1 (zb6 (zb9 s))) = zc6 1 (zb6 ks):=h1
  rw [h1', za0] at hstop
  have hbad:zba rd 1 ks = false:=by simpa using hstop
  have hn1:=zgv (out:=[]) hbad
  have h2':zde rd [] 1 ks = zde rd [] 1 (zb9 s):=h2
  rw [h1', za0, h2']
  rw [h2'] at hn1
  generalize zde rd [] 1 (zb9 s) = R at hn1 ⊢
  obtain ⟨R1, R2, R3⟩:=R
  dsimp only at hn1
  subst hn1
  refine zb3 4 84 rfl rfl ?_
  refine zb3 5 85 rfl rfl ?_
  refine zb3 6 86 rfl rfl ?_
  refine zov L (rs:=[.cell 4 zy9, .cell 5 tyI, .cell 6 tyE]) rfl (fun _ _ h => h) hsB fun O' u H hH hle => ?_
  exact zbc (qk rfl) rfl (zbc (qk rfl) rfl (zbc (qk rfl) rfl (tup3 SlV.nil rfl rfl)))
 case dn =>
  intro l' D' o hgo
  obtain ⟨ks, h1, h2, h3⟩:=zfg rd (zb9 s) [] rfl
  have h1':za7 (fun p => !zba rd 1 (zhi p)) [] (zc6 1 (zb6 (zb9 s))) = zc6 1 (zb6 ks):=h1
  rw [h1', za0] at hgo
  have hg:zba rd 1 ks = true:=by simpa using hgo
  have hkl:ks = zb9 s:=h3 hg
  have hll:=zf0 s
  have hvl:(zd8 rd ks).length ≤ ks.length:=zev
  rw [h1', za0, ← hkl, zey hg, zhs hg]
  refine qp ?_
  refine zj ?_
  refine zeu 87 _ rfl SlR.shape fun z hz => ?_
  obtain ⟨p, c, rfl⟩:=hz
  refine zh ?_;refine Zaj ?_;refine ZbX ?_;refine zcq 46 87 rfl rfl ?_;refine zi5 46 rfl ?_;refine ZbX ?_;refine Zdy ?_;refine ZbX ?_;refine Zdy ?_;refine Zer ?_;refine zd7 51 rfl fun sv H3 hs3 hsv => ?_;obtain ⟨p1, c1, rfl⟩:=zcj hsv; refine zam (qs L (q:=84) (cs':=[.slice p1 (zd8 rd ks).length c1]) rfl rfl rfl rfl rfl rfl rfl rfl rfl) ?_;refine zam (qs L (q:=85) (cs':=[.int .i64 0]) rfl rfl rfl rfl rfl rfl rfl rfl rfl) ?_;refine zam (qs L (q:=86) (cs':=[.int .i64 0]) rfl rfl rfl rfl rfl rfl rfl rfl rfl) ?_;refine Z1 ?_
  refine zb3 4 84 rfl rfl ?_
  refine zb3 5 85 rfl rfl ?_
  refine zb3 6 86 rfl rfl ?_
  refine zov L (rs:=[.cell 4 zy9, .cell 5 tyI, .cell 6 tyE]) rfl (fun _ _ h => h) (hsB.trans hs3) fun O' u H hH hle => ?_
  exact zbc (qk rfl) rfl (zbc (qk rfl) rfl (zbc (qk rfl) rfl (tup3 (hsv.le hle) rfl rfl)))
theorem zda {φ:Value → Heap → Prop} {a b:Value} (h:Kn.mono (.sat φ)):Kn.mono (.sat (TupS [φ, fun v _ => v = a, fun v _ => v = b])):=TupS.mono fun ψ hψ => by
 simp only [List.mem_cons, List.not_mem_nil, or_false] at hψ
 rcases hψ with rfl | rfl | rfl
 ·exact h
 ·exact fun _ _ _ h _ => h
 ·exact fun _ _ _ h _ => h
theorem zrq {s:ByteArray} (hs:s.size ≤ 1000000) {w:World} {B:Heap} (hB:B.Le (hp w)) (hM:GlobM B) :
  Ret Tryz.prog 16 [.string s] w B (TupS [US (zfb ptA s).1 true, fun v _ => v = .int .i64 (zfb ptA s).2.1, fun v _ => v = .int .i64 (zfb ptA s).2.2]):=by
 have hmo:Kn.mono (.sat (US (zfb ptA s).1 true)):=SlV.mono
 refine qt Tryz.func16 rfl Tryz.ntmps16 (Nat.le_of_ble_eq_true rfl) hB ?_
 refine ZO ?_;refine Za4 ?_;refine Z4 ?_;refine z7 (zag L rfl rfl (zk rfl) rfl rfl rfl (zda SlV.mono) (fun u H hH hle _ => zr7 (rd:=ptA) rfl hs hH (fun r hr u2 H2 hH2 hle2 => zek rfl hr hH2 (hM.mono (hle.trans hle2))))) rfl ?_;refine ZfQ ?_;refine ZcH ?_;refine Zaa ?_;refine Zy ?_
 refine qq L (rs:=[.tmp 2, .tmp 3, .tmp 4]) rfl (fun _ _ h => h) Since.refl fun u H hH hle => ?_
 exact fun a h => tup3 h rfl rfl
theorem zly {s:ByteArray} (hs:s.size ≤ 1000000) {w:World} {B:Heap} (hB:B.Le (hp w)) (hM:GlobM B) :
  Ret Tryz.prog 17 [.string s] w B (TupS [KS tyC (zfb prC s).1 true, fun v _ => v = .int .i64 (zfb prC s).2.1, fun v _ => v = .int .i64 (zfb prC s).2.2]):=by
 have hmo:Kn.mono (.sat (KS tyC (zfb prC s).1 true)):=SlV.mono
 refine qt Tryz.func17 rfl Tryz.ntmps17 (Nat.le_of_ble_eq_true rfl) hB ?_
 refine ZO ?_;refine Za4 ?_;refine Z4 ?_;refine z7 (zag L rfl rfl (zk rfl) rfl rfl rfl (zda SlV.mono) (fun u H hH hle _ => zr8 (rd:=prC) rfl hs hH (fun r hr u2 H2 hH2 hle2 => zzm hr hH2 (hM.mono (hle.trans hle2))))) rfl ?_;refine ZfQ ?_;refine ZcH ?_;refine Zaa ?_;refine Zy ?_
 refine qq L (rs:=[.tmp 2, .tmp 3, .tmp 4]) rfl (fun _ _ h => h) Since.refl fun u H hH hle => ?_
 exact fun a h => tup3 h rfl rfl
end Go.V.L11
set_option maxRecDepth 20000
namespace Go.V
open Go.RowKit
section sound
variable {P:Program} {St:Kap → Act → World → Prop} {ops:Array Oper} {ex:Exs} {Fin:Kap → Prop}
theorem zlb {Fin:Kap → Prop}:∀ (m i:Nat) {κ:Kap}, i + m ≤ ops.size → z09 P St ops ex Fin ((ops.toList.drop i).take m) κ → ParI P St ops ex Fin (List.range' i m) κ
 | 0, i, κ, hm, h => by
  rw [List.take_zero] at h
  exact h
 | m + 1, i, κ, hm, h => by
  have hi:i < ops.toList.length:=by simp; omega
  rw [List.drop_eq_getElem_cons hi, List.take_succ_cons] at h
  obtain ⟨us, hd, sx, rest⟩:=h
  refine ⟨ops.toList[i], us, ?_, hd, sx, zlb m (i + 1) (by omega) rest⟩
  have hi':i < ops.size:=by simpa using hi
  rw [Array.getElem?_eq_getElem hi']
  simp
end sound
section code
variable {P:Program} {F:Fr} {B:Heap} {n:Nat} {O:Boxes} {κ:Kap} {Q:Exit → Act → World → Prop}
end code
end Go.V
set_option maxRecDepth 20000
namespace Go.V
open Go.RowKit
def zqa (w:World) (B:Heap) (L:Nat → Prop) (pv:Value) (e:Ending) (u:World):Prop:=e = .panicked [{ v:=pv, recovered:=false }] ∧ ∃ H, Grow L w B u H
def Pan (P:Program) (f:FuncId) (args:List Value) (w:World) (B:Heap) (L:Nat → Prop) (pv:Value):Prop:=Calls P f args.toArray w (zqa w B L pv)
section sound
variable {P:Program} {St:Kap → Act → World → Prop} {ops:Array Oper} {ex:Exs}
end sound
section code
variable {P:Program} {F:Fr} {B:Heap} {n:Nat} {O:Boxes} {κ:Kap} {Q:Exit → Act → World → Prop} {ops:Array Oper}
def QX (P:Program) (F:Fr) (ops:Array Oper) (K:Nat) (Q:Exit → Act → World → Prop):Exit → Act → World → Prop:=fun _ a u => ∀ Kk, wpOpIn (FW F.r) 0 P ops Q K Kk a u
def XP (F:Fr) (B:Heap) (n:Nat) (O:Boxes) (κ:Kap) (pv:Value) (Q:Exit → Act → World → Prop):Prop:=∀ a u, Has F B O n κ a u → Q (.panic [{ v:=pv, recovered:=false }]) a u
theorem zd4 {id:Nat} {l:List Oper} (K:Nat) (hK:Nat.ble (K + 1) l.length = true) (h:VO P F B n O l.toArray κ (l.take K) (QX P F l.toArray K Q)):V P F B n O κ (.region id l.toArray false) Q:=fun a u hh => by
 refine wpIn_region ?_
 have hK:=Nat.le_of_ble_eq_true hK
 have hsplit:List.range l.toArray.size = List.range' 0 K ++ K :: List.range' (K + 1) (l.length - (K + 1)):=by
  rw [List.range_eq_range', show K :: List.range' (K + 1) (l.length - (K + 1)) = List.range' K (l.length - K) by rw [show l.length - K = (l.length - (K + 1)) + 1 by omega]; rfl]
  have:=List.range'_append_1 (s:=0) (m:=K) (n:=l.length - K)
  rw [Nat.zero_add] at this
  rw [this, Nat.add_sub_cancel' (by omega)]
  simp
 rw [hsplit]
 have key:∀ (m i:Nat) {a:Act} {u:World}, i + m = K → Ops P l.toArray (fun a u => QX P F l.toArray K Q .normal a u) ((l.drop i).take m) a u →
   wpOpsIn (FW F.r) 0 P l.toArray Q (List.range' i m ++ K :: List.range' (K + 1) (l.length - (K + 1))) a u:=by
  intro m
  induction m with
  | zero =>
   intro i a u hi ho
   rw [List.take_zero] at ho
   show wpOpsIn (FW F.r) 0 P l.toArray Q (K :: _) a u
   rw [wpOpsIn_cons]
   exact ho _
  | succ m ih =>
   intro i a u hi ho
   have hil:i < l.length:=by omega
   rw [List.drop_eq_getElem_cons hil, List.take_succ_cons] at ho
   have hg:l.toArray[i]? = some l[i]:=by rw [List.getElem?_toArray, List.getElem?_eq_getElem hil]
   rw [List.range'_succ, List.cons_append, wpOpsIn_cons]
   exact After.wpOpIn hg (After.mono (fun a' u' hh' => ih (i + 1) (by omega) hh') ho)
 exact key K 0 (by omega) (by rw [List.drop_zero]; exact h a u hh)
theorem zfl (L:Tabs P) (q:Nat) {K:Nat} {pv:Value} {r:Res} {d:Option Nat} {ty:TypeId} {pos:String} {aft:Array Edge} {g:Option (Nat × Bool)} {f:Nat} {args:Array Operand} {at_:Array TypeId} {cap:List Value} {fo:Operand}
  (ho:ops[K]? = some ⟨d, .call { callee:=.value fo, args:=args, argTypes:=at_ }, ty, pos, aft, g⟩) (hg:gK ops κ ⟨d, .call { callee:=.value fo, args:=args, argTypes:=at_ }, ty, pos, aft, g⟩ = some true)
  (hf:evK κ fo = some (.func (.func f) #[] cap.toArray)) (hfn:L.fn f = some ()) (hq:κ q = some (.own r))
  (h:∀ u H C, H.Le (hp u) → B.Le H → r.P undef H u C → (∀ k, C k → k < u.heap.size ∧ H k = none) → Args κ H args.toList [] (fun vs => Pan P f (vs ++ cap) u H C pv)) (hr:∀ v H u C, r.P v H u C → r.P undef H u C)
  (hX:XP F B n O (upd κ q zdv) pv Q):N F B n O κ (QX P F ops K Q):=by
 rintro a u ⟨H, fp, hh⟩ Kk
 have hlk:∀ t ∈ (⟨d, .call { callee:=.value fo, args:=args, argTypes:=at_ }, ty, pos, aft, g⟩:Oper).looksAt ops, κ t = κ t:=fun _ _ => rfl
 unfold wpOpIn
 rw [ho]
 dsimp only
 rw [if_pos (zai hh hlk hg)]
 obtain ⟨hown, hM⟩:=hh.slot q _ hq
 have e2:=hh.env hlk
 have hfe:a.eval fo = .func (.func f) #[] cap.toArray:=e2.is_ fo _ (by simp [Op.operands, Call.operands]) hf
 have hc:=Args.use e2 args.toList [] (fun x hx => by simp [Op.operands, Call.operands] at hx ⊢; exact .inr hx) (h u H (fp q) hh.sub hh.base (hr _ _ _ _ hown) fun k hk => ⟨(hM k hk).1, (hM k hk).2.1⟩)
 simp only [List.reverse_nil, List.nil_append] at hc
 have hrun:=zc3 (u:=u) L (o:=⟨d, .call { callee:=.value fo, args:=args, argTypes:=at_ }, ty, pos, aft, g⟩) rfl hfe hfn
 refine ⟨fun _ _ => trivial, ?_⟩
 rw [Oper.semAt_eq _ _ _ (fun c hc => by cases hc), hrun]
 refine ⟨fun e => (by cases e), FW.call _ _ (Calls.mono hc fun e' u' hp => ?_)⟩
 obtain ⟨rfl, H', g'⟩:=hp
 exact hX a u' ⟨H', _, hh.use hq g'⟩
theorem zfd {K:Act → World → Prop} {pv:Value} (h:XP F B n O κ pv Q):XP F B n O κ pv (Exit.then K Q):=h
theorem zd6 {id:Nat} {pv:Value} (h:XP F B n O κ pv Q):XP F B n O κ pv (Exit.inBlock id Q):=h
theorem zqd {fn:Func} {B0:Heap} {pv:Value} (hs:Since F B0 B) (hd:F.ds = []:=by rfl):XP F B n O κ pv (bodyPostM Fence.wide 0 P fn (zqa F.w0 B0 F.L pv)):=fun a u hh => by
 obtain ⟨H, fp, hH⟩:=hh
 have h0:=hH.defers
 rw [hd] at h0
 show LeavesInM _ _ _ _ _ _ a.defers _ _
 rw [h0]
 exact ⟨rfl, H, ⟨hH.keep, hH.sub, hs.le.trans hH.base, fun k hk hl => (hH.fresh k hk hl).trans (hs.fresh k hk hl)⟩⟩
theorem zf5 {f:FuncId} {fn:Func} {c:Code} {args:List Value} {w:World} {B:Heap} {pv:Value} {C:Nat → Prop} (gs:Nat) (r:GR) (hf:P.funcs[f]? = some fn) (hb:fn.body = some c) (hn:fn.ntmps = n)
  (hs:args.length ≤ n) (hB:B.Le (hp w)) (hr:r.P B w C) (hC:∀ k, C k → k < w.heap.size ∧ B k = none) (h:V P ⟨w, none, [], C⟩ B n [] (upd (zh0 0 args) gs (.own r.res)) c (bodyPostM Fence.wide 0 P fn (zqa w B C pv))):Pan P f args w B C pv:=by
 refine zes hf hb (h _ w ?_)
 subst hn
 have h0:=zeq (B:=B) C (fun k hk => (hC k hk).1) hs hB (fun _ => noL)
 exact ⟨B, _, h0.putR (d:=gs) (r:=r.res) rfl rfl (fun _ _ => rfl) hr (fun k hk => ⟨(hC k hk).1, (hC k hk).2, .inr hk, fun y hy => by cases hy⟩) fun t r' _ ht => by
  obtain ⟨v, hv, _⟩:=zco _ _ _ _ ht
  cases hv⟩
end code
end Go.V
set_option maxRecDepth 20000
namespace Go.V
open Go.RowKit
section
variable {P:Program} {F:Fr} {B:Heap} {O:Boxes} {n:Nat} {ops:Array Oper} {κ:Kap} {d:Nat} {ty:TypeId} {pos:String} {aft:Array Edge} {g:Option (Nat × Bool)} {Q:Exit → Act → World → Prop} {a:Act} {u:World} {os:List Oper} {t xt:TypeId} {x:Operand} {v:Value}
theorem zn3 (hn:Nat.blt d n = true) (hg:gK ops κ ⟨some d, .makeInterface t x, ty, pos, aft, g⟩ = some true) (hx:evK κ x = some v) (hc:P.concrete t = true) :
  StepOK P F B n ops O κ ⟨some d, .makeInterface t x, ty, pos, aft, g⟩ d (.is (.iface t v)) :=
 zax rfl (by simpa using hn) hg trivial fun a u H fp e => ⟨_, by
  have h1:a.eval x = v:=e.is_ x _ (by simp [Op.operands]) hx
  have h2:=run_makeInterface (w:=u) t v hc
  simp only [execOp, h1, Sem.run_bind, Sem.run_pure, h2, Result.andThen_ok], rfl⟩
theorem zse (hn:Nat.blt d n = true) (hg:gK ops κ ⟨some d, .typeAssert x xt t true, ty, pos, aft, g⟩ = some true) (hx:evK κ x = some (.iface t v)) (hc:P.concrete t = true) :
  StepOK P F B n ops O κ ⟨some d, .typeAssert x xt t true, ty, pos, aft, g⟩ d (.is (.tuple #[v, .bool true])) :=
 zax rfl (by simpa using hn) hg trivial fun a u H fp e => ⟨_, by
  have h1:a.eval x = .iface t v:=e.is_ x _ (by simp [Op.operands]) hx
  have h2:(Instr.typeAssert (.iface t v) xt t true).run P u = .ok (.tuple #[v, .bool true]) u:=by
   unfold Program.concrete at hc
   cases hd:P.underlying t with
   | none => simp [hd] at hc
   | some dd => cases dd <;> first | (simp [hd] at hc; done) | simp [Instr.typeAssert, run_underlying hd]
  simp only [execOp, h1, Sem.run_bind, Sem.run_pure, h2, Result.andThen_ok], rfl⟩
theorem zpw {K:Nat} {dd:Option Nat} (ho:ops[K]? = some ⟨dd, .panic x, ty, pos, aft, g⟩) (hg:gK ops κ ⟨dd, .panic x, ty, pos, aft, g⟩ = some true) (hx:evK κ x = some (.iface t v)) (hX:XP F B n O κ (.iface t v) Q):N F B n O κ (QX P F ops K Q):=by
 rintro a u ⟨H, fp, hh⟩ Kk
 have hlk:∀ s ∈ (⟨dd, .panic x, ty, pos, aft, g⟩:Oper).looksAt ops, κ s = κ s:=fun _ _ => rfl
 unfold wpOpIn
 rw [ho]
 dsimp only
 rw [if_pos (zai hh hlk hg)]
 have e2:=hh.env hlk
 have h1:a.eval x = .iface t v:=e2.is_ x _ (by simp [Op.operands]) hx
 have hrun:(execOp a.eval ⟨dd, .panic x, ty, pos, aft, g⟩).run P u = .halt (.panic (.iface t v)) u:=by
  simp only [execOp, h1, Sem.run_bind, run_panic_iface]
  rfl
 refine ⟨fun _ _ => trivial, ?_⟩
 rw [Oper.semAt_eq _ _ _ (fun c hc => by cases hc), hrun]
 exact hX a u ⟨H, fp, hh⟩
end
end Go.V
set_option maxRecDepth 20000
namespace Go.V
open Go.RowKit
theorem RetY.frame {P:Program} {f:FuncId} {args:List Value} {w:World} {B:Heap} {C:Nat → Prop} {r1 r1' r2:GR} {φ:Value → Heap → Prop} (hr:(zfv r1 r2).P B w C) (hC:∀ k, C k → k < w.heap.size ∧ B k = none)
  (h:∀ C1, r1.P B w C1 → (∀ k, C1 k → k < w.heap.size ∧ B k = none) → RetY P f args w B C1 r1' φ):RetY P f args w B C (zfv r1' r2) φ:=by
 obtain ⟨C1, C2, h1, h2, h3, h4⟩:=hr
 refine Calls.mono (h C1 h1 fun k hk => hC k ((h3 k).2 (.inl hk))) fun e u ⟨v, he, H, g, hp, C', hv, hC'⟩ => ?_
 have hsub:∀ k, C1 k → C k:=fun k hk => (h3 k).2 (.inl hk)
 have g2:Grow C w B u H:=⟨⟨g.keep.os, g.keep.tape, g.keep.output, g.keep.size, fun k hk hn => g.keep.block k hk fun h => hn (hsub k h), g.keep.dr⟩, g.sub, g.le, fun k hk hn => g.fresh k hk fun h => hn (hsub k h)⟩
 refine ⟨v, he, H, g2, hp, fun k => C' k ∨ C2 k, ⟨C', C2, hv, r2.st h2 g.le g.sub ⟨g.keep.os, g.keep.tape, g.keep.output, g.keep.size, g.keep.dr⟩ (fun k hk => g.keep.block k (hC k ((h3 k).2 (.inr hk))).1 fun h => h4 k h hk), fun _ => Iff.rfl, fun k hk h2k => ?_⟩, fun k hk => ?_⟩
 ·rcases (hC' k hk).1 with h | h
  ·exact h4 k h h2k
  ·have:=(hC k ((h3 k).2 (.inr h2k))).1; omega
 ·rcases hk with hk | hk
  ·obtain ⟨a, b, c⟩:=hC' k hk
   exact ⟨a.imp (hsub k) id, b, c⟩
  ·obtain ⟨a, b⟩:=hC k ((h3 k).2 (.inr hk))
   exact ⟨.inl ((h3 k).2 (.inr hk)), Nat.lt_of_lt_of_le a g.keep.size, (g.fresh k a fun h => h4 k h hk).trans b⟩
theorem RetY.conv {P:Program} {f:FuncId} {args:List Value} {w:World} {B:Heap} {C:Nat → Prop} {r r':GR} {φ:Value → Heap → Prop} (h:RetY P f args w B C r φ) (hi:∀ H u C, r.P H u C → r'.P H u C):RetY P f args w B C r' φ :=
 Calls.mono h fun _ _ ⟨v, he, H, g, hp, C', hv, hC'⟩ => ⟨v, he, H, g, hp, C', hi _ _ _ hv, hC'⟩
theorem zvk {r1 r2:GR} {H:Heap} {u:World} {C:Nat → Prop} (h:(zfv r1 r2).P H u C):(zfv r2 r1).P H u C :=
 let ⟨C1, C2, h1, h2, h3, h4⟩:=h
 ⟨C2, C1, h2, h1, fun k => (h3 k).trans or_comm, fun k a b => h4 k b a⟩
section
variable {P:Program} {F:Fr} {B:Heap} {O:Boxes} {n:Nat} {ops:Array Oper} {κ:Kap} {d:Nat} {ty:TypeId} {pos:String} {aft:Array Edge} {g:Option (Nat × Bool)} {Q:Exit → Act → World → Prop} {a:Act} {u:World} {os:List Oper}
end
end Go.V
set_option maxRecDepth 20000
namespace Go.V.L11
open Go.Proofs Go.RowKit Go.V Go.V.L4
theorem _root_.Go.V.Zfb {A B:Prop} (h:B) (t:Wr B → A:=by intro h; refine zdi 900 901 rfl (zf1 _ _ _) ?_;exact h.h):A:=t ⟨h⟩
theorem _root_.Go.V.ZfS {A B:Prop} (h:B) (t:Wr B → A:=by intro h; refine z7 (y6 (cs:=[_, _]) rfl rfl z3m rfl rfl) rfl ?_;refine z7 (zn3 rfl rfl rfl (by kernel_rfl)) rfl ?_;exact h.h):A:=t ⟨h⟩
abbrev zwj:TypeId:=157
abbrev z4m:TypeId:=252
abbrev zbh (sb rb:Nat) (sv:Value) (fr:Int) (R:Rd):GR:=zfv (zab sb [za3 rb, .int .i64 fr] zwj) (GRd rb sv R)
abbrev wrV (a e:Int):Value:=.iface z4m (.agg #[.int .i64 a, .int .i64 e])
attribute [local irreducible] V N X VO Par XP StepOK Has Ret RetL RetO RetT zbd RetX RetY Pan Src
theorem zpi {sb rb:Nat} {sv:Value} {R R2:Rd} {fr0 x:Int} {fr:Nat} {fst cap:List Value} (hfn:L.fn fr = some ()) (he:R2.err = 0) {w:World} {B:Heap} {C:Nat → Prop} (hB:B.Le (hp w)) (hr:(zbh sb rb sv fr0 R).P B w C) (hC:∀ k, C k → k < w.heap.size ∧ B k = none) (hf:∀ (u:World) (H:Heap) (C:Nat → Prop), H.Le (hp u) → B.Le H → (zbh sb rb sv R.at_ R).P H u C → (∀ k, C k → k < u.heap.size ∧ H k = none) → RetX Tryz.prog fr (fst ++ cap) u H C (zbh sb rb sv R.at_ R2) (.int .i64 x)) :
  RetX Tryz.prog 136 [za3 sb, .func (.func fr) fst.toArray cap.toArray] w B C (zbh sb rb sv R.at_ R2) (.int .i64 x):=by
 unfold RetX
 refine zah 900 (zbh sb rb sv fr0 R) Tryz.func136 rfl Tryz.ntmps136 (Nat.le_of_ble_eq_true rfl) hB hr hC ?_
 rw [zd0, zae, zae]
 refine Zfb ?_
 refine ZZ ?_;refine Zb ?_;refine Z0 ?_;refine q8 (y3 L 901 (GRd rb sv R) (.int .i64 R.at_) (r:=GRd rb sv R) rfl rfl rfl rfl rfl (fun u H C2 hH _ hr2 hC2 => zv2 hH hr2 hC2)) ?_;refine Zar ?_;refine zam (qs L (q:=900) (cs':=[za3 rb, .int .i64 R.at_]) rfl rfl rfl rfl rfl rfl rfl rfl rfl) ?_;refine Zj ?_
 refine zcu 900 901 rfl rfl (zas (GRd rb sv R)) ?_
 refine Z2 ?_;refine q8 (zdu L 900 (zbh sb rb sv R.at_ R2) (.int .i64 x) (r:=zbh sb rb sv R.at_ R) rfl rfl rfl hfn rfl hf) ?_;refine Zf ?_
 refine zdi (r1:=(zab sb [za3 rb, .int .i64 R.at_] zwj).res) (r2:=(GRd rb sv R2).res) 900 901 rfl (zas (GRd rb sv R2)) ?_
 rw [zae]
 refine Zk ?_;refine Z0 ?_;refine q8 (y3 L 901 (GRd rb sv R2) (.tuple #[.int .i64 R2.bad, .int .i64 R2.err]) (r:=GRd rb sv R2) rfl rfl rfl rfl rfl (fun u H C2 hH _ hr2 hC2 => zfo hH hr2 hC2)) ?_;refine ZP ?_;refine Zi ?_;refine ZV ?_;refine ZJ ?_;refine Zc ?_
 refine zcu 900 901 rfl rfl (zas (GRd rb sv R2)) ?_
 exact za4 L 900 (r:=zbh sb rb sv R.at_ R2) (rs:=[.tmp 4]) rfl (fun _ _ h => h) Since.refl rfl rfl (fun _ => rfl)
theorem zpj {sb rb:Nat} {sv:Value} {R R2:Rd} {fr0 x:Int} {fr:Nat} {fst cap:List Value} (hfn:L.fn fr = some ()) (he:R2.err ≠ 0) {w:World} {B:Heap} {C:Nat → Prop} (hB:B.Le (hp w)) (hr:(zbh sb rb sv fr0 R).P B w C) (hC:∀ k, C k → k < w.heap.size ∧ B k = none) (hf:∀ (u:World) (H:Heap) (C:Nat → Prop), H.Le (hp u) → B.Le H → (zbh sb rb sv R.at_ R).P H u C → (∀ k, C k → k < u.heap.size ∧ H k = none) → RetX Tryz.prog fr (fst ++ cap) u H C (zbh sb rb sv R.at_ R2) (.int .i64 x)) :
  Pan Tryz.prog 136 [za3 sb, .func (.func fr) fst.toArray cap.toArray] w B C (wrV R2.bad R2.err):=by
 refine zf5 900 (zbh sb rb sv fr0 R) Tryz.func136 rfl Tryz.ntmps136 (Nat.le_of_ble_eq_true rfl) hB hr hC ?_
 rw [zd0, zae, zae]
 refine Zfb ?_
 refine ZZ ?_;refine Zb ?_;refine Z0 ?_;refine q8 (y3 L 901 (GRd rb sv R) (.int .i64 R.at_) (r:=GRd rb sv R) rfl rfl rfl rfl rfl (fun u H C2 hH _ hr2 hC2 => zv2 hH hr2 hC2)) ?_;refine Zar ?_;refine zam (qs L (q:=900) (cs':=[za3 rb, .int .i64 R.at_]) rfl rfl rfl rfl rfl rfl rfl rfl rfl) ?_;refine Zj ?_
 refine zcu 900 901 rfl rfl (zas (GRd rb sv R)) ?_
 refine Z2 ?_;refine q8 (zdu L 900 (zbh sb rb sv R.at_ R2) (.int .i64 x) (r:=zbh sb rb sv R.at_ R) rfl rfl rfl hfn rfl hf) ?_;refine Zf ?_
 refine zdi (r1:=(zab sb [za3 rb, .int .i64 R.at_] zwj).res) (r2:=(GRd rb sv R2).res) 900 901 rfl (zas (GRd rb sv R2)) ?_
 rw [zae]
 refine Zk ?_;refine Z0 ?_;refine q8 (y3 L 901 (GRd rb sv R2) (.tuple #[.int .i64 R2.bad, .int .i64 R2.err]) (r:=GRd rb sv R2) rfl rfl rfl rfl rfl (fun u H C2 hH _ hr2 hC2 => zfo hH hr2 hC2)) ?_;refine ZP ?_;refine Zi ?_;refine Zam ?_;refine Zz ?_;refine zd4 (id:=5) 4 rfl ?_;refine Zb ?_;refine ZfS ?_;refine zi ?_;refine zpw (K:=4) rfl rfl rfl ?_
 repeat (first | refine zfd ?_ | refine zd6 ?_)
 exact zqd Since.refl
theorem zgh {sb rb:Nat} {sv:Value} {R R2:Rd} {fr0 x:Int} {fr:Nat} {fst cap:List Value} (hfn:L.fn fr = some ()) (he:R2.err = 0) {w:World} {B:Heap} {C:Nat → Prop} (hB:B.Le (hp w)) (hr:(zbh sb rb sv fr0 R).P B w C) (hC:∀ k, C k → k < w.heap.size ∧ B k = none) (hf:∀ (u:World) (H:Heap) (C:Nat → Prop), H.Le (hp u) → B.Le H → (zbh sb rb sv R.at_ R).P H u C → (∀ k, C k → k < u.heap.size ∧ H k = none) → RetX Tryz.prog fr (fst ++ cap) u H C (zbh sb rb sv R.at_ R2) (.int .u64 x)) :
  RetX Tryz.prog 75 [za3 sb, .func (.func fr) fst.toArray cap.toArray] w B C (zbh sb rb sv R.at_ R2) (.int .u64 x):=by
 unfold RetX
 refine zah 900 (zbh sb rb sv fr0 R) Tryz.func75 rfl Tryz.ntmps75 (Nat.le_of_ble_eq_true rfl) hB hr hC ?_
 rw [zd0, zae, zae]
 refine Zfb ?_
 refine ZZ ?_;refine Zb ?_;refine Z0 ?_;refine q8 (y3 L 901 (GRd rb sv R) (.int .i64 R.at_) (r:=GRd rb sv R) rfl rfl rfl rfl rfl (fun u H C2 hH _ hr2 hC2 => zv2 hH hr2 hC2)) ?_;refine Zar ?_;refine zam (qs L (q:=900) (cs':=[za3 rb, .int .i64 R.at_]) rfl rfl rfl rfl rfl rfl rfl rfl rfl) ?_;refine Zj ?_
 refine zcu 900 901 rfl rfl (zas (GRd rb sv R)) ?_
 refine Z2 ?_;refine q8 (zdu L 900 (zbh sb rb sv R.at_ R2) (.int .u64 x) (r:=zbh sb rb sv R.at_ R) rfl rfl rfl hfn rfl hf) ?_;refine Zf ?_
 refine zdi (r1:=(zab sb [za3 rb, .int .i64 R.at_] zwj).res) (r2:=(GRd rb sv R2).res) 900 901 rfl (zas (GRd rb sv R2)) ?_
 rw [zae]
 refine Zk ?_;refine Z0 ?_;refine q8 (y3 L 901 (GRd rb sv R2) (.tuple #[.int .i64 R2.bad, .int .i64 R2.err]) (r:=GRd rb sv R2) rfl rfl rfl rfl rfl (fun u H C2 hH _ hr2 hC2 => zfo hH hr2 hC2)) ?_;refine ZP ?_;refine Zi ?_;refine ZV ?_;refine ZJ ?_;refine Zc ?_
 refine zcu 900 901 rfl rfl (zas (GRd rb sv R2)) ?_
 exact za4 L 900 (r:=zbh sb rb sv R.at_ R2) (rs:=[.tmp 4]) rfl (fun _ _ h => h) Since.refl rfl rfl (fun _ => rfl)
theorem zfy {sb rb:Nat} {sv:Value} {R:Rd} {fr0 e:Int} {w:World} {B:Heap} {C:Nat → Prop} (hB:B.Le (hp w)) (hr:(zbh sb rb sv fr0 R).P B w C) (hC:∀ k, C k → k < w.heap.size ∧ B k = none):zbd Tryz.prog 74 [za3 sb, .bool true, .int .i64 e] w B C (zbh sb rb sv fr0 R):=by
 unfold zbd
 refine zah 900 (zbh sb rb sv fr0 R) Tryz.func74 rfl Tryz.ntmps74 (Nat.le_of_ble_eq_true rfl) hB hr hC ?_
 refine ZbA ?_;refine Zu ?_;refine ZX ?_
 exact zav L 900 (r:=zbh sb rb sv fr0 R) rfl (fun _ _ h => h) Since.refl rfl rfl
theorem zqw {sb rb:Nat} {sv:Value} {R:Rd} {fr0 e:Int} {w:World} {B:Heap} {C:Nat → Prop} (hB:B.Le (hp w)) (hr:(zbh sb rb sv fr0 R).P B w C) (hC:∀ k, C k → k < w.heap.size ∧ B k = none):Pan Tryz.prog 74 [za3 sb, .bool false, .int .i64 e] w B C (wrV fr0 e):=by
 refine zf5 900 (zbh sb rb sv fr0 R) Tryz.func74 rfl Tryz.ntmps74 (Nat.le_of_ble_eq_true rfl) hB hr hC ?_
 rw [zd0, zae, zae]
 refine Zfb ?_
 refine ZbA ?_;refine Zu ?_;refine Zz ?_;refine zd4 (id:=1) 7 rfl ?_;refine Za ?_;refine Z0 ?_;refine Za ?_;refine ZfS ?_;refine zi ?_;refine zpw (K:=7) rfl rfl rfl ?_
 repeat (first | refine zfd ?_ | refine zd6 ?_)
 exact zqd Since.refl
end Go.V.L11
set_option maxRecDepth 20000
namespace Go.V.L11
open Go.Proofs Go.RowKit Go.V Go.V.L4
attribute [local irreducible] V N X VO Par XP StepOK Has Ret RetL RetO RetT zbd RetX RetY Pan Src
theorem znq {sb rb b2 b3 lim:Nat} {sv:Value} {R:Rd} {fr0:Int} {bs:List Nat} {fu:Bool} (hb:∀ b ∈ bs, b ≤ 255) (hl:bs.length ≤ 1099511627776) (hat:R.at_ ≤ bs.length) (hlim:lim ≤ 1099511627776) {w:World} {B:Heap} {C:Nat → Prop} (hB:B.Le (hp w)) (hs:BsV bs fu sv B) (h2:B b2 = some (.cells #[za3 sb] 153)) (h3:B b3 = some (.cells #[.int .i64 lim] 3)) (hr:(zbh sb rb sv fr0 R).P B w C) (hC:∀ k, C k → k < w.heap.size ∧ B k = none) :
  RetX Tryz.prog 137 [za3 b2, za3 b3] w B C (zbh sb rb sv fr0 (zgk bs lim R).2) (.int .i64 (zgk bs lim R).1):=by
 unfold RetX
 refine zah 900 (zbh sb rb sv fr0 R) Tryz.func137 rfl Tryz.ntmps137 (Nat.le_of_ble_eq_true rfl) hB hr hC ?_
 rw [zd0, zae, zae]
 refine Zfb ?_
 refine ZdT ?_;refine q4 (id:=1) [(200006, [900]), (8, [901])] mixed (by kernel_rfl) ?_;refine zd (q9 L (qm rfl h2) rfl rfl rfl rfl) rfl ?_;refine Zfn ?_;refine Zen ?_;refine zd (q9 L (qm rfl h3) rfl rfl rfl rfl) rfl ?_;refine zbi (y3 L 901 (GRd rb sv (zgk bs lim R).2) (.int .i64 (zgk bs lim R).1) (r:=GRd rb sv R) rfl rfl rfl rfl rfl (fun u H C2 hH hle hr2 hC2 => len_ret hlim hb hl hat hH (hs.le hle) hr2 hC2)) rfl rfl ?_;refine ZK ?_
 refine zcu 900 901 rfl rfl (zas (GRd rb sv (zgk bs lim R).2)) ?_
 exact za4 L 900 (r:=zbh sb rb sv fr0 (zgk bs lim R).2) (rs:=[.tmp 2]) rfl (fun _ _ h => h) Since.refl rfl rfl (fun _ => rfl)
theorem size_ret {sb rb lim:Nat} {sv:Value} {R:Rd} {fr0:Int} {bs:List Nat} {fu:Bool} (hb:∀ b ∈ bs, b ≤ 255) (hl:bs.length ≤ 1099511627776) (hat:R.at_ ≤ bs.length) (hlim:lim ≤ 1099511627776) (he:(zgk bs lim R).2.err = 0) {w:World} {B:Heap} {C:Nat → Prop} (hB:B.Le (hp w)) (hs:BsV bs fu sv B) (hr:(zbh sb rb sv fr0 R).P B w C) (hC:∀ k, C k → k < w.heap.size ∧ B k = none) :
  RetX Tryz.prog 73 [za3 sb, .int .i64 lim] w B C (zbh sb rb sv R.at_ (zgk bs lim R).2) (.int .i64 (zgk bs lim R).1):=by
 unfold RetX
 refine zah 900 (zbh sb rb sv fr0 R) Tryz.func73 rfl Tryz.ntmps73 (Nat.le_of_ble_eq_true rfl) hB hr hC ?_
 refine ZaF ?_;refine Zd0 ?_;refine Zd ?_
 refine za5 2 902 rfl fun b2 => ?_
 refine za5 3 903 rfl fun b3 => ?_
 refine zgd 902 rfl fun H1 hs1 _ h2 => ?_
 refine zgd 903 rfl fun H2 hs2 _ h3 => ?_
 have h2:=hs2.le _ _ h2
 have hs12:=hs1.trans hs2
 have hs':=hs.le hs12.le
 have hcl:∀ (u:World) (H:Heap) (C:Nat → Prop), H2.Le H → H.Le (hp u) → (zbh sb rb sv R.at_ R).P H u C → (∀ k, C k → k < u.heap.size ∧ H k = none) → RetX Tryz.prog 137 ([] ++ [za3 b2, za3 b3]) u H C (zbh sb rb sv R.at_ (zgk bs lim R).2) (.int .i64 (zgk bs lim R).1):=fun u H C3 hle hH hr3 hC3 => znq hb hl hat hlim hH (hs'.le hle) (hle _ _ h2) (hle _ _ h3) hr3 hC3
 refine Zn ?_;refine z7 (q9 L (qm rfl h2) rfl rfl rfl rfl) rfl ?_;refine Zby ?_;refine q8 (y3 L 900 (zbh sb rb sv R.at_ (zgk bs lim R).2) (.int .i64 (zgk bs lim R).1) (r:=zbh sb rb sv fr0 R) rfl rfl rfl rfl rfl (fun u H C2 hH hle hr2 hC2 => zpi (fst:=[]) (cap:=[za3 b2, za3 b3]) rfl he hH hr2 hC2 (fun u3 H3 C3 hH3 hle3 hr3 hC3 => hcl u3 H3 C3 (hle.trans hle3) hH3 hr3 hC3))) ?_;refine Zc ?_
 exact za4 L 900 (r:=zbh sb rb sv R.at_ (zgk bs lim R).2) (rs:=[.tmp 4]) rfl (fun _ _ h => h) hs12 rfl rfl (fun _ => rfl)
theorem zw1 {sb rb lim:Nat} {sv:Value} {R:Rd} {fr0:Int} {bs:List Nat} {fu:Bool} (hb:∀ b ∈ bs, b ≤ 255) (hl:bs.length ≤ 1099511627776) (hat:R.at_ ≤ bs.length) (hlim:lim ≤ 1099511627776) (he:(zgk bs lim R).2.err ≠ 0) {w:World} {B:Heap} {C:Nat → Prop} (hB:B.Le (hp w)) (hs:BsV bs fu sv B) (hr:(zbh sb rb sv fr0 R).P B w C) (hC:∀ k, C k → k < w.heap.size ∧ B k = none) :
  Pan Tryz.prog 73 [za3 sb, .int .i64 lim] w B C (wrV (zgk bs lim R).2.bad (zgk bs lim R).2.err):=by
 refine zf5 900 (zbh sb rb sv fr0 R) Tryz.func73 rfl Tryz.ntmps73 (Nat.le_of_ble_eq_true rfl) hB hr hC ?_
 refine ZaF ?_;refine Zd0 ?_;refine Zd ?_
 refine za5 2 902 rfl fun b2 => ?_
 refine za5 3 903 rfl fun b3 => ?_
 refine zgd 902 rfl fun H1 hs1 _ h2 => ?_
 refine zgd 903 rfl fun H2 hs2 _ h3 => ?_
 have h2:=hs2.le _ _ h2
 have hs12:=hs1.trans hs2
 have hs':=hs.le hs12.le
 have hcl:∀ (u:World) (H:Heap) (C:Nat → Prop), H2.Le H → H.Le (hp u) → (zbh sb rb sv R.at_ R).P H u C → (∀ k, C k → k < u.heap.size ∧ H k = none) → RetX Tryz.prog 137 ([] ++ [za3 b2, za3 b3]) u H C (zbh sb rb sv R.at_ (zgk bs lim R).2) (.int .i64 (zgk bs lim R).1):=fun u H C3 hle hH hr3 hC3 => znq hb hl hat hlim hH (hs'.le hle) (hle _ _ h2) (hle _ _ h3) hr3 hC3
 refine zd4 (id:=1) 2 rfl ?_;refine z7 (q9 L (qm rfl h2) rfl rfl rfl rfl) rfl ?_;refine Zby ?_;refine zi ?_;refine zfl (r:=(zbh sb rb sv fr0 R).res) (K:=2) L 900 rfl rfl rfl rfl rfl (fun u H C2 hH hle hr2 hC2 => zpj (fst:=[]) (cap:=[za3 b2, za3 b3]) rfl he hH hr2 hC2 (fun u3 H3 C3 hH3 hle3 hr3 hC3 => hcl u3 H3 C3 (hle.trans hle3) hH3 hr3 hC3)) (fun _ _ _ _ h => h) ?_
 repeat (first | refine zfd ?_ | refine zd6 ?_)
 exact zqd hs12
theorem zrz {sb rb:Nat} {sv:Value} {R:Rd} {fr0:Int} {bs:List Nat} {fu:Bool} (hl:bs.length ≤ 1099511627776) (hat:R.at_ ≤ bs.length) (he:(zvo bs R).2 ≠ 0) {w:World} {B:Heap} {C:Nat → Prop} (hB:B.Le (hp w)) (hs:BsV bs fu sv B) (hr:(zbh sb rb sv fr0 R).P B w C) (hC:∀ k, C k → k < w.heap.size ∧ B k = none) :
  Pan Tryz.prog 79 [za3 sb] w B C (wrV (zvo bs R).1 (zvo bs R).2):=by
 refine zf5 900 (zbh sb rb sv fr0 R) Tryz.func79 rfl Tryz.ntmps79 (Nat.le_of_ble_eq_true rfl) hB hr hC ?_
 rw [zd0, zae, zae]
 refine Zfb ?_
 refine ZbA ?_;refine Z0 ?_;refine q8 (y3 L 901 (GRd rb sv R) (.tuple #[.int .i64 (zvo bs R).1, .int .i64 (zvo bs R).2]) (r:=GRd rb sv R) rfl rfl rfl rfl rfl (fun u H C2 hH hle hr2 hC2 => z0g hl hat hH (hs.le hle) hr2 hC2)) ?_;refine ZP ?_;refine Z4 ?_;refine Zam ?_;refine Zz ?_;refine zd4 (id:=2) 4 rfl ?_;refine Zb ?_;refine ZfS ?_;refine zi ?_;refine zpw (K:=4) rfl rfl rfl ?_
 repeat (first | refine zfd ?_ | refine zd6 ?_)
 exact zqd Since.refl
end Go.V.L11
