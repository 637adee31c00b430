/- Texts on the way to WiresSet, part 4: one behind another. -/
import Derived.Test.YtefilnnomholbaaGreatWiresSetM3
import Derived.Sort.LotD5
import Derived.Sort.Walk7
import Derived.Sort.WalkA14
import Derived.Sort.Walk13
import Derived.Lib.Builder
import Derived.Lib.AppendStr
set_option linter.unusedVariables false
set_option linter.unusedSimpArgs false
set_option maxRecDepth 20000
namespace Go.V.L6
open Go.Proofs Go.RowKit Go.V Go.V.L2 Go.V.L3
theorem zxe {α:Type} {c:α → α → Int} (h:Ord3 c):z2s c:=by
 refine ⟨fun a b => ?_, fun {a b d} h1 h2 => ?_, fun {a b} d e => ?_⟩
 ·have:=h.anti a b; omega
 ·exact h.tr h1 h2
 ·rw [h.eq _ _ e]
def zra (a b:U):Int:=zcc (a.2, a.1) (b.2, b.1)
theorem zh2:Ord3 zra where
 refl a:=cmpT_ord.refl _
 eq a b h:=by
  have:=cmpT_ord.eq _ _ h
  exact Prod.ext (congrArg Prod.snd this) (congrArg Prod.fst this)
 anti a b:=cmpT_ord.anti _ _
 trans a b d:=cmpT_ord.trans _ _ _
set_option linter.unusedSectionVars false
section keys
variable {α:Type} [DecidableEq α] {c:α → α → Int}
abbrev kS (L:List (α × Unit)):List α:=L.map (·.1)
theorem z6g {L:List (α × Unit)}:Tr.Srt c L ↔ Sst c (kS L):=by unfold Tr.Srt Sst kS; rw [List.pairwise_map]
theorem z38 (h:Ord3 c) {k:α}:∀ {L:List (α × Unit)}, k ∉ kS L → kS (Tr.putS c k () L) = zib c k (kS L)
 | [], _ => rfl
 | y :: L, hk => by
  simp only [kS, List.map_cons, List.mem_cons, not_or] at hk
  simp only [Tr.putS]
  by_cases h1:c k y.1 < 0
  ·rw [if_pos h1]
   simp [kS, zib, h1]
  ·have h2:=h.tri h1 hk.1
   have h3:=h.anti k y.1
   rw [if_neg h1, if_pos (by omega)]
   have ih:=z38 h (L:=L) hk.2
   simp only [kS, List.map_cons, zib] at ih ⊢
   rw [if_neg h1, ih]
theorem zys (h:Ord3 c) {k:α}:∀ {L:List (α × Unit)}, Sst c (kS L) → kS (Tr.dropS c k L) = (kS L).filter fun z => decide (z ≠ k)
 | [], _ => rfl
 | y :: L, hs => by
  simp only [kS, List.map_cons] at hs
  obtain ⟨hy, hs'⟩:=List.pairwise_cons.1 hs
  simp only [Tr.dropS]
  have all:∀ {d:α}, (c k d < 0 ∨ k = d) → (∀ z ∈ kS L, c d z < 0) → (kS L).filter (fun z => decide (z ≠ k)) = kS L:=fun {d} hd hz => List.filter_eq_self.2 fun z hm => by
   have h4:=hz z hm
   simp only [decide_eq_true_eq]
   intro e
   subst e
   rcases hd with hd | hd
   ·exact h.asym hd h4
   ·subst hd; exact h.irr _ h4
  by_cases h1:c k y.1 < 0
  ·rw [if_pos h1]
   simp only [kS, List.map_cons, List.filter_cons]
   rw [if_pos (by simpa using (h.ne h1).symm)]
   have:=all (.inl h1) hy
   unfold kS at this
   rw [this]
  ·rw [if_neg h1]
   by_cases h2:c k y.1 > 0
   ·rw [if_pos h2]
    have ih:=zys h (k:=k) (L:=L) hs'
    simp only [kS, List.map_cons, List.filter_cons] at ih ⊢
    have hne:y.1 ≠ k:=fun e => by rw [e, h.refl] at h2; omega
    rw [if_pos (by simpa using hne), ih]
   ·rw [if_neg h2]
    have e:=h.eq _ _ (show c k y.1 = 0 by omega)
    simp only [kS, List.map_cons, List.filter_cons]
    rw [if_neg (by simpa using e.symm)]
    have:=all (.inr e) hy
    unfold kS at this
    rw [this]
theorem z6h (h:Ord3 c) {k:α}:∀ {L:List (α × Unit)}, (k ∈ kS L → Tr.getS c k L = some ()) ∧ (k ∉ kS L → Tr.getS c k L = none)
 | [] => ⟨fun h => (by cases h), fun _ => rfl⟩
 | y :: L => by
  have ih:=z6h h (k:=k) (L:=L)
  simp only [Tr.getS, kS, List.map_cons, List.mem_cons]
  by_cases e:k = y.1
  ·subst e; rw [if_pos (h.refl _)]; exact ⟨fun _ => rfl, fun hn => absurd (.inl rfl) hn⟩
  ·have:¬ c k y.1 = 0:=fun h0 => e (h.eq _ _ h0)
   rw [if_neg this]
   exact ⟨fun hm => ih.1 (hm.resolve_left e), fun hn => ih.2 fun hm => hn (.inr hm)⟩
theorem zoc:∀ {l:List α} {x:α}, l.Nodup → x ∈ l → (l.filter fun z => decide (z ≠ x)).length + 1 = l.length
 | [], _, _, h => by cases h
 | y :: l, x, hn, h => by
  obtain ⟨h1, h2⟩:=List.nodup_cons.1 hn
  rw [List.filter_cons]
  by_cases e:y = x
  ·subst e
   rw [if_neg (by simp)]
   have:(l.filter fun z => decide (z ≠ y)) = l:=List.filter_eq_self.2 fun z hz => by
    simp only [decide_eq_true_eq]
    exact fun e => h1 (e ▸ hz)
   rw [this, List.length_cons]
  ·rw [if_pos (by simpa using e), List.length_cons, List.length_cons, zoc h2 (by
    rcases List.mem_cons.1 h with h | h
    ·exact absurd h.symm e
    ·exact h)]
theorem zvk {l:List α} {x:α} (h:x ∉ l):(l.filter fun z => decide (z ≠ x)) = l:=List.filter_eq_self.2 fun z hz => by
 simp only [decide_eq_true_eq]
 exact fun e => h (e ▸ hz)
theorem zt2 {V:Type} (f e:Nat):∀ (l:List (α × V)) (i:Nat), Tr.cutI (f:Int) (e:Int) l (i:Int) = (l.take (e - i)).drop (f - i)
 | [], i => by simp [Tr.cutI]
 | y :: l, i => by
  have ih:=zt2 f e l (i + 1)
  simp only [Tr.cutI]
  rw [show ((i:Int) + 1) = ((i + 1:Nat):Int) by omega, ih]
  by_cases h:f ≤ i ∧ i < e
  ·rw [if_pos (by omega), show e - i = (e - (i + 1)) + 1 by omega, show f - i = 0 by omega, show f - (i + 1) = 0 by omega]
   rfl
  ·rw [if_neg (by omega)]
   by_cases h2:i < e
   ·rw [show e - i = (e - (i + 1)) + 1 by omega, show f - i = (f - (i + 1)) + 1 by omega]
    rfl
   ·rw [show e - i = 0 by omega, show e - (i + 1) = 0 by omega]
    simp
end keys
structure TS (l:List U) (t u:Tr U Unit):Prop where
 kt:kS t.list = l
 st:Sst zcc l
 su:Sst zra (kS u.list)
 mu:∀ z, z ∈ kS u.list ↔ z ∈ l
 zu:u.size = l.length
theorem zlr:z2s zcc:=zxe cmpT_ord
theorem zqx:z2s zra:=zxe zh2
theorem z5c:TS [] .nil .nil:=⟨rfl, Sst.nil, Sst.nil, fun _ => Iff.rfl, rfl⟩
section ts
variable {l:List U} {t u:Tr U Unit}
theorem TS.size (h:TS l t u):t.size = l.length:=by rw [← Tr.size_list, ← h.kt]; simp
theorem TS.srt (h:TS l t u):Tr.Srt zcc t.list:=z6g.2 (h.kt ▸ h.st)
theorem TS.srtu (h:TS l t u):Tr.Srt zra u.list:=z6g.2 h.su
theorem TS.put (h:TS l t u) {x:U} (hx:x ∉ l):TS (zib zcc x l) (Tr.put zcc x () t) (Tr.put zra x () u):=by
 have hxt:x ∉ kS t.list:=by rw [h.kt]; exact hx
 have hxu:x ∉ kS u.list:=fun hm => hx ((h.mu x).1 hm)
 have e1:kS (Tr.put zcc x () t).list = zib zcc x l:=by
  rw [Tr.list_put zlr x () h.srt, z38 cmpT_ord hxt, h.kt]
 have e2:kS (Tr.put zra x () u).list = zib zra x (kS u.list):=by
  rw [Tr.list_put zqx x () h.srtu, z38 zh2 hxu]
 refine ⟨e1, zgg cmpT_ord h.st hx, ?_, fun z => ?_, ?_⟩
 ·rw [e2]; exact zgg zh2 h.su hxu
 ·rw [e2, zep, zep, h.mu]
 ·have:=congrArg List.length e2
  simp only [kS, List.length_map, zck, Tr.size_list] at this
  rw [this, zck, h.zu]
theorem TS.drop (h:TS l t u) {x:U} (hx:x ∈ l):TS (l.filter fun z => decide (z ≠ x)) (if (Tr.drop zcc x t).2 = true then (Tr.drop zcc x t).1 else t) (if (Tr.drop zra x u).2 = true then (Tr.drop zra x u).1 else u):=by
 have e1:kS (if (Tr.drop zcc x t).2 = true then (Tr.drop zcc x t).1 else t).list = l.filter fun z => decide (z ≠ x):=by
  rw [(Tr.list_drop zlr x h.srt).1, zys cmpT_ord (by rw [h.kt]; exact h.st), h.kt]
 have e2:kS (if (Tr.drop zra x u).2 = true then (Tr.drop zra x u).1 else u).list = (kS u.list).filter fun z => decide (z ≠ x):=by
  rw [(Tr.list_drop zqx x h.srtu).1, zys zh2 h.su]
 refine ⟨e1, h.st.sublist List.filter_sublist, ?_, fun z => ?_, ?_⟩
 ·rw [e2]; exact h.su.sublist List.filter_sublist
 ·rw [e2, List.mem_filter, List.mem_filter, h.mu]
 ·have h1:=congrArg List.length e2
  have h2:=zoc (h.su.nodup zh2) ((h.mu x).2 hx)
  have h3:=zoc (h.st.nodup cmpT_ord) hx
  have h4:=h.zu
  simp only [kS, List.length_map, Tr.size_list] at h1 h2
  omega
theorem TS.get (h:TS l t u) (x:U):Tr.get zcc x t = if x ∈ l then some () else none:=by
 have hk:=z6h cmpT_ord (k:=x) (L:=t.list)
 rw [h.kt] at hk
 rw [Tr.get_list zlr x h.srt]
 by_cases hx:x ∈ l
 ·rw [if_pos hx]; exact hk.1 hx
 ·rw [if_neg hx]; exact hk.2 hx
end ts
def zcf (l:List U) (x:U) (d:Bool):List U × Int :=
 if tE x = 0 then (if d = true then (l.filter fun z => decide (z ≠ x), 0) else if x ∈ l then (l, 0) else if l.length ≥ 4096 then ([], 3) else (zib zcc x l, 0)) else ([], tE x)
theorem zv0 {l:List U} (hs:Sst zcc l) (x:U) (d:Bool):Sst zcc (zcf l x d).1:=by
 unfold zcf
 split
 ·split
  ·exact hs.sublist List.filter_sublist
  ·split
   ·exact hs
   ·split
    ·exact Sst.nil
    ·rename_i h _; exact zgg cmpT_ord hs h
 ·exact Sst.nil
theorem zo4 {l:List U} (hl:l.length ≤ 4096) (x:U) (d:Bool):(zcf l x d).1.length ≤ 4096:=by
 unfold zcf
 split
 ·split
  ·exact Nat.le_trans (List.length_filter_le _ _) hl
  ·split
   ·exact hl
   ·split
    ·exact Nat.zero_le _
    ·rw [zck]; omega
 ·exact Nat.zero_le _
def ofU:List U → List U → List U × Int
 | l, [] => (l, 0)
 | l, x :: r => if (zcf l x false).2 = 0 then ofU (zcf l x false).1 r else ([], (zcf l x false).2)
end Go.V.L6
set_option maxRecDepth 20000
namespace Go.V.L8
open Go.Proofs Go.RowKit Go.V Go.V.L2 Go.V.L3 Go.V.L6
abbrev CH:=U × Bool
def cE (n:Nat) (l:List CH):Int:=if n < l.length then 3 else if (l.any fun c => !decide (tE c.1 = 0)) = true then 6 else 0
def zjj (s:List U) (m:CH):Bool:=decide (m.1 ∈ s) != m.2
def zcy (s:List U):List CH → Nat → Nat × Int
 | [], i => (i, 0)
 | m :: r, i => if zjj s m = true then zcy s r (i + 1) else (i, 13)
def zhw (s:List U) (l:List CH):Nat × Int:=if cE 32 l = 0 then zcy s l 0 else (0, cE 32 l)
theorem zgn (s:List U):∀ (l:List CH) (i:Nat), zcy s l i = ((zcy s l 0).1 + i, (zcy s l 0).2)
 | [], i => by simp [zcy]
 | m :: r, i => by
  by_cases h:zjj s m = true
  ·have e1:zcy s (m :: r) i = zcy s r (i + 1):=by rw [zcy, if_pos h]
   have e2:zcy s (m :: r) 0 = zcy s r (0 + 1):=by rw [zcy, if_pos h]
   rw [e1, e2, zgn s r (i + 1), zgn s r (0 + 1)]
   exact Prod.ext (by show (zcy s r 0).1 + (i + 1) = (zcy s r 0).1 + (0 + 1) + i; omega) rfl
  ·rw [zcy, zcy, if_neg h, if_neg h]; simp
theorem zvi {s:List U} {l:List CH} {i:Nat} {m:CH} (h:∀ (j:Nat) x, j < i → l[j]? = some x → zjj s x = true) (hm:l[i]? = some m) (hh:zjj s m = false):zcy s l 0 = (i, 13):=by
 induction l generalizing i with
 | nil => simp at hm
 | cons y r ih =>
  cases i with
  | zero =>
   simp at hm; subst hm
   unfold zcy
   rw [if_neg (by rw [hh]; decide)]
  | succ i =>
   have hy:=h 0 y (Nat.succ_pos _) rfl
   unfold zcy
   rw [if_pos hy, zgn, ih (i:=i) (fun j x hj hx => h (j + 1) x (by omega) hx) (by simpa using hm)]
theorem zvj {s:List U} {l:List CH} (h:∀ x ∈ l, zjj s x = true):zcy s l 0 = (l.length, 0):=by
 induction l with
 | nil => rfl
 | cons y r ih =>
  unfold zcy
  rw [if_pos (h y (by simp)), zgn, ih (fun x hx => h x (by simp [hx]))]
  rfl
def zo1:List U → List CH → List CH → List U × List CH × Int
 | s, made, [] => (s, made, 0)
 | s, made, c :: r => if (zcf s c.1 c.2).2 = 0 then zo1 (zcf s c.1 c.2).1 (if decide (c.1 ∈ s) = c.2 then made ++ [c] else made) r else ([], [], (zcf s c.1 c.2).2)
def z1x (s:List U) (l cs:List CH):List U × List CH × Int :=
 if cE 32 l = 0 then (if cE 32 cs = 0 then (if (zhw s l).2 = 0 then zo1 s [] cs else ([], [], (zhw s l).2)) else ([], [], cE 32 cs)) else ([], [], cE 32 l)
end Go.V.L8
set_option maxRecDepth 20000
namespace Go.V.L10
open Go.Proofs Go.RowKit Go.V Go.V.L2 Go.V.L8
def kpt (R:List (Option (List U))) (r:Int):Option (List U):=if 0 < r then (R[(r - 1).toNat]?).join else none
def zhq (R:List (Option (List U))):List Int:=((List.range R.length).filter fun i => ((R[i]?).join).isSome).map fun i => ((i + 1:Nat):Int)
theorem zr8 (R:List (Option (List U))) (i:Nat):kpt R ((i + 1:Nat):Int) = (R[i]?).join:=by
 unfold kpt
 rw [if_pos (by omega), show (((i + 1:Nat):Int) - 1).toNat = i by omega]
theorem zyp {R:List (Option (List U))} {r:Int} (h:(kpt R r).isSome = true):0 < r ∧ r ≤ R.length:=by
 unfold kpt at h
 split at h
 ·rename_i h0
  refine ⟨h0, ?_⟩
  cases hr:R[(r - 1).toNat]? with
  | none => rw [hr] at h; cases h
  | some x => have:=get_lt hr; omega
 ·cases h
theorem zqh {R:List (Option (List U))} {r:Int}:r ∈ zhq R ↔ (kpt R r).isSome = true:=by
 unfold zhq
 rw [List.mem_map]
 constructor
 ·rintro ⟨i, hi, rfl⟩
  rw [List.mem_filter] at hi
  rw [zr8]
  exact hi.2
 ·intro h
  have hb:=zyp h
  obtain ⟨i, rfl⟩:∃ i:Nat, r = ((i + 1:Nat):Int):=⟨(r - 1).toNat, by omega⟩
  rw [zr8] at h
  exact ⟨i, List.mem_filter.2 ⟨List.mem_range.2 (by omega), h⟩, rfl⟩
theorem zwm (R:List (Option (List U))):Sst cP (zhq R):=by
 unfold zhq Sst
 rw [List.pairwise_map]
 refine (List.Pairwise.filter _ List.pairwise_lt_range).imp ?_
 intro a b h
 exact z8g.2 (by omega)
section
variable {Y:Type}
theorem z0x (k:Int):zia k ([]:List (Int × Y)) = none:=rfl
theorem zk9 {k:Int}:∀ {l:List (Int × Y)}, (zia k l).isSome = true ↔ k ∈ l.map Prod.fst
 | [] => by simp [z0x]
 | p :: l => by
  rw [zee, List.map_cons, List.mem_cons]
  by_cases h:k = p.1
  ·rw [if_pos h]; simp [h]
  ·rw [if_neg h, zk9]; simp [h]
theorem zn8 {k:Int} {y:Y}:∀ {l:List (Int × Y)}, zia k l = some y → (k, y) ∈ l
 | [], h => by cases h
 | p :: l, h => by
  rw [zee] at h
  by_cases e:k = p.1
  ·rw [if_pos e] at h
   cases h
   rw [e]; exact List.mem_cons_self ..
  ·rw [if_neg e] at h
   exact List.mem_cons_of_mem _ (zn8 h)
end
structure MapOK {Y:Type} (es:List (Int × (List U × Y))) (R:List (Option (List U))):Prop where
 nd:(es.map Prod.fst).Nodup
 get:∀ r, (zia r es).map Prod.fst = kpt R r
theorem MapOK.mem {Y:Type} {es:List (Int × (List U × Y))} {R:List (Option (List U))} (h:MapOK es R) {r:Int}:r ∈ es.map Prod.fst ↔ r ∈ zhq R:=by
 rw [← zk9, zqh, ← h.get r, Option.isSome_map]
theorem z0j {a b:List Int} (ha:a.Nodup) (hb:b.Nodup) (h:∀ x, x ∈ a ↔ x ∈ b):a.length = b.length:=((List.perm_ext_iff_of_nodup ha hb).2 h).length_eq
theorem MapOK.len {Y:Type} {es:List (Int × (List U × Y))} {R:List (Option (List U))} (h:MapOK es R):es.length = (zhq R).length:=by
 rw [← List.length_map (f:=Prod.fst)]
 exact z0j h.nd ((zwm R).nodup zi9) fun _ => h.mem
theorem z02 (R:List (Option (List U))) (t:List U) (r:Int):kpt (R ++ [some t]) r = if r = ((R.length + 1:Nat):Int) then some t else kpt R r:=by
 by_cases h:r = ((R.length + 1:Nat):Int)
 ·rw [if_pos h, h, zr8]; simp
 ·rw [if_neg h]
  unfold kpt
  by_cases h0:0 < r
  ·rw [if_pos h0, if_pos h0]
   rcases Nat.lt_or_ge (r - 1).toNat R.length with hlt | hge
   ·rw [List.getElem?_append_left hlt]
   ·rw [List.getElem?_eq_none (by rw [List.length_append, List.length_singleton]; omega), List.getElem?_eq_none hge]
  ·rw [if_neg h0, if_neg h0]
theorem MapOK.add {Y:Type} {es:List (Int × (List U × Y))} {R:List (Option (List U))} (h:MapOK es R) (t:List U) (y:Y):MapOK (zva ((R.length + 1:Nat):Int) (t, y) es) (R ++ [some t]) ∧ zva ((R.length + 1:Nat):Int) (t, y) es = es ++ [(((R.length + 1:Nat):Int), (t, y))]:=by
 have hn:((R.length + 1:Nat):Int) ∉ es.map Prod.fst:=fun hm => by
  have:=zyp (zqh.1 (h.mem.1 hm)); omega
 have hf:zfl ((R.length + 1:Nat):Int) es 0 = none:=by
  have h1:¬ (zia ((R.length + 1:Nat):Int) es).isSome = true:=fun hs => hn (zk9.1 hs)
  unfold zia at h1
  cases hm:zfl ((R.length + 1:Nat):Int) es 0 with
  | none => rfl
  | some q => rw [hm] at h1; exact absurd rfl h1
 have he:zva ((R.length + 1:Nat):Int) (t, y) es = es ++ [(((R.length + 1:Nat):Int), (t, y))]:=zk8 hf
 refine ⟨⟨?_, fun r => ?_⟩, he⟩
 ·rw [he, List.map_append, List.nodup_append]
  refine ⟨h.nd, List.pairwise_singleton _ _, fun a ha b hb => ?_⟩
  simp only [List.map_cons, List.map_nil, List.mem_singleton] at hb
  subst hb
  exact fun e => hn (e ▸ ha)
 ·rw [ztq, z02]
  by_cases e:r = ((R.length + 1:Nat):Int)
  ·rw [if_pos e, if_pos e]; rfl
  ·rw [if_neg e, if_neg e, h.get]
structure Sto where
 R:List (Option (List U))
 P:List Int
def newS:Sto:=⟨[some []], []⟩
def atS (S:Sto) (r:Int):List U × Int:=match kpt S.R (if r = 0 then S.R.length else r) with
 | some t => (t, 0)
 | none => ([], 14)
end Go.V.L10
set_option maxRecDepth 20000
namespace Go.V.So
open Go.Proofs Go.RowKit Go.V Go.Sort
abbrev lt:Int → Int → Bool:=ltInt
abbrev tyU:TypeId:=63
attribute [local irreducible] V N X VO Par StepOK Has Ret RetL RetO zbd RetX Src
theorem isnanU (a:Int) {w:World} {B:Heap} (hB:B.Le (hp w)):Ret Tryz.prog 263 [.int .u64 a] w B (fun v _ => v = .bool false):=by
 refine qu Tryz.func263 rfl Tryz.ntmps263 (Nat.le_of_ble_eq_true rfl) hB ?_
 refine Zac ?_;refine Zc ?_;refine Zae ?_;refine Zb ?_
 refine qt L (rs:=[.tmp 2]) rfl (fun _ _ h => h) Since.refl fun u H hH hle => ?_
 rfl
theorem z8a (a b:Int) {w:World} {B:Heap} (hB:B.Le (hp w)):Ret Tryz.prog 275 [.int .u64 a, .int .u64 b] w B (fun v _ => v = .bool (lt a b)):=by
 unfold lt ltInt
 refine qu Tryz.func275 rfl Tryz.ntmps275 (Nat.le_of_ble_eq_true rfl) hB ?_
 by_cases h:a < b
 ·rw [decide_eq_true h]
  refine Zc9 ?_;refine z7 (q0 L rfl rfl (zn rfl) rfl rfl rfl (fun u H hH _ _ => isnanU _ hH)) rfl ?_;refine Zap ?_;refine ZF ?_;refine ZB ?_;refine Ze ?_;refine Zb ?_
  refine qt L (rs:=[.tmp 4]) rfl (fun _ _ h => h) Since.refl fun u H hH hle => ?_
  rfl
 ·rw [decide_eq_false h]
  refine Zc9 ?_;refine z7 (q0 L rfl rfl (zn rfl) rfl rfl rfl (fun u H hH _ _ => isnanU _ hH)) rfl ?_;refine Zap ?_;refine ZF ?_;refine Zo ?_;refine Ze ?_;refine Zb ?_
  refine qt L (rs:=[.tmp 4]) rfl (fun _ _ h => h) Since.refl fun u H hH hle => ?_
  rfl
theorem zmv {a b:Int} {f:Bool} (h:lt a b = f) {w:World} {B:Heap} (hB:B.Le (hp w)):Ret Tryz.prog 275 [.int .u64 a, .int .u64 b] w B (fun v _ => v = .bool f):=h ▸ z8a a b hB
end Go.V.So
set_option maxRecDepth 20000
namespace Go.V.So
open Go.Proofs Go.RowKit Go.V Go.Sort
theorem _root_.Go.V.Zaa {A B:Prop} (h:B) (t:Wr B → A:=by intro h; refine zd (zgj L _ rfl rfl rfl rfl rfl rfl rfl (by omega)) rfl ?_;exact h.h):A:=t ⟨h⟩
theorem _root_.Go.V.ZaE {A B:Prop} (h:B) (t:Wr B → A:=by intro h; refine z7 (zp7 rfl rfl rfl rfl (by assumption)) rfl ?_;exact h.h):A:=t ⟨h⟩
theorem _root_.Go.V.Ze7 {A B:Prop} (h:B) (t:Wr B → A:=by intro h; refine Zcz ?_;refine ZaI ?_;exact h.h):A:=t ⟨h⟩
attribute [local irreducible] V N X VO Par StepOK Has Ret RetL RetO zbd RetX Src
set_option maxHeartbeats 1000000 in
set_option maxRecDepth 20000 in
theorem rev_ret {d:Array Int} {rest:List Value} {b m cap a e:Nat} (hab:a < e) (he:e ≤ d.size) (hm:d.size = m) (hm1:m ≤ 100000) {w:World} {B:Heap} {C:Nat → Prop} (hB:B.Le (hp w))
  (hr:(zai b (uC d ++ rest) tyU).P B w C) (hC:∀ k, C k → k < w.heap.size ∧ B k = none) :
  zbd Tryz.prog 273 [.slice (some ⟨b, 0, none⟩) m cap, .int .i64 a, .int .i64 e] w B C (zai b (uC (reverseRange d a e) ++ rest) tyU):=by
 unfold zbd
 refine zaf 900 (zai b (uC d ++ rest) tyU) Tryz.func273 rfl Tryz.ntmps273 (Nat.le_of_ble_eq_true rfl) hB hr hC ?_
 rw [zac]
 have hw0:IntKind.i64.wrap ((e:Int) - 1) = ((e - 1:Nat):Int):=zad (by omega) (by omega) |>.trans (by omega)
 refine ZC ?_;refine Za ?_;refine Zbj ?_;refine ZaE ?_;refine ZW ?_
 refine zao (fun s:(Nat × Nat) × Array Int => [(0, .is (.slice (some ⟨b, 0, none⟩) m cap)), (6, .is (.int .i64 s.1.1)), (7, .is (.int .i64 s.1.2)), (900, .own (zaj b (uC s.2 ++ rest) tyU))]) (fun s => s.1.1 ≤ m ∧ s.1.2 < m ∧ s.2.size = m ∧ reverseLoop s.1.1 s.1.2 s.2 = reverseRange d a e) (fun s => s.1.2 - s.1.1) ((a, e - 1), d) ⟨by dsimp only; omega, by dsimp only; omega, hm, rfl⟩ ⟨rfl, rfl, rfl, rfl, trivial⟩ ?_
 rintro ⟨⟨i, j⟩, E⟩ ⟨hi, hj, hE, hO⟩
 dsimp only at hi hj hE hO ⊢
 by_cases hlt:i < j
 ·rw [reverseLoop, if_pos hlt] at hO
  have hw1:IntKind.i64.wrap ((i:Int) + 1) = ((i + 1:Nat):Int):=zad (by omega) (by omega)
  have hw2:IntKind.i64.wrap ((j:Int) - 1) = ((j - 1:Nat):Int):=zad (by omega) (by omega) |>.trans (by omega)
  obtain ⟨_, qj⟩:=zsu (rest:=rest) (show j < E.size by omega) (0 + (j) * 1) rfl
  obtain ⟨_, qi⟩:=zsu (rest:=rest) (show i < E.size by omega) (0 + (i) * 1) rfl
  have s1:=zo9 (rest:=rest) E[j]! (show i < E.size by omega) (0 + (i) * 1) rfl
  have b1:=zpa (rest:=rest) (show i < E.size by omega) (0 + (i) * 1) rfl
  have hz:j < (E.setIfInBounds (i) E[j]!).size:=by rw [Array.size_setIfInBounds]; omega
  have s2:=zo9 (rest:=rest) E[i]! hz (0 + (j) * 1) rfl
  have b2:=zpa (rest:=rest) hz (0 + (j) * 1) rfl
  rw [zs1] at s2
  refine Zh ?_;refine Zdh ?_;refine ZaX ?_;refine Ze7 ?_;refine qh (id:=3) [(200021, [900]), (200025, [900]), (100026, [900]), (100027, [900])] mixed (by kernel_rfl) ?_;refine Z7 ?_;refine Z7 ?_;refine Z7 ?_;refine Zaa ?_;refine yj (ql L (q:=900) rfl rfl rfl rfl rfl qj) rfl rfl ?_;refine Z7 ?_;refine Zaa ?_;refine yj (ql L (q:=900) rfl rfl rfl rfl rfl qi) rfl rfl ?_;refine Zaa ?_;refine zcu (yf L (q:=900) rfl rfl rfl rfl rfl rfl b1 rfl s1) rfl ?_;refine Zaa ?_;refine zcu (yf L (q:=900) rfl rfl rfl rfl rfl rfl b2 rfl s2) rfl ?_;refine Zbu ?_;refine zj ?_;refine Zw ?_;refine Zak ?_;refine Zb ?_;refine Zbb ?_;refine ZaE ?_;refine ZI ?_;refine yd ?_
  exact yl (x:=((i, j), E)) ((i + 1, j - 1), swp E i j) ⟨by dsimp only; omega, by dsimp only; omega, by dsimp only; rw [zjp]; exact hE, hO⟩ (by dsimp only; omega) ⟨rfl, rfl, rfl, rfl, trivial⟩
 ·rw [reverseLoop, if_neg hlt] at hO
  subst hO
  refine Zh ?_;refine Zdh ?_;refine Zo ?_;refine Zat ?_;refine Zdr ?_
  exact za9 L 900 (r:=zai b _ tyU) rfl (fun _ _ h => h) Since.refl rfl rfl
end Go.V.So
set_option maxRecDepth 20000
namespace Go.V.So
open Go.Proofs Go.RowKit Go.V Go.Sort
attribute [local irreducible] V N X VO Par StepOK Has Ret RetL RetO zbd RetX Src
end Go.V.So
set_option maxRecDepth 20000
namespace Go.V.So
open Go.Proofs Go.RowKit Go.V Go.Sort
attribute [local irreducible] V N X VO Par StepOK Has Ret RetL RetO zbd RetX Src
end Go.V.So
set_option maxRecDepth 20000
namespace Go.V.So
open Go.Proofs Go.RowKit Go.V Go.Sort
theorem _root_.Go.V.Ze8 {A B:Prop} (h:B) (t:Wr B → A:=by intro h; refine z8 (id:=20) ?_;exact h.h):A:=t ⟨h⟩
theorem _root_.Go.V.Zeu {A B:Prop} (h:B) (t:Wr B → A:=by intro h; refine Za ?_;refine Zak ?_;exact h.h):A:=t ⟨h⟩
theorem _root_.Go.V.Zcs {A B:Prop} (h:B) (t:Wr B → A:=by intro h; refine Ze8 ?_;refine Zc ?_;exact h.h):A:=t ⟨h⟩
theorem _root_.Go.V.ZcM {A B:Prop} (h:B) (t:Wr B → A:=by intro h; refine Z7 ?_;refine Zen ?_;exact h.h):A:=t ⟨h⟩
theorem _root_.Go.V.Zdk {A B:Prop} (h:B) (t:Wr B → A:=by intro h; refine Zf7 ?_;refine Zag ?_;exact h.h):A:=t ⟨h⟩
attribute [local irreducible] V N X VO Par StepOK Has Ret RetL RetO zbd RetX Src
theorem zf1 {d:Array Int} {e i:Nat} (h:¬ (i < e ∧ lt d[i]! d[i - 1]! = false)):scanSorted lt d e i = i:=by
 rw [scanSorted, if_neg]
 simpa using h
theorem znp {d:Array Int} {e i:Nat} (h1:i < e) (h2:lt d[i]! d[i - 1]! = false):scanSorted lt d e i = scanSorted lt d e (i + 1):=by
 rw [scanSorted, if_pos (by simp [h1, h2])]
set_option maxHeartbeats 2000000 in
set_option maxRecDepth 20000 in
theorem pins_ret {d:Array Int} {rest:List Value} {b m cap a e:Nat} (hab:a < e) (he:e ≤ d.size) (hm:d.size = m) (hm1:m ≤ 100000) {w:World} {B:Heap} {C:Nat → Prop} (hB:B.Le (hp w))
  (hr:(zai b (uC d ++ rest) tyU).P B w C) (hC:∀ k, C k → k < w.heap.size ∧ B k = none) :
  RetX Tryz.prog 274 [.slice (some ⟨b, 0, none⟩) m cap, .int .i64 a, .int .i64 e] w B C (zai b (uC (partialInsertionSort lt d a e).1 ++ rest) tyU) (.bool (partialInsertionSort lt d a e).2):=by
 unfold RetX
 refine zaf 900 (zai b (uC d ++ rest) tyU) Tryz.func274 rfl Tryz.ntmps274 (Nat.le_of_ble_eq_true rfl) hB hr hC ?_
 rw [zac]
 have hw1:IntKind.i64.wrap ((a:Int) + 1) = ((a + 1:Nat):Int):=zad (by omega) (by omega)
 have hw2:IntKind.i64.wrap ((e:Int) - (a:Int)) = ((e - a:Nat):Int):=zad (by omega) (by omega) |>.trans (by omega)
 obtain ⟨X, hX⟩:∃ X, X = partialInsertionSort lt d a e:=⟨_, rfl⟩
 rw [← hX]
 unfold partialInsertionSort at hX
 refine Zac ?_;refine Zeu ?_;refine Zb4 ?_;refine ZW ?_
 refine zao (fun s:(Nat × Nat) × Array Int => [(0, .is (.slice (some ⟨b, 0, none⟩) m cap)), (1, .is (.int .i64 a)), (2, .is (.int .i64 e)), (7, .is (.int .i64 s.1.2)), (8, .is (.int .i64 s.1.1)), (900, .own (zaj b (uC s.2 ++ rest) tyU))]) (fun s => s.1.1 ≤ 5 ∧ a + 1 ≤ s.1.2 ∧ s.1.2 ≤ e ∧ s.2.size = m ∧ partialIns lt a e (5 - s.1.1) s.1.2 s.2 = X) (fun s => 5 - s.1.1) ((0, a + 1), d) ⟨by dsimp only; omega, by dsimp only; omega, by dsimp only; omega, hm, hX.symm⟩ ⟨rfl, rfl, rfl, rfl, rfl, rfl, trivial⟩ ?_
 rintro ⟨⟨k, i0⟩, D⟩ ⟨hk, hi1, hi2, hD, hL⟩
 dsimp only at hk hi1 hi2 hD hL ⊢
 clear hX
 by_cases hk5:k < 5
 ·obtain ⟨s, hs⟩:∃ s, 5 - k = s + 1:=⟨5 - k - 1, by omega⟩
  have hs':5 - (k + 1) = s:=by omega
  rw [hs, partialIns] at hL
  dsimp only at hL
  refine Zba ?_;refine Zes ?_;refine qm ?_
  refine z65 (z0w (fun i:Nat => [(0, .is (.slice (some ⟨b, 0, none⟩) m cap)), (1, .is (.int .i64 a)), (2, .is (.int .i64 e)), (7, .is (.int .i64 i)), (8, .is (.int .i64 k)), (900, .own (zaj b (uC D ++ rest) tyU))]) (fun i => a + 1 ≤ i ∧ i ≤ e ∧ i = scanSorted lt D e i0) (fun _ => []) ?_) ?_
  rotate_left
  ·refine zao (fun i:Nat => [(0, .is (.slice (some ⟨b, 0, none⟩) m cap)), (1, .is (.int .i64 a)), (2, .is (.int .i64 e)), (7, .is (.int .i64 i)), (8, .is (.int .i64 k)), (900, .own (zaj b (uC D ++ rest) tyU))]) (fun i => a + 1 ≤ i ∧ i ≤ e ∧ scanSorted lt D e i = scanSorted lt D e i0) (fun i => e - i) i0 ⟨hi1, hi2, rfl⟩ ⟨rfl, rfl, rfl, rfl, rfl, rfl, trivial⟩ ?_
   rintro i ⟨h1, h2, h3⟩
   by_cases hle:i < e
   ·obtain ⟨_, q1⟩:=zsu (rest:=rest) (show i < D.size by omega) (0 + (i) * 1) rfl
    obtain ⟨_, q2⟩:=zsu (rest:=rest) (show i - 1 < D.size by omega) (0 + (i - 1) * 1) rfl
    have hw3:IntKind.i64.wrap ((i:Int) - 1) = ((i - 1:Nat):Int):=zad (by omega) (by omega) |>.trans (by omega)
    cases hc:lt D[i]! D[i - 1]! with
    | false =>
     have hw4:IntKind.i64.wrap ((i:Int) + 1) = ((i + 1:Nat):Int):=zad (by omega) (by omega)
     refine Zh ?_;refine qh (id:=5) [(200024, [900]), (200029, [900])] mixed (by kernel_rfl) ?_;refine Z7 ?_;refine ZdR ?_;refine Z7 ?_;refine Zi ?_;refine Zaa ?_;refine yj (ql L (q:=900) rfl rfl rfl rfl rfl q1) rfl rfl ?_;refine ZcM ?_;refine Zaa ?_;refine yj (ql L (q:=900) rfl rfl rfl rfl rfl q2) rfl rfl ?_;refine zd (q0 L rfl rfl (zn rfl) rfl rfl rfl (fun u H hH _ _ => zmv hc hH)) rfl ?_;refine ZcJ ?_;refine Zag ?_;refine Zbg ?_;refine Zcz ?_;refine qm ?_;refine ZL ?_;refine Zak ?_;refine ZI ?_;refine yd ?_
     exact yl (x:=i) (i + 1) ⟨by omega, by omega, by rw [← h3]; exact (znp hle hc).symm⟩ (by omega) ⟨rfl, rfl, rfl, rfl, rfl, rfl, trivial⟩
    | true =>
     refine Zh ?_;refine qh (id:=5) [(200024, [900]), (200029, [900])] mixed (by kernel_rfl) ?_;refine Z7 ?_;refine ZdR ?_;refine Z7 ?_;refine Zi ?_;refine Zaa ?_;refine yj (ql L (q:=900) rfl rfl rfl rfl rfl q1) rfl rfl ?_;refine ZcM ?_;refine Zaa ?_;refine yj (ql L (q:=900) rfl rfl rfl rfl rfl q2) rfl rfl ?_;refine zd (q0 L rfl rfl (zn rfl) rfl rfl rfl (fun u H hH _ _ => zmv hc hH)) rfl ?_;refine ZcJ ?_;refine Zag ?_;refine ZaW ?_;refine Zdr ?_
     exact zq6 i Since.refl ⟨h1, h2, by rw [← h3]; exact (zf1 (by rintro ⟨_, h⟩; simp [hc] at h)).symm⟩ rfl ⟨rfl, rfl, rfl, rfl, rfl, rfl, trivial⟩
   ·refine Zh ?_;refine ZeS ?_;refine Z7 ?_;refine ZeH ?_;refine Zd9 ?_;refine ZcK ?_;refine ZbY ?_;refine Zdk ?_;refine ZaW ?_;refine Zdr ?_
    exact zq6 i Since.refl ⟨h1, h2, by rw [← h3]; exact (zf1 (by rintro ⟨h, _⟩; exact hle h)).symm⟩ rfl ⟨rfl, rfl, rfl, rfl, rfl, rfl, trivial⟩
  ·rintro i ⟨h1, h2, h3⟩
   rw [← h3] at hL
   by_cases hie:i = e
   ·rw [if_pos hie] at hL
    subst hie
    rw [← hL]
    refine Zh ?_;refine ZbA ?_;refine ZJ ?_;refine Zt ?_;refine Z0 ?_;refine Zb ?_
    exact zaq L 900 (r:=zai b _ tyU) (rs:=[.tmp 6]) rfl (fun _ _ h => h) Since.refl rfl rfl (fun _ => rfl)
   ·rw [if_neg hie] at hL
    by_cases h50:e - a < 50
    ·rw [if_pos h50] at hL
     rw [← hL]
     refine Zh ?_;refine ZbA ?_;refine ZR ?_;refine ZO ?_;refine Z3 ?_;refine Zc ?_;refine ZaE ?_;refine ZB ?_;refine Zt ?_;refine ZX ?_;refine Zb ?_
     exact zaq L 900 (r:=zai b _ tyU) (rs:=[.tmp 6]) rfl (fun _ _ h => h) Since.refl rfl rfl (fun _ => rfl)
    ·rw [if_neg h50] at hL
     have hw3:IntKind.i64.wrap ((i:Int) - 1) = ((i - 1:Nat):Int):=zad (by omega) (by omega) |>.trans (by omega)
     have hw4:IntKind.i64.wrap ((i:Int) - (a:Int)) = ((i - a:Nat):Int):=zad (by omega) (by omega) |>.trans (by omega)
     have hw5:IntKind.i64.wrap ((e:Int) - (i:Int)) = ((e - i:Nat):Int):=zad (by omega) (by omega) |>.trans (by omega)
     have hw6:IntKind.i64.wrap ((i:Int) + 1) = ((i + 1:Nat):Int):=zad (by omega) (by omega)
     have hw7:IntKind.i64.wrap ((k:Int) + 1) = ((k + 1:Nat):Int):=zad (by omega) (by omega)
     have hDs:=zjp D i (i - 1)
     obtain ⟨_, qj⟩:=zsu (rest:=rest) (show i - 1 < D.size by omega) (0 + (i - 1) * 1) rfl
     obtain ⟨_, qi⟩:=zsu (rest:=rest) (show i < D.size by omega) (0 + (i) * 1) rfl
     have s1:=zo9 (rest:=rest) D[i - 1]! (show i < D.size by omega) (0 + (i) * 1) rfl
     have b1:=zpa (rest:=rest) (show i < D.size by omega) (0 + (i) * 1) rfl
     have hz:i - 1 < (D.setIfInBounds (i) D[i - 1]!).size:=by rw [Array.size_setIfInBounds]; omega
     have s2:=zo9 (rest:=rest) D[i]! hz (0 + (i - 1) * 1) rfl
     have b2:=zpa (rest:=rest) hz (0 + (i - 1) * 1) rfl
     rw [zs1] at s2
     refine Zh ?_;refine ZbA ?_;refine ZR ?_;refine ZO ?_;refine Z3 ?_;refine Zc ?_;refine ZaE ?_;refine Zo ?_;refine ZQ ?_;refine qh (id:=11) [(200051, [900]), (200055, [900]), (100056, [900]), (100057, [900])] mixed (by kernel_rfl) ?_;refine Z7 ?_;refine ZcM ?_;refine ZcM ?_;refine Zaa ?_;refine yj (ql L (q:=900) rfl rfl rfl rfl rfl qj) rfl rfl ?_;refine Z7 ?_;refine Zaa ?_;refine yj (ql L (q:=900) rfl rfl rfl rfl rfl qi) rfl rfl ?_;refine Zaa ?_;refine zcu (yf L (q:=900) rfl rfl rfl rfl rfl rfl b1 rfl s1) rfl ?_;refine Zaa ?_;refine zcu (yf L (q:=900) rfl rfl rfl rfl rfl rfl b2 rfl s2) rfl ?_;refine Zbu ?_;refine Zh ?_
     generalize swp D i (i - 1) = D1 at *
     obtain ⟨D2, hD2⟩:∃ D2, D2 = (if i - a ≥ 2 then shiftDown lt (i - 1) D1 else D1):=⟨_, rfl⟩
     rw [← hD2] at hL
     refine z4n (fun E:Array Int => [(0, .is (.slice (some ⟨b, 0, none⟩) m cap)), (1, .is (.int .i64 a)), (2, .is (.int .i64 e)), (7, .is (.int .i64 i)), (8, .is (.int .i64 k)), (900, .own (zaj b (uC E ++ rest) tyU))]) (fun E => E.size = m ∧ E = D2) (fun _ => []) ?_ ?_
     rotate_left
     ·by_cases h2a:i - a ≥ 2
      ·rw [if_pos h2a] at hD2
       refine ZD ?_;refine Zc ?_;refine ZaE ?_;refine ZaR ?_;refine Zt ?_;refine ZbX ?_;refine ZaE ?_;refine ZW ?_
       refine zao (fun t:Nat × Array Int => [(0, .is (.slice (some ⟨b, 0, none⟩) m cap)), (1, .is (.int .i64 a)), (2, .is (.int .i64 e)), (7, .is (.int .i64 i)), (8, .is (.int .i64 k)), (9, .is (.int .i64 t.1)), (900, .own (zaj b (uC t.2 ++ rest) tyU))]) (fun t => t.1 ≤ i - 1 ∧ t.2.size = m ∧ shiftDown lt t.1 t.2 = D2) (fun t => t.1) (i - 1, D1) ⟨Nat.le_refl _, by dsimp only; omega, hD2.symm⟩ ⟨rfl, rfl, rfl, rfl, rfl, rfl, rfl, trivial⟩ ?_
       rintro ⟨j, E⟩ ⟨hj, hE, hS⟩
       dsimp only at hj hE hS ⊢
       clear hD2
       rcases j with _ | j
       ·rw [shiftDown] at hS
        refine Zh ?_;refine Zb9 ?_;refine Zaz ?_;refine Zat ?_;refine Zdr ?_
        exact zq6 E Since.refl ⟨hE, hS⟩ rfl ⟨rfl, rfl, rfl, rfl, rfl, rfl, trivial⟩
       ·rw [shiftDown] at hS
        have hw8:IntKind.i64.wrap (((j + 1:Nat):Int) - 1) = (j:Int):=zad (by omega) (by omega) |>.trans (by omega)
        obtain ⟨_, q1⟩:=zsu (rest:=rest) (show j + 1 < E.size by omega) (0 + (j + 1) * 1) rfl
        obtain ⟨_, q2⟩:=zsu (rest:=rest) (show j < E.size by omega) (0 + (j) * 1) rfl
        cases hc:lt E[j + 1]! E[j]! with
        | false =>
         rw [if_pos (by rw [hc]; rfl)] at hS
         refine Zh ?_;refine Zb9 ?_;refine ZcE ?_;refine Zc5 ?_;refine qh (id:=16) [(200071, [900]), (200076, [900])] mixed (by kernel_rfl) ?_;refine Z7 ?_;refine Zaa ?_;refine yj (ql L (q:=900) rfl rfl rfl rfl rfl q1) rfl rfl ?_;refine ZcM ?_;refine Zaa ?_;refine yj (ql L (q:=900) rfl rfl rfl rfl rfl q2) rfl rfl ?_;refine zd (q0 L rfl rfl (zn rfl) rfl rfl rfl (fun u H hH _ _ => zmv hc hH)) rfl ?_;refine ZcJ ?_;refine Zbg ?_;refine yo ?_;refine qv ?_;refine zlu rfl ?_;refine ZeD ?_
         exact zq6 E Since.refl ⟨hE, hS⟩ rfl ⟨rfl, rfl, rfl, rfl, rfl, rfl, trivial⟩
        | true =>
         rw [if_neg (by rw [hc]; simp)] at hS
         obtain ⟨_, qj⟩:=zsu (rest:=rest) (show j < E.size by omega) (0 + (j) * 1) rfl
         obtain ⟨_, qi⟩:=zsu (rest:=rest) (show j + 1 < E.size by omega) (0 + (j + 1) * 1) rfl
         have s1:=zo9 (rest:=rest) E[j]! (show j + 1 < E.size by omega) (0 + (j + 1) * 1) rfl
         have b1:=zpa (rest:=rest) (show j + 1 < E.size by omega) (0 + (j + 1) * 1) rfl
         have hz:j < (E.setIfInBounds (j + 1) E[j]!).size:=by rw [Array.size_setIfInBounds]; omega
         have s2:=zo9 (rest:=rest) E[j + 1]! hz (0 + (j) * 1) rfl
         have b2:=zpa (rest:=rest) hz (0 + (j) * 1) rfl
         rw [zs1] at s2
         refine Zh ?_;refine Zb9 ?_;refine ZcE ?_;refine Zc5 ?_;refine qh (id:=16) [(200071, [900]), (200076, [900])] mixed (by kernel_rfl) ?_;refine Z7 ?_;refine Zaa ?_;refine yj (ql L (q:=900) rfl rfl rfl rfl rfl q1) rfl rfl ?_;refine ZcM ?_;refine Zaa ?_;refine yj (ql L (q:=900) rfl rfl rfl rfl rfl q2) rfl rfl ?_;refine zd (q0 L rfl rfl (zn rfl) rfl rfl rfl (fun u H hH _ _ => zmv hc hH)) rfl ?_;refine ZcJ ?_;refine ZaW ?_;refine Zcz ?_;refine qh (id:=17) [(200088, [900]), (200092, [900]), (100093, [900]), (100094, [900])] mixed (by kernel_rfl) ?_;refine Z7 ?_;refine ZcM ?_;refine ZcM ?_;refine Zaa ?_;refine yj (ql L (q:=900) rfl rfl rfl rfl rfl qj) rfl rfl ?_;refine Z7 ?_;refine Zaa ?_;refine yj (ql L (q:=900) rfl rfl rfl rfl rfl qi) rfl rfl ?_;refine Zaa ?_;refine zcu (yf L (q:=900) rfl rfl rfl rfl rfl rfl b1 rfl s1) rfl ?_;refine Zaa ?_;refine zcu (yf L (q:=900) rfl rfl rfl rfl rfl rfl b2 rfl s2) rfl ?_;refine qp ?_;refine Zai ?_;refine Zcr ?_;refine ZaE ?_;refine ZI ?_
         exact yl (x:=(j + 1, E)) (j, swp E (j + 1) j) ⟨by dsimp only; omega, by dsimp only; rw [zjp]; exact hE, hS⟩ (by dsimp only; omega) ⟨rfl, rfl, rfl, rfl, rfl, rfl, rfl, trivial⟩
      ·rw [if_neg h2a] at hD2
       refine ZD ?_;refine Zc ?_;refine ZaE ?_;refine Zaz ?_;refine Zbc ?_
       exact zq6 D1 Since.refl ⟨by omega, hD2.symm⟩ rfl ⟨rfl, rfl, rfl, rfl, rfl, rfl, trivial⟩
     ·rintro G ⟨hG, hGe⟩
      rw [← hGe] at hL
      clear hD2 hGe
      by_cases h2b:e - i ≥ 2
      ·rw [if_pos h2b] at hL
       obtain ⟨D3, hD3⟩:∃ D3, D3 = shiftUp lt e (i + 1) G:=⟨_, rfl⟩
       rw [← hD3] at hL
       refine zj ?_;refine ZdY ?_;refine Zc ?_;refine ZaE ?_;refine ZaR ?_;refine Zt ?_;refine z8 (id:=19) ?_;refine Zeu ?_;refine ZW ?_
       ·refine zao (fun t:Nat × Array Int => [(0, .is (.slice (some ⟨b, 0, none⟩) m cap)), (1, .is (.int .i64 a)), (2, .is (.int .i64 e)), (7, .is (.int .i64 i)), (8, .is (.int .i64 k)), (10, .is (.int .i64 t.1)), (900, .own (zaj b (uC t.2 ++ rest) tyU))]) (fun t => i + 1 ≤ t.1 ∧ t.1 ≤ e ∧ t.2.size = m ∧ shiftUp lt e t.1 t.2 = D3) (fun t => e - t.1) (i + 1, G) ⟨Nat.le_refl _, by dsimp only; omega, hG, hD3.symm⟩ ⟨rfl, rfl, rfl, rfl, rfl, rfl, rfl, trivial⟩ ?_
        rintro ⟨j, E⟩ ⟨hj1, hj2, hE, hS⟩
        dsimp only at hj1 hj2 hE hS ⊢
        clear hD3
        rw [shiftUp] at hS
        by_cases hje:j < e
        ·rw [if_pos hje] at hS
         have hw8:IntKind.i64.wrap ((j:Int) - 1) = ((j - 1:Nat):Int):=zad (by omega) (by omega) |>.trans (by omega)
         have hw9:IntKind.i64.wrap ((j:Int) + 1) = ((j + 1:Nat):Int):=zad (by omega) (by omega)
         obtain ⟨_, q1⟩:=zsu (rest:=rest) (show j < E.size by omega) (0 + (j) * 1) rfl
         obtain ⟨_, q2⟩:=zsu (rest:=rest) (show j - 1 < E.size by omega) (0 + (j - 1) * 1) rfl
         cases hc:lt E[j]! E[j - 1]! with
         | false =>
          rw [if_pos (by rw [hc]; rfl)] at hS
          refine Zh ?_;refine Zcs ?_;refine ZaX ?_;refine Zc5 ?_;refine qh (id:=22) [(200109, [900]), (200114, [900])] mixed (by kernel_rfl) ?_;refine Z7 ?_;refine Zaa ?_;refine yj (ql L (q:=900) rfl rfl rfl rfl rfl q1) rfl rfl ?_;refine ZcM ?_;refine Zaa ?_;refine yj (ql L (q:=900) rfl rfl rfl rfl rfl q2) rfl rfl ?_;refine zd (q0 L rfl rfl (zn rfl) rfl rfl rfl (fun u H hH _ _ => zmv hc hH)) rfl ?_;refine ZcJ ?_;refine Zbg ?_;refine yo ?_;refine qv ?_;refine zlu rfl ?_;refine ZeD ?_;refine Zai ?_;refine Zw ?_;refine Zak ?_;refine ZI ?_
          exact yl (x:=((k, i0), D)) ((k + 1, i), E) ⟨by dsimp only; omega, by dsimp only; omega, by dsimp only; omega, hE, by dsimp only; rw [hs', hS]; exact hL⟩ (by dsimp only; omega) ⟨rfl, rfl, rfl, rfl, rfl, rfl, trivial⟩
         | true =>
          rw [if_neg (by rw [hc]; simp)] at hS
          obtain ⟨_, qj⟩:=zsu (rest:=rest) (show j - 1 < E.size by omega) (0 + (j - 1) * 1) rfl
          obtain ⟨_, qi⟩:=zsu (rest:=rest) (show j < E.size by omega) (0 + (j) * 1) rfl
          have s1:=zo9 (rest:=rest) E[j - 1]! (show j < E.size by omega) (0 + (j) * 1) rfl
          have b1:=zpa (rest:=rest) (show j < E.size by omega) (0 + (j) * 1) rfl
          have hz:j - 1 < (E.setIfInBounds (j) E[j - 1]!).size:=by rw [Array.size_setIfInBounds]; omega
          have s2:=zo9 (rest:=rest) E[j]! hz (0 + (j - 1) * 1) rfl
          have b2:=zpa (rest:=rest) hz (0 + (j - 1) * 1) rfl
          rw [zs1] at s2
          refine Zh ?_;refine Zcs ?_;refine ZaX ?_;refine Zc5 ?_;refine qh (id:=22) [(200109, [900]), (200114, [900])] mixed (by kernel_rfl) ?_;refine Z7 ?_;refine Zaa ?_;refine yj (ql L (q:=900) rfl rfl rfl rfl rfl q1) rfl rfl ?_;refine ZcM ?_;refine Zaa ?_;refine yj (ql L (q:=900) rfl rfl rfl rfl rfl q2) rfl rfl ?_;refine zd (q0 L rfl rfl (zn rfl) rfl rfl rfl (fun u H hH _ _ => zmv hc hH)) rfl ?_;refine ZcJ ?_;refine ZaW ?_;refine Zcz ?_;refine qh (id:=23) [(200126, [900]), (200130, [900]), (100131, [900]), (100132, [900])] mixed (by kernel_rfl) ?_;refine Z7 ?_;refine ZcM ?_;refine ZcM ?_;refine Zaa ?_;refine yj (ql L (q:=900) rfl rfl rfl rfl rfl qj) rfl rfl ?_;refine Z7 ?_;refine Zaa ?_;refine yj (ql L (q:=900) rfl rfl rfl rfl rfl qi) rfl rfl ?_;refine Zaa ?_;refine zcu (yf L (q:=900) rfl rfl rfl rfl rfl rfl b1 rfl s1) rfl ?_;refine Zaa ?_;refine zcu (yf L (q:=900) rfl rfl rfl rfl rfl rfl b2 rfl s2) rfl ?_;refine qp ?_;refine Zai ?_;refine z8 (id:=21) ?_;refine Zeu ?_;refine ZI ?_
          exact yl (x:=(j, E)) (j + 1, swp E j (j - 1)) ⟨by dsimp only; omega, by dsimp only; omega, by dsimp only; rw [zjp]; exact hE, hS⟩ (by dsimp only; omega) ⟨rfl, rfl, rfl, rfl, rfl, rfl, rfl, trivial⟩
        ·rw [if_neg hje] at hS
         refine Zh ?_;refine Zcs ?_;refine Zo ?_;refine Zat ?_;refine Zdr ?_;refine Zai ?_;refine Zw ?_;refine Zak ?_;refine ZI ?_
         exact yl (x:=((k, i0), D)) ((k + 1, i), E) ⟨by dsimp only; omega, by dsimp only; omega, by dsimp only; omega, hE, by dsimp only; rw [hs', hS]; exact hL⟩ (by dsimp only; omega) ⟨rfl, rfl, rfl, rfl, rfl, rfl, trivial⟩
      ·rw [if_neg h2b] at hL
       refine zj ?_;refine ZdY ?_;refine Zc ?_;refine ZaE ?_;refine Zaz ?_;refine Za3 ?_;refine Zw ?_;refine Zak ?_;refine ZI ?_
       exact yl (x:=((k, i0), D)) ((k + 1, i), G) ⟨by dsimp only; omega, by dsimp only; omega, by dsimp only; omega, hG, by dsimp only; rw [hs']; exact hL⟩ (by dsimp only; omega) ⟨rfl, rfl, rfl, rfl, rfl, rfl, trivial⟩
 ·obtain rfl:k = 5:=by omega
  have hL':(D, false) = X:=hL
  rw [← hL']
  refine Zba ?_;refine Zo ?_;refine ZaS ?_;refine z8 (id:=24) ?_;refine Zb ?_
  exact zaq L 900 (r:=zai b _ tyU) (rs:=[.tmp 6]) rfl (fun _ _ h => h) Since.refl rfl rfl (fun _ => rfl)
end Go.V.So
set_option maxRecDepth 20000
namespace Go.V.So
open Go.Proofs Go.RowKit Go.V Go.Sort
attribute [local irreducible] V N X VO Par StepOK Has Ret RetL RetO zbd RetX Src
end Go.V.So
set_option maxRecDepth 20000
namespace Go.V.So
open Go.Proofs Go.RowKit Go.V Go.Sort
attribute [local irreducible] V N X VO Par StepOK Has Ret RetL RetO zbd RetX Src
set_option maxRecDepth 20000 in
theorem bitslen_ret {n:Nat} (hn:n < 18446744073709551616) {w:World} {B:Heap} (hB:B.Le (hp w)):Ret Tryz.prog 224 [.int .u64 n] w B (fun v _ => v = .int .i64 (bitsLen n)):=by
 refine qu Tryz.func224 rfl Tryz.ntmps224 (Nat.le_of_ble_eq_true rfl) hB ?_
 refine ZC ?_;refine Zd ?_;refine ZcY ?_;refine Zfb ?_;refine Z4 ?_;refine z7 (q0 L rfl rfl (zn rfl) rfl rfl rfl (fun u H hH _ _ => Ret.of_same hH (Tryz.bits_Len64 (n:Int) u (by omega) (by omega)))) rfl ?_;refine Zb ?_
 refine qt L (rs:=[.tmp 2]) rfl (fun _ _ h => h) Since.refl fun u H hH hle => ?_
 rw [Int.toNat_natCast, bitLen_eq n hn]
 rfl
end Go.V.So
set_option maxRecDepth 20000
namespace Go.V.So
open Go.Proofs Go.RowKit Go.V Go.Sort
abbrev tyI:TypeId:=3
attribute [local irreducible] V N X VO Par StepOK Has Ret RetL RetO zbd RetX Src
end Go.V.So
set_option maxRecDepth 20000
namespace Go.V.So
open Go.Proofs Go.RowKit Go.V Go.Sort
attribute [local irreducible] V N X VO Par StepOK Has Ret RetL RetO zbd RetX Src
end Go.V.So
set_option maxRecDepth 20000
namespace Go.V.So
open Go.Proofs Go.RowKit Go.V Go.Sort
attribute [local irreducible] V N X VO Par StepOK Has Ret RetL RetO zbd RetX Src
end Go.V.So
set_option maxRecDepth 20000
namespace Go.V.So
open Go.Proofs Go.RowKit Go.V Go.Sort
attribute [local irreducible] V N X VO Par StepOK Has Ret RetL RetO zbd RetX Src
end Go.V.So
set_option maxRecDepth 20000
namespace Go.V
open Go.RowKit
def fzI (P:Program) (t' st:TypeId) (off i:Nat):Bool :=
 match P.underlying st with
 | some (.struct fs) => match fs[i]? with
  | some f => (match P.info? f.type with | some j => j.size == 0 | none => false) && (!(P.cellsOf t' == 0) && ((byteOfCell P P.depth t' (off % P.cellsOf t')).isSome && (byteOfCell P P.depth t' ((off + f.offset) % P.cellsOf t')).isSome))
  | none => false
 | _ => false
def PtrS:Value → Heap → Prop:=fun v _ => ∃ a, v = .pointer (some a)
theorem PtrS.mono:Kn.mono (.sat PtrS):=fun _ _ _ h _ => h
section
variable {P:Program} {F:Fr} {B:Heap} {O:Boxes} {n:Nat} {ops:Array Oper} {κ:Kap} {d:Nat} {ty:TypeId} {pos:String} {aft:Array Edge} {g:Option (Nat × Bool)}
theorem zmh {u:World} {b off k:Nat} {cs:Array Value} {e:TypeId} {fr:Nat × Nat} (h:u.heap[b]? = some (.cells cs e fr)) (hs:P.cellsOf e ≠ 0) (hb:byteOfCell P P.depth e (off % P.cellsOf e) = some k) :
  (byteOf ⟨b, off, none⟩).run P u = .ok (off / P.cellsOf e * P.bytesOf e + k) u:=by
 have hsh:u.shape? b = some (e, cs.size):=by unfold World.shape?; rw [h]
 simp only [byteOf, Sem.run_bind, run_program, Result.andThen_ok, noView, viewAt, shape, Sem.run, hsh, Option.isSome_some, if_true, Sem.run_pure, Option.isSome_none, Bool.false_eq_true, if_false, Option.isSome]
 simp [hs, hb, hsh]
theorem zmg {u:World} {st t':TypeId} {b off i:Nat} {cs:Array Value} {fr:Nat × Nat} (hz:fzI P t' st off i = true) (hb:u.heap[b]? = some (.cells cs t' fr)) :
  ∃ a, (Instr.fieldAt st (.pointer (some ⟨b, off, none⟩)) i).run P u = .ok (.pointer (some a)) u:=by
 unfold fzI at hz
 split at hz
 ·rename_i fs hu
  split at hz
  ·rename_i f hf
   split at hz
   ·rename_i j hj
    simp only [Bool.and_eq_true, beq_iff_eq, Bool.not_eq_true', beq_eq_false_iff_ne, ne_eq, Option.isSome_iff_exists] at hz
    obtain ⟨hj0, hc, ⟨k1, h1⟩, k2, h2⟩:=hz
    have r1:=zmh (P:=P) hb hc h1
    have r2:=zmh (P:=P) hb hc h2
    have hsz:(sizeOf f.type).run P u = .ok 0 u:=by simp [sizeOf, typeInfo, hj, hj0]
    have hun:=run_underlying (P:=P) (w:=u) hu
    have hfp:∃ a, (fieldPlace ⟨b, off, none⟩ f).run P u = .ok a u:=by
     simp only [fieldPlace, Sem.run_bind, hsz, Result.andThen_ok, if_true, partAt, r1, r2, Sem.run_pure]
     exact ⟨_, rfl⟩
    obtain ⟨a, ha⟩:=hfp
    refine ⟨a, ?_⟩
    simp only [Instr.fieldAt, Sem.run_bind, hun, Result.andThen_ok, hf, Instr.sureAddr, Sem.run_pure, ha]
   ·simp at hz
  ·cases hz
 ·cases hz
theorem z1h {t:TypeId} {places:List (Nat × Nat)} {z cs:List Value} {vs:List (Nat × Value)} (hp:PL P t places z) (hc:zls places z vs = some cs):P.built t vs = some cs.toArray:=by
 obtain ⟨zv, hz1, hz2⟩:=hp.zr
 have hpl:=hp.pl
 unfold plI at hpl
 unfold zrI at hz1
 split at hz1
 ·rename_i it hit
  unfold Program.built
  split at hpl
  ·rename_i fs hu
   simp only [hit, hu, hz1, hpl]
   rw [zb6, hz2]
   exact zeg (fun i p h => by simpa using h) vs z cs hc
  ·rename_i m el hu
   split at hpl
   ·rename_i ie hie
    simp only [hit, hu, hz1, hie]
    cases hpl
    rw [zb6, hz2]
    exact zeg (fun i p h => by
     rw [List.getElem?_map] at h
     cases hr:(List.range m)[i]? with
     | none => rw [hr] at h; cases h
     | some j =>
      rw [hr] at h
      have:j = i:=by
       have:=List.getElem?_eq_some_iff.1 hr
       obtain ⟨h1, h2⟩:=this
       simpa using h2.symm
      subst this
      simpa using h) vs z cs hc
   ·cases hpl
  ·cases hpl
 ·cases hz1
theorem zu6 {t:Nat} {t' st:TypeId} {i off:Nat} {cs:List Value} (hx:κ t = some (.sat (At cs t' off))) (hn:Nat.blt d n = true) (hg:gK ops κ ⟨some d, .fieldAddr st (.tmp t) i, ty, pos, aft, g⟩ = some true)
  (hz:fzI P t' st off i = true):StepOK P F B n ops O κ ⟨some d, .fieldAddr st (.tmp t) i, ty, pos, aft, g⟩ d (.sat PtrS) :=
 zan rfl (zn hn) hg PtrS.mono fun a u H fp e => by
  obtain ⟨b, hv, hb⟩:=e.sat_ t _ (by simp [Op.operands]) hx
  obtain ⟨ad, hr⟩:=zmg hz (e.sub _ _ hb)
  refine ⟨_, ?_, ad, rfl⟩
  simp only [execOp, hv, Sem.run_bind, hr, Result.andThen_ok]
  rfl
theorem zu5 {x:Operand} {t' st:TypeId} {i b off:Nat} {cs:Array Value} {fr:Nat × Nat} (hb:B b = some (.cells cs t' fr)) (hx:evK κ x = some (.pointer (some ⟨b, off, none⟩))) (hn:Nat.blt d n = true) (hg:gK ops κ ⟨some d, .fieldAddr st x i, ty, pos, aft, g⟩ = some true)
  (hz:fzI P t' st off i = true):StepOK P F B n ops O κ ⟨some d, .fieldAddr st x i, ty, pos, aft, g⟩ d (.sat PtrS) :=
 zan rfl (zn hn) hg PtrS.mono fun a u H fp e => by
  have hv:=e.is_ x _ (by simp [Op.operands]) hx
  obtain ⟨ad, hr⟩:=zmg hz (e.sub _ _ (e.base _ _ hb))
  refine ⟨_, ?_, ad, rfl⟩
  simp only [execOp, hv, Sem.run_bind, hr, Result.andThen_ok]
  rfl
theorem ztg (L:Tabs P) {q:Nat} {t:TypeId} (hx:κ q = some (.sat PtrS)) (hn:Nat.blt d n = true) (hg:gK ops κ ⟨some d, .load t (.tmp q), ty, pos, aft, g⟩ = some true) (ht:L.ld t = some (true, 0)) :
  StepOK P F B n ops O κ ⟨some d, .load t (.tmp q), ty, pos, aft, g⟩ d (.is (.agg #[])) :=
 zan rfl (zn hn) hg trivial fun a u H fp e => by
  obtain ⟨ad, hv⟩:=e.sat_ q _ (by simp [Op.operands]) hx
  refine ⟨.agg #[], ?_, rfl⟩
  simp only [execOp, hv, Instr.loadAt, Instr.sureAddr, Sem.run_bind, Sem.run_pure, Result.andThen_ok]
  rw [zcg (Tabs.ld_spec ht) u ad [] rfl (fun j v hj => by simp at hj)]
  rfl
theorem zqd {t:TypeId} {parts:Array (Nat × Operand)} {places:List (Nat × Nat)} {z:List Value} {ψ:Value → Heap → Prop} (hn:Nat.blt d n = true) (hg:gK ops κ ⟨some d, .build t parts, ty, pos, aft, g⟩ = some true)
  (hp:PL P t places z) (hm:Kn.mono (.sat ψ)) (h:∀ H, B.Le H → Args κ H (parts.toList.map (·.2)) [] (fun vs => ∃ cs, zls places z ((parts.toList.map (·.1)).zip vs) = some cs ∧ ψ (.agg cs.toArray) H)) :
  StepOK P F B n ops O κ ⟨some d, .build t parts, ty, pos, aft, g⟩ d (.sat ψ):=by
 rintro κ' a u hl ⟨H, fp, hh⟩
 unfold After
 rw [if_pos (zae hh hl hg)]
 have e:=hh.env (o:=⟨some d, .build t parts, ty, pos, aft, g⟩) hl
 have hc:=Args.use e (parts.toList.map (·.2)) [] (fun x hx => by
  simp only [Op.operands]
  obtain ⟨q, hq, rfl⟩:=List.mem_map.1 hx
  simp
  exact ⟨q.1, by simpa using hq⟩) (h H e.base)
 obtain ⟨cs, hb, hψ⟩:=hc
 simp only [List.reverse_nil, List.nil_append, List.map_map] at hb
 have hz:(parts.toList.map (·.1)).zip (parts.toList.map (a.eval ∘ (·.2))) = parts.toList.map fun p => (p.1, a.eval p.2):=by
  generalize parts.toList = l
  induction l with
  | nil => rfl
  | cons x l ih => simp only [List.map_cons, List.zip_cons_cons, ih]; rfl
 rw [hz] at hb
 have hbt:=z1h hp hb
 have hr:=run_build (P:=P) u t (parts.toList.map fun p => (p.1, a.eval p.2)).toArray cs.toArray (by simpa using hbt)
 have harr:(parts.map fun (p:Nat × Operand) => (p.1, a.eval p.2)) = (parts.toList.map fun p => (p.1, a.eval p.2)).toArray:=by
  rw [← List.map_toArray, Array.toArray_toList]
 have hrun:(execOp a.eval ⟨some d, .build t parts, ty, pos, aft, g⟩).run P u = .ok (.value (.agg cs.toArray)) u:=by
  simp only [execOp, Sem.run_bind]
  show Result.andThen ((Instr.build t (parts.map fun (p:Nat × Operand) => (p.1, a.eval p.2))).run P u) _ = _
  rw [harr, hr]
  rfl
 rw [hrun]
 simp only [Upon]
 exact ⟨H, fp, hh.put (zn hn) hm hψ⟩
end
end Go.V
set_option maxRecDepth 20000
namespace Go.V.UT
open Go.Proofs Go.RowKit Go.V
theorem _root_.Go.V.Za9 {A B:Prop} (h:B) (t:Wr B → A:=by intro h; refine zd (q6 L (qn rfl (by assumption)) rfl rfl rfl rfl) rfl ?_;exact h.h):A:=t ⟨h⟩
theorem _root_.Go.V.Zf8 {A B:Prop} (h:B) (t:Wr B → A:=by intro h; refine zd (q8 L (vs:=[_, _, _, _, _, _]) (qn rfl (by assumption)) rfl rfl rfl rfl ⟨_, rfl⟩) rfl ?_;exact h.h):A:=t ⟨h⟩
theorem _root_.Go.V.ZdZ {A B:Prop} (h:B) (t:Wr B → A:=by intro h; refine z7 (q8 L (vs:=[_, _, _, _, _, _]) (qk rfl) rfl rfl rfl rfl ⟨_, rfl⟩) rfl ?_;exact h.h):A:=t ⟨h⟩
theorem _root_.Go.V.Zea {A B:Prop} (h:B) (t:Wr B → A:=by intro h; refine z7 (q6 L (qn rfl (by assumption)) rfl rfl rfl rfl) rfl ?_;exact h.h):A:=t ⟨h⟩
theorem _root_.Go.V.Zeb {A B:Prop} (h:B) (t:Wr B → A:=by intro h; refine z7 (zc2 rfl rfl rfl rfl z78 rfl) rfl ?_;exact h.h):A:=t ⟨h⟩
theorem _root_.Go.V.ZcN {A B:Prop} (h:B) (t:Wr B → A:=by intro h; refine zd (yg rfl rfl rfl rfl (zad (by omega) (by omega))) rfl ?_;exact h.h):A:=t ⟨h⟩
theorem _root_.Go.V.Zec {A B:Prop} (h:B) (t:Wr B → A:=by intro h; refine zd (qx rfl rfl rfl) rfl ?_;exact h.h):A:=t ⟨h⟩
theorem _root_.Go.V.Zed {A B:Prop} (h:B) (t:Wr B → A:=by intro h; refine qh (id:=2) [] mixed (by kernel_rfl) ?_;exact h.h):A:=t ⟨h⟩
theorem _root_.Go.V.ZV {A B:Prop} (h:B) (t:Wr B → A:=by intro h; refine Zdf ?_;refine Za9 ?_;exact h.h):A:=t ⟨h⟩
theorem _root_.Go.V.ZdA {A B:Prop} (h:B) (t:Wr B → A:=by intro h; refine Zb ?_;refine ZcY ?_;exact h.h):A:=t ⟨h⟩
theorem _root_.Go.V.ZaF {A B:Prop} (h:B) (t:Wr B → A:=by intro h; refine ZdA ?_;refine zj ?_;exact h.h):A:=t ⟨h⟩
theorem _root_.Go.V.ZbZ {A B:Prop} (h:B) (t:Wr B → A:=by intro h; refine ZK ?_;refine Zea ?_;exact h.h):A:=t ⟨h⟩
theorem _root_.Go.V.Zf9 {A B:Prop} (h:B) (t:Wr B → A:=by intro h; refine Zai ?_;refine zj ?_;exact h.h):A:=t ⟨h⟩
theorem _root_.Go.V.ZcO {A B:Prop} (h:B) (t:Wr B → A:=by intro h; refine Zdf ?_;refine Zf8 ?_;exact h.h):A:=t ⟨h⟩
theorem _root_.Go.V.ZcP {A B:Prop} (h:B) (t:Wr B → A:=by intro h; refine Zb ?_;refine ZeC ?_;exact h.h):A:=t ⟨h⟩
theorem _root_.Go.V.Zdl {A B:Prop} (h:B) (t:Wr B → A:=by intro h; refine Zec ?_;refine Zbu ?_;exact h.h):A:=t ⟨h⟩
abbrev KT:=((ByteArray × ByteArray) × ByteArray) × ((ByteArray × ByteArray) × ByteArray)
abbrev VT:=Unit
abbrev kv (k:KT):Value:=.agg #[.string k.1.1.1, .string k.1.1.2, .string k.1.2, .string k.2.1.1, .string k.2.1.2, .string k.2.2]
abbrev vv (x:VT):Value:=.agg #[]
abbrev pl (k:KT) (x:VT):List Value:=[.string k.1.1.1, .string k.1.1.2, .string k.1.2, .string k.2.1.1, .string k.2.1.2, .string k.2.2]
abbrev nl (k:KT) (x:VT) (l r:Value) (s d:Int):List Value:=[.string k.1.1.1, .string k.1.1.2, .string k.1.2, .string k.2.1.1, .string k.2.1.2, .string k.2.2] ++ [l, r, .int .i64 s, .int .i64 d]
abbrev TA (t:Tr KT VT):Value → Heap → Prop:=Tr.TreeAt nl 352 t
theorem TA.mono {t:Tr KT VT}:Kn.mono (.sat (TA t)):=Tr.TreeAt.mono
theorem TA.le {t:Tr KT VT} {v:Value} {H H':Heap} (h:TA t v H) (hle:H.Le H'):TA t v H':=Tr.TreeAt.le h hle
theorem TA.ptr {t:Tr KT VT} {v:Value} {H:Heap} (h:TA t v H):∃ p, v = .pointer p:=by
 cases t with
 | nil => exact ⟨_, h⟩
 | node k x l r => obtain ⟨b, lv, rv, h, _⟩:=h; exact ⟨_, h⟩
attribute [local irreducible] V N X VO Par StepOK Has Ret RetL Src
theorem size_ret (t:Tr KT VT) {v:Value} {w:World} {B:Heap} (hB:B.Le (hp w)) (hv:TA t v B):Ret Tryz.prog 171 [v] w B (fun v _ => v = .int .i64 t.size):=by
 cases t with
 | nil =>
  obtain rfl:v = .pointer none:=hv
  refine qu Tryz.func171 rfl Tryz.ntmps171 (Nat.le_of_ble_eq_true rfl) hB ?_
  refine ZaL ?_;refine Zeb ?_;refine Zdb ?_
  refine qt L (rs:=[.tmp 2]) rfl (fun _ _ h => h) Since.refl fun u H hH hle => ?_
  rfl
 | node k x l r =>
  obtain ⟨b, lv, rv, rfl, hb, _, _⟩:=hv
  refine qu Tryz.func171 rfl Tryz.ntmps171 (Nat.le_of_ble_eq_true rfl) hB ?_
  refine ZaL ?_;refine Zeb ?_;refine Zdy ?_;refine ZbZ ?_;refine Zb ?_
  refine qt L (rs:=[.tmp 2]) rfl (fun _ _ h => h) Since.refl fun u H hH hle => ?_
  rfl
theorem deep_ret (t:Tr KT VT) {v:Value} {w:World} {B:Heap} (hB:B.Le (hp w)) (hv:TA t v B):Ret Tryz.prog 313 [v] w B (fun v _ => v = .int .i64 t.deep):=by
 cases t with
 | nil =>
  obtain rfl:v = .pointer none:=hv
  refine qu Tryz.func313 rfl Tryz.ntmps313 (Nat.le_of_ble_eq_true rfl) hB ?_
  refine ZaL ?_;refine Zeb ?_;refine Zdb ?_
  refine qt L (rs:=[.tmp 2]) rfl (fun _ _ h => h) Since.refl fun u H hH hle => ?_
  rfl
 | node k x l r =>
  obtain ⟨b, lv, rv, rfl, hb, _, _⟩:=hv
  refine qu Tryz.func313 rfl Tryz.ntmps313 (Nat.le_of_ble_eq_true rfl) hB ?_
  refine ZaL ?_;refine Zeb ?_;refine Zdy ?_;refine ZbZ ?_;refine Zb ?_
  refine qt L (rs:=[.tmp 2]) rfl (fun _ _ h => h) Since.refl fun u H hH hle => ?_
  rfl
theorem z34 (a b:Nat):(if ((b:Nat):Int) > (a:Int) then ((b:Nat):Int) else (a:Int)) = ((max a b:Nat):Int):=by
 split <;> omega
theorem join_ret (k:KT) (x:VT) (l r:Tr KT VT) {lv rv:Value} {w:World} {B:Heap} (hB:B.Le (hp w)) (hl:TA l lv B) (hr:TA r rv B) (hs:l.size + r.size < 1099511627776) :
  Ret Tryz.prog 290 [.agg (pl k x).toArray, lv, rv] w B (TA (.node k x l r)):=by
 obtain ⟨pl', rfl⟩:=hl.ptr
 obtain ⟨pr, rfl⟩:=hr.ptr
 have hdl:=l.deep_le
 have hdr:=r.deep_le
 refine qu Tryz.func290 rfl Tryz.ntmps290 (Nat.le_of_ble_eq_true rfl) hB ?_
 refine ZA ?_;refine Zc3 ?_;refine Zbn ?_;refine Z7 ?_;refine Zi ?_;refine zd (q0 L rfl rfl (zn rfl) rfl rfl rfl (fun u H hH hle _ => UT.size_ret _ hH (UT.TA.le (by assumption) hle))) rfl ?_;refine ZcN ?_;refine Zi ?_;refine zd (q0 L rfl rfl (zn rfl) rfl rfl rfl (fun u H hH hle _ => UT.size_ret _ hH (UT.TA.le (by assumption) hle))) rfl ?_;refine ZcN ?_;refine Zi ?_;refine zd (q0 L rfl rfl (zn rfl) rfl rfl rfl (fun u H hH hle _ => UT.deep_ret _ hH (UT.TA.le (by assumption) hle))) rfl ?_;refine Zi ?_;refine zd (q0 L rfl rfl (zn rfl) rfl rfl rfl (fun u H hH hle _ => UT.deep_ret _ hH (UT.TA.le (by assumption) hle))) rfl ?_;refine zd (zf4 rfl rfl rfl rfl rfl) rfl ?_;refine ZcN ?_;refine zd (y8 (cs:=[_, _, _, _, _, _, _, _, _, _]) rfl rfl z7u rfl rfl) rfl ?_;refine zd (y9 rfl rfl rfl rfl) rfl ?_;refine Zdl ?_
 refine qt L (rs:=[.tmp 6]) rfl (fun _ _ h => h) Since.refl fun u H hH hle => ?_
 rintro _ ⟨b, rfl, hb⟩
 refine ⟨b, _, _, rfl, ?_, TA.le hl hle, TA.le hr hle⟩
 rw [z34] at hb
 simpa [Tr.size_node, Tr.deep_node] using hb
theorem bal_ret (k:KT) (x:VT) (l r:Tr KT VT) {lv rv:Value} {w:World} {B:Heap} (hB:B.Le (hp w)) (hl:TA l lv B) (hr:TA r rv B) (hs:l.size + r.size < 1099511627776) :
  Ret Tryz.prog 288 [.agg (pl k x).toArray, lv, rv] w B (TA (Tr.bal k x l r)):=by
 have hdl:=l.deep_le
 have hdr:=r.deep_le
 refine qu Tryz.func288 rfl Tryz.ntmps288 (Nat.le_of_ble_eq_true rfl) hB ?_
 unfold Tr.bal
 by_cases h1:l.deep > r.deep + 1
 ·rw [if_pos h1]
  cases l with
  | nil => simp [Tr.deep] at h1
  | node lk lx ll lr =>
   have hl0:=hl; obtain ⟨b1, v1, v2, rfl, hb1, hll, hlr⟩:=hl
   have hd1:=ll.deep_le
   have hd2:=lr.deep_le
   simp only [Tr.size_node] at hs hdl
   dsimp only
   by_cases h2:ll.deep ≥ lr.deep
   ·rw [if_pos h2]
    refine ZA ?_;refine Zb3 ?_;refine z7 (q0 L rfl rfl (zn rfl) rfl rfl rfl (fun u H hH hle _ => UT.deep_ret _ hH (UT.TA.le (by assumption) hle))) rfl ?_;refine Za ?_;refine z7 (q0 L rfl rfl (zn rfl) rfl rfl rfl (fun u H hH hle _ => UT.deep_ret _ hH (UT.TA.le (by assumption) hle))) rfl ?_;refine ZdX ?_;refine Zb ?_;refine ZaI ?_;refine Zed ?_;refine Zi ?_;refine Zfe ?_;refine Zi ?_;refine ZV ?_;refine zd (q0 L rfl rfl (zn rfl) rfl rfl rfl (fun u H hH hle _ => UT.deep_ret _ hH (UT.TA.le (by assumption) hle))) rfl ?_;refine ZV ?_;refine zd (q0 L rfl rfl (zn rfl) rfl rfl rfl (fun u H hH hle _ => UT.deep_ret _ hH (UT.TA.le (by assumption) hle))) rfl ?_;refine Zer ?_;refine Zag ?_;refine Zl ?_;refine ZeC ?_;refine zj ?_;refine ZeR ?_;refine ZcO ?_;refine ZV ?_;refine Zbn ?_;refine ZV ?_;refine Zi ?_;refine zd (yk L rfl rfl (zn rfl) rfl rfl rfl UT.TA.mono (fun u H hH hle _ => UT.join_ret _ () _ _ hH (UT.TA.le (by assumption) hle) (UT.TA.le (by assumption) hle) (by first | omega | (simp only [Tr.size_node]; omega)))) rfl ?_;refine zd (yk L rfl rfl (zn rfl) rfl rfl rfl UT.TA.mono (fun u H hH hle _ v1 hv1 => UT.join_ret _ () _ _ hH (UT.TA.le (by assumption) hle) hv1 (by first | omega | (simp only [Tr.size_node]; omega)))) rfl ?_;refine Zdl ?_
    refine qt L (rs:=[.tmp 6]) rfl (fun _ _ h => h) Since.refl fun u H hH hle => ?_
    exact fun v hv => hv
   ·rw [if_neg h2]
    cases lr with
    | nil => simp [Tr.deep] at h2
    | node mk mx ml mr =>
     have hlr0:=hlr; obtain ⟨b2, v3, v4, rfl, hb2, hml, hmr⟩:=hlr
     simp only [Tr.size_node] at hs hdl hd2
     refine ZA ?_;refine Zb3 ?_;refine z7 (q0 L rfl rfl (zn rfl) rfl rfl rfl (fun u H hH hle _ => UT.deep_ret _ hH (UT.TA.le (by assumption) hle))) rfl ?_;refine Za ?_;refine z7 (q0 L rfl rfl (zn rfl) rfl rfl rfl (fun u H hH hle _ => UT.deep_ret _ hH (UT.TA.le (by assumption) hle))) rfl ?_;refine ZdX ?_;refine Zb ?_;refine ZaI ?_;refine Zed ?_;refine Zi ?_;refine Zfe ?_;refine Zi ?_;refine ZV ?_;refine zd (q0 L rfl rfl (zn rfl) rfl rfl rfl (fun u H hH hle _ => UT.deep_ret _ hH (UT.TA.le (by assumption) hle))) rfl ?_;refine ZV ?_;refine zd (q0 L rfl rfl (zn rfl) rfl rfl rfl (fun u H hH hle _ => UT.deep_ret _ hH (UT.TA.le (by assumption) hle))) rfl ?_;refine ZeO ?_;refine Zag ?_;refine Zl ?_;refine ZcY ?_;refine zj ?_;refine Zw ?_;refine Z2 ?_;refine ZcP ?_;refine zj ?_;refine Zbb ?_;refine ZbZ ?_;refine Zd ?_;refine Zde ?_;refine ZcO ?_;refine ZcO ?_;refine ZV ?_;refine ZV ?_;refine zd (yk L rfl rfl (zn rfl) rfl rfl rfl UT.TA.mono (fun u H hH hle _ => UT.join_ret _ () _ _ hH (UT.TA.le (by assumption) hle) (UT.TA.le (by assumption) hle) (by first | omega | (simp only [Tr.size_node]; omega)))) rfl ?_;refine Zbn ?_;refine ZV ?_;refine Zi ?_;refine zd (yk L rfl rfl (zn rfl) rfl rfl rfl UT.TA.mono (fun u H hH hle _ => UT.join_ret _ () _ _ hH (UT.TA.le (by assumption) hle) (UT.TA.le (by assumption) hle) (by first | omega | (simp only [Tr.size_node]; omega)))) rfl ?_;refine zd (yk L rfl rfl (zn rfl) rfl rfl rfl UT.TA.mono (fun u H hH hle _ v1 hv1 v2 hv2 => UT.join_ret _ () _ _ hH hv1 hv2 (by first | omega | (simp only [Tr.size_node]; omega)))) rfl ?_;refine Zdl ?_
     refine qt L (rs:=[.tmp 6]) rfl (fun _ _ h => h) Since.refl fun u H hH hle => ?_
     exact fun v hv => hv
 ·rw [if_neg h1]
  by_cases h3:r.deep > l.deep + 1
  ·rw [if_pos h3]
   cases r with
   | nil => simp [Tr.deep] at h3
   | node rk rx rl rr =>
    have hr0:=hr; obtain ⟨b1, v1, v2, rfl, hb1, hrl, hrr⟩:=hr
    have hd1:=rl.deep_le
    have hd2:=rr.deep_le
    simp only [Tr.size_node] at hs hdr
    dsimp only
    by_cases h2:rr.deep ≥ rl.deep
    ·rw [if_pos h2]
     refine ZA ?_;refine Zb3 ?_;refine z7 (q0 L rfl rfl (zn rfl) rfl rfl rfl (fun u H hH hle _ => UT.deep_ret _ hH (UT.TA.le (by assumption) hle))) rfl ?_;refine Za ?_;refine z7 (q0 L rfl rfl (zn rfl) rfl rfl rfl (fun u H hH hle _ => UT.deep_ret _ hH (UT.TA.le (by assumption) hle))) rfl ?_;refine ZdX ?_;refine Zb ?_;refine ZaI ?_;refine Zed ?_;refine Zi ?_;refine Zf1 ?_;refine Zd9 ?_;refine ZcK ?_;refine ZbY ?_;refine Zdk ?_;refine Zl ?_;refine ZcY ?_;refine zj ?_;refine Zw ?_;refine ZS ?_;refine ZaF ?_;refine Zd7 ?_;refine Zi ?_;refine ZdR ?_;refine Zi ?_;refine ZV ?_;refine zd (q0 L rfl rfl (zn rfl) rfl rfl rfl (fun u H hH hle _ => UT.deep_ret _ hH (UT.TA.le (by assumption) hle))) rfl ?_;refine ZV ?_;refine zd (q0 L rfl rfl (zn rfl) rfl rfl rfl (fun u H hH hle _ => UT.deep_ret _ hH (UT.TA.le (by assumption) hle))) rfl ?_;refine Zer ?_;refine Zag ?_;refine Zl ?_;refine ZeC ?_;refine zj ?_;refine Zcq ?_;refine ZcO ?_;refine Zbn ?_;refine Zi ?_;refine ZV ?_;refine zd (yk L rfl rfl (zn rfl) rfl rfl rfl UT.TA.mono (fun u H hH hle _ => UT.join_ret _ () _ _ hH (UT.TA.le (by assumption) hle) (UT.TA.le (by assumption) hle) (by first | omega | (simp only [Tr.size_node]; omega)))) rfl ?_;refine ZV ?_;refine zd (yk L rfl rfl (zn rfl) rfl rfl rfl UT.TA.mono (fun u H hH hle _ v1 hv1 => UT.join_ret _ () _ _ hH hv1 (UT.TA.le (by assumption) hle) (by first | omega | (simp only [Tr.size_node]; omega)))) rfl ?_;refine Zdl ?_
     refine qt L (rs:=[.tmp 6]) rfl (fun _ _ h => h) Since.refl fun u H hH hle => ?_
     exact fun v hv => hv
    ·rw [if_neg h2]
     cases rl with
     | nil => simp [Tr.deep] at h2
     | node mk mx ml mr =>
      have hrl0:=hrl; obtain ⟨b2, v3, v4, rfl, hb2, hml, hmr⟩:=hrl
      simp only [Tr.size_node] at hs hdr hd1
      refine ZA ?_;refine Zb3 ?_;refine z7 (q0 L rfl rfl (zn rfl) rfl rfl rfl (fun u H hH hle _ => UT.deep_ret _ hH (UT.TA.le (by assumption) hle))) rfl ?_;refine Za ?_;refine z7 (q0 L rfl rfl (zn rfl) rfl rfl rfl (fun u H hH hle _ => UT.deep_ret _ hH (UT.TA.le (by assumption) hle))) rfl ?_;refine ZdX ?_;refine Zb ?_;refine ZaI ?_;refine Zed ?_;refine Zi ?_;refine Zf1 ?_;refine Zd9 ?_;refine ZcK ?_;refine ZbY ?_;refine Zdk ?_;refine Zl ?_;refine ZcY ?_;refine zj ?_;refine Zw ?_;refine ZS ?_;refine ZaF ?_;refine Zd7 ?_;refine Zi ?_;refine ZdR ?_;refine Zi ?_;refine ZV ?_;refine zd (q0 L rfl rfl (zn rfl) rfl rfl rfl (fun u H hH hle _ => UT.deep_ret _ hH (UT.TA.le (by assumption) hle))) rfl ?_;refine ZV ?_;refine zd (q0 L rfl rfl (zn rfl) rfl rfl rfl (fun u H hH hle _ => UT.deep_ret _ hH (UT.TA.le (by assumption) hle))) rfl ?_;refine ZeO ?_;refine Zag ?_;refine Zl ?_;refine ZcY ?_;refine zj ?_;refine Zb8 ?_;refine ZB ?_;refine ZcP ?_;refine zj ?_;refine Zb6 ?_;refine ZbZ ?_;refine Zd ?_;refine qh (id:=11) [] mixed (by kernel_rfl) ?_;refine ZcO ?_;refine Zbn ?_;refine Zi ?_;refine ZV ?_;refine zd (yk L rfl rfl (zn rfl) rfl rfl rfl UT.TA.mono (fun u H hH hle _ => UT.join_ret _ () _ _ hH (UT.TA.le (by assumption) hle) (UT.TA.le (by assumption) hle) (by first | omega | (simp only [Tr.size_node]; omega)))) rfl ?_;refine ZcO ?_;refine ZV ?_;refine ZV ?_;refine zd (yk L rfl rfl (zn rfl) rfl rfl rfl UT.TA.mono (fun u H hH hle _ => UT.join_ret _ () _ _ hH (UT.TA.le (by assumption) hle) (UT.TA.le (by assumption) hle) (by first | omega | (simp only [Tr.size_node]; omega)))) rfl ?_;refine zd (yk L rfl rfl (zn rfl) rfl rfl rfl UT.TA.mono (fun u H hH hle _ v1 hv1 v2 hv2 => UT.join_ret _ () _ _ hH hv1 hv2 (by first | omega | (simp only [Tr.size_node]; omega)))) rfl ?_;refine Zdl ?_
      refine qt L (rs:=[.tmp 6]) rfl (fun _ _ h => h) Since.refl fun u H hH hle => ?_
      exact fun v hv => hv
  ·rw [if_neg h3]
   refine ZA ?_;refine Zb3 ?_;refine z7 (q0 L rfl rfl (zn rfl) rfl rfl rfl (fun u H hH hle _ => UT.deep_ret _ hH (UT.TA.le (by assumption) hle))) rfl ?_;refine Za ?_;refine z7 (q0 L rfl rfl (zn rfl) rfl rfl rfl (fun u H hH hle _ => UT.deep_ret _ hH (UT.TA.le (by assumption) hle))) rfl ?_;refine ZdX ?_;refine Zb ?_;refine ZaI ?_;refine Zed ?_;refine Zi ?_;refine Zf1 ?_;refine Zd9 ?_;refine ZcK ?_;refine ZbY ?_;refine Zdk ?_;refine Zl ?_;refine ZcY ?_;refine zj ?_;refine Zw ?_;refine ZS ?_;refine ZaF ?_;refine Zd7 ?_;refine Zi ?_;refine ZeH ?_;refine Zd9 ?_;refine ZcK ?_;refine ZbY ?_;refine Zdk ?_;refine Zl ?_;refine ZcY ?_;refine zj ?_;refine Zb8 ?_;refine Zo ?_;refine ZdA ?_;refine q9 ?_;refine Zf9 ?_;refine ZD ?_;refine ZdZ ?_;refine Zc ?_;refine z7 (yk L rfl rfl (zn rfl) rfl rfl rfl UT.TA.mono (fun u H hH hle _ => UT.join_ret _ () _ _ hH (UT.TA.le (by assumption) hle) (UT.TA.le (by assumption) hle) (by first | omega | (simp only [Tr.size_node]; omega)))) rfl ?_;refine ZbE ?_
   refine qt L (rs:=[.tmp 6]) rfl (fun _ _ h => h) Since.refl fun u H hH hle => ?_
   exact fun v hv => hv
end Go.V.UT
set_option maxRecDepth 20000
namespace Go.V.UT
open Go.Proofs Go.RowKit Go.V
theorem _root_.Go.V.ZaG {A B:Prop} (h:B) (t:Wr B → A:=by intro h; refine z7 (zg2 rfl rfl rfl rfl) rfl ?_;exact h.h):A:=t ⟨h⟩
theorem _root_.Go.V.Zfk {A B:Prop} (h:B) (t:Wr B → A:=by intro h; refine z7 (zfj rfl rfl rfl rfl (by assumption)) rfl ?_;exact h.h):A:=t ⟨h⟩
theorem _root_.Go.V.Zca {A B:Prop} (h:B) (t:Wr B → A:=by intro h; refine zd (q8 L (vs:=[_, _, _, _, _, _]) (qg rfl) rfl rfl rfl rfl ⟨_, rfl⟩) rfl ?_;exact h.h):A:=t ⟨h⟩
theorem _root_.Go.V.Zct {A B:Prop} (h:B) (t:Wr B → A:=by intro h; refine zdj (qg rfl) rfl rfl ?_;exact h.h):A:=t ⟨h⟩
theorem _root_.Go.V.ZeT {A B:Prop} (h:B) (t:Wr B → A:=by intro h; refine qh (id:=13) [] mixed (by kernel_rfl) ?_;exact h.h):A:=t ⟨h⟩
theorem _root_.Go.V.Zcb {A B:Prop} (h:B) (t:Wr B → A:=by intro h; refine ZbT ?_;refine Zj ?_;exact h.h):A:=t ⟨h⟩
theorem _root_.Go.V.ZcQ {A B:Prop} (h:B) (t:Wr B → A:=by intro h; refine ZeR ?_;refine ZaN ?_;exact h.h):A:=t ⟨h⟩
theorem _root_.Go.V.ZcR {A B:Prop} (h:B) (t:Wr B → A:=by intro h; refine ZaC ?_;refine Zb3 ?_;exact h.h):A:=t ⟨h⟩
theorem _root_.Go.V.Zgv {A B:Prop} (h:B) (t:Wr B → A:=by intro h; refine Zdf ?_;refine ZbQ ?_;exact h.h):A:=t ⟨h⟩
theorem _root_.Go.V.Zgj {A B:Prop} (h:B) (t:Wr B → A:=by intro h; refine Zgv ?_;refine Zf8 ?_;exact h.h):A:=t ⟨h⟩
theorem _root_.Go.V.ZdB {A B:Prop} (h:B) (t:Wr B → A:=by intro h; refine Zb3 ?_;refine Zeb ?_;exact h.h):A:=t ⟨h⟩
theorem _root_.Go.V.ZdC {A B:Prop} (h:B) (t:Wr B → A:=by intro h; refine Zbn ?_;refine Zgj ?_;exact h.h):A:=t ⟨h⟩
structure Cmp (cf:Nat) (c:KT → KT → Int):Prop where
 fn:L.fn cf = some ()
 ret:∀ (a b:KT) (u:World) (H:Heap), H.Le (hp u) → Ret Tryz.prog cf [kv a, kv b] u H (fun v _ => v = .int .i64 (c a b))
abbrev mv (cf:Nat) (root:Value):Value:=.agg #[.func (.func cf) #[] #[], root]
attribute [local irreducible] V N X VO Par StepOK Has Ret RetL Src
theorem z3k {cf:Nat} {c:KT → KT → Int} (hc:Cmp cf c) (root:Value) (k:KT) (x:VT):∀ (t:Tr KT VT) {rv:Value} {w:World} {B:Heap}, B.Le (hp w) → TA t rv B → t.size + 1 < 1099511627776 →
  Ret Tryz.prog 243 [mv cf root, rv, .agg (pl k x).toArray] w B (TA (Tr.put c k x t)):=by
 intro t
 induction t with
 | nil =>
  intro rv w B hB hv hs
  obtain rfl:rv = .pointer none:=hv
  have hn:TA .nil (.pointer none) B:=rfl
  have hz:(Tr.nil:Tr KT VT).size = 0:=rfl
  refine qu Tryz.func243 rfl Tryz.ntmps243 (Nat.le_of_ble_eq_true rfl) hB ?_
  refine Zaj ?_;refine ZdB ?_;refine ZaK ?_;refine ZdZ ?_;refine z7 (yk L rfl rfl (zn rfl) rfl rfl rfl UT.TA.mono (fun u H hH hle _ => UT.join_ret _ () _ _ hH (UT.TA.le (by assumption) hle) (UT.TA.le (by assumption) hle) (by first | omega | (simp only [Tr.size_node]; omega)))) rfl ?_;refine ZbE ?_
  refine qt L (rs:=[.tmp 6]) rfl (fun _ _ h => h) Since.refl fun u H hH hle => ?_
  exact fun v hv => hv
 | node nk nx l r ihl ihr =>
  intro rv w B hB hv hs
  obtain ⟨b, lv, rv', rfl, hb, hl, hr⟩:=hv
  have hpl:=Tr.size_put c k x l
  have hpr:=Tr.size_put c k x r
  simp only [Tr.size_node] at hs
  refine qu Tryz.func243 rfl Tryz.ntmps243 (Nat.le_of_ble_eq_true rfl) hB ?_
  unfold Tr.put
  by_cases h1:c k nk < 0
  ·rw [if_pos h1]
   refine Zaj ?_;refine ZdB ?_;refine ZO ?_;refine ZcQ ?_;refine Zdd ?_;refine ZdC ?_;refine zd (q0 L rfl rfl (zn rfl) rfl rfl hc.fn (fun u H hH _ _ => hc.ret _ _ u H hH)) rfl ?_;refine Zl ?_;refine ZaI ?_;refine Zw ?_;refine ZB ?_;refine ZcP ?_;refine zj ?_;refine ZeS ?_;refine ZcO ?_;refine Zfd ?_;refine ZV ?_;refine Zbn ?_;refine zd (yk L rfl rfl (zn rfl) rfl rfl rfl TA.mono (fun u H hH hle _ => ihl hH (hl.le hle) (by omega))) rfl ?_;refine ZV ?_;refine zd (yk L rfl rfl (zn rfl) rfl rfl rfl UT.TA.mono (fun u H hH hle _ v1 hv1 => UT.bal_ret _ () _ _ hH hv1 (UT.TA.le (by assumption) hle) (by first | omega | (simp only [Tr.size_node]; omega)))) rfl ?_;refine Zdl ?_
   refine qt L (rs:=[.tmp 6]) rfl (fun _ _ h => h) Since.refl fun u H hH hle => ?_
   exact fun v hv => hv
  ·rw [if_neg h1]
   by_cases h2:c k nk > 0
   ·rw [if_pos h2]
    refine Zaj ?_;refine ZdB ?_;refine ZO ?_;refine ZcQ ?_;refine Zdd ?_;refine ZdC ?_;refine zd (q0 L rfl rfl (zn rfl) rfl rfl hc.fn (fun u H hH _ _ => hc.ret _ _ u H hH)) rfl ?_;refine Zl ?_;refine ZaI ?_;refine Zw ?_;refine Zo ?_;refine ZaF ?_;refine ZL ?_;refine Z2 ?_;refine ZcP ?_;refine zj ?_;refine Zd7 ?_;refine ZcO ?_;refine ZV ?_;refine Zfd ?_;refine ZV ?_;refine Zbn ?_;refine zd (yk L rfl rfl (zn rfl) rfl rfl rfl TA.mono (fun u H hH hle _ => ihr hH (hr.le hle) (by omega))) rfl ?_;refine zd (yk L rfl rfl (zn rfl) rfl rfl rfl UT.TA.mono (fun u H hH hle _ v1 hv1 => UT.bal_ret _ () _ _ hH (UT.TA.le (by assumption) hle) hv1 (by first | omega | (simp only [Tr.size_node]; omega)))) rfl ?_;refine Zdl ?_
    refine qt L (rs:=[.tmp 6]) rfl (fun _ _ h => h) Since.refl fun u H hH hle => ?_
    exact fun v hv => hv
   ·rw [if_neg h2]
    refine Zaj ?_;refine ZdB ?_;refine ZO ?_;refine ZcQ ?_;refine Zdd ?_;refine ZdC ?_;refine zd (q0 L rfl rfl (zn rfl) rfl rfl hc.fn (fun u H hH _ _ => hc.ret _ _ u H hH)) rfl ?_;refine Zl ?_;refine ZaI ?_;refine Zw ?_;refine Zo ?_;refine ZaF ?_;refine ZL ?_;refine ZS ?_;refine ZdA ?_;refine q9 ?_;refine Zf9 ?_;refine Zcq ?_;refine Zgj ?_;refine zd (zu6 rfl rfl rfl (by kernel_rfl)) rfl ?_;refine zd (ztg L rfl rfl rfl rfl) rfl ?_;refine zd (y8 (cs:=[_, _, _, _, _, _]) rfl rfl z5s rfl rfl) rfl ?_;refine ZV ?_;refine ZV ?_;refine zd (yk L rfl rfl (zn rfl) rfl rfl rfl UT.TA.mono (fun u H hH hle _ => UT.join_ret _ () _ _ hH (UT.TA.le (by assumption) hle) (UT.TA.le (by assumption) hle) (by first | omega | (simp only [Tr.size_node]; omega)))) rfl ?_;refine Zdl ?_
    refine qt L (rs:=[.tmp 6]) rfl (fun _ _ h => h) Since.refl fun u H hH hle => ?_
    exact fun v hv => hv
abbrev FirstS (y:(KT × VT) × Tr KT VT):Value → Heap → Prop:=TupS [fun v _ => v = .agg (pl y.1.1 y.1.2).toArray, TA y.2]
theorem FirstS.mono {y:(KT × VT) × Tr KT VT}:Kn.mono (.sat (FirstS y)):=TupS.mono fun φ hφ => by
 simp only [List.mem_cons, List.mem_nil_iff, or_false] at hφ
 rcases hφ with rfl | rfl
 ·exact fun _ _ _ h _ => h
 ·exact TA.mono
theorem tupS2 {φ ψ:Value → Heap → Prop} {v w:Value} {H:Heap} (h1:φ v H) (h2:ψ w H):TupS [φ, ψ] (tup [v, w]) H:=⟨[v, w], rfl, rfl, fun i χ x hi hx => by
 match i with
 | 0 => cases hi; cases hx; exact h1
 | 1 => cases hi; cases hx; exact h2
 | _ + 2 => cases hi⟩
theorem first_ret:∀ (k:KT) (x:VT) (l r:Tr KT VT) {v:Value} {w:World} {B:Heap}, B.Le (hp w) → TA (.node k x l r) v B → l.size + r.size < 1099511627776 →
  Ret Tryz.prog 289 [v] w B (FirstS (Tr.first k x l r)):=by
 intro k x l
 induction l generalizing k x with
 | nil =>
  intro r v w B hB hv hs
  obtain ⟨b, lv, rv, rfl, hb, hl, hr⟩:=hv
  obtain rfl:lv = .pointer none:=hl
  refine qu Tryz.func289 rfl Tryz.ntmps289 (Nat.le_of_ble_eq_true rfl) hB ?_
  refine ZcR ?_;refine ZbZ ?_;refine Zeb ?_;refine Zt ?_;refine Zed ?_;refine ZcO ?_;refine ZV ?_;refine ZcI ?_;refine Zl ?_
  refine qt L (rs:=[.cell 2 293, .tmp 3]) rfl (fun _ _ h => h) Since.refl fun u H hH hle => ?_
  refine Zct ?_
  exact tupS2 rfl (TA.le hr hle)
 | node lk lx ll lr ih _ =>
  intro r v w B hB hv hs
  obtain ⟨b, lv, rv, rfl, hb, hl, hr⟩:=hv
  have hl0:=hl
  obtain ⟨b2, v3, v4, rfl, hb2, _, _⟩:=hl
  have hz:=Tr.size_first lk lx ll lr
  simp only [Tr.size_node] at hs
  have hm:=TA.mono (t:=(Tr.first lk lx ll lr).2)
  refine qu Tryz.func289 rfl Tryz.ntmps289 (Nat.le_of_ble_eq_true rfl) hB ?_
  refine ZcR ?_;refine ZbZ ?_;refine Zeb ?_;refine Zdy ?_;refine ZbZ ?_;refine z7 (yk L rfl rfl (zn rfl) rfl rfl rfl FirstS.mono (fun u H hH hle _ => ih lk lx lr hH (TA.le hl0 hle) (by omega))) rfl ?_;refine Zf ?_;refine ZaG ?_;refine Zfk ?_;refine Zdz ?_;refine Zcb ?_;refine Zch ?_;refine Zca ?_;refine ZcO ?_;refine Zal ?_;refine ZV ?_;refine zd (yk L rfl rfl (zn rfl) rfl rfl rfl UT.TA.mono (fun u H hH hle _ v1 hv1 => UT.bal_ret _ () _ _ hH hv1 (UT.TA.le (by assumption) hle) (by first | omega | (simp only [Tr.size_node]; omega)))) rfl ?_;refine ZcI ?_;refine Zdl ?_
  refine qt L (rs:=[.cell 2 293, .tmp 3]) rfl (fun _ _ h => h) Since.refl fun u H hH hle => ?_
  refine Zct ?_
  exact fun v hv => tupS2 rfl hv
abbrev DropS (y:Tr KT VT × Bool):Value → Heap → Prop:=TupS [TA y.1, fun v _ => v = .bool y.2]
theorem DropS.mono {y:Tr KT VT × Bool}:Kn.mono (.sat (DropS y)):=TupS.mono fun φ hφ => by
 simp only [List.mem_cons, List.mem_nil_iff, or_false] at hφ
 rcases hφ with rfl | rfl
 ·exact TA.mono
 ·exact fun _ _ _ h _ => h
theorem drop_nil (fv root:Value) (k:KT) {w:World} {B:Heap} (hB:B.Le (hp w)) :
  Ret Tryz.prog 242 [.agg #[fv, root], .pointer none, kv k] w B (DropS (.nil, false)):=by
 have hn:TA .nil (.pointer none) B:=rfl
 refine qu Tryz.func242 rfl Tryz.ntmps242 (Nat.le_of_ble_eq_true rfl) hB ?_
 refine Zaj ?_;refine Zq ?_;refine ZdB ?_;refine ZaK ?_;refine Z5 ?_
 refine qt L (rs:=[.tmp 6, .tmp 7]) rfl (fun _ _ h => h) Since.refl fun u H hH hle => ?_
 exact tupS2 rfl rfl
theorem z08 {cf:Nat} {c:KT → KT → Int} (hc:Cmp cf c) (root:Value) (k:KT):∀ (t:Tr KT VT) {rv:Value} {w:World} {B:Heap}, B.Le (hp w) → TA t rv B → t.size < 1099511627776 →
  Ret Tryz.prog 242 [mv cf root, rv, kv k] w B (DropS (Tr.drop c k t)):=by
 intro t
 induction t with
 | nil =>
  intro rv w B hB hv hs
  obtain rfl:rv = .pointer none:=hv
  have hn:TA .nil (.pointer none) B:=rfl
  refine qu Tryz.func242 rfl Tryz.ntmps242 (Nat.le_of_ble_eq_true rfl) hB ?_
  refine Zaj ?_;refine Zq ?_;refine ZdB ?_;refine ZaK ?_;refine Z5 ?_
  refine qt L (rs:=[.tmp 6, .tmp 7]) rfl (fun _ _ h => h) Since.refl fun u H hH hle => ?_
  exact tupS2 rfl rfl
 | node nk nx l r ihl ihr =>
  intro rv w B hB hv hs
  obtain ⟨b, lv, rv', rfl, hb, hl, hr⟩:=hv
  have hpl:=Tr.size_drop c k l
  have hpr:=Tr.size_drop c k r
  simp only [Tr.size_node] at hs
  refine qu Tryz.func242 rfl Tryz.ntmps242 (Nat.le_of_ble_eq_true rfl) hB ?_
  unfold Tr.drop
  by_cases h1:c k nk < 0
  ·rw [if_pos h1]
   have hm:=TA.mono (t:=(Tr.drop c k l).1)
   refine Zaj ?_;refine Zq ?_;refine ZdB ?_;refine ZO ?_;refine ZcQ ?_;refine ZdC ?_;refine zd (q0 L rfl rfl (zn rfl) rfl rfl hc.fn (fun u H hH _ _ => hc.ret _ _ u H hH)) rfl ?_;refine Zl ?_;refine ZaI ?_;refine Zw ?_;refine ZB ?_;refine ZcP ?_;refine zj ?_;refine ZeS ?_;refine Zfd ?_;refine ZV ?_;refine Zbn ?_;refine zd (yk L rfl rfl (zn rfl) rfl rfl rfl DropS.mono (fun u H hH hle _ => ihl hH (hl.le hle) (by omega))) rfl ?_;refine Zal ?_;refine zd (zfj rfl rfl rfl rfl (by assumption)) rfl ?_;refine zd (zg2 rfl rfl rfl rfl) rfl ?_;refine Zec ?_;refine Zl ?_;refine zj ?_;refine Zde ?_;refine ZcO ?_;refine Zal ?_;refine ZV ?_;refine zd (yk L rfl rfl (zn rfl) rfl rfl rfl UT.TA.mono (fun u H hH hle _ v1 hv1 => UT.bal_ret _ () _ _ hH hv1 (UT.TA.le (by assumption) hle) (by first | omega | (simp only [Tr.size_node]; omega)))) rfl ?_;refine Zi ?_;refine Zec ?_;refine Zl ?_
   refine qt L (rs:=[.tmp 6, .tmp 7]) rfl (fun _ _ h => h) Since.refl fun u H hH hle => ?_
   exact fun v hv => tupS2 hv rfl
  ·rw [if_neg h1]
   by_cases h2:c k nk > 0
   ·rw [if_pos h2]
    have hm:=TA.mono (t:=(Tr.drop c k r).1)
    refine Zaj ?_;refine Zq ?_;refine ZdB ?_;refine ZO ?_;refine ZcQ ?_;refine ZdC ?_;refine zd (q0 L rfl rfl (zn rfl) rfl rfl hc.fn (fun u H hH _ _ => hc.ret _ _ u H hH)) rfl ?_;refine Zl ?_;refine ZaI ?_;refine Zw ?_;refine Zo ?_;refine ZaF ?_;refine ZU ?_;refine Z2 ?_;refine ZcP ?_;refine zj ?_;refine Zcq ?_;refine Zfd ?_;refine ZV ?_;refine Zbn ?_;refine zd (yk L rfl rfl (zn rfl) rfl rfl rfl DropS.mono (fun u H hH hle _ => ihr hH (hr.le hle) (by omega))) rfl ?_;refine Zal ?_;refine zd (zfj rfl rfl rfl rfl (by assumption)) rfl ?_;refine zd (zg2 rfl rfl rfl rfl) rfl ?_;refine Zec ?_;refine Zl ?_;refine zj ?_;refine qh (id:=9) [] mixed (by kernel_rfl) ?_;refine ZcO ?_;refine ZV ?_;refine Zal ?_;refine zd (yk L rfl rfl (zn rfl) rfl rfl rfl UT.TA.mono (fun u H hH hle _ v1 hv1 => UT.bal_ret _ () _ _ hH (UT.TA.le (by assumption) hle) hv1 (by first | omega | (simp only [Tr.size_node]; omega)))) rfl ?_;refine Zi ?_;refine Zec ?_;refine Zl ?_
    refine qt L (rs:=[.tmp 6, .tmp 7]) rfl (fun _ _ h => h) Since.refl fun u H hH hle => ?_
    exact fun v hv => tupS2 hv rfl
   ·rw [if_neg h2]
    cases r with
    | nil =>
     obtain rfl:rv' = .pointer none:=hr
     refine Zaj ?_;refine Zq ?_;refine ZdB ?_;refine ZO ?_;refine ZcQ ?_;refine ZdC ?_;refine zd (q0 L rfl rfl (zn rfl) rfl rfl hc.fn (fun u H hH _ _ => hc.ret _ _ u H hH)) rfl ?_;refine Zl ?_;refine ZaI ?_;refine Zw ?_;refine Zo ?_;refine ZaF ?_;refine ZU ?_;refine ZS ?_;refine ZaF ?_;refine Zb6 ?_;refine ZbZ ?_;refine Zeb ?_;refine ZcP ?_;refine zj ?_;refine Zdj ?_;refine ZbZ ?_;refine Z5 ?_
     refine qt L (rs:=[.tmp 6, .tmp 7]) rfl (fun _ _ h => h) Since.refl fun u H hH hle => ?_
     exact tupS2 (TA.le hl hle) rfl
    | node rk rx rl rr =>
     have hr0:=hr
     obtain ⟨b2, v3, v4, rfl, hb2, _, _⟩:=hr
     have hz:=Tr.size_first rk rx rl rr
     simp only [Tr.size_node] at hs
     have hm:=TA.mono (t:=(Tr.first rk rx rl rr).2)
     refine Zaj ?_;refine Zq ?_;refine ZdB ?_;refine ZO ?_;refine ZcQ ?_;refine ZdC ?_;refine zd (q0 L rfl rfl (zn rfl) rfl rfl hc.fn (fun u H hH _ _ => hc.ret _ _ u H hH)) rfl ?_;refine Zl ?_;refine ZaI ?_;refine Zw ?_;refine Zo ?_;refine ZaF ?_;refine ZU ?_;refine ZS ?_;refine ZaF ?_;refine Zb6 ?_;refine ZbZ ?_;refine Zeb ?_;refine ZdA ?_;refine q9 ?_;refine Zf9 ?_;refine ZD ?_;refine Za ?_;refine ZbZ ?_;refine z7 (yk L rfl rfl (zn rfl) rfl rfl rfl FirstS.mono (fun u H hH hle _ => first_ret rk rx rl rr hH (TA.le hr0 hle) (by omega))) rfl ?_;refine Zf ?_;refine ZaG ?_;refine Zfk ?_;refine Zdz ?_;refine Zcb ?_;refine ZeT ?_;refine Zca ?_;refine ZV ?_;refine Zal ?_;refine zd (yk L rfl rfl (zn rfl) rfl rfl rfl UT.TA.mono (fun u H hH hle _ v1 hv1 => UT.bal_ret _ () _ _ hH (UT.TA.le (by assumption) hle) hv1 (by first | omega | (simp only [Tr.size_node]; omega)))) rfl ?_;refine Zec ?_;refine Zl ?_
     refine qt L (rs:=[.tmp 6, .tmp 7]) rfl (fun _ _ h => h) Since.refl fun u H hH hle => ?_
     exact fun v hv => tupS2 hv rfl
end Go.V.UT
set_option maxRecDepth 20000
namespace Go.V.UT
open Go.Proofs Go.RowKit Go.V
theorem _root_.Go.V.Zdm {A B:Prop} (h:B) (t:Wr B → A:=by intro h; refine z7 (q6 L (qw rfl (List.Mem.head _)) rfl rfl rfl rfl) rfl ?_;exact h.h):A:=t ⟨h⟩
theorem _root_.Go.V.Zcc {A B:Prop} (h:B) (t:Wr B → A:=by intro h; refine z7 (q8 L (vs:=[_, _]) (qw rfl (List.Mem.head _)) rfl rfl rfl rfl ⟨_, rfl⟩) rfl ?_;exact h.h):A:=t ⟨h⟩
theorem _root_.Go.V.ZfA {A B:Prop} (h:B) (t:Wr B → A:=by intro h; refine zh5 L (O1:=[]) rfl rfl rfl rfl rfl rfl rfl rfl rfl ?_;exact h.h):A:=t ⟨h⟩
theorem _root_.Go.V.Zu {A B:Prop} (h:B) (t:Wr B → A:=by intro h; refine Zbh ?_;refine Zdm ?_;exact h.h):A:=t ⟨h⟩
theorem _root_.Go.V.Z1 {A B:Prop} (h:B) (t:Wr B → A:=by intro h; refine ZaB ?_;refine Z6 ?_;exact h.h):A:=t ⟨h⟩
theorem _root_.Go.V.Zab {A B:Prop} (h:B) (t:Wr B → A:=by intro h; refine ZE ?_;refine Zj ?_;exact h.h):A:=t ⟨h⟩
theorem _root_.Go.V.Zan {A B:Prop} (h:B) (t:Wr B → A:=by intro h; refine ZE ?_;refine Za0 ?_;exact h.h):A:=t ⟨h⟩
theorem _root_.Go.V.Zfl {A B:Prop} (h:B) (t:Wr B → A:=by intro h; refine ZaC ?_;refine Zj ?_;exact h.h):A:=t ⟨h⟩
theorem _root_.Go.V.Zbo {A B:Prop} (h:B) (t:Wr B → A:=by intro h; refine Zf ?_;refine Zfk ?_;exact h.h):A:=t ⟨h⟩
theorem _root_.Go.V.ZbJ {A B:Prop} (h:B) (t:Wr B → A:=by intro h; refine Z9 ?_;refine Ze7 ?_;exact h.h):A:=t ⟨h⟩
theorem _root_.Go.V.ZfB {A B:Prop} (h:B) (t:Wr B → A:=by intro h; refine Zbh ?_;refine ZfA ?_;exact h.h):A:=t ⟨h⟩
theorem _root_.Go.V.Zcu {A B:Prop} (h:B) (t:Wr B → A:=by intro h; refine ZaG ?_;refine ZbT ?_;exact h.h):A:=t ⟨h⟩
theorem _root_.Go.V.ZfC {A B:Prop} (h:B) (t:Wr B → A:=by intro h; refine Z4 ?_;refine z7 (zny rfl rfl rfl rfl z78 rfl rfl) rfl ?_;exact h.h):A:=t ⟨h⟩
theorem _root_.Go.V.Zdn {A B:Prop} (h:B) (t:Wr B → A:=by intro h; refine ZfB ?_;refine Zj ?_;exact h.h):A:=t ⟨h⟩
def MA (fv:Value) (t:Tr KT VT):Value → Heap → Prop:=fun v H => ∃ p, v = .agg #[fv, .pointer p] ∧ TA t (.pointer p) H
theorem MA.mono {fv:Value} {t:Tr KT VT}:Kn.mono (.sat (MA fv t)):=fun _ _ _ ⟨p, hv, h⟩ hle => ⟨p, hv, h.le hle⟩
attribute [local irreducible] V N X VO Par StepOK Has Ret RetL Src
theorem new_ret (cf:Nat) {w:World} {B:Heap} (hB:B.Le (hp w)):Ret Tryz.prog 177 [.func (.func cf) #[] #[]] w B (fun v _ => v = .agg #[.func (.func cf) #[] #[], .pointer none]):=by
 refine qu Tryz.func177 rfl Tryz.ntmps177 (Nat.le_of_ble_eq_true rfl) hB ?_
 refine Zfl ?_;refine ZbD ?_;refine z7 (y8 (cs:=[_, _]) rfl rfl z9h rfl rfl) rfl ?_;refine Z1 ?_
 refine qt L (rs:=[.cell 2 87]) rfl (fun _ _ h => h) Since.refl fun u H hH hle => ?_
 refine Zct ?_
 rfl
theorem len_ret {fv root:Value} {t:Tr KT VT} {w:World} {B:Heap} (hB:B.Le (hp w)) (hv:TA t root B):Ret Tryz.prog 103 [.agg #[fv, root]] w B (fun v _ => v = .int .i64 t.size):=by
 refine qu Tryz.func103 rfl Tryz.ntmps103 (Nat.le_of_ble_eq_true rfl) hB ?_
 refine ZbO ?_;refine Zm ?_;refine z7 (q0 L rfl rfl (zn rfl) rfl rfl rfl (fun u H hH hle _ => UT.size_ret _ hH (UT.TA.le (by assumption) hle))) rfl ?_;refine Zb ?_
 refine qt L (rs:=[.tmp 2]) rfl (fun _ _ h => h) Since.refl fun u H hH hle => ?_
 rfl
theorem z0u {cf:Nat} {c:KT → KT → Int} (hc:Cmp cf c) {p:Option Addr} (k:KT) (x:VT) {t:Tr KT VT} {w:World} {B:Heap} (hB:B.Le (hp w)) (hv:TA t (.pointer p) B) (hs:t.size + 1 < 1099511627776) :
  Ret Tryz.prog 179 [mv cf (.pointer p), kv k, vv x] w B (MA (.func (.func cf) #[] #[]) (Tr.put c k x t)):=by
 refine qu Tryz.func179 rfl Tryz.ntmps179 (Nat.le_of_ble_eq_true rfl) hB ?_
 refine ZZ ?_;refine Zc2 ?_;refine Zc2 ?_;refine Zan ?_;(refine zey 3 rfl ?_;intro b3 hb3); refine Zx ?_;refine Zu ?_;refine z7 (zny rfl rfl rfl rfl z9i rfl rfl) rfl ?_;refine Z9 ?_;refine Zy ?_;refine Zcc ?_;refine Zu ?_;refine ZdZ ?_;refine z7 (q8 L (vs:=[]) (qk rfl) rfl rfl rfl rfl ⟨_, rfl⟩) rfl ?_;refine z7 (y8 (cs:=[_, _, _, _, _, _]) rfl rfl z5s rfl rfl) rfl ?_;refine z7 (yk L rfl rfl (zn rfl) rfl rfl rfl TA.mono (fun u H hH hle _ => z3k hc _ k x t hH (hv.le hle) hs)) rfl ?_;refine zco 16 rfl ?_;intro p16 H16 hs16 hp16; obtain ⟨q16, rfl⟩:=TA.ptr hp16; refine Zdn ?_;refine Zk ?_;refine Zcc ?_;refine Z1 ?_
 refine qt L (rs:=[.cell 6 87]) rfl (fun _ _ h => h) hs16 fun u H hH hle => ?_
 refine Zct ?_
 exact ⟨q16, rfl, hp16.le hle⟩
theorem zyb {cf:Nat} {c:KT → KT → Int} (hc:Cmp cf c) {p:Option Addr} (k:KT) {t:Tr KT VT} {w:World} {B:Heap} (hB:B.Le (hp w)) (hv:TA t (.pointer p) B) (hs:t.size < 1099511627776) :
  Ret Tryz.prog 178 [mv cf (.pointer p), kv k] w B (MA (.func (.func cf) #[] #[]) (if (Tr.drop c k t).2 = true then (Tr.drop c k t).1 else t)):=by
 have hD:=fun (u:World) (H:Heap) (hH:H.Le (hp u)) (hle:B.Le H) => z08 hc (.pointer p) k t hH (hv.le hle) hs
 rcases hq:Tr.drop c k t with ⟨t', was⟩
 rw [hq] at hD
 have hm:=TA.mono (t:=t')
 cases was
 ·rw [if_neg (by simp)]
  refine qu Tryz.func178 rfl Tryz.ntmps178 (Nat.le_of_ble_eq_true rfl) hB ?_
  refine ZZ ?_;refine Zc2 ?_;refine Zan ?_;(refine zey 2 rfl ?_;intro b2 hb2); refine Zx ?_;refine Zcc ?_;refine Zu ?_;refine ZdZ ?_;refine z7 (yk L rfl rfl (zn rfl) rfl rfl rfl DropS.mono (fun u H hH hle _ => hD u H hH hle)) rfl ?_;refine Zbo ?_;refine Zcu ?_;refine ZT ?_;refine ZQ ?_;refine Zr ?_;refine Zcc ?_;refine Z1 ?_
  refine qt L (rs:=[.cell 4 87]) rfl (fun _ _ h => h) Since.refl fun u H hH hle => ?_
  refine Zct ?_
  exact ⟨p, rfl, hv.le hle⟩
 ·rw [if_pos rfl]
  refine qu Tryz.func178 rfl Tryz.ntmps178 (Nat.le_of_ble_eq_true rfl) hB ?_
  refine ZZ ?_;refine Zc2 ?_;refine Zan ?_;(refine zey 2 rfl ?_;intro b2 hb2); refine Zx ?_;refine Zcc ?_;refine Zu ?_;refine ZdZ ?_;refine z7 (yk L rfl rfl (zn rfl) rfl rfl rfl DropS.mono (fun u H hH hle _ => hD u H hH hle)) rfl ?_;refine Zbo ?_;refine Zcu ?_;refine ZT ?_;refine Z9 ?_;refine Zk ?_;refine Zf ?_;refine zco 16 rfl ?_;intro p16 H16 hs16 hp16; obtain ⟨q16, rfl⟩:=TA.ptr hp16; refine Zdn ?_;refine Zr ?_;refine Zcc ?_;refine Z1 ?_
  refine qt L (rs:=[.cell 4 87]) rfl (fun _ _ h => h) hs16 fun u H hH hle => ?_
  refine Zct ?_
  exact ⟨q16, rfl, hp16.le hle⟩
def z82:Option VT → List Value
 | some x => [vv x, .bool true]
 | none => [.agg #[], .bool false]
theorem z4a {cf:Nat} {c:KT → KT → Int} (hc:Cmp cf c) (k:KT) {root:Value} {t:Tr KT VT} {w:World} {B:Heap} (hB:B.Le (hp w)) (hv:TA t root B) :
  Ret Tryz.prog 176 [mv cf root, kv k] w B (fun v _ => v = tup (z82 (Tr.get c k t))):=by
 refine qu Tryz.func176 rfl Tryz.ntmps176 (Nat.le_of_ble_eq_true rfl) hB ?_
 refine Zaj ?_;refine ZE ?_;refine Zay ?_;refine Zm ?_;refine Zd ?_;refine qm ?_
 refine zao (fun s:Tr KT VT × Value => [(3, .sat (At [.string k.1.1.1, .string k.1.1.2, .string k.1.2, .string k.2.1.1, .string k.2.1.2, .string k.2.2] 34 0)), (4, .own (Cell [] 195)), (2, .sat (At [.func (.func cf) #[] #[], root] 87 0)), (6, .is s.2)])
  (fun s => TA s.1 s.2 B ∧ Tr.get c k s.1 = Tr.get c k t) (fun s => s.1.size) (t, root) ⟨hv, rfl⟩ (by repeat (first | exact trivial | refine ⟨rfl, ?_⟩)) ?_
 rintro ⟨s, v⟩ ⟨hs, hg⟩
 dsimp only at hs hg ⊢
 cases s with
 | nil =>
  obtain rfl:v = .pointer none:=hs
  refine Zh ?_;refine ZfC ?_;refine ZaS ?_;refine Z3 ?_;refine Zab ?_;refine ZX ?_;refine z7 (q8 L (vs:=[]) (qg rfl) rfl rfl rfl rfl ⟨_, rfl⟩) rfl ?_;refine ZaD ?_
  refine qt L (rs:=[.cell 4 195, .tmp 5]) rfl (fun _ _ h => h) Since.refl fun u H hH hle => ?_
  first | (rw [← hg]; rfl) | (refine zdj (qg rfl) rfl rfl ?_;rw [← hg]; rfl)
 | node nk nx l r =>
  obtain ⟨b, lv, rv, rfl, hb, hl, hr⟩:=hs
  by_cases h0:c k nk = 0
  ·rw [Tr.get_eq h0] at hg
   refine Zh ?_;refine ZfC ?_;refine ZbJ ?_;refine ZcQ ?_;refine ZdC ?_;refine zd (q0 L rfl rfl (zn rfl) rfl rfl hc.fn (fun u H hH _ _ => hc.ret _ _ u H hH)) rfl ?_;refine Zl ?_;refine Zb1 ?_;refine ZJ ?_;refine Zt ?_;refine Zbb ?_;refine ZK ?_;refine z7 (zu5 (by assumption) rfl rfl rfl (by kernel_rfl)) rfl ?_;refine z7 (ztg L rfl rfl rfl rfl) rfl ?_;refine ZaD ?_
   refine qt L (rs:=[.cell 4 195, .tmp 5]) rfl (fun _ _ h => h) Since.refl fun u H hH hle => ?_
   first | (rw [← hg]; rfl) | (refine zdj (qg rfl) rfl rfl ?_;rw [← hg]; rfl)
  ·by_cases h1:c k nk < 0
   ·rw [Tr.get_lt h1] at hg
    refine Zh ?_;refine ZfC ?_;refine ZbJ ?_;refine ZcQ ?_;refine ZdC ?_;refine zd (q0 L rfl rfl (zn rfl) rfl rfl hc.fn (fun u H hH _ _ => hc.ret _ _ u H hH)) rfl ?_;refine Zl ?_;refine Zb1 ?_;refine ZbW ?_;refine ZL ?_;refine ZaX ?_;refine ZU ?_;refine ZbZ ?_;refine ZI ?_;refine yd ?_
    exact yl (x:=(Tr.node nk nx l r, Value.pointer (some ⟨b, 0, none⟩))) (l, lv) ⟨hl, hg⟩ (by simp only [Tr.size_node]; omega) (by repeat (first | exact trivial | refine ⟨rfl, ?_⟩))
   ·rw [Tr.get_gt h0 h1] at hg
    refine Zh ?_;refine ZfC ?_;refine ZbJ ?_;refine ZcQ ?_;refine ZdC ?_;refine zd (q0 L rfl rfl (zn rfl) rfl rfl hc.fn (fun u H hH _ _ => hc.ret _ _ u H hH)) rfl ?_;refine Zl ?_;refine Zb1 ?_;refine ZbW ?_;refine ZL ?_;refine Zo ?_;refine Zat ?_;refine ZaA ?_;refine ZbZ ?_;refine ZI ?_;refine yd ?_
    exact yl (x:=(Tr.node nk nx l r, Value.pointer (some ⟨b, 0, none⟩))) (r, rv) ⟨hr, hg⟩ (by simp only [Tr.size_node]; omega) (by repeat (first | exact trivial | refine ⟨rfl, ?_⟩))
end Go.V.UT
set_option maxRecDepth 20000
namespace Go.V.UT
open Go.Proofs Go.RowKit Go.V
theorem _root_.Go.V.ZP {A B:Prop} (h:B) (t:Wr B → A:=by intro h; refine z7 (q8 L (vs:=[_, _, _, _, _, _]) (qg rfl) rfl rfl rfl rfl ⟨_, rfl⟩) rfl ?_;exact h.h):A:=t ⟨h⟩
theorem _root_.Go.V.Zcv {A B:Prop} (h:B) (t:Wr B → A:=by intro h; refine Zag ?_;refine Zi ?_;exact h.h):A:=t ⟨h⟩
theorem _root_.Go.V.ZfD {A B:Prop} (h:B) (t:Wr B → A:=by intro h; refine qh (id:=6) [(60, [77])] mixed (by kernel_rfl) ?_;refine Zi ?_;exact h.h):A:=t ⟨h⟩
theorem _root_.Go.V.ZfX {A B:Prop} (h:B) (t:Wr B → A:=by intro h; refine ZaI ?_;refine Z3 ?_;exact h.h):A:=t ⟨h⟩
theorem _root_.Go.V.ZfE {A B:Prop} (h:B) (t:Wr B → A:=by intro h; refine Za9 ?_;refine zd (zc2 rfl rfl rfl rfl z78 rfl) rfl ?_;exact h.h):A:=t ⟨h⟩
theorem _root_.Go.V.Zdo {A B:Prop} (h:B) (t:Wr B → A:=by intro h; refine Za9 ?_;refine Za9 ?_;exact h.h):A:=t ⟨h⟩
def encP (y:KT × VT):List Value:=[.agg (pl y.1 y.2).toArray]
def PairsAt (t:Tr KT VT) (a f e:Int):Value → Heap → Prop:=fun v H => ∃ b1 b2 b3 b4 root, v = .func (.func 287) #[] #[.pointer (some ⟨b1, 0, none⟩), .pointer (some ⟨b2, 0, none⟩), .pointer (some ⟨b3, 0, none⟩), .pointer (some ⟨b4, 0, none⟩)] ∧
 H b1 = some (.cells [root].toArray 85) ∧ H b2 = some (.cells [.int .i64 a].toArray 3) ∧ H b3 = some (.cells [.int .i64 f].toArray 3) ∧ H b4 = some (.cells [.int .i64 e].toArray 3) ∧ TA t root H
theorem PairsAt.mono {t:Tr KT VT} {a f e:Int}:Kn.mono (.sat (PairsAt t a f e)):=fun _ _ _ ⟨b1, b2, b3, b4, root, h0, h1, h2, h3, h4, h5⟩ hle => ⟨b1, b2, b3, b4, root, h0, hle _ _ h1, hle _ _ h2, hle _ _ h3, hle _ _ h4, h5.le hle⟩
attribute [local irreducible] V N X VO Par StepOK Has Ret RetL Src
theorem zk0 (t:Tr KT VT) (a f e:Int) {root:Value} {w:World} {B:Heap} (hB:B.Le (hp w)) (hv:TA t root B) :
  Ret Tryz.prog 241 [root, .int .i64 a, .int .i64 f, .int .i64 e] w B (PairsAt t a f e):=by
 obtain ⟨p, rfl⟩:=hv.ptr
 refine qu Tryz.func241 rfl Tryz.ntmps241 (Nat.le_of_ble_eq_true rfl) hB ?_
 refine Zaj ?_;refine Zc2 ?_;refine Zc2 ?_;refine Zd ?_
 refine zjk 4 rfl fun v1 H1 hs1 ⟨b1, e1, h1⟩ => ?_
 subst e1
 refine zjk 5 rfl fun v2 H2 hs2 ⟨b2, e2, h2⟩ => ?_
 subst e2
 refine zjk 6 rfl fun v3 H3 hs3 ⟨b3, e3, h3⟩ => ?_
 subst e3
 refine zjk 7 rfl fun v4 H4 hs4 ⟨b4, e4, h4⟩ => ?_
 subst e4
 refine Zx ?_;refine ZaQ ?_;refine Zb ?_
 refine qt L (rs:=[.tmp 8]) rfl (fun _ _ h => h) (hs1.trans (hs2.trans (hs3.trans hs4))) fun u H hH hle => ?_
 exact ⟨b1, b2, b3, b4, _, rfl, hle _ _ (hs4.le _ _ (hs3.le _ _ (hs2.le _ _ h1))), hle _ _ (hs4.le _ _ (hs3.le _ _ h2)), hle _ _ (hs4.le _ _ h3), hle _ _ h4, (((hv.le hs1.le).le hs2.le).le (hs3.le.trans hs4.le)).le hle⟩
theorem zit {l:List (KT × VT)} {x:List Value} {pre:zbi} (h:pre ++ [x] <+: l.map encP):∃ y, x = encP y:=by
 have:x ∈ l.map encP:=h.subset (by simp)
 obtain ⟨y, _, rfl⟩:=List.mem_map.1 this
 exact ⟨y, rfl⟩
abbrev zm2:List Value → List Value
 | [.agg cs] => cs.toList
 | _ => []
set_option maxHeartbeats 2000000 in
set_option maxRecDepth 10000 in
theorem z03:∀ (t:Tr KT VT) (a f e:Int) {b1 b2 b3 b4:Nat} {root:Value} {w:World} {B:Heap}, 0 ≤ a → a + t.size < 1099511627776 → B.Le (hp w) →
  B b1 = some (.cells [root].toArray 85) → B b2 = some (.cells [.int .i64 a].toArray 3) → B b3 = some (.cells [.int .i64 f].toArray 3) → B b4 = some (.cells [.int .i64 e].toArray 3) → TA t root B →
  z7l Tryz.prog 287 [.pointer (some ⟨b1, 0, none⟩), .pointer (some ⟨b2, 0, none⟩), .pointer (some ⟨b3, 0, none⟩), .pointer (some ⟨b4, 0, none⟩)] w B ((Tr.prs t a f e).map encP):=by
 intro t
 induction t with
 | nil =>
  intro a f e b1 b2 b3 b4 root w B ha hsz hB g1 g2 g3 g4 hv ly J stop C hst hY hJ hC
  obtain rfl:root = .pointer none:=hv
  refine zaf 77 (J []) Tryz.func287 rfl Tryz.ntmps287 (Nat.le_of_ble_eq_true rfl) hB hJ hC ?_
  refine ZA ?_;refine Za0 ?_;refine ZdQ ?_;refine ZfE ?_;refine Zd9 ?_;refine ZcK ?_;refine Zcv ?_;refine ZbY ?_;refine Zdk ?_;refine Zbg ?_
  exact zcn L 77 rfl (fun _ _ h => h) Since.refl rfl rfl
 | node k x l r ihl ihr =>
  intro a f e b1 b2 b3 b4 root w B ha hsz hB g1 g2 g3 g4 hv ly J stop C hst hY hJ hC
  obtain ⟨b, lv, rv, rfl, hb, hl, hr⟩:=hv
  have hsn:(Tr.node k x l r).size = l.size + 1 + r.size:=rfl
  rw [hsn] at hsz
  refine zaf 77 (J []) Tryz.func287 rfl Tryz.ntmps287 (Nat.le_of_ble_eq_true rfl) hB hJ hC ?_
  by_cases h1:a + ((Tr.node k x l r).size:Int) ≤ f
  ·have hx:Tr.prs (.node k x l r) a f e = []:=if_pos (.inl h1)
   refine ZA ?_;refine Za0 ?_;refine ZdQ ?_;refine ZfE ?_;refine Zi ?_;refine Zdo ?_;refine Zb7 ?_;refine Za9 ?_;refine ZcN ?_;refine Za9 ?_;refine zd (zqc rfl rfl rfl rfl (decide_eq_true (by omega))) rfl ?_;refine Zcv ?_;refine ZbY ?_;refine Zdk ?_;refine Zbg ?_
   exact zcn L 77 rfl (fun _ _ h => h) Since.refl rfl (by rw [hx]; rfl)
  ·by_cases h2:a ≥ e
   ·have hx:Tr.prs (.node k x l r) a f e = []:=if_pos (.inr h2)
    refine ZA ?_;refine Za0 ?_;refine ZdQ ?_;refine ZfE ?_;refine Zi ?_;refine Zdo ?_;refine Zb7 ?_;refine Za9 ?_;refine ZcN ?_;refine Za9 ?_;refine zd (zqc rfl rfl rfl rfl (decide_eq_false (by omega))) rfl ?_;refine Zcv ?_;refine Zdo ?_;refine Zer ?_;refine Zag ?_;refine Zbg ?_
    exact zcn L 77 rfl (fun _ _ h => h) Since.refl rfl (by rw [hx]; rfl)
   ·have hx:Tr.prs (.node k x l r) a f e = Tr.prs l a f e ++ ((if a + (l.size:Int) ≥ f ∧ a + (l.size:Int) < e then [(k, x)] else []) ++ Tr.prs r (a + l.size + 1) f e) :=
     if_neg (by rintro (h | h); exact h1 h; exact h2 h)
    rw [hx] at hY ⊢
    simp only [List.map_append] at hY ⊢
    refine ZA ?_;refine Za0 ?_;refine ZdQ ?_;refine ZfE ?_;refine Zi ?_;refine Zdo ?_;refine Zb7 ?_;refine Za9 ?_;refine ZcN ?_;refine Za9 ?_;refine zd (zqc rfl rfl rfl rfl (decide_eq_false (by omega))) rfl ?_;refine Zcv ?_;refine Zdo ?_;refine ZeO ?_;refine Zag ?_;refine Zci ?_;refine Zed ?_;refine Zdo ?_;refine Zb7 ?_;refine Za9 ?_;refine zd (q0 L rfl rfl (zn rfl) rfl rfl rfl (fun u H hH hle _ => UT.size_ret _ hH (UT.TA.le (by assumption) hle))) rfl ?_;refine ZcN ?_;refine Zl ?_;refine Zh ?_;refine ZeR ?_;refine Za9 ?_;refine Zb7 ?_;refine Zdo ?_;refine Zdo ?_;refine zd (yk L rfl rfl (zn rfl) rfl rfl rfl PairsAt.mono (fun u H hH hle _ => zk0 l a f e hH (TA.le hl hle))) rfl ?_;refine Zbu ?_;refine qm ?_
    refine zjk 5 rfl fun v5 H5 hs5 ⟨b5, e5, g5⟩ => ?_
    subst e5
    refine zjk 40 rfl fun v40 H40 hs40 ⟨c1, c2, c3, c4, r1, e40, d1, d2, d3, d4, d5⟩ => ?_
    subst e40
    have hsB:=hs5.trans hs40
    have gg5:=hs40.le _ _ g5
    refine zeh L (gf:=287) (caps:=[.pointer (some ⟨c1, 0, none⟩), .pointer (some ⟨c2, 0, none⟩), .pointer (some ⟨c3, 0, none⟩), .pointer (some ⟨c4, 0, none⟩)])
     [(1, .pointer (some ⟨b1, 0, none⟩)), (2, .pointer (some ⟨b2, 0, none⟩)), (3, .pointer (some ⟨b3, 0, none⟩)), (4, .pointer (some ⟨b4, 0, none⟩)), (5, .pointer (some ⟨b5, 0, none⟩)), (6, .int .i64 (a + l.size))]
     (fun pre => [(77, (J pre).res)]) (fun pre x => [(77, .own (J pre).res), (7, .own (Cell (zm2 x) 293)), (5, .is (.pointer (some ⟨b5, 0, none⟩)))])
     ((Tr.prs l a f e).map encP) stop (fun _ => .ret) rfl rfl rfl ⟨rfl, rfl, rfl, rfl, rfl, rfl, rfl, trivial⟩
     (fun pre p hp => by simp only [List.mem_singleton] at hp; subst hp; exact Nat.le_refl _) hst (fun x hx => by obtain ⟨y, _, rfl⟩:=List.mem_map.1 hx; rfl) (by decide)
     (fun u H hH hle => ihl a f e ha (by omega) hH (hle _ _ d1) (hle _ _ d2) (hle _ _ d3) (hle _ _ d4) (d5.le hle)) ?asg ?bd ?dn ?st
    case asg =>
     intro w1 Ln B' l' D' o pre x' hpre hstp hBB
     obtain ⟨y, rfl⟩:=zit hpre
     refine Zr ?_;refine Zdz ?_;refine zk ?_
     exact zvr Since.refl ⟨rfl, rfl, rfl, trivial⟩
    case bd =>
     intro w1 Ln B' l' D' o pre x' hpre hstp hBB
     obtain ⟨y, rfl⟩:=zit hpre
     have q5:=hBB _ _ gg5
     have hpre':=hpre.trans (List.prefix_append ((Tr.prs l a f e).map encP) (((if a + (l.size:Int) ≥ f ∧ a + (l.size:Int) < e then [(k, x)] else [])).map encP ++ (Tr.prs r (a + l.size + 1) f e).map encP))
     cases hb':stop (pre ++ [encP y])
     ·refine ZaI ?_;refine Zn ?_;refine Zea ?_;refine ZP ?_;refine qe (zcz (gs:=77) hY hpre' hstp (congrArg Bool.not hb') rfl rfl rfl rfl rfl) ?_;refine Zp ?_;refine Zbc ?_;refine yd ?_
      exact zvs Since.refl hb' ⟨rfl, trivial⟩
     ·refine ZaI ?_;refine Zn ?_;refine Zea ?_;refine ZP ?_;refine qe (zcz (gs:=77) hY hpre' hstp (congrArg Bool.not hb') rfl rfl rfl rfl rfl) ?_;refine Zp ?_;refine Z9 ?_
      exact zh6 (zfo (zow Since.refl hb' rfl ⟨rfl, trivial⟩))
    case st =>
     intro l' D' o hstop
     exact zcn L 77 rfl (fun _ _ h => h) hsB rfl (by rw [zl6 _ _ _ hstop hst])
    case dn =>
     intro l' D' o hgo
     have htk:=zng (stop:=stop) ((Tr.prs l a f e).map encP) [] hgo
     simp only [List.nil_append] at htk
     rw [htk] at hgo ⊢
     have gg1:=hsB.le _ _ g1
     have gg2:=hsB.le _ _ g2
     have gg3:=hsB.le _ _ g3
     have gg4:=hsB.le _ _ g4
     have ggb:=hsB.le _ _ hb
     have ggr:=TA.le hr hsB.le
     refine yd ?_
     refine zm ?_
     refine zzg (fun M:zbi => [(77, .own (J M).res), (1, .is (.pointer (some ⟨b1, 0, none⟩))), (2, .is (.pointer (some ⟨b2, 0, none⟩))), (3, .is (.pointer (some ⟨b3, 0, none⟩))), (4, .is (.pointer (some ⟨b4, 0, none⟩))), (5, .is (.pointer (some ⟨b5, 0, none⟩))), (6, .is (.int .i64 (a + l.size)))])
      (fun M => stop M = false ∧ za7 stop [] M = M ∧ M ++ (Tr.prs r (a + l.size + 1) f e).map encP = (Tr.prs l a f e).map encP ++ (((if a + (l.size:Int) ≥ f ∧ a + (l.size:Int) < e then [(k, x)] else [])).map encP ++ (Tr.prs r (a + l.size + 1) f e).map encP)) ?one ?two
     case one =>
      by_cases hy1:a + (l.size:Int) ≥ f
      ·by_cases hy2:a + (l.size:Int) < e
       ·rw [if_pos ⟨hy1, hy2⟩] at hY ⊢
        have hpre:(Tr.prs l a f e).map encP ++ [encP (k, x)] <+: (Tr.prs l a f e).map encP ++ ([(k, x)].map encP ++ (Tr.prs r (a + l.size + 1) f e).map encP):=⟨(Tr.prs r (a + l.size + 1) f e).map encP, by simp⟩
        cases hb':stop ((Tr.prs l a f e).map encP ++ [encP (k, x)])
        ·refine zj ?_;refine ZfD ?_;refine Za9 ?_;refine Zer ?_;refine Z7 ?_;refine Za9 ?_;refine ZdR ?_;refine Zcv ?_;refine Zdo ?_;refine Zb7 ?_;refine Zf8 ?_;refine zav (zcz (gs:=77) hY hpre hgo (congrArg Bool.not hb') rfl rfl rfl rfl rfl) rfl rfl ?_;refine ZcJ ?_;refine Zag ?_;refine ZaW ?_;refine q9 ?_
         refine z4t ((Tr.prs l a f e).map encP ++ [encP (k, x)]) Since.refl ⟨hb', ?_, by simp⟩ ⟨rfl, rfl, rfl, rfl, rfl, rfl, rfl, trivial⟩
         rw [zgd _ _ _ (by rw [htk]; exact hgo), List.nil_append]
         simp only [za7]
         split <;> rfl
        ·refine zj ?_;refine ZfD ?_;refine Za9 ?_;refine Zer ?_;refine Z7 ?_;refine Za9 ?_;refine ZdR ?_;refine Zcv ?_;refine Zdo ?_;refine Zb7 ?_;refine Zf8 ?_;refine zav (zcz (gs:=77) hY hpre hgo (congrArg Bool.not hb') rfl rfl rfl rfl rfl) rfl rfl ?_;refine ZcJ ?_;refine Zag ?_;refine Zbg ?_
         refine zcn L 77 rfl (fun _ _ h => h) hsB rfl ?_
         rw [zgd _ _ _ (by rw [htk]; exact hgo), List.nil_append]
         simp only [List.map_cons, List.map_nil, List.cons_append, za7]
         rw [if_pos hb']
       ·rw [if_neg (by rintro ⟨_, h⟩; exact hy2 h)]
        refine zj ?_;refine ZfD ?_;refine Za9 ?_;refine Zer ?_;refine Z7 ?_;refine Za9 ?_;refine ZeH ?_;refine Zcv ?_;refine ZcK ?_;refine ZbY ?_;refine Zdk ?_;refine ZaW ?_;refine q9 ?_
        exact z4t ((Tr.prs l a f e).map encP) Since.refl ⟨hgo, htk, by simp⟩ ⟨rfl, rfl, rfl, rfl, rfl, rfl, rfl, trivial⟩
      ·rw [if_neg (by rintro ⟨h, _⟩; exact hy1 h)]
       refine zj ?_;refine ZfD ?_;refine Za9 ?_;refine ZeO ?_;refine Zi ?_;refine ZbY ?_;refine Zf7 ?_;refine Zcv ?_;refine ZcK ?_;refine ZbY ?_;refine Zdk ?_;refine ZaW ?_;refine q9 ?_
       exact z4t ((Tr.prs l a f e).map encP) Since.refl ⟨hgo, htk, by simp⟩ ⟨rfl, rfl, rfl, rfl, rfl, rfl, rfl, trivial⟩
     case two =>
      rintro M ⟨hM1, hM2, hM3⟩
      rw [← hM3] at hY ⊢
      refine zj ?_;refine Zd7 ?_;refine Za9 ?_;refine Zb7 ?_;refine Za9 ?_;refine Zi ?_;refine ZcN ?_;refine Zdo ?_;refine zd (yk L rfl rfl (zn rfl) rfl rfl rfl PairsAt.mono (fun u H hH hle _ => zk0 r (a + l.size + 1) f e hH (TA.le ggr hle))) rfl ?_;refine Zbu ?_;refine qm ?_
      refine zjk 71 rfl fun v71 H71 hs71 ⟨c1, c2, c3, c4, r1, e71, d1, d2, d3, d4, d5⟩ => ?_
      subst e71
      have qq5:=hs71.le _ _ gg5
      have htot:za7 stop [] (M ++ (Tr.prs r (a + l.size + 1) f e).map encP) = M ++ za7 (fun p => stop (M ++ p)) [] ((Tr.prs r (a + l.size + 1) f e).map encP):=by
       rw [zgd _ _ _ (by rw [hM2]; exact hM1), zkk, List.nil_append, List.append_nil]
      refine zeh L (gf:=287) (caps:=[.pointer (some ⟨c1, 0, none⟩), .pointer (some ⟨c2, 0, none⟩), .pointer (some ⟨c3, 0, none⟩), .pointer (some ⟨c4, 0, none⟩)])
       [(5, .pointer (some ⟨b5, 0, none⟩))]
       (fun pre => [(77, (J (M ++ pre)).res)]) (fun pre x => [(77, .own (J (M ++ pre)).res), (8, .own (Cell (zm2 x) 293)), (5, .is (.pointer (some ⟨b5, 0, none⟩)))])
       ((Tr.prs r (a + l.size + 1) f e).map encP) (fun p => stop (M ++ p)) (fun _ => .ret) rfl rfl rfl ⟨by rw [List.append_nil]; rfl, rfl, trivial⟩
       (fun pre p hp => by simp only [List.mem_singleton] at hp; subst hp; exact Nat.le_refl _) (by show stop (M ++ []) = false; rw [List.append_nil]; exact hM1) (fun x hx => by obtain ⟨y, _, rfl⟩:=List.mem_map.1 hx; rfl) (by decide)
       (fun u H hH hle => ihr (a + l.size + 1) f e (by omega) (by omega) hH (hle _ _ d1) (hle _ _ d2) (hle _ _ d3) (hle _ _ d4) (d5.le hle)) ?asg2 ?bd2 ?dn2 ?st2
      case asg2 =>
       intro w1 Ln B' l' D' o pre x' hpre hstp hBB
       obtain ⟨y, rfl⟩:=zit hpre
       refine Z0 ?_;refine Zdz ?_;refine zk ?_
       exact zvr Since.refl ⟨rfl, rfl, rfl, trivial⟩
      case bd2 =>
       intro w1 Ln B' l' D' o pre x' hpre hstp hBB
       obtain ⟨y, rfl⟩:=zit hpre
       have q5:=hBB _ _ qq5
       have hpre':(M ++ pre) ++ [encP y] <+: M ++ (Tr.prs r (a + l.size + 1) f e).map encP:=by rw [List.append_assoc]; exact (List.prefix_append_right_inj M).2 hpre
       cases hb':stop ((M ++ pre) ++ [encP y])
       ·refine ZfX ?_;refine Zea ?_;refine ZP ?_;refine qe (zcz (gs:=77) hY hpre' hstp (congrArg Bool.not hb') rfl rfl rfl rfl rfl) ?_;refine Zp ?_;refine Zbc ?_;refine yd ?_
        exact zvs Since.refl (by rw [← List.append_assoc]; exact hb') ⟨by rw [← List.append_assoc]; rfl, trivial⟩
       ·refine ZfX ?_;refine Zea ?_;refine ZP ?_;refine qe (zcz (gs:=77) hY hpre' hstp (congrArg Bool.not hb') rfl rfl rfl rfl rfl) ?_;refine Zp ?_;refine Z9 ?_
        exact zh6 (zfo (zow Since.refl (by rw [← List.append_assoc]; exact hb') rfl ⟨by rw [← List.append_assoc]; rfl, trivial⟩))
      case st2 =>
       intro l' D' o hstop
       exact zcn L 77 rfl (fun _ _ h => h) (hsB.trans hs71) rfl (by rw [htot])
      case dn2 =>
       intro l' D' o hgo2
       refine yd ?_
       exact za9 L 77 rfl (fun _ _ h => h) (hsB.trans hs71) rfl (by rw [htot])
end Go.V.UT
set_option maxRecDepth 20000
namespace Go.V.UT
open Go.Proofs Go.RowKit Go.V
theorem _root_.Go.V.Zcw {A B:Prop} (h:B) (t:Wr B → A:=by intro h; refine Zaz ?_;refine ZQ ?_;exact h.h):A:=t ⟨h⟩
abbrev tyP:TypeId:=293
abbrev tyS:TypeId:=290
def flat (l:List (KT × VT)):List Value:=l.flatMap fun y => pl y.1 y.2
abbrev PS (l:List (KT × VT)) (fu:Bool):Value → Heap → Prop:=SlV tyP 6 (flat l) l.length fu
theorem zvm:∀ (pre:zbi) (l:List (KT × VT)), pre <+: l.map encP → ∃ m:List (KT × VT), pre = m.map encP ∧ m.length = pre.length ∧ pre.flatMap zm2 = flat m:=by
 intro pre l h
 refine ⟨l.take pre.length, ?_, ?_, ?_⟩
 ·rw [List.map_take]; exact (List.prefix_iff_eq_take.1 h)
 ·rw [List.length_take]
  have:=h.length_le
  simp only [List.length_map] at this
  omega
 ·conv => lhs; rw [List.prefix_iff_eq_take.1 h, ← List.map_take]
  generalize l.take pre.length = m
  induction m with
  | nil => rfl
  | cons y m ih => simp only [List.map_cons, List.flatMap_cons, flat] at ih ⊢; rw [ih]; rfl
theorem zrj (xs:zbi):za7 (fun _ => false) [] xs = xs:=by
 have:=zng (stop:=fun _ => false) xs [] rfl
 simpa using this
attribute [local irreducible] V N X VO Par StepOK Has Ret RetL Src
theorem z1e (l:List (KT × VT)) (fu:Bool) {v:Value} {w:World} {B:Heap} (hB:B.Le (hp w)) (hv:PS l fu v B):Ret Tryz.prog 239 [v] w B (PS l true):=by
 refine qu Tryz.func239 rfl Tryz.ntmps239 (Nat.le_of_ble_eq_true rfl) hB ?_
 refine za4 0 (PS l fu) rfl SlV.mono hv ?_
 refine Zac ?_;refine Zf ?_;refine Zv ?_;refine Zv ?_;refine Ze3 ?_;refine ZbE ?_
 refine qt L (rs:=[.tmp 2]) rfl (fun _ _ h => h) Since.refl fun u H hH hle => ?_
 exact fun v hv => hv
set_option maxHeartbeats 1000000 in
theorem z1i (l:List (KT × VT)) (hl:l.length < 1099511627776) {x:Value} {gf:Nat} {caps:List Value} {w:World} {B:Heap} {C:Nat → Prop} (hB:B.Le (hp w)) (hx:(SlR tyP 6 0 []).P x B w C) (hC:∀ k, C k → k < w.heap.size ∧ B k = none)
  (hfn:L.fn gf = some ()) (hit:∀ u H, H.Le (hp u) → B.Le H → z7l Tryz.prog gf caps u H (l.map encP)) :
  RetL Tryz.prog 240 [x, .func (.func gf) #[] caps.toArray] w B C (fun v H _ => PS l false v H):=by
 refine z1s 0 (x:=x) (SlR tyP 6 0 []) rfl Tryz.func240 rfl Tryz.ntmps240 (Nat.le_of_ble_eq_true rfl) hB hx hC ?_
 refine zos 0 13 _ rfl SlR.shape fun y hy => ?_
 obtain ⟨p, c, rfl⟩:=hy
 refine ZZ ?_;refine Zb3 ?_;refine Zcg ?_
 refine zey 2 rfl fun b2 hb2 => ?_
 refine zix 13 [] rfl rfl ?_
 refine zeh L (gf:=gf) (caps:=caps) [(2, .pointer (some ⟨b2, 0, none⟩))] (fun pre => [(13, zvw b2 tyS (SlR tyP 6 pre.length (pre.flatMap zm2)))])
  (fun pre x => [(13, .own (zvw b2 tyS (SlR tyP 6 pre.length (pre.flatMap zm2)))), (2, .is (.pointer (some ⟨b2, 0, none⟩))), (5, .own (Cell (zm2 x) tyP))])
  (l.map encP) (fun _ => false) (fun _ => .ret) rfl rfl hfn ⟨rfl, rfl, trivial⟩
  (fun pre p hp => by simp only [List.mem_singleton] at hp; subst hp; exact Nat.le_refl _) rfl (fun x hx => by obtain ⟨y, _, rfl⟩:=List.mem_map.1 hx; rfl) (by decide) hit ?asg ?bd ?dn ?st
 case asg =>
  intro w1 Ln B' l' D' o pre x' hpre hstp hBB
  obtain ⟨y, rfl⟩:=zit hpre
  refine Zy ?_;refine Zdz ?_;refine zk ?_
  exact zvr Since.refl ⟨rfl, rfl, rfl, trivial⟩
 case bd =>
  intro w1 Ln B' l' D' o pre x' hpre hstp hBB
  obtain ⟨y, rfl⟩:=zit hpre
  have hlen:=hpre.length_le
  simp only [List.length_append, List.length_map, List.length_cons, List.length_nil] at hlen
  refine qm ?_
  refine zfd 13 _ rfl SlR.shape fun z hz => ?_
  obtain ⟨p, c, rfl⟩:=hz
  refine Zk ?_;refine Zdm ?_;refine zcr 8 13 rfl rfl ?_;refine ZP ?_;refine ZaV ?_;refine qe (zb5 L rfl rfl rfl (zq1 rfl) rfl z6o rfl rfl (by omega) (by omega)) ?_;refine zd9 11 13 _ rfl SlR.shape fun z hz => ?_;obtain ⟨p', c', rfl⟩:=hz; refine ZfA ?_;refine zk ?_;refine yd ?_
  refine ziy 13 [] rfl rfl ?_
  refine zvs Since.refl rfl ⟨?_, trivial⟩
  rw [List.flatMap_append, List.length_append]
  rfl
 case st =>
  intro l' D' o h
  cases h
 case dn =>
  intro l' D' o _
  rw [zrj]
  refine yd ?_
  refine zm ?_
  refine zfd 13 _ rfl SlR.shape fun z hz => ?_
  obtain ⟨p, c, rfl⟩:=hz
  refine Zds ?_;refine Zdm ?_;refine Zb ?_
  refine zot 4 13 rfl rfl ?_
  refine zes 4 rfl ?_
  refine zq3 L (rs:=[.tmp 4]) rfl (fun _ _ h => h) Since.refl fun O' u H hH hle => ?_
  obtain ⟨m, h1, h2, h3⟩:=zvm _ l (List.prefix_refl _)
  have hm:m = l:=by
   have:=List.map_inj_right (f:=encP) (fun a b h => by
    simp only [encP, List.cons.injEq, Value.agg.injEq, and_true] at h
    have h:=congrArg Array.toList h
    simp at h
    first | exact Prod.ext h.1 h.2 | exact Prod.ext h.1 (Prod.ext (Prod.ext h.2.1 h.2.2.1) h.2.2.2) | exact Prod.ext (Prod.ext (Prod.ext h.1 h.2.1) h.2.2.1) h.2.2.2 | exact Prod.ext (Prod.ext (Prod.ext (Prod.ext h.1 h.2.1) h.2.2.1) (Prod.ext (Prod.ext h.2.2.2.1 h.2.2.2.2.1) h.2.2.2.2.2)) rfl) |>.1 h1
   exact this.symm
  subst hm
  rw [h3]
  simp only [List.length_map]
  exact fun v hv => hv
theorem PS.mono {l:List (KT × VT)} {fu:Bool}:Kn.mono (.sat (PS l fu)):=SlV.mono
theorem zvo {t:Tr KT VT} {f e:Int} {x v:Value} {w:World} {B:Heap} {C:Nat → Prop} (hB:B.Le (hp w)) (hx:(SlR tyP 6 0 []).P x B w C) (hC:∀ k, C k → k < w.heap.size ∧ B k = none) (hv:PairsAt t 0 f e v B) (hs:t.size < 1099511627776) :
  RetL Tryz.prog 240 [x, v] w B C (fun v H _ => PS (Tr.prs t 0 f e) false v H):=by
 obtain ⟨b1, b2, b3, b4, root, rfl, h1, h2, h3, h4, h5⟩:=hv
 have hlen:=Tr.prs_length_le t 0 f e
 exact z1i (Tr.prs t 0 f e) (by omega) hB hx hC rfl fun u H hH hle => z03 t 0 f e (Int.le_refl _) (by omega) hH (hle _ _ h1) (hle _ _ h2) (hle _ _ h3) (hle _ _ h4) (h5.le hle)
theorem zxb (t:Tr KT VT) {a f e:Int}:(Tr.prs t a f e).length ≤ t.size:=Tr.prs_length_le t a f e
def rangeL (t:Tr KT VT) (f e:Int):List (KT × VT):=if max f 0 ≥ min e t.size then [] else Tr.prs t 0 (max f 0) (min e t.size)
set_option maxRecDepth 10000 in
theorem zw9 {fv root:Value} {t:Tr KT VT} (f e:Int) {w:World} {B:Heap} (hB:B.Le (hp w)) (hv:TA t root B) (hs:t.size < 1099511627776) :
  Ret Tryz.prog 172 [.agg #[fv, root], .int .i64 f, .int .i64 e] w B (PS (rangeL t f e) true):=by
 refine qu Tryz.func172 rfl Tryz.ntmps172 (Nat.le_of_ble_eq_true rfl) hB ?_
 unfold rangeL
 by_cases h:max f 0 ≥ min e t.size
 ·rw [if_pos h]
  refine ZA ?_;refine Zbj ?_;refine z7 (zf4 rfl rfl rfl rfl rfl) rfl ?_;refine Za ?_;refine Ze0 ?_;refine z7 (q0 L rfl rfl (zn rfl) rfl rfl rfl (fun u H hH hle _ => len_ret hH (hv.le hle))) rfl ?_;refine z7 (zxo rfl rfl rfl rfl rfl) rfl ?_;refine Zq ?_;refine Zb4 ?_;refine Zc ?_;refine ZaR ?_;refine Zt ?_;refine Zk ?_;refine Zb ?_
  refine qt L (rs:=[.tmp 6]) rfl (fun _ _ h => h) Since.refl fun u H hH hle => ?_
  exact (SlV.nil (e:=tyP))
 ·rw [if_neg h]
  have hlen:=zxb t (a:=0) (f:=max f 0) (e:=min e t.size)
  have e1:(if (0:Int) > f then 0 else f) = max f 0:=by omega
  have e2:(if (t.size:Int) < e then (t.size:Int) else e) = min e t.size:=by omega
  refine ZA ?_;refine Zbj ?_;refine z7 (zf4 rfl rfl rfl rfl (by assumption)) rfl ?_;refine Za ?_;refine Ze0 ?_;refine z7 (q0 L rfl rfl (zn rfl) rfl rfl rfl (fun u H hH hle _ => len_ret hH (hv.le hle))) rfl ?_;refine z7 (zxo rfl rfl rfl rfl (by assumption)) rfl ?_;refine Zq ?_;refine Zb4 ?_;refine Zc ?_;refine Zcw ?_
  obtain ⟨m, hm⟩:∃ m:Nat, min e (t.size:Int) - max f 0 = m:=⟨(min e (t.size:Int) - max f 0).toNat, by omega⟩
  refine qh (id:=4) [(25, [19])] mixed (by kernel_rfl) ?_;refine Z7 ?_;refine zd (zp7 rfl rfl rfl rfl (zad (by omega) (by omega))) rfl ?_;refine zd (z0m L _ rfl rfl rfl z6o rfl rfl (by assumption) (by omega) (by simp only [maxLen]; omega)) rfl ?_;refine ZaN ?_;refine Z7 ?_;refine zd (yk L rfl rfl (zn rfl) rfl rfl rfl PairsAt.mono (fun u H hH hle _ => zk0 t 0 (max f 0) (min e t.size) hH (TA.le hv hle))) rfl ?_;refine zav (z0o (q:=19) (cap:=[]) L rfl rfl rfl rfl rfl PS.mono (fun u H C x hH hle hx hC v hv => zvo hH hx hC hv hs)) rfl rfl ?_;refine zd (yk L rfl rfl (zn rfl) rfl rfl rfl PS.mono (fun u H hH hle _ v hv => z1e _ _ hH hv)) rfl ?_;refine Zdl ?_
  refine qt L (rs:=[.tmp 6]) rfl (fun _ _ h => h) Since.refl fun u H hH hle => ?_
  exact fun v hv => hv
end Go.V.UT
set_option maxRecDepth 20000
namespace Go.V.UT
open Go.Proofs Go.RowKit Go.V
abbrev MF (cf:Nat) (t:Tr KT VT):Value → Heap → Prop:=MA (.func (.func cf) #[] #[]) t
theorem mput_m {cf:Nat} {c:KT → KT → Int} (hc:Cmp cf c) (k:KT) (x:VT) {t:Tr KT VT} {v:Value} {w:World} {B:Heap} (hB:B.Le (hp w)) (hv:MF cf t v B) (hs:t.size + 1 < 1099511627776) :
  Ret Tryz.prog 179 [v, kv k, vv x] w B (MF cf (Tr.put c k x t)):=by
 obtain ⟨p, rfl, h⟩:=hv
 exact z0u hc k x hB h hs
theorem mdrop_m {cf:Nat} {c:KT → KT → Int} (hc:Cmp cf c) (k:KT) {t:Tr KT VT} {v:Value} {w:World} {B:Heap} (hB:B.Le (hp w)) (hv:MF cf t v B) (hs:t.size < 1099511627776) :
  Ret Tryz.prog 178 [v, kv k] w B (MF cf (if (Tr.drop c k t).2 = true then (Tr.drop c k t).1 else t)):=by
 obtain ⟨p, rfl, h⟩:=hv
 exact zyb hc k hB h hs
theorem len_m {fv:Value} {t:Tr KT VT} {v:Value} {w:World} {B:Heap} (hB:B.Le (hp w)) (hv:MA fv t v B) {n:Nat} (hn:t.size = n):Ret Tryz.prog 103 [v] w B (fun v _ => v = .int .i64 n):=by
 obtain ⟨p, rfl, h⟩:=hv
 subst hn
 exact len_ret hB h
theorem get_m {cf:Nat} {c:KT → KT → Int} (hc:Cmp cf c) (k:KT) {t:Tr KT VT} {v:Value} {w:World} {B:Heap} (hB:B.Le (hp w)) (hv:MF cf t v B) {o:Option VT} (ho:Tr.get c k t = o) :
  Ret Tryz.prog 176 [v, kv k] w B (fun v _ => v = tup (z82 o)):=by
 obtain ⟨p, rfl, h⟩:=hv
 subst ho
 exact z4a hc k hB h
end Go.V.UT
set_option maxRecDepth 20000
namespace Go.V.UT
open Go.Proofs Go.RowKit Go.V
theorem range_m {fv:Value} {t:Tr KT VT} (f e:Int) {v:Value} {w:World} {B:Heap} (hB:B.Le (hp w)) (hv:MA fv t v B) (hs:t.size < 1099511627776) {l:List (KT × VT)} (hl:rangeL t f e = l) :
  Ret Tryz.prog 172 [v, .int .i64 f, .int .i64 e] w B (PS l true):=by
 obtain ⟨p, rfl, h⟩:=hv
 subst hl
 exact zw9 f e hB h hs
end Go.V.UT
set_option maxRecDepth 20000
namespace Go.V.L6
open Go.Proofs Go.RowKit Go.V Go.V.L2 Go.V.L3
theorem _root_.Go.V.ZaH {A B:Prop} (h:B) (t:Wr B → A:=by intro h; refine Zax ?_;refine ZdZ ?_;exact h.h):A:=t ⟨h⟩
theorem _root_.Go.V.ZfF {A B:Prop} (h:B) (t:Wr B → A:=by intro h; refine z7 (y8 (cs:=[_, _]) rfl rfl z9g rfl rfl) rfl ?_;refine Z1 ?_;exact h.h):A:=t ⟨h⟩
abbrev fvC:Value:=.func (.func 101) #[] #[]
abbrev fvS:Value:=.func (.func 109) #[] #[]
abbrev zdh:TypeId:=91
abbrev chv (x:U) (d:Bool):Value:=.agg #[.string x.1.1.1, .string x.1.1.2, .string x.1.2, .string x.2.1.1, .string x.2.1.2, .string x.2.2, .bool d]
attribute [local irreducible] V N X VO Par StepOK Has Ret RetL RetO Src
theorem zz3 {a b:U} {w:World} {B:Heap} (hB:B.Le (hp w)):Ret Tryz.prog 109 [uv a, uv b] w B (fun v _ => v = .int .i64 (zra a b)):=by
 refine qu Tryz.func109 rfl Tryz.ntmps109 (Nat.le_of_ble_eq_true rfl) hB ?_
 refine Zaj ?_;refine Zc3 ?_;refine ZcH ?_;refine ZcH ?_;refine zd (q0 L rfl rfl (zn rfl) rfl rfl rfl (fun u H hH _ _ => cmpU_ret hH)) rfl ?_;refine ZcH ?_;refine ZcH ?_;refine zd (q0 L rfl rfl (zn rfl) rfl rfl rfl (fun u H hH _ _ => zop hH)) rfl ?_;refine ZeG ?_;refine zd (q0 L rfl rfl (zn rfl) rfl rfl rfl (fun u H hH _ _ v hv => znv hH hv)) rfl ?_;refine Zl ?_
 refine qt L (rs:=[.tmp 4]) rfl (fun _ _ h => h) Since.refl fun u H hH hle => ?_
 rfl
theorem z4g:UT.Cmp 101 zcc:=⟨rfl, fun _ _ _ _ hH => zdb hH⟩
theorem z8f:UT.Cmp 109 zra:=⟨rfl, fun _ _ _ _ hH => zz3 hH⟩
def chT (c:U → U → Int) (x:U) (d:Bool) (t:Tr U Unit):Tr U Unit:=if d = true then (if (Tr.drop c x t).2 = true then (Tr.drop c x t).1 else t) else Tr.put c x () t
theorem zm1 {cf:Nat} {c:U → U → Int} (hc:UT.Cmp cf c) {f:Value} {p:Option Addr} {t:Tr U Unit} (hf:f = .func (.func cf) #[] #[] ∨ (f = .nilFunc ∧ t = .nil)) (x:U) (d:Bool) {w:World} {B:Heap} (hB:B.Le (hp w)) (ht:UT.TA t (.pointer p) B) (hs:t.size + 1 < 1099511627776) :
  Ret Tryz.prog 108 [.agg #[f, .pointer p], chv x d, .func (.func cf) #[] #[]] w B (UT.MF cf (chT c x d t)):=by
 by_cases h0:t.size = 0
 ·have hn:t = .nil:=by
   cases t with
   | nil => rfl
   | node k y l r => simp only [Tr.size] at h0; omega
  subst hn
  have hz:UT.TA .nil (.pointer none) B:=rfl
  refine qu Tryz.func108 rfl Tryz.ntmps108 (Nat.le_of_ble_eq_true rfl) hB ?_
  unfold chT
  cases d
  ·refine ZZ ?_;refine zsq 3 rfl fun b hb => ?_;refine Zc2 ?_;refine Zan ?_;refine Zx ?_;refine Zbh ?_;refine Zcc ?_;refine z7 (q0 L rfl rfl (zn rfl) rfl rfl rfl (fun u H hH hle _ => UT.len_m hH (⟨_, rfl, ht.le hle⟩) h0)) rfl ?_;refine ZJ ?_;refine Z9 ?_;refine Z4 ?_;refine z7 (q0 L rfl rfl (zn rfl) rfl rfl rfl (fun u H hH _ _ => UT.new_ret _ hH)) rfl ?_;refine ZfB ?_;refine Za0 ?_;refine Zc7 ?_;refine ZQ ?_;refine Zn ?_;refine Zbh ?_;refine Zcc ?_;refine ZaH ?_;refine z7 (y8 (cs:=[]) rfl rfl z5t rfl rfl) rfl ?_;refine z7 (yk (φ:=UT.MF cf (Tr.put c x () .nil)) L rfl rfl (zn rfl) rfl rfl rfl UT.MA.mono (fun u H hH hle _ => UT.mput_m hc x () hH (⟨_, rfl, hz.le hle⟩) hs)) rfl ?_;refine zco 27 rfl ?_;rintro _ H27 hs27 ⟨q27, rfl, hp27⟩; refine ZfF ?_
   refine qt L (rs:=[.cell 6 89]) rfl (fun _ _ h => h) hs27 fun u H hH hle => ?_
   exact ⟨_, qg rfl, rfl, q27, rfl, hp27.le hle⟩
  ·refine ZZ ?_;refine zsq 3 rfl fun b hb => ?_;refine Zc2 ?_;refine Zan ?_;refine Zx ?_;refine Zbh ?_;refine Zcc ?_;refine z7 (q0 L rfl rfl (zn rfl) rfl rfl rfl (fun u H hH hle _ => UT.len_m hH (⟨_, rfl, ht.le hle⟩) h0)) rfl ?_;refine ZJ ?_;refine Z9 ?_;refine Z4 ?_;refine z7 (q0 L rfl rfl (zn rfl) rfl rfl rfl (fun u H hH _ _ => UT.new_ret _ hH)) rfl ?_;refine ZfB ?_;refine Za0 ?_;refine Zc7 ?_;refine Zt ?_;refine Zr ?_;refine Zbh ?_;refine Zcc ?_;refine ZaH ?_;refine z7 (yk (φ:=UT.MF cf (if (Tr.drop c x .nil).2 = true then (Tr.drop c x .nil).1 else .nil)) L rfl rfl (zn rfl) rfl rfl rfl UT.MA.mono (fun u H hH hle _ => UT.mdrop_m hc x hH (⟨_, rfl, hz.le hle⟩) (by omega))) rfl ?_;refine zco 20 rfl ?_;rintro _ H20 hs20 ⟨q20, rfl, hp20⟩; refine ZfF ?_
   refine qt L (rs:=[.cell 6 89]) rfl (fun _ _ h => h) hs20 fun u H hH hle => ?_
   exact ⟨_, qg rfl, rfl, q20, rfl, hp20.le hle⟩
 ·obtain rfl:f = .func (.func cf) #[] #[]:=by
   rcases hf with h | ⟨_, h⟩
   ·exact h
   ·subst h; exact absurd rfl h0
  refine qu Tryz.func108 rfl Tryz.ntmps108 (Nat.le_of_ble_eq_true rfl) hB ?_
  unfold chT
  cases d
  ·refine ZZ ?_;refine zsq 3 rfl fun b hb => ?_;refine Zc2 ?_;refine Zan ?_;refine Zx ?_;refine Zbh ?_;refine Zcc ?_;refine z7 (q0 L rfl rfl (zn rfl) rfl rfl rfl (fun u H hH hle _ => UT.len_m hH (⟨_, rfl, ht.le hle⟩) rfl)) rfl ?_;refine ZR ?_;refine ZO ?_;refine Zc7 ?_;refine ZQ ?_;refine Zn ?_;refine Zbh ?_;refine Zcc ?_;refine ZaH ?_;refine z7 (y8 (cs:=[]) rfl rfl z5t rfl rfl) rfl ?_;refine z7 (yk (φ:=UT.MF cf (Tr.put c x () t)) L rfl rfl (zn rfl) rfl rfl rfl UT.MA.mono (fun u H hH hle _ => UT.mput_m hc x () hH (⟨_, rfl, ht.le hle⟩) hs)) rfl ?_;refine zco 27 rfl ?_;rintro _ H27 hs27 ⟨q27, rfl, hp27⟩; refine ZfF ?_
   refine qt L (rs:=[.cell 6 89]) rfl (fun _ _ h => h) hs27 fun u H hH hle => ?_
   exact ⟨_, qg rfl, rfl, q27, rfl, hp27.le hle⟩
  ·refine ZZ ?_;refine zsq 3 rfl fun b hb => ?_;refine Zc2 ?_;refine Zan ?_;refine Zx ?_;refine Zbh ?_;refine Zcc ?_;refine z7 (q0 L rfl rfl (zn rfl) rfl rfl rfl (fun u H hH hle _ => UT.len_m hH (⟨_, rfl, ht.le hle⟩) rfl)) rfl ?_;refine ZR ?_;refine ZO ?_;refine Zc7 ?_;refine Zt ?_;refine Zr ?_;refine Zbh ?_;refine Zcc ?_;refine ZaH ?_;refine z7 (yk (φ:=UT.MF cf (if (Tr.drop c x t).2 = true then (Tr.drop c x t).1 else t)) L rfl rfl (zn rfl) rfl rfl rfl UT.MA.mono (fun u H hH hle _ => UT.mdrop_m hc x hH (⟨_, rfl, ht.le hle⟩) (by omega))) rfl ?_;refine zco 20 rfl ?_;rintro _ H20 hs20 ⟨q20, rfl, hp20⟩; refine ZfF ?_
   refine qt L (rs:=[.cell 6 89]) rfl (fun _ _ h => h) hs20 fun u H hH hle => ?_
   exact ⟨_, qg rfl, rfl, q20, rfl, hp20.le hle⟩
end Go.V.L6
set_option maxRecDepth 20000
namespace Go.V.L3
open Go.Proofs Go.RowKit Go.V Go.V.L2
abbrev fv (f:FT):Value:=.agg #[.string f.1.1.1, .string f.1.1.2, .string f.1.2, .string f.2.1.1.1, .string f.2.1.1.2, .string f.2.1.2, .bool f.2.2]
def FZ (f:FT):Prop:=(f.1.1.1.size ≤ 1099511627776 ∧ f.1.1.2.size ≤ 1099511627776 ∧ f.1.2.size ≤ 1099511627776) ∧ f.2.1.1.1.size ≤ 1099511627776 ∧ f.2.1.1.2.size ≤ 1099511627776 ∧ f.2.1.2.size ≤ 1099511627776
instance (f:FT):Decidable (FZ f):=inferInstanceAs (Decidable (_ ∧ _))
attribute [local irreducible] V N X VO Par StepOK Has Ret RetL RetO RetT Src
end Go.V.L3
set_option maxRecDepth 20000
namespace Go.V.L3
open Go.Proofs Go.RowKit Go.V Go.V.L2
attribute [local irreducible] V N X VO Par StepOK Has Ret RetL RetO RetT Src
end Go.V.L3
set_option maxRecDepth 20000
namespace Go.V.L3
open Go.Proofs Go.RowKit Go.V Go.V.L2
attribute [local irreducible] V N X VO Par StepOK Has Ret RetL RetO RetT Src
end Go.V.L3
set_option maxRecDepth 20000
namespace Go.V.L3
open Go.Proofs Go.RowKit Go.V Go.V.L2
theorem LE2.mk {φ:Value → Heap → Prop} {a tv:Value} {H:Heap} (h:φ tv H):TupS [φ, fun v _ => v = a] (.tuple #[tv, a]) H :=
 ⟨[tv, a], rfl, rfl, fun i ψ x hi hx => by
  rcases i with _ | _ | i
  ·simp at hi hx; subst hi hx; exact h
  ·simp at hi hx; subst hi hx; rfl
  ·simp at hi⟩
theorem LE2.mono {φ:Value → Heap → Prop} {a:Value} (h:Kn.mono (.sat φ)):Kn.mono (.sat (TupS [φ, fun v _ => v = a])):=TupS.mono fun ψ hψ => by
 rcases List.mem_cons.1 hψ with rfl | hψ
 ·exact h
 ·rw [List.mem_singleton] at hψ
  subst hψ
  exact fun _ _ _ h _ => h
attribute [local irreducible] V N X VO Par StepOK Has Ret RetL RetO RetT Src
end Go.V.L3
set_option maxRecDepth 20000
namespace Go.V.L6
open Go.Proofs Go.RowKit Go.V Go.V.L2 Go.V.L3
theorem _root_.Go.V.ZdD {A B:Prop} (h:B) (t:Wr B → A:=by intro h; refine z7 (qc L rfl rfl rfl rfl rfl rfl (by assumption) rfl) rfl ?_;exact h.h):A:=t ⟨h⟩
theorem _root_.Go.V.Zbp {A B:Prop} (h:B) (t:Wr B → A:=by intro h; refine z7 (q8 L (vs:=[_, _, _, _]) (qk rfl) rfl rfl rfl rfl ⟨_, rfl⟩) rfl ?_;exact h.h):A:=t ⟨h⟩
theorem _root_.Go.V.ZcS {A B:Prop} (h:B) (t:Wr B → A:=by intro h; refine zd (q8 L (vs:=[_, _, _, _]) (qk rfl) rfl rfl rfl rfl ⟨_, rfl⟩) rfl ?_;exact h.h):A:=t ⟨h⟩
theorem _root_.Go.V.ZbK {A B:Prop} (h:B) (t:Wr B → A:=by intro h; refine z7 (y8 (cs:=[_, _, _, _]) rfl rfl z7t rfl rfl) rfl ?_;exact h.h):A:=t ⟨h⟩
theorem _root_.Go.V.ZfG {A B:Prop} (h:B) (t:Wr B → A:=by intro h; refine zd (q8 L (vs:=[_, _, _, _, _, _, _]) (qk rfl) rfl rfl rfl rfl ⟨_, rfl⟩) rfl ?_;exact h.h):A:=t ⟨h⟩
theorem _root_.Go.V.Zcd {A B:Prop} (h:B) (t:Wr B → A:=by intro h; refine Zh ?_;refine ZN ?_;exact h.h):A:=t ⟨h⟩
theorem _root_.Go.V.ZfH {A B:Prop} (h:B) (t:Wr B → A:=by intro h; refine ZaN ?_;refine zd (zxs rfl rfl rfl rfl bt4 rfl) rfl ?_;exact h.h):A:=t ⟨h⟩
def SetV (l:List U):Value → Heap → Prop:=fun v H => ∃ p q t u, TS l t u ∧ UT.TA t (.pointer p) H ∧ UT.TA u (.pointer q) H ∧
 (v = .agg #[fvC, .pointer p, fvS, .pointer q] ∨ (l = [] ∧ p = none ∧ q = none ∧ v = .agg #[.nilFunc, .pointer p, .nilFunc, .pointer q]))
theorem SetV.mono {l:List U}:Kn.mono (.sat (SetV l)):=fun _ _ _ ⟨p, q, t, u, h1, h2, h3, h4⟩ hle => ⟨p, q, t, u, h1, h2.le hle, h3.le hle, h4⟩
theorem SetV.le {l:List U} {v:Value} {H H':Heap} (h:SetV l v H) (hle:H.Le H'):SetV l v H':=SetV.mono _ _ _ h hle
theorem SetV.shape {l:List U} {v:Value} {H:Heap} (h:SetV l v H):∃ f p k q, v = .agg #[f, .pointer p, k, .pointer q] ∧ (za5 (.agg #[f, .pointer p, k, .pointer q])).all zdv = true:=by
 obtain ⟨p, q, _, _, _, _, _, h | ⟨_, _, _, h⟩⟩:=h
 ·exact ⟨_, _, _, _, h, rfl⟩
 ·exact ⟨_, _, _, _, h, rfl⟩
abbrev nilSet:Value:=.agg #[.nilFunc, .pointer none, .nilFunc, .pointer none]
theorem SetV.nil {H:Heap}:SetV [] nilSet H:=⟨none, none, .nil, .nil, z5c, rfl, rfl, .inr ⟨rfl, rfl, rfl, rfl⟩⟩
attribute [local irreducible] V N X VO Par StepOK Has Ret RetL RetO Src
theorem zdc {l:List U} {n:Nat} (hn:l.length = n) {v:Value} {w:World} {B:Heap} (hB:B.Le (hp w)) (hv:SetV l v B):Ret Tryz.prog 36 [v] w B (fun v _ => v = .int .i64 n):=by
 subst hn
 obtain ⟨p, q, t, u, hT, ht, hu, rfl | ⟨rfl, rfl, rfl, rfl⟩⟩:=hv
 ·refine qu Tryz.func36 rfl Tryz.ntmps36 (Nat.le_of_ble_eq_true rfl) hB ?_
  refine ZbO ?_;refine Zax ?_;refine Za6 ?_;refine z7 (q0 L rfl rfl (zn rfl) rfl rfl rfl (fun u H hH hle _ => UT.len_m hH (⟨_, rfl, ht.le hle⟩) hT.size)) rfl ?_;refine Zb ?_
  refine qt L (rs:=[.tmp 2]) rfl (fun _ _ h => h) Since.refl fun u H hH hle => ?_
  rfl
 ·refine qu Tryz.func36 rfl Tryz.ntmps36 (Nat.le_of_ble_eq_true rfl) hB ?_
  refine ZbO ?_;refine Zax ?_;refine Za6 ?_;refine z7 (q0 L rfl rfl (zn rfl) rfl rfl rfl (fun u H hH hle _ => UT.len_m hH (⟨_, rfl, ht.le hle⟩) hT.size)) rfl ?_;refine Zb ?_
  refine qt L (rs:=[.tmp 2]) rfl (fun _ _ h => h) Since.refl fun u H hH hle => ?_
  rfl
theorem zdo {l:List U} {x:U} {b:Bool} (hb:decide (x ∈ l) = b) {v:Value} {w:World} {B:Heap} (hB:B.Le (hp w)) (hv:SetV l v B):Ret Tryz.prog 107 [v, uv x] w B (fun v _ => v = .bool b):=by
 have hv0:=hv
 obtain ⟨p, q, t, u, hT, ht, hu, rfl | ⟨rfl, rfl, rfl, rfl⟩⟩:=hv
 ·have hg:=hT.get x
  refine qu Tryz.func107 rfl Tryz.ntmps107 (Nat.le_of_ble_eq_true rfl) hB ?_
  by_cases h0:l.length = 0
  ·have hn:l = []:=List.eq_nil_of_length_eq_zero h0
   subst hn
   have hb':b = false:=by rw [← hb]; simp
   subst hb'
   refine Zc6 ?_;refine Zbp ?_;refine z7 (q0 L rfl rfl (zn rfl) rfl rfl rfl (fun u H hH hle _ => zdc rfl hH (hv0.le hle))) rfl ?_;refine ZJ ?_;refine Zdb ?_
   refine qt L (rs:=[.tmp 4]) rfl (fun _ _ h => h) Since.refl fun u H hH hle => ?_
   rfl
  ·cases b
   ·have hx:x ∉ l:=by simpa using hb
    rw [if_neg hx] at hg
    refine Zc6 ?_;refine Zbp ?_;refine z7 (q0 L rfl rfl (zn rfl) rfl rfl rfl (fun u H hH hle _ => zdc rfl hH (hv0.le hle))) rfl ?_;refine ZbW ?_;refine Zk ?_;refine Zax ?_;refine Za6 ?_;refine ZdZ ?_;refine z7 (q0 L rfl rfl (zn rfl) rfl rfl rfl (fun u H hH hle _ => UT.get_m z4g x hH (⟨_, rfl, ht.le hle⟩) hg)) rfl ?_;refine Ze5 ?_;refine Zd ?_;refine Zw ?_;refine Zb ?_
    refine qt L (rs:=[.tmp 4]) rfl (fun _ _ h => h) Since.refl fun u H hH hle => ?_
    rfl
   ·have hx:x ∈ l:=by simpa using hb
    rw [if_pos hx] at hg
    refine Zc6 ?_;refine Zbp ?_;refine z7 (q0 L rfl rfl (zn rfl) rfl rfl rfl (fun u H hH hle _ => zdc rfl hH (hv0.le hle))) rfl ?_;refine ZbW ?_;refine Zk ?_;refine Zax ?_;refine Za6 ?_;refine ZdZ ?_;refine z7 (q0 L rfl rfl (zn rfl) rfl rfl rfl (fun u H hH hle _ => UT.get_m z4g x hH (⟨_, rfl, ht.le hle⟩) hg)) rfl ?_;refine Ze5 ?_;refine Zd ?_;refine Zw ?_;refine Zb ?_
    refine qt L (rs:=[.tmp 4]) rfl (fun _ _ h => h) Since.refl fun u H hH hle => ?_
    rfl
 ·have hb':b = false:=by rw [← hb]; simp
  subst hb'
  refine qu Tryz.func107 rfl Tryz.ntmps107 (Nat.le_of_ble_eq_true rfl) hB ?_
  refine Zc6 ?_;refine Zbp ?_;refine z7 (q0 L rfl rfl (zn rfl) rfl rfl rfl (fun u H hH hle _ => zdc rfl hH (hv0.le hle))) rfl ?_;refine z7 (ye rfl rfl rfl rfl rfl) rfl ?_;refine Zdb ?_
  refine qt L (rs:=[.tmp 4]) rfl (fun _ _ h => h) Since.refl fun u H hH hle => ?_
  rfl
def scs (x:Value × Option Addr × Value × Option Addr):List Value:=[x.1, .pointer x.2.1, x.2.2.1, .pointer x.2.2.2]
abbrev SXp:={ x:Value × Option Addr × Value × Option Addr // (scs x).all zdv = true }
abbrev zs3 (l:List U) (x:SXp) (H:Heap):Prop:=SetV l (.agg (scs x.1).toArray) H
theorem zb3 (l:List U):zh7 (zs3 l):=fun _ _ _ h hle => SetV.le h hle
theorem zwt {l:List U} (v:Value) (H:Heap) (h:SetV l v H):∃ x:SXp, zs3 l x H ∧ za5 v = scs x.1:=by
 obtain ⟨f, p, k, q, rfl, hp⟩:=h.shape
 exact ⟨⟨(f, p, k, q), hp⟩, h, rfl⟩
abbrev z8m (l:List U) (e:Int):Value → Heap → Prop:=TupS [SetV l, fun v _ => v = .int .i64 e]
theorem mf4 {cf cg:Nat} {t u:Tr U Unit} {v1 v2:Value} {H:Heap} (h1:UT.MF cf t v1 H) (h2:UT.MF cg u v2 H):∃ p q, v1 = .agg #[.func (.func cf) #[] #[], .pointer p] ∧ v2 = .agg #[.func (.func cg) #[] #[], .pointer q] ∧ UT.TA t (.pointer p) H ∧ UT.TA u (.pointer q) H:=by
 obtain ⟨p, e1, h1⟩:=h1
 obtain ⟨q, e2, h2⟩:=h2
 exact ⟨p, q, e1, e2, h1, h2⟩
theorem z7p {l:List U} {t u:Tr U Unit} (h:TS l t u) {x:U} {d:Bool} (hx:decide (x ∈ l) = d) (hc:d = false → l.length < 4096) (he:tE x = 0):TS (zcf l x d).1 (chT zcc x d t) (chT zra x d u) ∧ (zcf l x d).2 = 0:=by
 unfold zcf chT
 rw [if_pos he]
 cases d
 ·have hx':x ∉ l:=by simpa using hx
  rw [if_neg (by decide), if_neg hx', if_neg (by have:=hc rfl; omega), if_neg (by decide), if_neg (by decide)]
  exact ⟨h.put hx', rfl⟩
 ·have hx':x ∈ l:=by simpa using hx
  rw [if_pos rfl, if_pos rfl, if_pos rfl]
  exact ⟨h.drop hx', rfl⟩
set_option maxHeartbeats 1000000 in
theorem zzp {l m:List U} {x:U} {d:Bool} {e:Int} (hr:zcf l x d = (m, e)) (hl:l.length ≤ 4096) (hz:TZ x) {v:Value} {w:World} {B:Heap} (hB:B.Le (hp w)) (hv:SetV l v B) :
  Ret Tryz.prog 40 [v, chv x d] w B (z8m m e):=by
 obtain ⟨f1, p1, f2, q1, hsh, hpl⟩:=hv.shape
 by_cases he:tE x = 0
 ·obtain ⟨hin, hin0⟩:∃ b, decide (x ∈ l) = b:=⟨_, rfl⟩
  by_cases hd:hin = d
  ·subst hd
   by_cases hfull:hin = false ∧ l.length = 4096
   ·obtain ⟨rfl, hlen⟩:=hfull
    have hw:zcf l x false = ([], 3):=by
     unfold zcf
     rw [if_pos he, if_neg (by decide), if_neg (by simpa using hin0), if_pos (by omega)]
    rw [hw] at hr
    cases hr
    subst hsh
    refine qu Tryz.func40 rfl Tryz.ntmps40 (Nat.le_of_ble_eq_true rfl) hB ?_
    refine Zaj ?_;refine ZE ?_;refine Zam ?_;refine ZaH ?_;refine z7 (q0 L rfl rfl (zn rfl) rfl rfl rfl (fun u H hH _ _ => he ▸ zbs hz hH)) rfl ?_;refine ZT ?_;refine Zad ?_;refine Zch ?_;refine ZcS ?_;refine Zdd ?_;refine Zbn ?_;refine zd (q0 L rfl rfl (zn rfl) rfl rfl rfl (fun u H hH hle _ => zdo hin0 hH (hv.le hle))) rfl ?_;refine ZfH ?_;refine ZaW ?_;refine Zcz ?_;refine Zcd ?_;refine Zm ?_;refine Zp ?_;refine Za ?_;refine Zbp ?_;refine z7 (q0 L rfl rfl (zn rfl) rfl rfl rfl (fun u H hH hle _ => zdc hlen hH (hv.le hle))) rfl ?_;refine ZJ ?_;refine ZaM ?_;refine Z8 ?_;refine ZbK ?_;refine ZaD ?_
    refine qt L (rs:=[.cell 4 91, .tmp 5]) rfl (fun _ _ h => h) Since.refl fun u H hH hle => ?_
    exact ⟨_, qg rfl, rfl, LE2.mk SetV.nil⟩
   ·have hc:hin = false → l.length < 4096:=fun h => by
     rcases Nat.lt_or_ge l.length 4096 with h' | h'
     ·exact h'
     ·exact absurd ⟨h, by omega⟩ hfull
    obtain ⟨p, q, t, u, hT, ht, hu, hv1⟩:=id hv
    have hch:=z7p hT hin0 hc he
    rw [hr] at hch
    obtain ⟨hT', rfl⟩:=hch
    have hts:=hT.size
    have hus:=hT.zu
    have hf1:p1 = p ∧ q1 = q ∧ (f1 = fvC ∨ (f1 = .nilFunc ∧ t = .nil)) ∧ (f2 = fvS ∨ (f2 = .nilFunc ∧ u = .nil)):=by
     rcases hv1 with h | ⟨h0, rfl, rfl, h⟩
     ·rw [hsh] at h; cases h; exact ⟨rfl, rfl, .inl rfl, .inl rfl⟩
     ·rw [hsh] at h
      cases h
      subst h0
      have key:∀ {s:Tr U Unit}, s.size = 0 → s = .nil:=fun {s} hs => by
       cases s with
       | nil => rfl
       | node k y l r => simp only [Tr.size] at hs; omega
      exact ⟨rfl, rfl, .inr ⟨rfl, key hts⟩, .inr ⟨rfl, key hus⟩⟩
    obtain ⟨rfl, rfl, hf1, hf2⟩:=hf1
    subst hsh
    have hchg1:=fun (u1:World) (H:Heap) (hH:H.Le (hp u1)) (hle:B.Le H) => zm1 z4g hf1 x hin hH (ht.le hle) (by omega)
    have hchg2:=fun (u1:World) (H:Heap) (hH:H.Le (hp u1)) (hle:B.Le H) => zm1 z8f hf2 x hin hH (hu.le hle) (by omega)
    cases hin
    ·have hlen:=hc rfl
     refine qu Tryz.func40 rfl Tryz.ntmps40 (Nat.le_of_ble_eq_true rfl) hB ?_
     refine Zaj ?_;refine ZE ?_;refine Zam ?_;refine ZaH ?_;refine z7 (q0 L rfl rfl (zn rfl) rfl rfl rfl (fun u H hH _ _ => he ▸ zbs hz hH)) rfl ?_;refine ZT ?_;refine Zad ?_;refine Zch ?_;refine ZcS ?_;refine Zdd ?_;refine Zbn ?_;refine zd (q0 L rfl rfl (zn rfl) rfl rfl rfl (fun u H hH hle _ => zdo hin0 hH (hv.le hle))) rfl ?_;refine ZfH ?_;refine ZaW ?_;refine Zcz ?_;refine Zcd ?_;refine Zm ?_;refine Zp ?_;refine Za ?_;refine Zbp ?_;refine z7 (q0 L rfl rfl (zn rfl) rfl rfl rfl (fun u H hH hle _ => zdc rfl hH (hv.le hle))) rfl ?_;refine ZR ?_;refine ZY ?_;refine Zcq ?_;refine Zdu ?_;refine ZfG ?_;refine zd (yk (φ:=UT.MF 101 (chT zcc x false t)) L rfl rfl (zn rfl) rfl rfl rfl UT.MA.mono (fun u H hH hle _ => hchg1 u H hH hle)) rfl ?_;refine Zdu ?_;refine ZfG ?_;refine zd (yk (φ:=UT.MF 109 (chT zra x false u)) L rfl rfl (zn rfl) rfl rfl rfl UT.MA.mono (fun u H hH hle _ => hchg2 u H hH hle)) rfl ?_;refine zd (zqd (ψ:=SetV m) rfl rfl z7t SetV.mono (fun H _ v1 h1 v2 h2 => by obtain ⟨p, q, rfl, rfl, k1, k2⟩:=mf4 h1 h2; exact ⟨_, rfl, p, q, _, _, hT', k1, k2, .inl rfl⟩)) rfl ?_;refine zd (zk3 L (X:=SXp) (fun x => scs x.1) (zs3 m) (zb3 m) zwt (fun x => ⟨rfl, x.2⟩) rfl rfl rfl rfl rfl) rfl ?_;refine Zl ?_
     refine zgu 4 rfl fun x4 H4 hs4 hx4 => ?_
     refine qt L (rs:=[.cell 4 91, .tmp 5]) rfl (fun _ _ h => h) hs4 fun u H hH hle => ?_
     exact ⟨_, qg rfl, rfl, LE2.mk (hx4.le hle)⟩
    ·refine qu Tryz.func40 rfl Tryz.ntmps40 (Nat.le_of_ble_eq_true rfl) hB ?_
     refine Zaj ?_;refine ZE ?_;refine Zam ?_;refine ZaH ?_;refine z7 (q0 L rfl rfl (zn rfl) rfl rfl rfl (fun u H hH _ _ => he ▸ zbs hz hH)) rfl ?_;refine ZT ?_;refine Zad ?_;refine Zch ?_;refine ZcS ?_;refine Zdd ?_;refine Zbn ?_;refine zd (q0 L rfl rfl (zn rfl) rfl rfl rfl (fun u H hH hle _ => zdo hin0 hH (hv.le hle))) rfl ?_;refine ZfH ?_;refine ZaW ?_;refine Zcz ?_;refine Zcd ?_;refine Zm ?_;refine Zp ?_;refine Zap ?_;refine ZQ ?_;refine Zcq ?_;refine Zdu ?_;refine ZfG ?_;refine zd (yk (φ:=UT.MF 101 (chT zcc x true t)) L rfl rfl (zn rfl) rfl rfl rfl UT.MA.mono (fun u H hH hle _ => hchg1 u H hH hle)) rfl ?_;refine Zdu ?_;refine ZfG ?_;refine zd (yk (φ:=UT.MF 109 (chT zra x true u)) L rfl rfl (zn rfl) rfl rfl rfl UT.MA.mono (fun u H hH hle _ => hchg2 u H hH hle)) rfl ?_;refine zd (zqd (ψ:=SetV m) rfl rfl z7t SetV.mono (fun H _ v1 h1 v2 h2 => by obtain ⟨p, q, rfl, rfl, k1, k2⟩:=mf4 h1 h2; exact ⟨_, rfl, p, q, _, _, hT', k1, k2, .inl rfl⟩)) rfl ?_;refine zd (zk3 L (X:=SXp) (fun x => scs x.1) (zs3 m) (zb3 m) zwt (fun x => ⟨rfl, x.2⟩) rfl rfl rfl rfl rfl) rfl ?_;refine Zl ?_
     refine zgu 4 rfl fun x4 H4 hs4 hx4 => ?_
     refine qt L (rs:=[.cell 4 91, .tmp 5]) rfl (fun _ _ h => h) hs4 fun u H hH hle => ?_
     exact ⟨_, qg rfl, rfl, LE2.mk (hx4.le hle)⟩
  ·have hw:zcf l x d = (l, 0):=by
    unfold zcf
    rw [if_pos he]
    cases d
    ·have:hin = true:=by cases hin; exact absurd rfl hd; rfl
     subst this
     rw [if_neg (by decide), if_pos (by simpa using hin0)]
    ·have:hin = false:=by cases hin; rfl; exact absurd rfl hd
     subst this
     rw [if_pos rfl, zvk (by simpa using hin0)]
   rw [hw] at hr
   cases hr
   have hb:(hin == d) = false:=by cases hin <;> cases d <;> first | rfl | exact absurd rfl hd
   subst hsh
   refine qu Tryz.func40 rfl Tryz.ntmps40 (Nat.le_of_ble_eq_true rfl) hB ?_
   have hb2:(!(hin == d)) = true:=by rw [hb]; rfl
   refine Zaj ?_;refine ZE ?_;refine Zam ?_;refine ZaH ?_;refine z7 (q0 L rfl rfl (zn rfl) rfl rfl rfl (fun u H hH _ _ => he ▸ zbs hz hH)) rfl ?_;refine ZT ?_;refine Zad ?_;refine Zch ?_;refine ZcS ?_;refine Zdd ?_;refine Zbn ?_;refine zd (q0 L rfl rfl (zn rfl) rfl rfl rfl (fun u H hH hle _ => zdo hin0 hH (hv.le hle))) rfl ?_;refine ZaN ?_;refine zd (zxs rfl rfl rfl rfl bt4 hb2) rfl ?_;refine Zbg ?_;refine Zau ?_;refine Zbp ?_;refine ZdD ?_;refine Zb ?_
   refine qt L (rs:=[.cell 4 91, .tmp 5]) rfl (fun _ _ h => h) Since.refl fun u H hH hle => ?_
   exact ⟨_, qg rfl, rfl, LE2.mk (hv.le hle)⟩
 ·have hw:zcf l x d = ([], tE x):=if_neg he
  rw [hw] at hr
  cases hr
  subst hsh
  refine qu Tryz.func40 rfl Tryz.ntmps40 (Nat.le_of_ble_eq_true rfl) hB ?_
  refine Zaj ?_;refine ZE ?_;refine Zam ?_;refine ZaH ?_;refine z7 (q0 L rfl rfl (zn rfl) rfl rfl rfl (fun u H hH _ _ => zbs hz hH)) rfl ?_;refine ZT ?_;refine Zz ?_;refine Zk ?_;refine ZbK ?_;refine ZbG ?_
  refine qt L (rs:=[.cell 4 91, .tmp 5]) rfl (fun _ _ h => h) Since.refl fun u H hH hle => ?_
  exact ⟨_, qg rfl, rfl, LE2.mk SetV.nil⟩
end Go.V.L6
set_option maxRecDepth 20000
namespace Go.V.L2
open Go.Proofs Go.RowKit Go.V
theorem _root_.Go.V.Zb2 {A B:Prop} (h:B) (t:Wr B → A:=by intro h; refine Zal ?_;refine Zbl ?_;exact h.h):A:=t ⟨h⟩
theorem zif:∀ (l:List U), (l.flatMap ucs).length = l.length * 6
 | [] => rfl
 | y :: l => by rw [List.flatMap_cons, List.length_append, zif l, zkd, List.length_cons]; omega
theorem zfx:∀ (l:List U), (l.flatMap ucs).all zdv = true
 | [] => rfl
 | g :: l => by rw [List.flatMap_cons, List.all_append, zfx l]; rfl
theorem zv4 {κ:Kap} {s:Nat} {x y:List U} (h:κ s = some (.own (SlR tyU 6 (x.length + y.length) (x.flatMap ucs ++ y.flatMap ucs)))):κ s = some (.own (SlR tyU 6 (x ++ y).length ((x ++ y).flatMap ucs))):=by
 rw [h, List.flatMap_append, List.length_append]
theorem zlm {p:U → Bool} {l r:List U} {k:Nat} {t:U} (h:l[k]? = some t) (hr:r = (l.take k).filter p):(l.take (k + 1)).filter p = if p t = true then r ++ [t] else r:=by
 rw [zl8 h, List.filter_append, hr, List.filter_cons, List.filter_nil]
 split <;> simp
attribute [local irreducible] V N X VO Par StepOK Has Ret RetL Src
set_option maxHeartbeats 4000000 in
theorem zwz {x y:List U} {fx fy:Bool} (hx:x.length ≤ 100000) (hy:y.length ≤ 100000) (zx:∀ t ∈ x, TZ t) (zy:∀ t ∈ y, TZ t) {vx vy:Value} {w:World} {B:Heap} (hB:B.Le (hp w)) (hvx:US x fx vx B) (hvy:US y fy vy B) :
  Ret Tryz.prog 159 [vx, vy, .bool true, .bool true, .bool true] w B (US (zkq x y true true true) false):=by
 have lx:=zif x
 have ly:=zif y
 have px:=zfx x
 have py:=zfx y
 refine qu Tryz.func159 rfl Tryz.ntmps159 (Nat.le_of_ble_eq_true rfl) hB ?_
 refine za4 0 (US x fx) rfl SlV.mono hvx ?_
 refine za4 1 (US y fy) rfl SlV.mono hvy ?_
 refine Zac ?_;refine Zd ?_
 refine zet 11 tyU 6 rfl ?_
 refine Zy ?_;refine Zf ?_;refine z7 (zmn L rfl rfl rfl (zsk rfl) rfl z4d lx px (by omega) (by omega)) rfl ?_;refine Zf ?_;refine qe (zb5 L rfl rfl rfl (zsk rfl) rfl z4d ly py (by omega) (by omega)) ?_;refine qe (yh (.inr rfl) rfl rfl rfl rfl) ?_;refine Za0 ?_
 refine zes 12 (zv4 rfl) ?_
 have hal:(x ++ y).length ≤ 200000:=by rw [List.length_append]; omega
 have hza:∀ t ∈ x ++ y, TZ t:=fun t ht => (List.mem_append.1 ht).elim (zx t) (zy t)
 unfold zkq
 generalize hall:x ++ y = l at hal hza
 refine Zk ?_;refine ZW ?_
 refine zao (fun s:Nat × List U => [(0, .sat (US x fx)), (1, .sat (US y fy)), (2, .is (.bool true)), (3, .is (.bool true)), (4, .is (.bool true)), (11, .own (SlR tyU 6 s.2.length (s.2.flatMap ucs))), (12, .sat (US l false)), (13, .is (.int .i64 s.1))])
  (fun s => s.1 ≤ l.length ∧ s.2.length ≤ s.1 ∧ s.2 = (l.take s.1).filter (zew x y true true true)) (fun s => l.length - s.1) (0, []) ⟨Nat.zero_le _, Nat.le_refl _, rfl⟩ ⟨rfl, rfl, rfl, rfl, rfl, rfl, rfl, rfl, trivial⟩ ?_
 rintro ⟨i, r⟩ ⟨hi, hrl, hr⟩
 dsimp only at hi hrl hr ⊢
 by_cases hlt:i < l.length
 ·obtain ⟨t, ht⟩:=zaw hlt
  have hc:=ze0 ht
  have hf:=zlm ht hr
  by_cases h1:t ∈ x
  ·have e1:(if t ∈ x then 1 else 0:Int) = 1:=if_pos h1
   by_cases h2:t ∈ y
   ·have e2:(if t ∈ y then 1 else 0:Int) = 1:=if_pos h2
    have hp:(zew x y true true true) t = true:=by simp [zew, h1, h2]
    rw [hp, if_pos rfl] at hf
    refine Zd5 ?_;refine Zb2 ?_;refine zd (q0 L rfl rfl (zn rfl) rfl rfl rfl (fun u H hH _ _ v1 h3 => zbm (l:=x) (by omega) e1 hH h3)) rfl ?_;refine Zbw ?_;refine Zb2 ?_;refine zd (q0 L rfl rfl (zn rfl) rfl rfl rfl (fun u H hH _ _ v1 h3 => zbm (l:=y) (by omega) e2 hH h3)) rfl ?_;refine Zbw ?_;refine ZbB ?_;refine zj ?_;refine Z8 ?_;refine ZF ?_;refine Zp ?_;refine Ze ?_;refine Zbm ?_;refine Zc ?_;refine Zc ?_;refine Zaf ?_;refine Ze ?_;refine Ze ?_;refine Zbs ?_;refine Za7 ?_;refine Z0 ?_;refine qe (yh (.inl rfl) rfl rfl rfl rfl) ?_;refine ZcL ?_;refine ZaT ?_;refine qe (yh (.inr rfl) rfl rfl rfl rfl) ?_;refine Zav ?_;refine Zd6 ?_
    exact yl (x:=(i, r)) (i + 1, r ++ [t]) ⟨hlt, by dsimp only; rw [List.length_append, List.length_singleton]; omega, hf.symm⟩ (by dsimp only; omega) ⟨rfl, rfl, rfl, rfl, rfl, zda rfl, rfl, rfl, trivial⟩
   ·have e2:(if t ∈ y then 1 else 0:Int) = 0:=if_neg h2
    have hp:(zew x y true true true) t = true:=by simp [zew, h1, h2]
    rw [hp, if_pos rfl] at hf
    refine Zd5 ?_;refine Zb2 ?_;refine zd (q0 L rfl rfl (zn rfl) rfl rfl rfl (fun u H hH _ _ v1 h3 => zbm (l:=x) (by omega) e1 hH h3)) rfl ?_;refine Zbw ?_;refine Zb2 ?_;refine zd (q0 L rfl rfl (zn rfl) rfl rfl rfl (fun u H hH _ _ v1 h3 => zbm (l:=y) (by omega) e2 hH h3)) rfl ?_;refine Zbi ?_;refine ZbB ?_;refine zj ?_;refine Z8 ?_;refine ZF ?_;refine Zp ?_;refine Zaf ?_;refine Ze ?_;refine Zey ?_;refine ZbN ?_;refine Zbs ?_;refine Za7 ?_;refine Z0 ?_;refine qe (yh (.inl rfl) rfl rfl rfl rfl) ?_;refine ZcL ?_;refine ZaT ?_;refine qe (yh (.inr rfl) rfl rfl rfl rfl) ?_;refine Zav ?_;refine Zd6 ?_
    exact yl (x:=(i, r)) (i + 1, r ++ [t]) ⟨hlt, by dsimp only; rw [List.length_append, List.length_singleton]; omega, hf.symm⟩ (by dsimp only; omega) ⟨rfl, rfl, rfl, rfl, rfl, zda rfl, rfl, rfl, trivial⟩
  ·have e1:(if t ∈ x then 1 else 0:Int) = 0:=if_neg h1
   by_cases h2:t ∈ y
   ·have e2:(if t ∈ y then 1 else 0:Int) = 1:=if_pos h2
    have hp:(zew x y true true true) t = true:=by simp [zew, h1, h2]
    rw [hp, if_pos rfl] at hf
    refine Zd5 ?_;refine Zb2 ?_;refine zd (q0 L rfl rfl (zn rfl) rfl rfl rfl (fun u H hH _ _ v1 h3 => zbm (l:=x) (by omega) e1 hH h3)) rfl ?_;refine Zbi ?_;refine Zb2 ?_;refine zd (q0 L rfl rfl (zn rfl) rfl rfl rfl (fun u H hH _ _ v1 h3 => zbm (l:=y) (by omega) e2 hH h3)) rfl ?_;refine Zbw ?_;refine ZbB ?_;refine zj ?_;refine ZbA ?_;refine Zcf ?_;refine Ze ?_;refine Zbm ?_;refine ZF ?_;refine ZbN ?_;refine Zbm ?_;refine Zaf ?_;refine ZbC ?_;refine Zaf ?_;refine Ze ?_;refine Za7 ?_;refine Z0 ?_;refine qe (yh (.inl rfl) rfl rfl rfl rfl) ?_;refine ZcL ?_;refine ZaT ?_;refine qe (yh (.inr rfl) rfl rfl rfl rfl) ?_;refine Zav ?_;refine Zd6 ?_
    exact yl (x:=(i, r)) (i + 1, r ++ [t]) ⟨hlt, by dsimp only; rw [List.length_append, List.length_singleton]; omega, hf.symm⟩ (by dsimp only; omega) ⟨rfl, rfl, rfl, rfl, rfl, zda rfl, rfl, rfl, trivial⟩
   ·have e2:(if t ∈ y then 1 else 0:Int) = 0:=if_neg h2
    have hp:(zew x y true true true) t = false:=by simp [zew, h1, h2]
    rw [hp, if_neg (by decide)] at hf
    refine Zd5 ?_;refine Zb2 ?_;refine zd (q0 L rfl rfl (zn rfl) rfl rfl rfl (fun u H hH _ _ v1 h3 => zbm (l:=x) (by omega) e1 hH h3)) rfl ?_;refine Zbi ?_;refine Zb2 ?_;refine zd (q0 L rfl rfl (zn rfl) rfl rfl rfl (fun u H hH _ _ v1 h3 => zbm (l:=y) (by omega) e2 hH h3)) rfl ?_;refine Zbi ?_;refine ZbB ?_;refine zj ?_;refine ZbA ?_;refine Zcf ?_;refine Ze ?_;refine Zbm ?_;refine ZF ?_;refine ZbN ?_;refine Zbm ?_;refine Zaf ?_;refine ZbC ?_;refine Ze ?_;refine Zbm ?_;refine Ze ?_;refine Za3 ?_;refine Zd6 ?_
    exact yl (x:=(i, r)) (i + 1, r) ⟨hlt, by dsimp only; omega, hf.symm⟩ (by dsimp only; omega) ⟨rfl, rfl, rfl, rfl, rfl, rfl, rfl, rfl, trivial⟩
 ·obtain rfl:i = l.length:=by omega
  rw [List.take_length] at hr
  have hzr:∀ t ∈ r, TZ t:=fun t h => hza t (List.mem_filter.1 (by rw [← hr]; exact h)).1
  rw [← hr]
  refine zes 11 rfl ?_
  refine Zb1 ?_;refine Zd2 ?_;refine ZaS ?_;refine Z3 ?_;refine Zf ?_;refine z7 (yk L rfl rfl (zn rfl) rfl rfl rfl SlV.mono (fun u H hH _ _ v1 h3 => zgy (by omega) hzr hH h3)) rfl ?_;refine ZbE ?_
  refine qt L (rs:=[.tmp 10]) rfl (fun _ _ h => h) Since.refl fun u H hH hle => ?_
  exact fun v hv => hv
set_option maxHeartbeats 4000000 in
theorem zw0 {x y:List U} {fx fy:Bool} (hx:x.length ≤ 100000) (hy:y.length ≤ 100000) (zx:∀ t ∈ x, TZ t) (zy:∀ t ∈ y, TZ t) {vx vy:Value} {w:World} {B:Heap} (hB:B.Le (hp w)) (hvx:US x fx vx B) (hvy:US y fy vy B) :
  Ret Tryz.prog 159 [vx, vy, .bool true, .bool false, .bool false] w B (US (zkq x y true false false) false):=by
 have lx:=zif x
 have ly:=zif y
 have px:=zfx x
 have py:=zfx y
 refine qu Tryz.func159 rfl Tryz.ntmps159 (Nat.le_of_ble_eq_true rfl) hB ?_
 refine za4 0 (US x fx) rfl SlV.mono hvx ?_
 refine za4 1 (US y fy) rfl SlV.mono hvy ?_
 refine Zac ?_;refine Zd ?_
 refine zet 11 tyU 6 rfl ?_
 refine Zy ?_;refine Zf ?_;refine z7 (zmn L rfl rfl rfl (zsk rfl) rfl z4d lx px (by omega) (by omega)) rfl ?_;refine Zf ?_;refine qe (zb5 L rfl rfl rfl (zsk rfl) rfl z4d ly py (by omega) (by omega)) ?_;refine qe (yh (.inr rfl) rfl rfl rfl rfl) ?_;refine Za0 ?_
 refine zes 12 (zv4 rfl) ?_
 have hal:(x ++ y).length ≤ 200000:=by rw [List.length_append]; omega
 have hza:∀ t ∈ x ++ y, TZ t:=fun t ht => (List.mem_append.1 ht).elim (zx t) (zy t)
 unfold zkq
 generalize hall:x ++ y = l at hal hza
 refine Zk ?_;refine ZW ?_
 refine zao (fun s:Nat × List U => [(0, .sat (US x fx)), (1, .sat (US y fy)), (2, .is (.bool true)), (3, .is (.bool false)), (4, .is (.bool false)), (11, .own (SlR tyU 6 s.2.length (s.2.flatMap ucs))), (12, .sat (US l false)), (13, .is (.int .i64 s.1))])
  (fun s => s.1 ≤ l.length ∧ s.2.length ≤ s.1 ∧ s.2 = (l.take s.1).filter (zew x y true false false)) (fun s => l.length - s.1) (0, []) ⟨Nat.zero_le _, Nat.le_refl _, rfl⟩ ⟨rfl, rfl, rfl, rfl, rfl, rfl, rfl, rfl, trivial⟩ ?_
 rintro ⟨i, r⟩ ⟨hi, hrl, hr⟩
 dsimp only at hi hrl hr ⊢
 by_cases hlt:i < l.length
 ·obtain ⟨t, ht⟩:=zaw hlt
  have hc:=ze0 ht
  have hf:=zlm ht hr
  by_cases h1:t ∈ x
  ·have e1:(if t ∈ x then 1 else 0:Int) = 1:=if_pos h1
   by_cases h2:t ∈ y
   ·have e2:(if t ∈ y then 1 else 0:Int) = 1:=if_pos h2
    have hp:(zew x y true false false) t = false:=by simp [zew, h1, h2]
    rw [hp, if_neg (by decide)] at hf
    refine Zd5 ?_;refine Zb2 ?_;refine zd (q0 L rfl rfl (zn rfl) rfl rfl rfl (fun u H hH _ _ v1 h3 => zbm (l:=x) (by omega) e1 hH h3)) rfl ?_;refine Zbw ?_;refine Zb2 ?_;refine zd (q0 L rfl rfl (zn rfl) rfl rfl rfl (fun u H hH _ _ v1 h3 => zbm (l:=y) (by omega) e2 hH h3)) rfl ?_;refine Zbw ?_;refine ZbB ?_;refine zj ?_;refine Z8 ?_;refine ZF ?_;refine Zp ?_;refine Ze ?_;refine Zbm ?_;refine Zc ?_;refine Zc ?_;refine Zaf ?_;refine Ze ?_;refine Zaf ?_;refine Zp ?_;refine Zbm ?_;refine Zbm ?_;refine Ze ?_;refine Za3 ?_;refine Zd6 ?_
    exact yl (x:=(i, r)) (i + 1, r) ⟨hlt, by dsimp only; omega, hf.symm⟩ (by dsimp only; omega) ⟨rfl, rfl, rfl, rfl, rfl, rfl, rfl, rfl, trivial⟩
   ·have e2:(if t ∈ y then 1 else 0:Int) = 0:=if_neg h2
    have hp:(zew x y true false false) t = true:=by simp [zew, h1, h2]
    rw [hp, if_pos rfl] at hf
    refine Zd5 ?_;refine Zb2 ?_;refine zd (q0 L rfl rfl (zn rfl) rfl rfl rfl (fun u H hH _ _ v1 h3 => zbm (l:=x) (by omega) e1 hH h3)) rfl ?_;refine Zbw ?_;refine Zb2 ?_;refine zd (q0 L rfl rfl (zn rfl) rfl rfl rfl (fun u H hH _ _ v1 h3 => zbm (l:=y) (by omega) e2 hH h3)) rfl ?_;refine Zbi ?_;refine ZbB ?_;refine zj ?_;refine Z8 ?_;refine ZF ?_;refine Zp ?_;refine Zaf ?_;refine Ze ?_;refine Zey ?_;refine ZbN ?_;refine Zbs ?_;refine Za7 ?_;refine Z0 ?_;refine qe (yh (.inl rfl) rfl rfl rfl rfl) ?_;refine ZcL ?_;refine ZaT ?_;refine qe (yh (.inr rfl) rfl rfl rfl rfl) ?_;refine Zav ?_;refine Zd6 ?_
    exact yl (x:=(i, r)) (i + 1, r ++ [t]) ⟨hlt, by dsimp only; rw [List.length_append, List.length_singleton]; omega, hf.symm⟩ (by dsimp only; omega) ⟨rfl, rfl, rfl, rfl, rfl, zda rfl, rfl, rfl, trivial⟩
  ·have e1:(if t ∈ x then 1 else 0:Int) = 0:=if_neg h1
   by_cases h2:t ∈ y
   ·have e2:(if t ∈ y then 1 else 0:Int) = 1:=if_pos h2
    have hp:(zew x y true false false) t = false:=by simp [zew, h1, h2]
    rw [hp, if_neg (by decide)] at hf
    refine Zd5 ?_;refine Zb2 ?_;refine zd (q0 L rfl rfl (zn rfl) rfl rfl rfl (fun u H hH _ _ v1 h3 => zbm (l:=x) (by omega) e1 hH h3)) rfl ?_;refine Zbi ?_;refine Zb2 ?_;refine zd (q0 L rfl rfl (zn rfl) rfl rfl rfl (fun u H hH _ _ v1 h3 => zbm (l:=y) (by omega) e2 hH h3)) rfl ?_;refine Zbw ?_;refine ZbB ?_;refine zj ?_;refine ZbA ?_;refine Zcf ?_;refine Ze ?_;refine Zbm ?_;refine ZF ?_;refine ZbN ?_;refine Zbm ?_;refine Zaf ?_;refine ZbC ?_;refine Zaf ?_;refine Ze ?_;refine Ze ?_;refine Za3 ?_;refine Zd6 ?_
    exact yl (x:=(i, r)) (i + 1, r) ⟨hlt, by dsimp only; omega, hf.symm⟩ (by dsimp only; omega) ⟨rfl, rfl, rfl, rfl, rfl, rfl, rfl, rfl, trivial⟩
   ·have e2:(if t ∈ y then 1 else 0:Int) = 0:=if_neg h2
    have hp:(zew x y true false false) t = false:=by simp [zew, h1, h2]
    rw [hp, if_neg (by decide)] at hf
    refine Zd5 ?_;refine Zb2 ?_;refine zd (q0 L rfl rfl (zn rfl) rfl rfl rfl (fun u H hH _ _ v1 h3 => zbm (l:=x) (by omega) e1 hH h3)) rfl ?_;refine Zbi ?_;refine Zb2 ?_;refine zd (q0 L rfl rfl (zn rfl) rfl rfl rfl (fun u H hH _ _ v1 h3 => zbm (l:=y) (by omega) e2 hH h3)) rfl ?_;refine Zbi ?_;refine ZbB ?_;refine zj ?_;refine ZbA ?_;refine Zcf ?_;refine Ze ?_;refine Zbm ?_;refine ZF ?_;refine ZbN ?_;refine Zbm ?_;refine Zaf ?_;refine ZbC ?_;refine Ze ?_;refine Zbm ?_;refine Ze ?_;refine Za3 ?_;refine Zd6 ?_
    exact yl (x:=(i, r)) (i + 1, r) ⟨hlt, by dsimp only; omega, hf.symm⟩ (by dsimp only; omega) ⟨rfl, rfl, rfl, rfl, rfl, rfl, rfl, rfl, trivial⟩
 ·obtain rfl:i = l.length:=by omega
  rw [List.take_length] at hr
  have hzr:∀ t ∈ r, TZ t:=fun t h => hza t (List.mem_filter.1 (by rw [← hr]; exact h)).1
  rw [← hr]
  refine zes 11 rfl ?_
  refine Zb1 ?_;refine Zd2 ?_;refine ZaS ?_;refine Z3 ?_;refine Zf ?_;refine z7 (yk L rfl rfl (zn rfl) rfl rfl rfl SlV.mono (fun u H hH _ _ v1 h3 => zgy (by omega) hzr hH h3)) rfl ?_;refine ZbE ?_
  refine qt L (rs:=[.tmp 10]) rfl (fun _ _ h => h) Since.refl fun u H hH hle => ?_
  exact fun v hv => hv
end Go.V.L2
set_option maxRecDepth 20000
namespace Go.V.L6
open Go.Proofs Go.RowKit Go.V Go.V.L2 Go.V.L3
theorem zyw (N:List (U × Unit)):UT.flat N = (kS N).flatMap ucs:=by
 unfold UT.flat kS
 rw [List.flatMap_map]
 rfl
theorem zux {t:Tr U Unit} {r k:Nat} (hk:k ≤ t.size):kS (UT.rangeL t (r:Int) (k:Int)) = ((kS t.list).take k).drop r:=by
 unfold UT.rangeL
 have h0:max (r:Int) 0 = (r:Int):=by omega
 have h1:min (k:Int) (t.size:Int) = (k:Int):=by omega
 rw [h0, h1]
 by_cases h:(r:Int) ≥ k
 ·rw [if_pos h, List.drop_eq_nil_of_le (by rw [List.length_take]; omega)]
  rfl
 ·rw [if_neg h, Tr.prs_list]
  have:=zt2 r k t.list 0
  rw [show ((0:Nat):Int) = 0 from rfl] at this
  rw [this, Nat.sub_zero, Nat.sub_zero]
  unfold kS
  rw [List.map_drop, List.map_take]
attribute [local irreducible] V N X VO Par StepOK Has Ret RetL RetO Src
set_option maxHeartbeats 1000000 in
theorem zvd {fv:Value} {p:Option Addr} {t:Tr U Unit} {f e:Int} {M:List U} (hM:kS (UT.rangeL t f e) = M) (hs:t.size ≤ 100000) {w:World} {B:Heap} (hB:B.Le (hp w)) (ht:UT.TA t (.pointer p) B) :
  RetO Tryz.prog 105 [.agg #[fv, .pointer p], .int .i64 f, .int .i64 e] w B (SlE tyU 6 M.length (M.flatMap ucs)):=by
 obtain ⟨N, hN⟩:∃ N, UT.rangeL t f e = N:=⟨_, rfl⟩
 rw [hN] at hM
 have hfl:=zyw N
 have hNM:N.length = M.length:=by rw [← hM]; simp
 have hlen:M.length ≤ 100000:=by
  rw [← hNM, ← hN]
  unfold UT.rangeL
  split
  ·exact Nat.zero_le _
  ·exact Nat.le_trans (Tr.prs_length_le _ _ _ _) hs
 have hat:∀ {k:Nat} {g:U}, M[k]? = some g → ((UT.flat N).drop (k * 6)).take 6 = [.string g.1.1.1, .string g.1.1.2, .string g.1.2, .string g.2.1.1, .string g.2.1.2, .string g.2.2]:=fun {k g} h => by
  rw [hfl, hM]; exact ze0 h
 clear hM hfl
 refine zcd Tryz.func105 rfl Tryz.ntmps105 (Nat.le_of_ble_eq_true rfl) hB ?_
 refine ZbO ?_;refine Za6 ?_;refine Zc ?_;refine z7 (yk (φ:=UT.PS N true) L rfl rfl (zn rfl) rfl rfl rfl UT.PS.mono (fun u H hH hle _ => UT.range_m _ _ hH (⟨_, rfl, ht.le hle⟩) (by omega) hN)) rfl ?_;refine Zcb ?_;refine Zy ?_;refine Zv ?_;refine z7 (znz L _ rfl rfl rfl z4d rfl rfl rfl rfl (by omega) (by simp only [maxLen]; omega)) rfl ?_;refine qe (yh (.inr rfl) rfl rfl rfl rfl) ?_;refine Za0 ?_;refine Zk ?_;refine Zbt ?_
 have hzl:=zl0 (P:=Tryz.prog) (k:=N.length * 6) z4d
 generalize zsL Tryz.prog tyU (N.length * 6) = zs0 at hzl
 rw [hNM] at hzl ⊢
 refine zao (fun s:Nat × List Value => [(7, .sat (UT.PS N true)), (8, .own (SlE tyU 6 M.length ((M.take s.1).flatMap ucs ++ s.2))), (19, .is (.int .i64 M.length)), (20, .is (.int .i64 s.1))])
  (fun s => s.1 ≤ M.length ∧ s.2.length = (M.length - s.1) * 6) (fun s => M.length - s.1) (0, zs0) ⟨Nat.zero_le _, hzl⟩ ⟨rfl, rfl, rfl, rfl, trivial⟩ ?_
 rintro ⟨k, zs⟩ ⟨hk, hz⟩
 dsimp only at hk hz ⊢
 by_cases hlt:k < M.length
 ·obtain ⟨g, hg⟩:=zaw hlt
  have hc:=hat hg
  have hlN:k < N.length:=by omega
  have ht1:M.take (k + 1) = M.take k ++ [g]:=by rw [List.take_add_one, hg]; rfl
  have hr:List.take (0 + k * 6) ((M.take k).flatMap ucs ++ zs) ++ (ucs g ++ List.drop (0 + k * 6 + 6) ((M.take k).flatMap ucs ++ zs)) = (M.take (k + 1)).flatMap ucs ++ zs.drop 6:=by
   rw [ht1, Nat.zero_add]
   exact z5k zkd (M.take k) k M.length zs g (by rw [List.length_take]; omega) hz hlt
  have hlen':((M.take (k + 1)).flatMap ucs ++ zs.drop 6).length = M.length * 6:=by
   rw [List.length_append, zif, List.length_take, List.length_drop, hz]; omega
  refine z68 8 (by omega) rfl fun b hb => ?_
  have hle1:0 + k * 6 + 6 ≤ ((M.take k).flatMap ucs ++ zs).length:=by rw [hb.1]; omega
  refine Zdt ?_;refine Zb ?_;refine ZN ?_;refine Zc ?_;refine Zet ?_;refine z7 (zgk L rfl rfl rfl rfl) rfl ?_;refine Zd8 ?_;refine z7 (zgj L _ rfl rfl rfl rfl rfl rfl rfl (by omega)) rfl ?_;refine zh5 L (O1:=[]) (cs':=(M.take (k + 1)).flatMap ucs ++ zs.drop 6) rfl rfl rfl rfl rfl rfl (Nat.ble_eq_true_of_le hle1) rfl hr ?_;refine Zav ?_
  refine z1n (s:=6) 8 [] rfl rfl hlen' hb.2 ?_
  refine Z8 ?_;refine Zbd ?_
  exact yl (x:=(k, zs)) (k + 1, zs.drop 6) ⟨hlt, by dsimp only; rw [List.length_drop, hz]; omega⟩ (by dsimp only; omega) ⟨rfl, rfl, rfl, rfl, trivial⟩
 ·obtain rfl:k = M.length:=by omega
  have hzn:zs = []:=List.eq_nil_of_length_eq_zero (by rw [hz]; omega)
  rw [hzn, List.append_nil, List.take_length]
  refine Zds ?_;refine Zao ?_;refine Z0 ?_;refine qe (yh (.inl rfl) rfl rfl rfl rfl) ?_;refine qe (yh (.inr rfl) rfl rfl rfl rfl) ?_;refine Z6 ?_
  exact zfq rfl (fun _ _ h => h) Since.refl rfl
end Go.V.L6
set_option maxRecDepth 20000
namespace Go.V.L6
open Go.Proofs Go.RowKit Go.V Go.V.L2 Go.V.L3
attribute [local irreducible] V N X VO Par StepOK Has Ret RetL RetO Src
theorem SetV.trees {l:List U} {v:Value} {B:Heap} (hv:SetV l v B):∃ f p k q t u, v = .agg #[f, .pointer p, k, .pointer q] ∧ TS l t u ∧ UT.TA t (.pointer p) B ∧ UT.TA u (.pointer q) B:=by
 obtain ⟨p, q, t, u, hT, ht, hu, rfl | ⟨rfl, rfl, rfl, rfl⟩⟩:=hv
 ·exact ⟨_, _, _, _, t, u, rfl, hT, ht, hu⟩
 ·exact ⟨_, _, _, _, t, u, rfl, hT, ht, hu⟩
theorem z5h {l:List U} (hl:l.length ≤ 100000) {v:Value} {w:World} {B:Heap} (hB:B.Le (hp w)) (hv:SetV l v B):RetO Tryz.prog 38 [v] w B (SlE tyU 6 l.length (l.flatMap ucs)):=by
 obtain ⟨f, p, k, q, t, u, rfl, hT, ht, hu⟩:=hv.trees
 have hts:=hT.size
 have hr:kS (UT.rangeL t 0 (l.length:Int)) = l:=by
  have:=zux (t:=t) (r:=0) (k:=l.length) (by omega)
  rw [show ((0:Nat):Int) = 0 from rfl] at this
  rw [this, hT.kt, List.drop_zero, List.take_length]
 refine zcd Tryz.func38 rfl Tryz.ntmps38 (Nat.le_of_ble_eq_true rfl) hB ?_
 refine ZA ?_;refine Zd ?_;refine qh (id:=1) [(2, [7])] mixed (by kernel_rfl) ?_;refine Zdu ?_;refine ZcS ?_;refine zd (q0 L rfl rfl (zn rfl) rfl rfl rfl (fun u H hH hle _ => zdc rfl hH (hv.le hle))) rfl ?_;refine zd (zbz L rfl rfl (zn rfl) rfl rfl rfl (fun u H hH hle _ => zvd hr (by omega) hH (ht.le hle))) rfl ?_;refine zav (yh (.inr rfl) rfl rfl rfl rfl) rfl rfl ?_;refine Zbu ?_
 exact zfq rfl (fun _ _ h => h) Since.refl rfl
end Go.V.L6
set_option maxRecDepth 20000
namespace Go.V.L6
open Go.Proofs Go.RowKit Go.V Go.V.L2 Go.V.L3
attribute [local irreducible] V N X VO Par StepOK Has Ret RetL RetO RetT Src
end Go.V.L6
set_option maxRecDepth 20000
namespace Go.V.L6
open Go.Proofs Go.RowKit Go.V Go.V.L2
attribute [local irreducible] V N X VO Par StepOK Has Ret RetL RetO Src
end Go.V.L6
set_option maxRecDepth 20000
namespace Go.V.L6
open Go.Proofs Go.RowKit Go.V Go.V.L2 Go.V.L3
theorem _root_.Go.V.Zah {A B:Prop} (h:B) (t:Wr B → A:=by intro h; refine z7 (q8 L (vs:=[_, _, _, _]) (qg rfl) rfl rfl rfl rfl ⟨_, rfl⟩) rfl ?_;exact h.h):A:=t ⟨h⟩
theorem _root_.Go.V.Zev {A B:Prop} (h:B) (t:Wr B → A:=by intro h; refine z7 (y8 (cs:=[_, _, _, _, _, _, _]) rfl rfl z8v rfl rfl) rfl ?_;exact h.h):A:=t ⟨h⟩
theorem _root_.Go.V.Zfm {A B:Prop} (h:B) (t:Wr B → A:=by intro h; refine ZE ?_;refine ZdD ?_;exact h.h):A:=t ⟨h⟩
theorem _root_.Go.V.ZdE {A B:Prop} (h:B) (t:Wr B → A:=by intro h; refine Zdz ?_;refine Zj ?_;exact h.h):A:=t ⟨h⟩
theorem _root_.Go.V.ZdF {A B:Prop} (h:B) (t:Wr B → A:=by intro h; refine ZcF ?_;refine Zfm ?_;exact h.h):A:=t ⟨h⟩
theorem LE2.out {φ:Value → Heap → Prop} {a v:Value} {H:Heap} (h:TupS [φ, fun v _ => v = a] v H):∃ tv, v = .tuple #[tv, a] ∧ φ tv H:=by
 obtain ⟨vs, rfl, hl, h⟩:=h
 match vs, hl with
 | [x, y], _ =>
  have h1:=h 0 _ x rfl rfl
  have h2:=h 1 _ y rfl rfl
  subst h2
  exact ⟨x, rfl, h1⟩
def WithP (l:List U) (e:Int) (r:Value) (H:Heap):Prop:=∃ tv, r = .tuple #[tv, .int .i64 e] ∧ SetV l tv H
theorem WithP.mono {l:List U} {e:Int}:Kn.mono (.sat (WithP l e)):=fun _ _ _ ⟨tv, h1, h2⟩ hle => ⟨tv, h1, h2.le hle⟩
theorem zdt {l:List U} (hl:l.length ≤ 100000) {v:Value} {w:World} {B:Heap} (hB:B.Le (hp w)) (hv:SetV l v B):Ret Tryz.prog 38 [v] w B (US l true):=(z5h hl hB hv).toRet ztu
theorem zj9 {l m:List U} {x:U} {d:Bool} {e:Int} (hr:zcf l x d = (m, e)) (hl:l.length ≤ 4096) (hz:TZ x) {v:Value} {w:World} {B:Heap} (hB:B.Le (hp w)) (hv:SetV l v B) :
  Ret Tryz.prog 40 [v, chv x d] w B (WithP m e):=(zzp hr hl hz hB hv).mono fun _ _ _ h => LE2.out h
attribute [local irreducible] V N X VO Par StepOK Has Ret RetL RetO RetT Src
abbrev z9n:Nat:=102
theorem zyz {a b:List U} {fa fb:Bool} (hla:a.length ≤ 1000000) (hlb:b.length ≤ 1000000) {r:Bool} (hr:decide (a = b) = r) {va vb:Value} {w:World} {B:Heap} (hB:B.Le (hp w)) (ha:US a fa va B) (hb:US b fb vb B) :
  Ret Tryz.prog z9n [va, vb] w B (fun v _ => v = .bool r):=by
 subst hr
 refine qu Tryz.func102 rfl Tryz.ntmps102 (Nat.le_of_ble_eq_true rfl) hB ?_
 refine za4 0 (US a fa) rfl SlV.mono ha ?_
 refine za4 1 (US b fb) rfl SlV.mono hb ?_
 by_cases hl:a.length = b.length
 ·refine ZC ?_;refine Zam ?_;refine Zv ?_;refine Zv ?_;refine Zad ?_;refine Zk ?_;refine Zbt ?_
  refine zao (fun k:Nat => [(0, .sat (US a fa)), (1, .sat (US b fb)), (12, .is (.int .i64 a.length)), (13, .is (.int .i64 k))]) (fun k => k ≤ a.length ∧ a.take k = b.take k) (fun k => a.length - k) 0 ⟨Nat.zero_le _, rfl⟩ ⟨rfl, rfl, rfl, rfl, trivial⟩ ?_
  rintro k ⟨hk, he⟩
  by_cases hlt:k < a.length
  ·obtain ⟨x, hx⟩:=zaw hlt
   obtain ⟨y, hy⟩:=zaw (show k < b.length by omega)
   have hcx:=ze0 hx
   have hcy:=ze0 hy
   by_cases hxy:x = y
   ·have hq:=eqU (decide_eq_true hxy)
    refine Zdt ?_;refine Zd ?_;refine Zde ?_;refine Zbl ?_;refine Zbl ?_;refine Zf5 ?_;refine ZaW ?_;refine q9 ?_;refine Zai ?_;refine Z0 ?_;refine Zbd ?_
    exact yl (x:=k) (k + 1) ⟨hlt, by rw [zl8 hx, zl8 hy, he, hxy]⟩ (by omega) ⟨rfl, rfl, rfl, rfl, trivial⟩
   ·have hq:=eqU (decide_eq_false hxy)
    have hab:a ≠ b:=fun e => hxy (by rw [e, hy] at hx; exact (Option.some.inj hx).symm)
    rw [decide_eq_false hab]
    refine Zdt ?_;refine Zd ?_;refine Zde ?_;refine Zbl ?_;refine Zbl ?_;refine Zf5 ?_;refine Zbg ?_;refine zj ?_;refine Z8 ?_;refine Zb ?_
    refine qt L (rs:=[.tmp 4]) rfl (fun _ _ h => h) Since.refl fun u H hH hle => ?_
    rfl
  ·obtain rfl:k = a.length:=by omega
   have hab:a = b:=by rw [List.take_length, hl, List.take_length] at he; exact he
   rw [decide_eq_true hab]
   refine Zds ?_;refine Zao ?_;refine Z3 ?_;refine Zb ?_
   refine qt L (rs:=[.tmp 4]) rfl (fun _ _ h => h) Since.refl fun u H hH hle => ?_
   rfl
 ·have hab:a ≠ b:=fun e => hl (by rw [e])
  rw [decide_eq_false hab]
  refine ZC ?_;refine Zam ?_;refine Zv ?_;refine Zv ?_;refine Zz ?_;refine Zy ?_;refine Zb ?_
  refine qt L (rs:=[.tmp 4]) rfl (fun _ _ h => h) Since.refl fun u H hH hle => ?_
  rfl
theorem zwn {a b:List U} (hla:a.length ≤ 100000) (hlb:b.length ≤ 100000) {r:Bool} (hr:decide (a = b) = r) {va vb:Value} {w:World} {B:Heap} (hB:B.Le (hp w)) (ha:SetV a va B) (hb:SetV b vb B) :
  Ret Tryz.prog 35 [va, vb] w B (fun v _ => v = .bool r):=by
 obtain ⟨f1, p1, f2, q1, hsh, hpl⟩:=ha.shape
 subst hsh
 obtain ⟨f3, p3, f4, q3, hsh, hpl3⟩:=hb.shape
 subst hsh
 refine qu Tryz.func35 rfl Tryz.ntmps35 (Nat.le_of_ble_eq_true rfl) hB ?_
 refine Zaj ?_;refine Zay ?_;refine Zd ?_;refine Zed ?_;refine Zi ?_;refine ZcS ?_;refine zd (yk (φ:=US a true) L rfl rfl (zn rfl) rfl rfl rfl SlV.mono (fun u H hH hle _ => zdt hla hH (ha.le hle))) rfl ?_;refine Zi ?_;refine ZcS ?_;refine zd (yk (φ:=US b true) L rfl rfl (zn rfl) rfl rfl rfl SlV.mono (fun u H hH hle _ => zdt hlb hH (hb.le hle))) rfl ?_;refine zd (q0 L rfl rfl (zn rfl) rfl rfl rfl (fun u H hH _ _ v1 h1 v2 h2 => zyz (by omega) (by omega) hr hH h1 h2)) rfl ?_;refine Zl ?_
 refine qt L (rs:=[.tmp 4]) rfl (fun _ _ h => h) Since.refl fun u H hH hle => ?_
 rfl
set_option maxHeartbeats 2000000 in
theorem zws {l m:List U} {fu:Bool} {e:Int} (hr:ofU [] l = (m, e)) (hl:l.length ≤ 100000) (hz:∀ t ∈ l, TZ t) {v:Value} {w:World} {B:Heap} (hB:B.Le (hp w)) (hv:US l fu v B) :
  Ret Tryz.prog 31 [v] w B (WithP m e):=by
 refine qu Tryz.func31 rfl Tryz.ntmps31 (Nat.le_of_ble_eq_true rfl) hB ?_
 refine za4 0 (US l fu) rfl SlV.mono hv ?_
 refine ZaC ?_;refine Zay ?_;refine Zan ?_;refine Zy ?_;refine Zbt ?_
 refine zjc (X:=SXp) 4 (r:=fun x => Cell (scs x.1) zdh) (φ:=zs3 []) (zb3 []) ⟨(.nilFunc, none, .nilFunc, none), rfl⟩ SetV.nil rfl ?_
 refine zao (fun y:Nat × List U => [(2, .own (Cell [.nilFunc, .pointer none, .nilFunc, .pointer none] zdh)), (4, .own (ExR (fun x:SXp => Cell (scs x.1) zdh) (zs3 y.2) (zb3 y.2))), (9, .sat (US l fu)), (10, .is (.int .i64 l.length)), (11, .is (.int .i64 y.1))])
  (fun y => y.1 ≤ l.length ∧ ofU y.2 (l.drop y.1) = (m, e) ∧ y.2.length ≤ 4096) (fun y => l.length - y.1) (0, []) ⟨Nat.zero_le _, hr, Nat.zero_le _⟩ ⟨rfl, rfl, rfl, rfl, rfl, trivial⟩ ?_
 rintro ⟨k, s⟩ ⟨hk, he, hsl⟩
 dsimp only at hk he hsl ⊢
 refine zgu 4 rfl fun ⟨⟨f1, p1, f2, q1⟩, hpl⟩ H3 hs3 hT => ?_
 have hT:SetV s (.agg #[f1, .pointer p1, f2, .pointer q1]) H3:=hT
 by_cases hlt:k < l.length
 ·obtain ⟨t, ht⟩:=zaw hlt
  have hc:=ze0 ht
  have hzt:=hz t (List.mem_of_getElem? ht)
  rw [zqu ht, ofU] at he
  rcases hw:zcf s t false with ⟨s', e'⟩
  rw [hw] at he
  dsimp only at he
  have hsl':=zo4 hsl t false
  rw [hw] at hsl'
  by_cases h0:e' = 0
  ·rw [if_pos h0] at he
   subst h0
   refine Zc4 ?_;refine Zr ?_;refine Zaq ?_;refine Zd8 ?_;refine ZdE ?_;refine Zn ?_;refine Zah ?_;refine ZP ?_;refine Zev ?_;refine z7 (yk (φ:=WithP s' 0) L rfl rfl (zn rfl) rfl rfl rfl WithP.mono (fun u H hH hle _ => zj9 hw hsl hzt hH (hT.le hle))) rfl ?_;refine zco 19 rfl ?_;rintro _ H19 hs19 ⟨tv, rfl, hT19⟩; obtain ⟨g1, r1, g2, r2, rfl, hpl2⟩:=hT19.shape; refine ZdF ?_;refine Zg ?_;refine ZL ?_;refine Zae ?_;refine Zeh ?_;refine Z0 ?_;refine Zah ?_;refine ZdD ?_;refine Zav ?_;refine Z3 ?_;refine Zbd ?_
   refine zlw (X:=SXp) 4 (r:=fun x => Cell (scs x.1) zdh) (φ:=zs3 s') (zb3 _) ⟨(g1, r1, g2, r2), hpl2⟩ hT19 rfl ?_
   exact zgq (x:=(k, s)) (k + 1, s') (hs3.trans hs19) ⟨hlt, he, hsl'⟩ (by dsimp only; omega) ⟨rfl, rfl, rfl, rfl, rfl, trivial⟩
  ·rw [if_neg h0] at he
   cases he
   refine Zc4 ?_;refine Zr ?_;refine Zaq ?_;refine Zd8 ?_;refine ZdE ?_;refine Zn ?_;refine Zah ?_;refine ZP ?_;refine Zev ?_;refine z7 (yk (φ:=WithP s' e) L rfl rfl (zn rfl) rfl rfl rfl WithP.mono (fun u H hH hle _ => zj9 hw hsl hzt hH (hT.le hle))) rfl ?_;refine zco 19 rfl ?_;rintro _ H19 hs19 ⟨tv, rfl, hT19⟩; obtain ⟨g1, r1, g2, r2, rfl, hpl2⟩:=hT19.shape; refine ZdF ?_;refine Zg ?_;refine ZL ?_;refine Zz ?_;refine Z8 ?_;refine ZbK ?_;refine ZbG ?_
   refine qt L (rs:=[.cell 2 91, .tmp 3]) rfl (fun _ _ h => h) (hs3.trans hs19) fun u H hH hle => ?_
   exact ⟨_, qg rfl, rfl, _, rfl, SetV.nil⟩
 ·obtain rfl:k = l.length:=by omega
  rw [List.drop_length, ofU] at he
  cases he
  refine Zfz ?_;refine Zao ?_;refine ZX ?_;refine Zah ?_;refine ZdD ?_;refine Zb ?_
  refine qt L (rs:=[.cell 2 91, .tmp 3]) rfl (fun _ _ h => h) hs3 fun u H hH hle => ?_
  exact ⟨_, qg rfl, rfl, _, rfl, hT.le hle⟩
end Go.V.L6
set_option maxRecDepth 20000
namespace Go.V.L10
open Go.Proofs Go.RowKit Go.V
theorem _root_.Go.V.Zfn {A B:Prop} (h:B) (t:Wr B → A:=by intro h; refine z7 (y7 L (vs:=[_, _]) rfl rfl rfl rfl rfl ⟨_, rfl⟩) rfl ?_;exact h.h):A:=t ⟨h⟩
theorem _root_.Go.V.ZcT {A B:Prop} (h:B) (t:Wr B → A:=by intro h; refine Zr ?_;refine Zc ?_;exact h.h):A:=t ⟨h⟩
abbrev z9a:TypeId:=264
abbrev z4w:TypeId:=63
def pnc (p:Int × Int):List Value:=[.int .u64 p.1, .int .i64 p.2]
theorem z3m (p:Int × Int):(pnc p).length = 2:=rfl
abbrev PsV (l:List (Int × Int)):Value → Heap → Prop:=SlV z9a 2 (l.flatMap pnc) l.length false
theorem z3n {l:List (Int × Int)} {i:Nat} {x:Int × Int} (h:l[i]? = some x):((l.flatMap pnc).drop (i * 2)).take 2 = [.int .u64 x.1, .int .i64 x.2]:=zd8 z3m l i x h
abbrev RsV (l:List Int) (fu:Bool):Value → Heap → Prop:=SlV z4w 1 (l.map (Value.int .u64)) l.length fu
theorem z7q {l:List Int} {i:Nat} {x:Int} (h:l[i]? = some x):((l.map (Value.int .u64)).drop (i * 1)).take 1 = [.int .u64 x]:=by
 rw [Nat.mul_one, List.take_one]
 simp [List.head?_drop, h]
attribute [local irreducible] V N X VO Par StepOK Has Ret RetL RetO zbd RetX Src
theorem cmpU_ret (a b:Int) {w:World} {B:Heap} (hB:B.Le (hp w)):Ret Tryz.prog 213 [.int .u64 a, .int .u64 b] w B (fun v _ => v = .int .i64 (cP a b)):=by
 unfold cP
 refine qu Tryz.func213 rfl Tryz.ntmps213 (Nat.le_of_ble_eq_true rfl) hB ?_
 by_cases h:a < b
 ·rw [if_pos h]
  refine Zc9 ?_;refine z7 (q0 L rfl rfl (zn rfl) rfl rfl rfl (fun u H hH _ _ => So.isnanU _ hH)) rfl ?_;refine ZT ?_;refine z7 (q0 L rfl rfl (zn rfl) rfl rfl rfl (fun u H hH _ _ => So.isnanU _ hH)) rfl ?_;refine Zg ?_;refine Zs ?_;refine ZO ?_;refine ZU ?_;refine ZO ?_;refine Z3 ?_;refine Zc ?_;refine ZB ?_;refine Zt ?_;refine ZX ?_;refine Zb ?_
  refine qt L (rs:=[.tmp 4]) rfl (fun _ _ h => h) Since.refl fun u H hH hle => ?_
  rfl
 ·rw [if_neg h]
  by_cases h2:b < a
  ·rw [if_pos h2]
   refine Zc9 ?_;refine z7 (q0 L rfl rfl (zn rfl) rfl rfl rfl (fun u H hH _ _ => So.isnanU _ hH)) rfl ?_;refine ZT ?_;refine z7 (q0 L rfl rfl (zn rfl) rfl rfl rfl (fun u H hH _ _ => So.isnanU _ hH)) rfl ?_;refine Zg ?_;refine Zs ?_;refine ZO ?_;refine ZU ?_;refine ZO ?_;refine Z3 ?_;refine Zc ?_;refine Zo ?_;refine ZO ?_;refine ZM ?_;refine Zc ?_;refine Z2 ?_;refine Zt ?_;refine ZD ?_;refine Zb ?_
   refine qt L (rs:=[.tmp 4]) rfl (fun _ _ h => h) Since.refl fun u H hH hle => ?_
   rfl
  ·rw [if_neg h2]
   refine Zc9 ?_;refine z7 (q0 L rfl rfl (zn rfl) rfl rfl rfl (fun u H hH _ _ => So.isnanU _ hH)) rfl ?_;refine ZT ?_;refine z7 (q0 L rfl rfl (zn rfl) rfl rfl rfl (fun u H hH _ _ => So.isnanU _ hH)) rfl ?_;refine Zg ?_;refine Zs ?_;refine ZO ?_;refine ZU ?_;refine ZO ?_;refine Z3 ?_;refine Zc ?_;refine Zo ?_;refine ZO ?_;refine ZM ?_;refine Zc ?_;refine Zbv ?_;refine Zbx ?_;refine Zb ?_
   refine qt L (rs:=[.tmp 4]) rfl (fun _ _ h => h) Since.refl fun u H hH hle => ?_
   rfl
theorem zhx (a n b:Int) {w:World} {B:Heap} (hB:B.Le (hp w)):Ret Tryz.prog 212 [.agg #[.int .u64 a, .int .i64 n], .int .u64 b] w B (fun v _ => v = .int .i64 (cP a b)):=by
 refine qu Tryz.func212 rfl Tryz.ntmps212 (Nat.le_of_ble_eq_true rfl) hB ?_
 refine ZbO ?_;refine Zm ?_;refine Za ?_;refine z7 (q0 L rfl rfl (zn rfl) rfl rfl rfl (fun u H hH _ _ => cmpU_ret _ _ hH)) rfl ?_;refine Zb ?_
 refine qt L (rs:=[.tmp 4]) rfl (fun _ _ h => h) Since.refl fun u H hH hle => ?_
 rfl
abbrev BSP:Nat:=211
abbrev fvP:Value:=.func (.func 212) #[] #[]
set_option maxHeartbeats 2000000 in
theorem z4i {L0:List Int} {r:Int} (hz:(zdw L0).length ≤ 100000) {v:Value} {w:World} {B:Heap} (hB:B.Le (hp w)) (hv:PsV (zdw L0) v B) :
  Ret Tryz.prog BSP [v, .int .u64 r, fvP] w B (fun v _ => v = .tuple #[.int .i64 (z19 cP r (zfs L0):Nat), .bool (decide (r ∈ zfs L0))]):=by
 have hs:=zpl L0
 obtain ⟨l, hl⟩:∃ l, l = zfs L0:=⟨_, rfl⟩
 obtain ⟨ps, hps⟩:∃ ps, ps = zdw L0:=⟨_, rfl⟩
 have hat:∀ (i:Nat) (x:Int), l[i]? = some x → ps[i]? = some (x, (L0.count x:Int)):=fun i x h => by subst hl hps; exact zp4 h
 have hlen:ps.length = l.length:=by subst hl hps; exact zhj L0
 rw [← hl] at hs ⊢
 rw [← hps] at hv hz
 clear hl hps
 refine qu Tryz.func211 rfl Tryz.ntmps211 (Nat.le_of_ble_eq_true rfl) hB ?_
 refine za4 0 (PsV ps) rfl SlV.mono hv ?_
 refine Zar ?_;refine Zay ?_;refine Zv ?_;refine ZT ?_;refine Zq ?_;refine Zd ?_;refine qm ?_
 refine zao (fun s:Nat × Nat => [(0, .sat (PsV ps)), (2, .is fvP), (1, .is (.int .u64 r)), (8, .is (.int .i64 ps.length)), (9, .is (.int .i64 s.1)), (10, .is (.int .i64 s.2))])
  (fun s => s.1 ≤ s.2 ∧ s.2 ≤ l.length ∧ (∀ (k:Nat) (x:Int), k < s.1 → l[k]? = some x → cP x r < 0) ∧ ∀ (k:Nat) (x:Int), s.2 ≤ k → l[k]? = some x → ¬ cP x r < 0) (fun s => s.2 - s.1) (0, ps.length) ⟨Nat.zero_le _, Nat.le_of_eq hlen, fun k x h => (by cases h), fun k x h hx => (by rw [List.getElem?_eq_none (by dsimp only at h; omega)] at hx; cases hx)⟩ ⟨rfl, rfl, rfl, rfl, rfl, rfl, trivial⟩ ?_
 rintro ⟨i, j⟩ ⟨hij, hjl, hlo, hhi⟩
 dsimp only at hij hjl hlo hhi ⊢
 by_cases hlt:i < j
 ·obtain ⟨h, hh⟩:∃ h, h = (i + j) / 2:=⟨_, rfl⟩
  have hsh:((i:Int) + (j:Int)).fdiv (2 ^ min (1:Int).toNat IntKind.u64.bits) = (h:Int):=by
   show ((i:Int) + (j:Int)).fdiv 2 = (h:Int)
   rw [Int.fdiv_eq_ediv_of_nonneg _ (by decide)]
   omega
  obtain ⟨y, hy⟩:=zaw (show h < l.length by omega)
  have hc:=z3n (hat h y hy)
  by_cases hcm:cP y r < 0
  ·refine ZeQ ?_;refine Zc ?_;refine ZaX ?_;refine Ze7 ?_;refine ZcT ?_;refine Zeg ?_;refine z7 (za0 rfl rfl rfl ziv.1 ziv.2 (zal (by omega) (by omega))) rfl ?_;refine z7 (zxj rfl rfl rfl rfl (by omega) (by assumption)) rfl ?_;refine z7 (za0 rfl rfl rfl zon.1 zon.2 (zad (by omega) (by omega))) rfl ?_;refine Zei ?_;refine Zet ?_;refine Zfn ?_;refine Za ?_;refine z7 (q0 L rfl rfl (zn rfl) rfl rfl rfl (fun u H hH _ _ => zhx _ _ _ hH)) rfl ?_;refine ZaX ?_;refine ZL ?_;refine Zb5 ?_;refine yd ?_
   exact yl (x:=(i, j)) (h + 1, j) ⟨by dsimp only; omega, hjl, fun k x hk hx => zmc zi9 hs hy hx (by dsimp only at hk; omega) hcm, hhi⟩ (by dsimp only; omega) ⟨rfl, rfl, rfl, rfl, rfl, rfl, trivial⟩
  ·refine ZeQ ?_;refine Zc ?_;refine ZaX ?_;refine Ze7 ?_;refine ZcT ?_;refine Zeg ?_;refine z7 (za0 rfl rfl rfl ziv.1 ziv.2 (zal (by omega) (by omega))) rfl ?_;refine z7 (zxj rfl rfl rfl rfl (by omega) (by assumption)) rfl ?_;refine z7 (za0 rfl rfl rfl zon.1 zon.2 (zad (by omega) (by omega))) rfl ?_;refine Zei ?_;refine Zet ?_;refine Zfn ?_;refine Za ?_;refine z7 (q0 L rfl rfl (zn rfl) rfl rfl rfl (fun u H hH _ _ => zhx _ _ _ hH)) rfl ?_;refine Zo ?_;refine Zat ?_;refine ZU ?_;refine ZI ?_;refine yd ?_
   exact yl (x:=(i, j)) (i, h) ⟨by dsimp only; omega, by dsimp only; omega, hlo, fun k x hk hx hcx => hcm (zmc zi9 hs hx hy hk hcx)⟩ (by dsimp only; omega) ⟨rfl, rfl, rfl, rfl, rfl, rfl, trivial⟩
 ·obtain rfl:i = j:=by omega
  rw [zxd zi9 hs hlo hhi hjl]
  by_cases hin:i < l.length
  ·obtain ⟨y, hy⟩:=zaw hin
   have hc:=z3n (hat i y hy)
   have hm:=z6b zi9 hs hlo hy hhi
   by_cases hcm:cP y r = 0
   ·rw [decide_eq_true (hm.2 hcm)]
    refine ZeQ ?_;refine Zc ?_;refine Zo ?_;refine ZaS ?_;refine Z0 ?_;refine ZF ?_;refine Zcp ?_;refine Zet ?_;refine Zfn ?_;refine Za ?_;refine z7 (q0 L rfl rfl (zn rfl) rfl rfl rfl (fun u H hH _ _ => zhx _ _ _ hH)) rfl ?_;refine ZJ ?_;refine Ze ?_;refine Z5 ?_
    refine qt L (rs:=[.tmp 6, .tmp 7]) rfl (fun _ _ h => h) Since.refl fun u H hH hle => ?_
    rfl
   ·rw [decide_eq_false fun h => hcm (hm.1 h)]
    refine ZeQ ?_;refine Zc ?_;refine Zo ?_;refine ZaS ?_;refine Z0 ?_;refine ZF ?_;refine Zcp ?_;refine Zet ?_;refine Zfn ?_;refine Za ?_;refine z7 (q0 L rfl rfl (zn rfl) rfl rfl rfl (fun u H hH _ _ => zhx _ _ _ hH)) rfl ?_;refine ZR ?_;refine Ze ?_;refine Z5 ?_
    refine qt L (rs:=[.tmp 6, .tmp 7]) rfl (fun _ _ h => h) Since.refl fun u H hH hle => ?_
    rfl
  ·obtain rfl:i = l.length:=by omega
   rw [decide_eq_false (zr5 zi9 hlo)]
   refine ZeQ ?_;refine Zc ?_;refine Zo ?_;refine ZaS ?_;refine Z0 ?_;refine ZF ?_;refine Zo ?_;refine Zbs ?_;refine Ze ?_;refine Z5 ?_
   refine qt L (rs:=[.tmp 6, .tmp 7]) rfl (fun _ _ h => h) Since.refl fun u H hH hle => ?_
   rfl
abbrev pnv (s:Value) (t:Nat):Value:=.agg #[s, .int .i64 t]
set_option maxHeartbeats 1000000 in
theorem ztw {L0:List Int} {r:Int} {t:Nat} (hz:L0.length ≤ 100000) {s:Value} {w:World} {B:Heap} (hB:B.Le (hp w)) (hv:PsV (zdw L0) s B) :
  Ret Tryz.prog 143 [pnv s t, .int .u64 r] w B (fun v _ => v = .tuple #[.int .i64 (z19 cP r (zfs L0):Nat), .bool (decide (r ∈ zfs L0))]):=by
 have hz2:(zdw L0).length ≤ 100000:=by rw [zhj]; exact Nat.le_trans (zqq _) hz
 obtain ⟨p, c, rfl⟩:=zbt hv
 refine qu Tryz.func143 rfl Tryz.ntmps143 (Nat.le_of_ble_eq_true rfl) hB ?_
 refine ZA ?_;refine Zq ?_;refine Zay ?_;refine Zm ?_;refine Za ?_;refine z7 (q0 L rfl rfl (zn rfl) rfl rfl rfl (fun u H hH hle _ => z4i hz2 hH (hv.le hle))) rfl ?_;refine ZdT ?_;refine Z5 ?_
 refine qt L (rs:=[.tmp 4, .tmp 5]) rfl (fun _ _ h => h) Since.refl fun u H hH hle => ?_
 rfl
theorem zve {L0:List Int} {r:Int} (h:r ∈ zfs L0):(zdw L0)[z19 cP r (zfs L0)]? = some (r, (L0.count r:Int)):=zp4 (zxc zi9 (zpl L0) h)
set_option maxHeartbeats 1000000 in
theorem count_ret {L0:List Int} {r:Int} {t:Nat} (hz:L0.length ≤ 100000) {s:Value} {w:World} {B:Heap} (hB:B.Le (hp w)) (hv:PsV (zdw L0) s B) :
  Ret Tryz.prog 88 [pnv s t, .int .u64 r] w B (fun v _ => v = .int .i64 (L0.count r:Nat)):=by
 obtain ⟨p, c, rfl⟩:=zbt hv
 refine qu Tryz.func88 rfl Tryz.ntmps88 (Nat.le_of_ble_eq_true rfl) hB ?_
 by_cases h:r ∈ zfs L0
 ·have hf:decide (r ∈ zfs L0) = true:=decide_eq_true h
  have hp:=zve h
  have hlt:=get_lt hp
  have hc:=z3n hp
  refine Zbf ?_;refine Ze0 ?_;refine Za ?_;refine z7 (q0 L rfl rfl (zn rfl) rfl rfl rfl (fun u H hH hle _ => hf ▸ ztw (t:=t) hz hH (hv.le hle))) rfl ?_;refine ZaY ?_;refine ZT ?_;refine Zt ?_;refine Zk ?_;refine Zax ?_;refine z7 (StepOK.seeV (q6 L (qk rfl) rfl rfl rfl rfl) (by assumption)) rfl ?_;refine ZbI ?_;refine z7 (zgk L rfl rfl rfl rfl) rfl ?_;refine Za4 ?_;refine Zb ?_
  refine qt L (rs:=[.tmp 4]) rfl (fun _ _ h => h) Since.refl fun u H hH hle => ?_
  rfl
 ·have hf:decide (r ∈ zfs L0) = false:=decide_eq_false h
  have hc0:L0.count r = 0:=List.count_eq_zero.2 fun hm => h (zya.2 hm)
  rw [hc0]
  refine Zbf ?_;refine Ze0 ?_;refine Za ?_;refine z7 (q0 L rfl rfl (zn rfl) rfl rfl rfl (fun u H hH hle _ => hf ▸ ztw (t:=t) hz hH (hv.le hle))) rfl ?_;refine ZaY ?_;refine ZT ?_;refine ZQ ?_;refine Zr ?_;refine Zb ?_
  refine qt L (rs:=[.tmp 4]) rfl (fun _ _ h => h) Since.refl fun u H hH hle => ?_
  rfl
end Go.V.L10
set_option maxRecDepth 20000
namespace Go.V.L10
open Go.Proofs Go.RowKit Go.V
attribute [local irreducible] V N X VO Par StepOK Has Ret RetL RetO zbd RetX Src
end Go.V.L10
set_option maxRecDepth 20000
namespace Go.V.L10
open Go.Proofs Go.RowKit Go.V
section
variable {A Bq R X Z:List Value} {a b:Nat}
end
attribute [local irreducible] V N X VO Par StepOK Has Ret RetL RetO RetT zbd RetX Src
end Go.V.L10
set_option maxRecDepth 20000
namespace Go.V.L10
open Go.Proofs Go.RowKit Go.V
attribute [local irreducible] V N X VO Par StepOK Has Ret RetL RetO RetT zbd RetX Src
end Go.V.L10
set_option maxRecDepth 20000
namespace Go.V.L10
open Go.Proofs Go.RowKit Go.V Go.V.L2 Go.V.L8 Go.V.L6
theorem _root_.Go.V.ZeU {A B:Prop} (h:B) (t:Wr B → A:=by intro h; refine zbw 900 901 rfl rfl (zag _) ?_;exact h.h):A:=t ⟨h⟩
abbrev tyS:TypeId:=205
abbrev Ent:=List (Int × (List U × Value))
abbrev vcE (p:List U × Value):Value:=p.2
abbrev stc (n m:Nat) (s:Value) (t:Nat):List Value:=[.int .u64 n, .map (some m), s, .int .i64 t]
abbrev StO (b n m:Nat) (s:Value) (t:Nat) (es:Ent):GR:=zdz (zai b (stc n m s t) tyS) (z8q m .u64 vcE es)
theorem zrm (b n m:Nat) (s:Value) (t:Nat) (es:Ent):(StO b n m s t es).res = zh8 (zaj b (stc n m s t) tyS) (zrb m .u64 vcE es):=rfl
def EsV (es:Ent) (H:Heap):Prop:=∀ e ∈ es, SetV e.2.1 e.2.2 H
theorem EsV.le {es:Ent} {H H':Heap} (h:EsV es H) (hle:H.Le H'):EsV es H':=fun e he => (h e he).le hle
theorem zmw {b:Nat} {cs:List Value} {ty:TypeId}:∀ v H u C, (zaj b cs ty).P v H u C → joinH H u C b = some (.cells cs.toArray ty):=fun _ _ _ _ ⟨hb, hC⟩ => (zj1 ((hC b).2 rfl)).trans hb
theorem zr_run {P:Program} (L:Tabs P) {e:TypeId} {z:Value} (hz:L.zr e = some z) (w:World):(zeroValue e).run P w = .ok z w:=by
 have h:=Tabs.zr_spec hz
 unfold zrI at h
 split at h
 ·rename_i it hit; simp [zeroValue, typeInfo, hit, h]
 ·cases h
abbrev z9b:TypeId:=203
abbrev tySt:TypeId:=91
theorem mpS:Tryz.prog.underlying z9b = some (.map z4w tySt):=by kernel_rfl
theorem kyS:Tryz.prog.underlying z4w = some (.int .u64):=by kernel_rfl
theorem zrS (w:World):(zeroValue tySt).run Tryz.prog w = .ok nilSet w:=zr_run L rfl w
attribute [local irreducible] V N X VO Par StepOK Has Ret RetL RetO RetT zbd RetX RetY Src
theorem none_ret {b n:Nat} {rest:List Value} (hn:n ≠ 0) {w:World} {B:Heap} (hb:B b = some (.cells (Value.int .u64 n :: rest).toArray tyS)) (hB:B.Le (hp w)) :
  Ret Tryz.prog 111 [.pointer (some ⟨b, 0, none⟩)] w B (fun v _ => v = .bool false):=by
 refine qu Tryz.func111 rfl Tryz.ntmps111 (Nat.le_of_ble_eq_true rfl) hB ?_
 refine Zc9 ?_;refine z7 (zc2 rfl rfl rfl rfl z8y rfl) rfl ?_;refine Zc ?_;refine ZbZ ?_;refine ZR ?_;refine Ze ?_;refine Zb ?_
 refine qt L (rs:=[.tmp 2]) rfl (fun _ _ h => h) Since.refl fun u H hH hle => ?_
 rfl
theorem pins_ret {b n m t:Nat} {s:Value} (hs:∃ p k c, s = .slice p k c) (hn:n ≠ 0) {w:World} {B:Heap} (hb:B b = some (.cells (stc n m s t).toArray tyS)) (hB:B.Le (hp w)) :
  Ret Tryz.prog 43 [.pointer (some ⟨b, 0, none⟩)] w B (fun v _ => v = pnv s t):=by
 obtain ⟨p, k, c, rfl⟩:=hs
 refine qu Tryz.func43 rfl Tryz.ntmps43 (Nat.le_of_ble_eq_true rfl) hB ?_
 refine ZaC ?_;refine Za0 ?_;refine ZbD ?_;refine z7 (q0 L rfl rfl (zn rfl) rfl rfl rfl (fun u H hH hle _ => none_ret hn (hle _ _ hb) hH)) rfl ?_;refine Zdy ?_;refine ZK ?_;refine z7 (q8 L (vs:=[_, _]) (qn rfl (by assumption)) rfl rfl rfl rfl ⟨_, rfl⟩) rfl ?_;refine Z1 ?_
 refine qt L (rs:=[.cell 2 112]) rfl (fun _ _ h => h) Since.refl fun u H hH hle => ?_
 exact ⟨_, qg rfl, rfl, rfl⟩
set_option maxHeartbeats 1000000 in
theorem zwk {S:Sto} {b m t:Nat} {s:Value} {es:Ent} {r:Int} (hm:MapOK es S.R) (hn:S.R.length ≠ 0) {w:World} {B:Heap} {C:Nat → Prop} (hes:EsV es B) (hB:B.Le (hp w)) (hr:(StO b S.R.length m s t es).P B w C) (hC:∀ k, C k → k < w.heap.size ∧ B k = none) :
  RetY Tryz.prog 87 [.pointer (some ⟨b, 0, none⟩), .int .u64 r] w B C (StO b S.R.length m s t es) (WithP (atS S r).1 (atS S r).2):=by
 unfold RetY
 refine zaf 900 (StO b S.R.length m s t es) Tryz.func87 rfl Tryz.ntmps87 (Nat.le_of_ble_eq_true rfl) hB hr hC ?_
 rw [zrm]
 refine zc7 900 901 rfl (zag _) ?_
 obtain ⟨k, hk⟩:∃ k, k = if r = 0 then (S.R.length:Int) else r:=⟨_, rfl⟩
 have hat:atS S r = match kpt S.R k with | some t => (t, 0) | none => ([], 14):=by rw [hk]; rfl
 have hg:=hm.get k
 by_cases hr0:r = 0
 ·rw [if_pos hr0] at hk
  subst hr0
  subst hk
  cases hgk:zia (S.R.length:Int) es with
  | none =>
   rw [hgk] at hg
   rw [hat, ← hg]
   have q1:(zia (S.R.length:Int) es).elim nilSet vcE = nilSet:=by rw [hgk]; rfl
   have q2:(zia (S.R.length:Int) es).isSome = false:=by rw [hgk]; rfl
   refine ZcR ?_;refine qy (zcj L 900 (Φ:=fun H => H b = some (.cells (stc S.R.length m s t).toArray tyS)) (c:=.bool false) rfl rfl (zn rfl) rfl rfl rfl rfl rfl zmw (fun u H hH hle hb => none_ret hn hb hH)) ?_;refine ZO ?_;refine Zs ?_;refine ZJ ?_;refine Z9 ?_;refine ZfV ?_;refine ZaP ?_;refine Za ?_;refine qy (zgi (q:=901) (vc:=vcE) (S.R.length:Int) mpS kyS zrS rfl rfl rfl rfl rfl q1 q2) ?_;refine ZbH ?_;refine ZL ?_;refine Zp ?_;refine Zt ?_;refine Z8 ?_;refine ZbK ?_;refine ZaD ?_
   refine ZeU ?_
   exact zm5 L 900 (r:=StO b S.R.length m s t es) (rs:=[.cell 4 91, .tmp 5]) rfl (fun _ _ h => h) Since.refl rfl rfl (fun H hle => ⟨_, qg rfl, rfl, _, rfl, SetV.nil⟩)
  | some x =>
   obtain ⟨l, sv⟩:=x
   rw [hgk] at hg
   rw [hat, ← hg]
   have hx:SetV l sv B:=hes _ (zn8 hgk)
   obtain ⟨f1, p1, f2, p2, rfl, hpl⟩:=hx.shape
   have q1:(zia (S.R.length:Int) es).elim nilSet vcE = .agg #[f1, .pointer p1, f2, .pointer p2]:=by rw [hgk]; rfl
   have q2:(zia (S.R.length:Int) es).isSome = true:=by rw [hgk]; rfl
   refine ZcR ?_;refine qy (zcj L 900 (Φ:=fun H => H b = some (.cells (stc S.R.length m s t).toArray tyS)) (c:=.bool false) rfl rfl (zn rfl) rfl rfl rfl rfl rfl zmw (fun u H hH hle hb => none_ret hn hb hH)) ?_;refine ZO ?_;refine Zs ?_;refine ZJ ?_;refine Z9 ?_;refine ZfV ?_;refine ZaP ?_;refine Za ?_;refine qy (zgi (q:=901) (vc:=vcE) (S.R.length:Int) mpS kyS zrS rfl rfl rfl rfl rfl q1 q2) ?_;refine ZdF ?_;refine Zg ?_;refine ZL ?_;refine Zdi ?_;refine Z0 ?_;refine Zah ?_;refine ZdD ?_;refine Zb ?_
   refine ZeU ?_
   exact zm5 L 900 (r:=StO b S.R.length m s t es) (rs:=[.cell 4 91, .tmp 5]) rfl (fun _ _ h => h) Since.refl rfl rfl (fun H hle => ⟨_, qg rfl, rfl, _, rfl, hx.le hle⟩)
 ·rw [if_neg hr0] at hk
  subst hk
  cases hgk:zia k es with
  | none =>
   rw [hgk] at hg
   rw [hat, ← hg]
   have q1:(zia k es).elim nilSet vcE = nilSet:=by rw [hgk]; rfl
   have q2:(zia k es).isSome = false:=by rw [hgk]; rfl
   refine ZcR ?_;refine qy (zcj L 900 (Φ:=fun H => H b = some (.cells (stc S.R.length m s t).toArray tyS)) (c:=.bool false) rfl rfl (zn rfl) rfl rfl rfl rfl rfl zmw (fun u H hH hle hb => none_ret hn hb hH)) ?_;refine ZO ?_;refine Zs ?_;refine ZbW ?_;refine Zbb ?_;refine ZaP ?_;refine Za ?_;refine qy (zgi (q:=901) (vc:=vcE) k mpS kyS zrS rfl rfl rfl rfl rfl q1 q2) ?_;refine ZbH ?_;refine ZL ?_;refine Zp ?_;refine Zt ?_;refine Z8 ?_;refine ZbK ?_;refine ZaD ?_
   refine ZeU ?_
   exact zm5 L 900 (r:=StO b S.R.length m s t es) (rs:=[.cell 4 91, .tmp 5]) rfl (fun _ _ h => h) Since.refl rfl rfl (fun H hle => ⟨_, qg rfl, rfl, _, rfl, SetV.nil⟩)
  | some x =>
   obtain ⟨l, sv⟩:=x
   rw [hgk] at hg
   rw [hat, ← hg]
   have hx:SetV l sv B:=hes _ (zn8 hgk)
   obtain ⟨f1, p1, f2, p2, rfl, hpl⟩:=hx.shape
   have q1:(zia k es).elim nilSet vcE = .agg #[f1, .pointer p1, f2, .pointer p2]:=by rw [hgk]; rfl
   have q2:(zia k es).isSome = true:=by rw [hgk]; rfl
   refine ZcR ?_;refine qy (zcj L 900 (Φ:=fun H => H b = some (.cells (stc S.R.length m s t).toArray tyS)) (c:=.bool false) rfl rfl (zn rfl) rfl rfl rfl rfl rfl zmw (fun u H hH hle hb => none_ret hn hb hH)) ?_;refine ZO ?_;refine Zs ?_;refine ZbW ?_;refine Zbb ?_;refine ZaP ?_;refine Za ?_;refine qy (zgi (q:=901) (vc:=vcE) k mpS kyS zrS rfl rfl rfl rfl rfl q1 q2) ?_;refine ZdF ?_;refine Zg ?_;refine ZL ?_;refine Zdi ?_;refine Z0 ?_;refine Zah ?_;refine ZdD ?_;refine Zb ?_
   refine ZeU ?_
   exact zm5 L 900 (r:=StO b S.R.length m s t es) (rs:=[.cell 4 91, .tmp 5]) rfl (fun _ _ h => h) Since.refl rfl rfl (fun H hle => ⟨_, qg rfl, rfl, _, rfl, hx.le hle⟩)
end Go.V.L10
set_option maxRecDepth 20000
namespace Go.V.L11
open Go.Proofs Go.RowKit Go.V Go.V.L4
theorem _root_.Go.V.Ze9 {A B:Prop} (h:B) (t:Wr B → A:=by intro h; refine zd (q6 L (qw rfl (List.Mem.head _)) rfl rfl rfl rfl) rfl ?_;exact h.h):A:=t ⟨h⟩
theorem zwr (w:World):(zeroValue z8r).run Tryz.prog w = .ok (.agg #[.int .i64 0, .int .i64 0]) w:=L10.zr_run L rfl w
attribute [local irreducible] V N X VO Par XP StepOK Has Ret RetL RetO RetT zbd RetX RetY Pan Src
theorem zm3 {a e:Int} {w:World} {B:Heap} (hB:B.Le (hp w)):Ret Tryz.prog 71 [wrV a e] w B (fun v _ => v = .tuple #[.int .i64 a, .int .i64 e]):=by
 refine qu Tryz.func71 rfl Tryz.ntmps71 (Nat.le_of_ble_eq_true rfl) hB ?_
 refine Zar ?_;refine Zb3 ?_;refine z7 (zu7 rfl rfl rfl (by kernel_rfl)) rfl ?_;refine Ze5 ?_;refine Zd ?_
 refine zey 4 rfl fun b4 _ => ?_
 refine Z4 ?_;refine Zt ?_;refine ZeR ?_;refine ZbQ ?_;refine Ze9 ?_;refine ZbQ ?_;refine Ze9 ?_;refine ZbB ?_
 refine qt L (rs:=[.tmp 2, .tmp 3]) rfl (fun _ _ h => h) Since.refl fun u H hH hle => ?_
 rfl
theorem zsf {w:World} {B:Heap} (hB:B.Le (hp w)):Ret Tryz.prog 71 [.nilIface] w B (fun v _ => v = .tuple #[.int .i64 0, .int .i64 0]):=by
 refine qu Tryz.func71 rfl Tryz.ntmps71 (Nat.le_of_ble_eq_true rfl) hB ?_
 refine Zar ?_;refine Zb3 ?_;refine z7 (zu8 rfl rfl rfl (by kernel_rfl) zwr) rfl ?_;refine Ze5 ?_;refine ZT ?_;refine ZQ ?_;refine Zr ?_;refine Z5 ?_
 refine qt L (rs:=[.tmp 2, .tmp 3]) rfl (fun _ _ h => h) Since.refl fun u H hH hle => ?_
 rfl
end Go.V.L11
set_option maxRecDepth 20000
namespace Go.V.L11
open Go.Proofs Go.RowKit Go.V Go.V.L4
theorem _root_.Go.V.ZfI {A B:Prop} (h:B) (t:Wr B → A:=by intro h; refine Zx ?_;refine qy (ql L (q:=901) rfl rfl rfl rfl rfl rfl) ?_;exact h.h):A:=t ⟨h⟩
abbrev znd:TypeId:=3
abbrev zgv:TypeId:=43
abbrev tyPS:TypeId:=71
abbrev G3 (ba be bs:Nat) (x y z:Value):GR:=zdz (zai ba [x] znd) (zdz (zai be [y] zgv) (zai bs [z] tyPS))
attribute [local irreducible] V N X VO Par XP StepOK Has Ret RetL RetO RetT zbd RetX RetY Pan zjl Src
theorem zyi {ba be bs:Nat} {x y z v:Value} {a e:Int} {m m':FrameMode} (hm:RecM m m' v) (hcv:∀ (u:World) (H:Heap), H.Le (hp u) → Ret Tryz.prog 71 [v] u H (fun r _ => r = .tuple #[.int .i64 a, .int .i64 e])) {w:World} {B:Heap} {C:Nat → Prop} (hB:B.Le (hp w)) (hr:(G3 ba be bs x y z).P B w C) (hC:∀ k, C k → k < w.heap.size ∧ B k = none) :
  zjl Tryz.prog 70 [zam ba, zam be, zam bs] w B C m m' (G3 ba be bs (.int .i64 a) (.int .i64 e) (if e = 0 then z else .pointer none)):=by
 refine zub 900 (G3 ba be bs x y z) _ hm Tryz.func70 rfl Tryz.ntmps70 (Nat.le_of_ble_eq_true rfl) rfl rfl rfl rfl hB hr hC ?_
 refine zna (r1:=zaj ba [x] znd) (r2:=(zdz (zai be [y] zgv) (zai bs [z] tyPS)).res) 900 901 rfl (zag _) ?_
 refine zna (r1:=zaj be [y] zgv) (r2:=zaj bs [z] tyPS) 901 902 rfl (zcm _ _ _) ?_
 refine z7 (q0 L rfl rfl (zn rfl) rfl rfl rfl (fun u H hH _ _ => hcv u H hH)) rfl ?_;refine ZcF ?_;refine ym (yf L (q:=900) (cs':=[.int .i64 a]) rfl rfl rfl rfl rfl rfl rfl rfl rfl) ?_;refine ym (yf L (q:=901) (cs':=[.int .i64 e]) rfl rfl rfl rfl rfl rfl rfl rfl rfl) ?_
 refine zk ?_
 refine zm ?_
 by_cases he:e = 0
 ·rw [if_pos he]
  refine zj ?_;refine ZfI ?_;refine Zae ?_;refine Zbc ?_
  refine zej 901 902 rfl rfl (zcm _ _ _) ?_
  refine zej 900 901 rfl rfl (zag (zdz (zai be [.int .i64 e] zgv) (zai bs [z] tyPS))) ?_
  exact zox L 900 (r:=G3 ba be bs (.int .i64 a) (.int .i64 e) z) rfl rfl rfl Since.refl
 ·rw [if_neg he]
  refine zj ?_;refine ZfI ?_;refine Zbe ?_;refine Z9 ?_;refine Zy ?_;refine ym (yf L (q:=902) (cs':=[.pointer none]) rfl rfl rfl rfl rfl rfl rfl rfl rfl) ?_;refine zk ?_
  refine zej 901 902 rfl rfl (zcm _ _ _) ?_
  refine zej 900 901 rfl rfl (zag (zdz (zai be [.int .i64 e] zgv) (zai bs [.pointer none] tyPS))) ?_
  exact zox L 900 (r:=G3 ba be bs (.int .i64 a) (.int .i64 e) (.pointer none)) rfl rfl rfl Since.refl
end Go.V.L11
set_option maxRecDepth 20000
namespace Go.V.L11
open Go.Proofs Go.RowKit Go.V Go.V.L4
theorem zfg {F:Fr} {B:Heap} {n:Nat} {O:Boxes} {κ:Kap} {pv:Value} {Q:Exit → Act → World → Prop} (l:List (Nat × Kn)) (hl:LiveOK l κ) (h:XP F B n O (ofL l) pv Q):XP F B n O κ pv Q:=fun a u hh => h a u (hh.live hl)
attribute [local irreducible] V N X VO Par XP LV StepOK Has Ret RetL RetO RetT zbd RetX RetY Pan zjl Src
abbrev FLd (w:World) (ba be bs:Nat):Fr:=⟨w, none, [.u (dfd 70 [zam ba, zam be, zam bs])], noL⟩
abbrev KLd (ba be bs:Nat) (x y z:Value):List (Nat × Kn):=[(2, .is (zam bs)), (3, .is (zam ba)), (4, .is (zam be)), (910, .own (zaj bs [z] tyPS)), (911, .own (zaj ba [x] znd)), (912, .own (zaj be [y] zgv))]
theorem zjx {w:World} {B0 B:Heap} {n:Nat} {O:Boxes} {ba be bs:Nat} {x y z:Value} {a e:Int} (he:e ≠ 0) (hs:Since (FLd w ba be bs) B0 B) :
  XP (FLd w ba be bs) B n O (ofL (KLd ba be bs x y z)) (wrV a e) (bodyPostM Fence.wide 0 Tryz.prog Tryz.f26 (zff w B0 noL fun v _ _ => v = .tuple #[.pointer none, .int .i64 a, .int .i64 e])):=by
 refine zjm 912 910 rfl rfl (zcm _ _ _) ?_
 refine zjm 911 912 rfl rfl (zag (zdz (zai be [y] zgv) (zai bs [z] tyPS))) ?_
 refine zvx L 911 (r:=G3 ba be bs x y z) (r':=G3 ba be bs (.int .i64 a) (.int .i64 e) (if e = 0 then z else .pointer none)) rfl rfl rfl (fun u H C hH _ hr hC => zyi (RecM.caught _) (fun u H hH => zm3 hH) hH hr hC) ?_ (fun _ _ h => h)
 rw [if_neg he]
 refine ziq (r1:=zaj ba [.int .i64 a] znd) (r2:=(zdz (zai be [.int .i64 e] zgv) (zai bs [.pointer none] tyPS)).res) 911 912 rfl (zag _) ?_
 refine ziq (r1:=zaj be [.int .i64 e] zgv) (r2:=zaj bs [.pointer none] tyPS) 912 910 rfl (zcm _ _ _) ?_
 refine zcl 3 911 rfl rfl ?_
 refine zcl 4 912 rfl rfl ?_
 refine zcl 2 910 rfl rfl ?_
 exact zye L (rs:=[.cell 2 tyPS, .cell 3 znd, .cell 4 zgv]) rfl hs (fun u H _ _ => za1 (qg rfl) rfl (za1 (qg rfl) rfl (za1 (qg rfl) rfl rfl)))
end Go.V.L11
set_option maxRecDepth 20000
namespace Go.V
open Go.RowKit
def z2u (ops:Array Oper) (K:Nat):Bool :=
 let b:=Region.before ops
 (List.range ops.size).all fun i => Nat.ble i K || (b.getD i 0).testBit K
section sound
variable {P:Program} {St:Kap → Act → World → Prop} {ops:Array Oper} {ex:Exs}
def zud (P:Program) (St:Kap → Act → World → Prop) (ops:Array Oper) (ex:Exs) (r:Option Nat) (Q:Exit → Act → World → Prop) (K:Nat) (o:Oper) (κ:Kap):Prop :=
 ∀ κ' a u, (∀ t ∈ lks ops ex o, κ' t = κ t) → St κ' a u → ∀ Kk, wpOpIn (FW r) 0 P ops Q K Kk a u
theorem zmb {r:Option Nat} {Q:Exit → Act → World → Prop} {K:Nat} {o:Oper}:∀ (l:List Nat) {κ:Kap}, (∀ j ∈ l, ∀ x, ops[j]? = some x → zqf (tch ex x) (lks ops ex o) = true) →
  ParI P St ops ex (zud P St ops ex r Q K o) l κ → zud P St ops ex r Q K o κ
 | [], κ, _, h => h
 | j :: l, κ, hap, ⟨x, us, hx, hd, sx, rest⟩ => fun κ' a u hl hh => by
  have h2:=zfk (hap j (List.mem_cons_self ..) x hx)
  exact zmb l (fun m hm => hap m (List.mem_cons_of_mem _ hm)) rest κ' a u (fun t ht => (hl t ht).trans (zbq us κ t fun p hp e => h2 p.1 (hd p hp) (e ▸ ht)).symm) hh
theorem zvz {r:Option Nat} {Q:Exit → Act → World → Prop} (hsep:z3f ops ex = true) {K:Nat} {o:Oper} (hw:z2u ops K = true) (hoK:ops[K]? = some o) (hK:K < ops.size):∀ (fuel:Nat) (listed:Array Bool) (l:List Nat) (κ:Kap) (a:Act) (u:World),
  l.length < fuel → l.Pairwise (· < ·) → listed.size = ops.size → (∀ i, (i ∈ l ∨ (K ≤ i ∧ i < ops.size)) ↔ i < ops.size ∧ listed.getD i true = false) → zso ops listed → (∀ i ∈ l, i < K) →
  ParI P St ops ex (zud P St ops ex r Q K o) l κ → St κ a u → wpAnyIn (FW r) 0 P .any ops Q fuel listed a u:=by
 intro fuel
 induction fuel with
 | zero => intro listed l κ a u hlen; omega
 | succ fuel ih =>
  intro listed l κ a u hlen hsort hsz hmem hcl hlK hp hh
  have hsep':=hsep
  simp only [z3f, List.all_eq_true, Bool.and_eq_true] at hsep'
  have hedge:∀ i (hi:i < ops.size), ∀ e ∈ (ops[i]'hi).after, Region.binds .any e = true → e.on < i:=fun i hi e he hb => by
   have h1:=(hsep' i (by simpa using hi)).1
   rw [Array.getD_eq_getD_getElem?, Array.getElem?_eq_getElem hi, Option.getD_some, Array.all_eq_true'] at h1
   have:=h1 e he
   simp [hb] at this
   exact this
  have hlow:∀ j, j < ops.size → listed.getD j true = false → (∀ i ∈ l, j ≤ i) → j ≤ K → j ∈ Region.ready .any ops listed:=fun j hj hjl hmin hjK => by
   refine mem_ready.2 ⟨hjl, ops[j], by simp [hj], fun e he hb => ?_⟩
   have hlt:=hedge j hj e he hb
   cases hle:listed.getD e.on true
   ·rcases (hmem e.on).2 ⟨by omega, hle⟩ with h | h
    ·have:=hmin _ h; omega
    ·omega
   ·rw [Array.getD_eq_getD_getElem?, Array.getElem?_eq_getElem (by omega)] at hle ⊢
    simpa using hle
  have hKl:=((hmem K).1 (.inr ⟨Nat.le_refl _, hK⟩)).2
  constructor
  ·intro hr
   exfalso
   have:∃ j, j ∈ Region.ready .any ops listed:=by
    cases l with
    | nil => exact ⟨K, hlow K hK hKl (fun i hi => by cases hi) (Nat.le_refl _)⟩
    | cons j0 l0 =>
     obtain ⟨h1, h2⟩:=(hmem j0).1 (.inl (List.mem_cons_self ..))
     refine ⟨j0, hlow j0 h1 h2 (fun i hi => ?_) (Nat.le_of_lt (hlK j0 (List.mem_cons_self ..)))⟩
     rcases List.mem_cons.1 hi with rfl | hi
     ·exact Nat.le_refl _
     ·exact Nat.le_of_lt (List.rel_of_pairwise_cons hsort hi)
   obtain ⟨j, hj⟩:=this
   rw [hr] at hj
   cases hj
  ·intro i hi
   obtain ⟨hli, oi, ho, hall⟩:=mem_ready.1 hi
   have hisz:i < ops.size:=by
    rcases Nat.lt_or_ge i ops.size with h | h
    ·exact h
    ·rw [Array.getElem?_eq_none h] at ho; cases ho
   have hio:ops[i] = oi:=by rw [Array.getElem?_eq_getElem hisz] at ho; exact Option.some.inj ho
   have hwait:∀ j, j < ops.size → ((Region.before ops).getD i 0).testBit j = true → listed.getD j true = false → False:=fun j hjs h2 hjl => by
    have:=zh3 hsz hcl i hisz (fun e he hb => by rw [hio] at he; exact hall e he hb) j h2
    rw [Array.getD_eq_getD_getElem?, Array.getElem?_eq_getElem (by omega)] at this hjl
    simp at this hjl
    rw [this] at hjl; cases hjl
   have hapart:∀ j ∈ l, j < i → ∀ x y, ops[j]? = some x → ops[i]? = some y → zjb ops ex x y = true:=fun j hj hji x y hx hy => by
    obtain ⟨hjs, hjl⟩:=(hmem j).1 (.inl hj)
    have h2:=(hsep' i (by simpa using hisz)).2 j (by simpa using hji)
    rw [Bool.or_eq_true] at h2
    rcases h2 with h2 | h2
    ·exact (hwait j hjs h2 hjl).elim
    ·rw [Array.getD_eq_getD_getElem?, Array.getD_eq_getD_getElem?, hx, hy] at h2
     exact h2
   rcases (hmem i).2 ⟨hisz, hli⟩ with hil | ⟨hKi, _⟩
   ·obtain ⟨l1, l3, rfl⟩:=List.append_of_mem hil
    have hap:∀ j ∈ l1, ∀ x y, ops[j]? = some x → ops[i]? = some y → zjb ops ex x y = true:=fun j hj =>
     hapart j (List.mem_append_left _ hj) ((List.pairwise_append.1 hsort).2.2 j hj i (List.mem_cons_self ..))
    obtain ⟨o', us, ho', hd, sx, rest⟩:=ParI.front l1 hap hp
    obtain rfl:oi = o':=by rw [ho] at ho'; exact Option.some.inj ho'
    have hst:=sx κ a u (fun _ _ => rfl) hh
    refine After.wpOpIn ho ?_
    refine After.mono (fun a' u' hh' => ?_) hst
    have hli':i < listed.size:=by omega
    have hiK:=hlK i hil
    refine ih (listed.setIfInBounds i true) (l1 ++ l3) _ a' u' (by simp at hlen ⊢; omega) ?_ (by simpa using hsz) ?_ ?_ (fun j hj => hlK j (by rcases List.mem_append.1 hj with h | h; exact List.mem_append_left _ h; exact List.mem_append_right _ (List.mem_cons_of_mem _ h))) rest hh'
    ·rw [List.pairwise_append] at hsort ⊢
     exact ⟨hsort.1, (List.pairwise_cons.1 hsort.2.1).2, fun x hx y hy => hsort.2.2 x hx y (List.mem_cons_of_mem _ hy)⟩
    ·intro j
     rw [zj2 true hli']
     have hnd:i ∉ l1 ++ l3:=by
      rw [List.pairwise_append] at hsort
      intro hm
      rcases List.mem_append.1 hm with hm | hm
      ·have:=hsort.2.2 i hm i (List.mem_cons_self ..); omega
      ·have:=(List.pairwise_cons.1 hsort.2.1).1 i hm; omega
     by_cases hij:i = j
     ·subst hij; simp [hnd]; omega
     ·rw [if_neg hij, ← hmem j]
      simp only [List.mem_append, List.mem_cons]
      constructor
      ·rintro ((h | h) | h); exact .inl (.inl h); exact .inl (.inr (.inr h)); exact .inr h
      ·rintro ((h | h | h) | h); exact .inl (.inl h); exact absurd h.symm hij; exact .inl (.inr h); exact .inr h
    ·intro k hk hkl e he hb
     rw [zj2 _ hli'] at hkl ⊢
     by_cases hie:i = e.on
     ·rw [if_pos hie]
     ·rw [if_neg hie]
      by_cases hik:i = k
      ·subst hik; rw [hio] at he; exact hall e he hb
      ·rw [if_neg hik] at hkl; exact hcl k hk hkl e he hb
   ·by_cases hKe:i = K
    ·subst hKe
     obtain rfl:oi = o:=by rw [ho] at hoK; exact Option.some.inj hoK
     refine zmb l (fun j hj x hx => ?_) hp κ a u (fun _ _ => rfl) hh _
     have:=hapart j hj (hlK j hj) x oi hx ho
     simp only [zjb, Bool.and_eq_true] at this
     exact this.1
    ·exfalso
     simp only [z2u, List.all_eq_true, Bool.or_eq_true] at hw
     rcases hw i (by simpa using hisz) with h | h
     ·have:=Nat.le_of_ble_eq_true h; omega
     ·exact hwait K hK h hKl
end sound
section code
variable {P:Program} {F:Fr} {B:Heap} {n:Nat} {O:Boxes} {κ:Kap} {Q:Exit → Act → World → Prop} {ops:Array Oper} {ex:Exs} {os:List Oper}
def z41 (P:Program) (F:Fr) (B:Heap) (n:Nat) (O:Boxes) (ops:Array Oper) (ex:Exs) (K:Nat) (o:Oper) (κ:Kap) (os:List Oper) (Q:Exit → Act → World → Prop):Prop :=
 z42 P (Has F B O n) ops ex (zud P (Has F B O n) ops ex F.r Q K o) os κ
theorem zm6 {id:Nat} {l:List Oper} {o:Oper} (K:Nat) (ex:Exs) (hm:P.follows .mixedOrders = true) (ho:l[K]? = some o) (hs:(z3f l.toArray ex && z2u l.toArray K) = true)
  (h:z41 P F B n O l.toArray ex K o κ (l.take K) Q):V P F B n O κ (.region id l.toArray true) Q:=fun a u hh => by
 rw [Bool.and_eq_true] at hs
 have hK:K < l.length:=by
  rcases Nat.lt_or_ge K l.length with h | h
  ·exact h
  ·rw [List.getElem?_eq_none h] at ho; cases ho
 refine wpIn_region_any hm (zvz (St:=Has F B O n) (ex:=ex) (o:=o) hs.1 hs.2 (by simpa using ho) (by simpa using hK) l.toArray.size _ (List.range' 0 K) κ a _ (by simpa using hK) List.pairwise_lt_range' (by simp) ?_ ?_ (fun i hi => by have:=List.mem_range'_1.1 hi; omega) ?_ hh.drew)
 ·intro i
  constructor
  ·rintro (h | h)
   ·have:=List.mem_range'_1.1 h
    refine ⟨by simp; omega, ?_⟩
    have:i < l.length:=by omega
    simp [this]
   ·have:i < l.length:=by simpa using h.2
    refine ⟨h.2, ?_⟩
    simp [this]
  ·rintro ⟨h, _⟩
   by_cases hi:i < K
   ·exact .inl (List.mem_range'_1.2 ⟨Nat.zero_le _, by omega⟩)
   ·exact .inr ⟨by omega, h⟩
 ·intro k hk hkl; simp at hk; simp [hk] at hkl
 ·refine zml K 0 (by simp; omega) ?_
  rw [List.drop_zero]
  exact h
theorem zch {K:Nat} {ok o:Oper} {d:Nat} {k:Kn} (hs:StepOK P F B n ops O κ o d k) (hd:vd o = some d) (h:z41 P F B n O ops ex K ok (upd κ d k) os Q):z41 P F B n O ops ex K ok κ (o :: os) Q :=
 ⟨[(d, k)], fun p hp => by simp at hp; subst hp; simp [tch, hd], hs.stepG, h⟩
theorem ztb {K:Nat} {o:Oper} (ll:List (Nat × Kn)) (hin:(ll.all fun p => (lks ops ex o).contains p.1) = true) (hl:LiveOK ll κ) (h:N F B n O (ofL ll) (QX P F ops K Q)):z41 P F B n O ops ex K o κ [] Q:=fun κ' a u hag hh Kk => by
 have key:∀ l:List (Nat × Kn), (l.all fun p => (lks ops ex o).contains p.1) = true → LiveOK l κ → LiveOK l κ':=by
  intro l
  induction l with
  | nil => intro _ _; trivial
  | cons p l ih =>
   intro h1 h2
   rw [List.all_cons, Bool.and_eq_true] at h1
   exact ⟨(hag p.1 (by simpa using h1.1)).trans h2.1, ih h1.2 h2.2⟩
 exact h a u (hh.live (key ll hin hl)) Kk
end code
end Go.V
set_option maxRecDepth 20000
namespace Go.V.L11
open Go.Proofs Go.RowKit Go.V Go.V.L4
theorem _root_.Go.V.Zfo {A B:Prop} (h:B) (t:Wr B → A:=by intro h; refine z7 (y8 (cs:=[_, _]) rfl rfl z73 rfl rfl) rfl ?_;exact h.h):A:=t ⟨h⟩
theorem _root_.Go.V.ZeA {A B:Prop} (h:B) (t:Wr B → A:=by intro h; refine zch (zh rfl rfl rfl) rfl ?_;exact h.h):A:=t ⟨h⟩
theorem _root_.Go.V.Zfp {A B:Prop} (h:B) (t:Wr B → A:=by intro h; refine qy (ql L (q:=921) rfl rfl rfl rfl rfl rfl) ?_;exact h.h):A:=t ⟨h⟩
theorem _root_.Go.V.Zfq {A B:Prop} (h:B) (t:Wr B → A:=by intro h; refine zzi (id:=1) 1 rfl ?_;refine ZaQ ?_;exact h.h):A:=t ⟨h⟩
theorem _root_.Go.V.ZdG {A B:Prop} (h:B) (t:Wr B → A:=by intro h; refine ZaB ?_;refine Za0 ?_;exact h.h):A:=t ⟨h⟩
theorem zwo {sb rb:Nat} {bs:List Nat} {fu:Bool} {sv:Value} {fr:Int} {R:Rd} (hb:∀ b ∈ bs, b ≤ 255) (hl:bs.length ≤ 1099511627776) (hat:R.at_ ≤ bs.length) {w:World} {B:Heap} {C:Nat → Prop} (hB:B.Le (hp w)) (hs:BsV bs fu sv B) (hr:(za3 sb rb sv fr R).P B w C) (hC:∀ k, C k → k < w.heap.size ∧ B k = none) :
  RetX Tryz.prog 76 [zam rb] w B C (za3 sb rb sv fr (zjt bs R).2) (.int .u64 ((zjt bs R).1:Nat)) :=
 RetL.mono (RetY.conv (RetY.frame (zoi hr) hC fun C1 h1 hC1 => (zrp hb hl hat hB hs h1 hC1).toY) fun _ _ _ h => zoi h:RetY _ _ _ _ _ _ (za3 sb rb sv fr (zjt bs R).2) fun x _ => x = .int .u64 ((zjt bs R).1:Nat)) fun _ _ _ _ h => h
attribute [local irreducible] V N X VO Par XP LV StepOK Has Ret RetL RetO RetT zbd RetX RetY Pan zjl Src
theorem zyg {bs:List Nat} {R1:Rd} {fu:Bool} (hb:∀ b ∈ bs, b ≤ 255) (hz:bs.length ≤ 1099511627776) (hz1:zbp bs 1024 ⟨0, 0, 0⟩ = (0, R1)) (h1:R1.err = 0) {v:Value} {w:World} {B:Heap} (hB:B.Le (hp w)) (hv:BsV bs fu v B) :
  Ret Tryz.prog 26 [v] w B (fun r _ => r = .tuple #[.pointer none, .int .i64 0, .int .i64 5]):=by
 obtain ⟨p0, c0, rfl⟩:=zbt hv
 refine qu Tryz.func26 rfl Tryz.ntmps26 (Nat.le_of_ble_eq_true rfl) hB ?_
 refine ZaC ?_;refine ZE ?_;refine Zab ?_
 refine zax 2 910 rfl fun bs0 => ?_
 refine zax 3 911 rfl fun ba => ?_
 refine zax 4 912 rfl fun be => ?_
 refine Zfq ?_;refine zk ?_;(refine zk7 (K:=1) rfl rfl rfl rfl ?_;refine zk ?_); refine zm ?_;refine zj ?_
 refine Z4 ?_;refine z7 (zbz L rfl rfl (zn rfl) rfl rfl rfl (fun u H hH hle _ => zqe hz hH (hv.le hle))) rfl ?_;refine zez 15 922 rfl fun rb => ?_;refine zka (X:=Value) 922 (r:=fun sv => (GRd rb sv ⟨0, 0, 0⟩).res) (φ:=fun sv H => BsV bs false sv H) (hφ:=fun _ _ _ h hle => h.le hle) rfl fun sv H1 hs1 hsv => ?_;refine Zfo ?_;refine ZcB ?_;refine qe (yh (.inr rfl) rfl rfl rfl rfl) ?_;refine Zj ?_
 refine zax 5 921 rfl fun sb => ?_
 refine zbw 921 922 rfl rfl (zag (GRd rb sv ⟨0, 0, 0⟩)) ?_
 refine Zs ?_;refine qe (yc L 921 (za3 sb rb sv 0 R1) (.int .i64 0) (r:=za3 sb rb sv 0 ⟨0, 0, 0⟩) rfl rfl rfl rfl rfl (fun u H C hH hle hr hC => by have h:=size_ret (lim:=1024) hb hz (Nat.zero_le _) (by omega) (by rw [hz1]; exact h1) hH (hsv.le hle) hr hC; rw [hz1] at h; exact h)) ?_;refine Zd ?_
 refine zb8 (id:=4) 3 rfl ?_;refine Zc ?_;refine ZS ?_;refine zk ?_;refine zcw (r:=(za3 sb rb sv 0 R1).res) (K:=3) L 921 rfl rfl rfl rfl rfl (fun u H C hH hle hr hC => zju hH hr hC) (fun _ _ _ _ h => h) ?_
 repeat (first | refine zc8 ?_ | refine zca ?_)
 refine zfg (KLd ba be bs0 _ _ _) ⟨rfl, rfl, rfl, rfl, rfl, rfl, trivial⟩ ?_
 exact zjx (by decide) hs1
set_option maxRecDepth 20000 in
theorem zvb {bs:List Nat} {n1 x:Int} {st:Nat} {R1 R2 R3:Rd} {fu:Bool} (hb:∀ b ∈ bs, b ≤ 255) (hz:bs.length ≤ 1099511627776) (hz1:zbp bs 1024 ⟨0, 0, 0⟩ = (n1, R1)) (h1:R1.err = 0) (hn1:0 < n1) (ha1:R1.at_ ≤ bs.length)
  (hz2:zjt bs R1 = (st, R2)) (h2:R2.err = 0) (hst:0 < st) (hst2:st < 18446744073709551616) (ha2:R2.at_ ≤ bs.length) (hz3:zbp bs 4096 R2 = (x, R3)) (h3:R3.err ≠ 0) {v:Value} {w:World} {B:Heap} (hB:B.Le (hp w)) (hv:BsV bs fu v B) :
  Ret Tryz.prog 26 [v] w B (fun r _ => r = .tuple #[.pointer none, .int .i64 R3.bad, .int .i64 R3.err]):=by
 obtain ⟨p0, c0, rfl⟩:=zbt hv
 refine qu Tryz.func26 rfl Tryz.ntmps26 (Nat.le_of_ble_eq_true rfl) hB ?_
 refine ZaC ?_;refine ZE ?_;refine Zab ?_
 refine zax 2 910 rfl fun bs0 => ?_
 refine zax 3 911 rfl fun ba => ?_
 refine zax 4 912 rfl fun be => ?_
 refine Zfq ?_;refine zk ?_;(refine zk7 (K:=1) rfl rfl rfl rfl ?_;refine zk ?_); refine zm ?_;refine zj ?_
 refine Z4 ?_;refine z7 (zbz L rfl rfl (zn rfl) rfl rfl rfl (fun u H hH hle _ => zqe hz hH (hv.le hle))) rfl ?_;refine zez 15 922 rfl fun rb => ?_;refine zka (X:=Value) 922 (r:=fun sv => (GRd rb sv ⟨0, 0, 0⟩).res) (φ:=fun sv H => BsV bs false sv H) (hφ:=fun _ _ _ h hle => h.le hle) rfl fun sv H1 hs1 hsv => ?_;refine Zfo ?_;refine ZcB ?_;refine qe (yh (.inr rfl) rfl rfl rfl rfl) ?_;refine Zj ?_
 refine zax 5 921 rfl fun sb => ?_
 refine zbw 921 922 rfl rfl (zag (GRd rb sv ⟨0, 0, 0⟩)) ?_
 refine Zs ?_;refine qe (yc L 921 (za3 sb rb sv 0 R1) (.int .i64 n1) (r:=za3 sb rb sv 0 ⟨0, 0, 0⟩) rfl rfl rfl rfl rfl (fun u H C hH hle hr hC => by have h:=size_ret (lim:=1024) hb hz (Nat.zero_le _) (by omega) (by rw [hz1]; exact h1) hH (hsv.le hle) hr hC; rw [hz1] at h; exact h)) ?_;refine Zd ?_;refine ZcT ?_;refine Z2 ?_;refine qe (zau L 921 (za3 sb rb sv 0 R1) (r:=za3 sb rb sv 0 R1) rfl rfl rfl rfl rfl (fun u H C hH _ hr hC => zd4 hH hr hC)) ?_;refine Zj ?_;refine Zn ?_;refine ZcZ ?_;refine Zd ?_;refine Z8 ?_;refine Zab ?_;refine Z0 ?_;refine ZbK ?_;refine ZE ?_;refine Zq ?_;refine ZdG ?_;refine Z3 ?_;refine Zc ?_;refine Zcg ?_
 refine zao (fun i:Nat => [(2, .is (zam bs0)), (3, .is (zam ba)), (4, .is (zam be)), (910, .own (zaj bs0 [.pointer none] tyPS)), (911, .own (zaj ba [.int .i64 0] znd)), (912, .own (zaj be [.int .i64 0] zgv)), (5, .is (zam sb)), (9, .own (Cell [.slice none 0 0, .int .i64 0] 112)), (10, .is (.int .u64 0)), (25, .is (.int .i64 n1)), (26, .is (.int .i64 i)), (921, .own (za3 sb rb sv 0 R1).res)]) (fun i => i = 0) (fun i => 1 - i) 0 rfl ⟨rfl, rfl, rfl, rfl, rfl, rfl, rfl, rfl, rfl, rfl, rfl, rfl, trivial⟩ ?_
 rintro i rfl
 refine zc7 (r1:=zaj sb [zam rb, .int .i64 0] zvt) (r2:=(GRd rb sv R1).res) 921 922 rfl (zag _) ?_
 have hws:IntKind.u64.wrap (18446744073709551615 - 0) = 18446744073709551615:=by decide
 have hwa:IntKind.u64.wrap (0 + (st:Int)) = (st:Int):=(zal (by omega) (by omega)).trans (by omega)
 refine zj ?_;refine ZX ?_;refine Za2 ?_;refine ZM ?_;refine Zc ?_;refine ZK ?_;refine Zfp ?_;refine zgc 921 922 rfl rfl (zag (GRd rb sv R1)) ?_;refine ZaQ ?_;refine qe (yc L 921 (za3 sb rb sv R1.at_ R2) (.int .u64 st) (r:=za3 sb rb sv 0 R1) rfl rfl rfl rfl rfl (fun u H C hH hle hr hC => zgz (fst:=[zam rb]) (cap:=[]) rfl h2 hH hr hC (fun u3 H3 C3 hH3 hle3 hr3 hC3 => by have h:=zwo hb hz ha1 hH3 ((hsv.le hle).le hle3) hr3 hC3; rw [hz2] at h; exact h))) ?_;refine Zd ?_;refine ZD ?_;refine Zc ?_;refine Z2 ?_;refine ZF ?_;refine ZaE ?_;refine Zco ?_;refine Ze ?_;refine qe (zau L 921 (za3 sb rb sv R1.at_ R2) (r:=za3 sb rb sv R1.at_ R2) rfl rfl rfl rfl rfl (fun u H C hH _ hr hC => zd4 hH hr hC)) ?_;refine Zj ?_;refine Zbx ?_;refine Zc ?_;refine Zak ?_;refine Zd ?_
 refine zm6 (id:=14) 3 [(52, [921]), (200052, [2, 3, 4, 910, 911, 912])] mixed rfl (by kernel_rfl) ?_
 refine zch (q8 L (vs:=[_, _]) (qg rfl) rfl rfl rfl rfl ⟨_, rfl⟩) rfl ?_
 refine ZeA ?_
 refine ZeA ?_
 refine ztb [(2, .is (zam bs0)), (3, .is (zam ba)), (4, .is (zam be)), (910, .own (zaj bs0 [.pointer none] tyPS)), (911, .own (zaj ba [.int .i64 0] znd)), (912, .own (zaj be [.int .i64 0] zgv)), (51, .is (zam sb)), (921, .own (za3 sb rb sv R1.at_ R2).res)] (by kernel_rfl) ⟨rfl, rfl, rfl, rfl, rfl, rfl, rfl, rfl, trivial⟩ ?_
 refine zcw (r:=(za3 sb rb sv R1.at_ R2).res) (K:=3) L 921 rfl rfl rfl rfl rfl (fun u H C hH hle hr hC => by have h:=zs8 (lim:=4096) hb hz ha2 (by omega) (by rw [hz3]; exact h3) hH (hsv.le hle) hr hC; rw [hz3] at h; exact h) (fun _ _ _ _ h => h) ?_
 repeat (first | refine zc8 ?_ | refine zca ?_)
 refine zfg (KLd ba be bs0 _ _ _) ⟨rfl, rfl, rfl, rfl, rfl, rfl, trivial⟩ ?_
 exact zjx h3 hs1
set_option maxRecDepth 20000 in
theorem zyf {bs:List Nat} {n1:Int} {R1 R2:Rd} {fu:Bool} (hb:∀ b ∈ bs, b ≤ 255) (hz:bs.length ≤ 1099511627776) (hz1:zbp bs 1024 ⟨0, 0, 0⟩ = (n1, R1)) (h1:R1.err = 0) (hn1:0 < n1) (ha1:R1.at_ ≤ bs.length)
  (hz2:zjt bs R1 = (0, R2)) (h2:R2.err = 0) {v:Value} {w:World} {B:Heap} (hB:B.Le (hp w)) (hv:BsV bs fu v B) :
  Ret Tryz.prog 26 [v] w B (fun r _ => r = .tuple #[.pointer none, .int .i64 R1.at_, .int .i64 5]):=by
 obtain ⟨p0, c0, rfl⟩:=zbt hv
 refine qu Tryz.func26 rfl Tryz.ntmps26 (Nat.le_of_ble_eq_true rfl) hB ?_
 refine ZaC ?_;refine ZE ?_;refine Zab ?_
 refine zax 2 910 rfl fun bs0 => ?_
 refine zax 3 911 rfl fun ba => ?_
 refine zax 4 912 rfl fun be => ?_
 refine Zfq ?_;refine zk ?_;(refine zk7 (K:=1) rfl rfl rfl rfl ?_;refine zk ?_); refine zm ?_;refine zj ?_
 refine Z4 ?_;refine z7 (zbz L rfl rfl (zn rfl) rfl rfl rfl (fun u H hH hle _ => zqe hz hH (hv.le hle))) rfl ?_;refine zez 15 922 rfl fun rb => ?_;refine zka (X:=Value) 922 (r:=fun sv => (GRd rb sv ⟨0, 0, 0⟩).res) (φ:=fun sv H => BsV bs false sv H) (hφ:=fun _ _ _ h hle => h.le hle) rfl fun sv H1 hs1 hsv => ?_;refine Zfo ?_;refine ZcB ?_;refine qe (yh (.inr rfl) rfl rfl rfl rfl) ?_;refine Zj ?_
 refine zax 5 921 rfl fun sb => ?_
 refine zbw 921 922 rfl rfl (zag (GRd rb sv ⟨0, 0, 0⟩)) ?_
 refine Zs ?_;refine qe (yc L 921 (za3 sb rb sv 0 R1) (.int .i64 n1) (r:=za3 sb rb sv 0 ⟨0, 0, 0⟩) rfl rfl rfl rfl rfl (fun u H C hH hle hr hC => by have h:=size_ret (lim:=1024) hb hz (Nat.zero_le _) (by omega) (by rw [hz1]; exact h1) hH (hsv.le hle) hr hC; rw [hz1] at h; exact h)) ?_;refine Zd ?_;refine ZcT ?_;refine Z2 ?_;refine qe (zau L 921 (za3 sb rb sv 0 R1) (r:=za3 sb rb sv 0 R1) rfl rfl rfl rfl rfl (fun u H C hH _ hr hC => zd4 hH hr hC)) ?_;refine Zj ?_;refine Zn ?_;refine ZcZ ?_;refine Zd ?_;refine Z8 ?_;refine Zab ?_;refine Z0 ?_;refine ZbK ?_;refine ZE ?_;refine Zq ?_;refine ZdG ?_;refine Z3 ?_;refine Zc ?_;refine Zcg ?_
 refine zao (fun i:Nat => [(2, .is (zam bs0)), (3, .is (zam ba)), (4, .is (zam be)), (910, .own (zaj bs0 [.pointer none] tyPS)), (911, .own (zaj ba [.int .i64 0] znd)), (912, .own (zaj be [.int .i64 0] zgv)), (5, .is (zam sb)), (10, .is (.int .u64 0)), (25, .is (.int .i64 n1)), (26, .is (.int .i64 i)), (921, .own (za3 sb rb sv 0 R1).res)]) (fun i => i = 0) (fun i => 1 - i) 0 rfl ⟨rfl, rfl, rfl, rfl, rfl, rfl, rfl, rfl, rfl, rfl, rfl, trivial⟩ ?_
 rintro i rfl
 refine zc7 (r1:=zaj sb [zam rb, .int .i64 0] zvt) (r2:=(GRd rb sv R1).res) 921 922 rfl (zag _) ?_
 refine zj ?_;refine ZX ?_;refine Za2 ?_;refine ZM ?_;refine Zc ?_;refine ZK ?_;refine Zfp ?_;refine zgc 921 922 rfl rfl (zag (GRd rb sv R1)) ?_;refine ZaQ ?_;refine qe (yc L 921 (za3 sb rb sv R1.at_ R2) (.int .u64 0) (r:=za3 sb rb sv 0 R1) rfl rfl rfl rfl rfl (fun u H C hH hle hr hC => zgz (fst:=[zam rb]) (cap:=[]) rfl h2 hH hr hC (fun u3 H3 C3 hH3 hle3 hr3 hC3 => by have h:=zwo hb hz ha1 hH3 ((hsv.le hle).le hle3) hr3 hC3; rw [hz2] at h; exact h))) ?_;refine Zd ?_;refine zb8 (id:=12) 9 rfl ?_;refine Zc ?_;refine ZS ?_;refine Zda ?_;refine zk ?_;refine zcw (r:=(za3 sb rb sv R1.at_ R2).res) (K:=9) L 921 rfl rfl rfl rfl rfl (fun u H C hH hle hr hC => zju hH hr hC) (fun _ _ _ _ h => h) ?_
 repeat (first | refine zc8 ?_ | refine zca ?_)
 refine zfg (KLd ba be bs0 _ _ _) ⟨rfl, rfl, rfl, rfl, rfl, rfl, trivial⟩ ?_
 exact zjx (by decide) hs1
end Go.V.L11
set_option maxRecDepth 20000
namespace Go.V.L11
open Go.Proofs Go.RowKit Go.V Go.V.L2 Go.V.L4 Go.V.L6
theorem _root_.Go.V.Zcx {A B:Prop} (h:B) (t:Wr B → A:=by intro h; refine zd (q8 L (vs:=[_, _, _, _]) (qg rfl) rfl rfl rfl rfl ⟨_, rfl⟩) rfl ?_;exact h.h):A:=t ⟨h⟩
theorem _root_.Go.V.ZbL {A B:Prop} (h:B) (t:Wr B → A:=by intro h; refine ZdY ?_;refine Za ?_;exact h.h):A:=t ⟨h⟩
attribute [local irreducible] V N X VO Par XP LV StepOK Has Ret RetL RetO RetT zbd RetX RetY Pan zjl Src
abbrev tySt:TypeId:=91
theorem zx7 {r:Int} (hr:r ≠ 0) {p:Option Addr} {k c:Nat} {t:Int} {w:World} {B:Heap} (hB:B.Le (hp w)) :
  Ret Tryz.prog 77 [.agg #[.slice p k c, .int .i64 t], .int .u64 r, .int .i64 0] w B (fun v _ => v = .tuple #[.agg #[.slice p k c, .int .i64 t], .int .i64 0]):=by
 refine qu Tryz.func77 rfl Tryz.ntmps77 (Nat.le_of_ble_eq_true rfl) hB ?_
 refine ZA ?_;refine ZE ?_;refine Zd ?_;refine ZaI ?_;refine ZbD ?_;refine Zo ?_;refine ZaF ?_;refine Zs ?_;refine ZR ?_;refine ZaF ?_;refine Zbb ?_;refine ZJ ?_;refine ZcP ?_;refine zj ?_;refine ZN ?_;refine Ze0 ?_;refine ZaD ?_
 refine qt L (rs:=[.cell 6 112, .tmp 7]) rfl (fun _ _ h => h) Since.refl fun u H hH hle => ?_
 exact ⟨_, qg rfl, rfl, rfl⟩
set_option maxRecDepth 20000 in
theorem zqz {sb rb:Nat} {sv:Value} {R R2:Rd} {fr0:Int} {bs:List Nat} {fu:Bool} (hb:∀ b ∈ bs, b ≤ 255) (hl:bs.length ≤ 1099511627776) (hat:R.at_ ≤ bs.length) (hz1:zbp bs 8192 R = (0, R2)) (h1:R2.err = 0) {w:World} {B:Heap} {C:Nat → Prop} (hB:B.Le (hp w)) (hs:BsV bs fu sv B) (hr:(za3 sb rb sv fr0 R).P B w C) (hC:∀ k, C k → k < w.heap.size ∧ B k = none) :
  RetX Tryz.prog 78 [zam sb, nilSet] w B C (za3 sb rb sv R.at_ R2) nilSet:=by
 unfold RetX
 refine zaf 900 (za3 sb rb sv fr0 R) Tryz.func78 rfl Tryz.ntmps78 (Nat.le_of_ble_eq_true rfl) hB hr hC ?_
 refine ZZ ?_;refine Zab ?_;refine Zx ?_;refine Zq ?_;refine Zd ?_;refine Zy ?_;refine Zab ?_;refine Zs ?_;refine qe (yc L 900 (za3 sb rb sv R.at_ R2) (.int .i64 0) (r:=za3 sb rb sv fr0 R) rfl rfl rfl rfl rfl (fun u H C2 hH hle hr2 hC2 => by have h:=size_ret (lim:=8192) hb hl hat (by omega) (by rw [hz1]; exact h1) hH (hs.le hle) hr2 hC2; rw [hz1] at h; exact h)) ?_;refine Zd ?_
 refine zc7 (r1:=zaj sb [zam rb, .int .i64 R.at_] zvt) (r2:=(GRd rb sv R2).res) 900 901 rfl (zag _) ?_
 refine ZfU ?_;refine Zg ?_;refine Zn ?_;refine Zc ?_;refine Zcg ?_
 refine zao (fun _:Nat => [(0, .is (zam sb)), (3, .own (Cell [.nilFunc, .pointer none, .nilFunc, .pointer none] tySt)), (4, .own (Cell [.nilFunc, .pointer none, .nilFunc, .pointer none] tySt)), (5, .is (.slice none 0 0)), (6, .is (.slice none 0 0)), (9, .is (.int .i64 R.at_)), (20, .is (.int .i64 0)), (21, .is (.int .i64 0)), (900, .own (zaj sb [zam rb, .int .i64 R.at_] zvt)), (901, .own (GRd rb sv R2).res)]) (fun _ => True) (fun i => i) 0 trivial ⟨rfl, rfl, rfl, rfl, rfl, rfl, rfl, rfl, rfl, rfl, trivial⟩ ?_
 rintro _ _
 refine zj ?_;refine ZN ?_;refine Zao ?_;refine Za1 ?_;refine Zc ?_;refine ZK ?_;refine ym (yf L (q:=900) (cs':=[zam rb, .int .i64 R.at_]) rfl rfl rfl rfl rfl rfl rfl rfl rfl) ?_;refine Zj ?_;refine ZbL ?_;refine Zah ?_;refine z7 (q0 L rfl rfl (zn rfl) rfl rfl rfl (fun u H hH _ _ => zdc (l:=[]) (n:=0) rfl hH SetV.nil)) rfl ?_;refine Za ?_;refine Zcj ?_;refine Zeg ?_;refine Za ?_;refine Zcj ?_;refine ZdX ?_;refine Zco ?_;refine zgc 900 901 rfl rfl (zag (GRd rb sv R2)) ?_;refine qe (zau L 900 (za3 sb rb sv R.at_ R2) (r:=za3 sb rb sv R.at_ R2) rfl rfl rfl rfl rfl (fun u H C2 hH _ hr2 hC2 => zd4 hH hr2 hC2)) ?_;refine Za0 ?_
 refine zet 6 42 7 rfl ?_
 refine za4 5 (SlV 42 7 [] 0 true) rfl SlV.mono SlV.nil ?_
 refine z8 (id:=19) ?_;refine qe (yh (.inl rfl) rfl rfl rfl rfl) ?_;refine Zf ?_;refine qe (zb5 L rfl rfl rfl (zsk rfl) rfl z8e rfl rfl (by omega) (by omega)) ?_;refine z7 (z3s L rfl rfl rfl rfl) rfl ?_;refine ZeE ?_
 refine zao (fun _:Nat => [(3, .own (Cell [.nilFunc, .pointer none, .nilFunc, .pointer none] tySt)), (4, .own (Cell [.nilFunc, .pointer none, .nilFunc, .pointer none] tySt)), (88, .is (.int .i64 0)), (89, .is (.int .i64 0)), (900, .own (za3 sb rb sv R.at_ R2).res)]) (fun _ => True) (fun i => i) 0 trivial ⟨rfl, rfl, rfl, rfl, rfl, trivial⟩ ?_
 rintro _ _
 refine zj ?_;refine Ze8 ?_;refine Zao ?_;refine z8 (id:=24) ?_;refine Zah ?_;refine Z1 ?_
 exact zaq L 900 (r:=za3 sb rb sv R.at_ R2) (rs:=[.cell 4 tySt]) rfl (fun _ _ h => h) Since.refl rfl rfl (fun _ => ⟨_, qg rfl, rfl, rfl⟩)
set_option maxRecDepth 20000 in
set_option maxHeartbeats 1000000 in
theorem zyh {bs:List Nat} {st:Nat} {R1 R2 R3 R4:Rd} {fu:Bool} (hb:∀ b ∈ bs, b ≤ 255) (hz:bs.length ≤ 1099511627776) (hz1:zbp bs 1024 ⟨0, 0, 0⟩ = (1, R1)) (h1:R1.err = 0) (ha1:R1.at_ ≤ bs.length)
  (hz2:zjt bs R1 = (st, R2)) (h2:R2.err = 0) (hst:0 < st) (hst2:st < 18446744073709551616) (ha2:R2.at_ ≤ bs.length) (hz3:zbp bs 4096 R2 = (0, R3)) (h3:R3.err = 0) (ha3:R3.at_ ≤ bs.length) (hz4:zbp bs 8192 R3 = (0, R4)) (h4:R4.err = 0) (ha4:R4.at_ ≤ bs.length) (h5:(zgp bs R4).2 ≠ 0) {v:Value} {w:World} {B:Heap} (hB:B.Le (hp w)) (hv:BsV bs fu v B) :
  Ret Tryz.prog 26 [v] w B (fun r _ => r = .tuple #[.pointer none, .int .i64 (zgp bs R4).1, .int .i64 (zgp bs R4).2]):=by
 obtain ⟨p0, c0, rfl⟩:=zbt hv
 refine qu Tryz.func26 rfl Tryz.ntmps26 (Nat.le_of_ble_eq_true rfl) hB ?_
 refine ZaC ?_;refine ZE ?_;refine Zab ?_
 refine zax 2 910 rfl fun bs0 => ?_
 refine zax 3 911 rfl fun ba => ?_
 refine zax 4 912 rfl fun be => ?_
 refine Zfq ?_;refine zk ?_;(refine zk7 (K:=1) rfl rfl rfl rfl ?_;refine zk ?_); refine zm ?_;refine zj ?_
 refine Z4 ?_;refine z7 (zbz L rfl rfl (zn rfl) rfl rfl rfl (fun u H hH hle _ => zqe hz hH (hv.le hle))) rfl ?_;refine zez 15 922 rfl fun rb => ?_;refine zka (X:=Value) 922 (r:=fun sv => (GRd rb sv ⟨0, 0, 0⟩).res) (φ:=fun sv H => BsV bs false sv H) (hφ:=fun _ _ _ h hle => h.le hle) rfl fun sv H1 hs1 hsv => ?_;refine Zfo ?_;refine ZcB ?_;refine qe (yh (.inr rfl) rfl rfl rfl rfl) ?_;refine Zj ?_
 refine zax 5 921 rfl fun sb => ?_
 refine zbw 921 922 rfl rfl (zag (GRd rb sv ⟨0, 0, 0⟩)) ?_
 refine Zs ?_;refine qe (yc L 921 (za3 sb rb sv 0 R1) (.int .i64 1) (r:=za3 sb rb sv 0 ⟨0, 0, 0⟩) rfl rfl rfl rfl rfl (fun u H C hH hle hr hC => by have h:=size_ret (lim:=1024) hb hz (Nat.zero_le _) (by omega) (by rw [hz1]; exact h1) hH (hsv.le hle) hr hC; rw [hz1] at h; exact h)) ?_;refine Zd ?_;refine ZcT ?_;refine Z2 ?_;refine qe (zau L 921 (za3 sb rb sv 0 R1) (r:=za3 sb rb sv 0 R1) rfl rfl rfl rfl rfl (fun u H C hH _ hr hC => zd4 hH hr hC)) ?_;refine Zj ?_;refine Zn ?_;refine ZcZ ?_;refine Zd ?_;refine Z8 ?_;refine Zab ?_;refine Z0 ?_;refine ZbK ?_;refine ZE ?_;refine Zq ?_;refine ZdG ?_;refine Z3 ?_;refine Zc ?_;refine Zcg ?_
 refine zao (fun i:Nat => match i with
  | 0 => [(2, .is (zam bs0)), (3, .is (zam ba)), (4, .is (zam be)), (910, .own (zaj bs0 [.pointer none] tyPS)), (911, .own (zaj ba [.int .i64 0] znd)), (912, .own (zaj be [.int .i64 0] zgv)), (5, .is (zam sb)), (7, .is (.slice none 0 0)), (8, .is (.slice none 0 0)), (9, .own (Cell [.slice none 0 0, .int .i64 0] 112)), (10, .is (.int .u64 0)), (11, .own (Cell [.nilFunc, .pointer none, .nilFunc, .pointer none] tySt)), (25, .is (.int .i64 1)), (26, .is (.int .i64 0)), (921, .own (za3 sb rb sv 0 R1).res)]
  | _ + 1 => [(2, .is (zam bs0)), (3, .is (zam ba)), (4, .is (zam be)), (910, .own (zaj bs0 [.pointer none] tyPS)), (911, .own (zaj ba [.int .i64 0] znd)), (912, .own (zaj be [.int .i64 0] zgv)), (5, .is (zam sb)), (25, .is (.int .i64 1)), (26, .is (.int .i64 1)), (921, .own (za3 sb rb sv R3.at_ R4).res)]) (fun i => i ≤ 1) (fun i => 1 - i) 0 (by decide) ⟨rfl, rfl, rfl, rfl, rfl, rfl, rfl, rfl, rfl, rfl, rfl, rfl, rfl, rfl, rfl, trivial⟩ ?_
 rintro i hi
 cases i with
 | succ i =>
  dsimp only
  refine zj ?_;refine ZX ?_;refine Zao ?_;refine zb8 (id:=18) 1 rfl ?_;refine ZdO ?_;refine zcw (r:=(za3 sb rb sv R3.at_ R4).res) (K:=1) L 921 rfl rfl rfl rfl rfl (fun u H C hH hle hr hC => zmd hz ha4 h5 hH (hsv.le hle) hr hC) (fun _ _ _ _ h => h) ?_
  repeat (first | refine zc8 ?_ | refine zca ?_)
  refine zfg (KLd ba be bs0 _ _ _) ⟨rfl, rfl, rfl, rfl, rfl, rfl, trivial⟩ ?_
  exact zjx h5 hs1
 | zero =>
  dsimp only
  refine zc7 (r1:=zaj sb [zam rb, .int .i64 0] zvt) (r2:=(GRd rb sv R1).res) 921 922 rfl (zag _) ?_
  have hws:IntKind.u64.wrap (18446744073709551615 - 0) = 18446744073709551615:=by decide
  have hwa:IntKind.u64.wrap (0 + (st:Int)) = (st:Int):=(zal (by omega) (by omega)).trans (by omega)
  have hst3:(st:Int) ≠ 0:=by omega
  refine zj ?_;refine ZX ?_;refine Za2 ?_;refine ZM ?_;refine Zc ?_;refine ZK ?_;refine Zfp ?_;refine zgc 921 922 rfl rfl (zag (GRd rb sv R1)) ?_;refine ZaQ ?_;refine qe (yc L 921 (za3 sb rb sv R1.at_ R2) (.int .u64 st) (r:=za3 sb rb sv 0 R1) rfl rfl rfl rfl rfl (fun u H C hH hle hr hC => zgz (fst:=[zam rb]) (cap:=[]) rfl h2 hH hr hC (fun u3 H3 C3 hH3 hle3 hr3 hC3 => by have h:=zwo hb hz ha1 hH3 ((hsv.le hle).le hle3) hr3 hC3; rw [hz2] at h; exact h))) ?_;refine Zd ?_;refine ZD ?_;refine Zc ?_;refine Z2 ?_;refine ZF ?_;refine ZaE ?_;refine Zco ?_;refine Ze ?_;refine qe (zau L 921 (za3 sb rb sv R1.at_ R2) (r:=za3 sb rb sv R1.at_ R2) rfl rfl rfl rfl rfl (fun u H C hH _ hr hC => zd4 hH hr hC)) ?_;refine Zj ?_;refine Zbx ?_;refine Zc ?_;refine Zak ?_;refine Zd ?_
  refine qh (id:=14) [(52, [921])] mixed (by kernel_rfl) ?_;refine Zfi ?_;refine Z7 ?_;refine zav (yc L 921 (za3 sb rb sv R2.at_ R3) (.int .i64 0) (r:=za3 sb rb sv R1.at_ R2) rfl rfl rfl rfl rfl (fun u H C hH hle hr hC => by have h:=size_ret (lim:=4096) hb hz ha2 (by omega) (by rw [hz3]; exact h3) hH (hsv.le hle) hr hC; rw [hz3] at h; exact h)) rfl rfl ?_;refine zd (q0 L rfl rfl (zn rfl) rfl rfl rfl (fun u H hH _ _ => zx7 hst3 hH)) rfl ?_;refine Zi ?_;refine zd (zz rfl rfl rfl rfl) rfl ?_;refine zd (zz rfl rfl rfl rfl) rfl ?_;refine Zas ?_;refine zj ?_
  refine Zcr ?_;refine Zah ?_;refine qe (yc L 921 (za3 sb rb sv R3.at_ R4) nilSet (r:=za3 sb rb sv R2.at_ R3) rfl rfl rfl rfl rfl (fun u H C hH hle hr hC => zqz hb hz ha3 hz4 h4 hH (hsv.le hle) hr hC)) ?_;refine Z1 ?_
  refine zet 7 63 1 rfl ?_
  refine zet 8 tySt 4 rfl ?_
  have hpl:[Value.nilFunc, .pointer none, .nilFunc, .pointer none].all zdv = true:=rfl
  refine qh (id:=16) [(59, [7]), (62, [59]), (63, [8]), (66, [63]), (7, [62]), (8, [66])] mixed (by kernel_rfl) ?_;refine zav (yh (.inl rfl) rfl rfl rfl rfl) rfl rfl ?_;refine Zi ?_;refine ZeG ?_;refine zav (zb5 L rfl rfl rfl (zq1 rfl) rfl z8d rfl rfl (by omega) (by omega)) rfl rfl ?_;refine zav (yh (.inl rfl) rfl rfl rfl rfl) rfl rfl ?_;refine Zcx ?_;refine ZeG ?_;refine zav (zb5 L rfl rfl rfl (zq1 rfl) rfl z9p rfl rfl (by omega) (by omega)) rfl rfl ?_;refine zav (yh (.inr rfl) rfl rfl rfl rfl) rfl rfl ?_;refine zav (yh (.inr rfl) rfl rfl rfl rfl) rfl rfl ?_;refine qp ?_;refine Zai ?_;refine Za1 ?_;refine Zbd ?_
  exact yl (x:=0) 1 (by decide) (by decide) ⟨rfl, rfl, rfl, rfl, rfl, rfl, rfl, rfl, rfl, rfl, trivial⟩
end Go.V.L11
set_option maxRecDepth 20000
namespace Go.V.L11
open Go.Proofs Go.RowKit Go.V Go.V.L2 Go.V.L4 Go.V.L6
theorem _root_.Go.V.ZeV {A B:Prop} (h:B) (t:Wr B → A:=by intro h; refine zbw 900 901 rfl rfl (zsj _ _) ?_;exact h.h):A:=t ⟨h⟩
attribute [local irreducible] V N X VO Par XP LV StepOK Has Ret RetL RetO RetT zbd RetX RetY Pan zjl Src
theorem znm {w:World} {B:Heap} (hB:B.Le (hp w)):Ret Tryz.prog 32 [nilSet] w B (BsV [0] true):=by
 refine qu Tryz.func32 rfl Tryz.ntmps32 (Nat.le_of_ble_eq_true rfl) hB ?_
 refine ZbO ?_;refine Zab ?_
 refine zax 3 900 rfl fun wb => ?_
 refine zg5 901 zje 1 ?_
 refine ZeV ?_
 refine zjc (X:=Value) 900 (r:=fun sv => (GWv wb [] sv).res) (φ:=fun sv _ => zq7 sv) zdf (.slice none 0 0) ⟨_, _, _, rfl⟩ rfl ?_
 refine Zy ?_;refine Zbp ?_;refine z7 (q0 L rfl rfl (zn rfl) rfl rfl rfl (fun u H hH _ _ => zdc (l:=[]) (n:=0) rfl hH SetV.nil)) rfl ?_;refine z7 (za0 rfl rfl rfl zcb.1 zcb.2 (zal (by omega) (by omega))) rfl ?_;refine qe (zau L 900 (GWr wb [0]) (r:=GWr wb []) rfl rfl rfl rfl rfl (fun u H C hH _ hr hC => by have h:=zc1 (n:=0) (by decide) (by decide) hH hr hC; rw [zcq (by decide)] at h; exact h)) ?_;refine Za0 ?_;refine Zk ?_;refine Zbp ?_;refine z7 (yk (φ:=US [] true) L rfl rfl (zn rfl) rfl rfl rfl SlV.mono (fun u H hH _ _ => zdt (l:=[]) (by decide) hH SetV.nil)) rfl ?_;refine Zdc ?_;refine ZeE ?_
 refine zao (fun _:Nat => [(12, .is (.int .i64 0)), (13, .is (.int .i64 0)), (3, .is (zam wb)), (900, .own (GWr wb [0]).res)]) (fun _ => True) (fun i => i) 0 trivial ⟨rfl, rfl, rfl, rfl, trivial⟩ ?_
 rintro _ _
 refine Zds ?_;refine Zao ?_;refine Z0 ?_;refine qe (zk5 L 900 GNo (BsV [0] true) (r:=GWr wb [0]) rfl rfl rfl rfl rfl SlV.mono (fun u H C hH _ hr hC => ziu (zid (by decide) hH hr hC))) ?_;refine ZbE ?_
 exact qt L (rs:=[.tmp 2]) rfl (fun _ _ h => h) Since.refl (fun _ H _ _ v hv => hv)
end Go.V.L11
set_option maxRecDepth 20000
namespace Go.V
open Go.RowKit
section
variable {P:Program} {F:Fr} {B:Heap} {O:Boxes} {n:Nat} {ops:Array Oper} {κ:Kap} {d q b:Nat} {ty:TypeId} {pos:String} {aft:Array Edge} {g:Option (Nat × Bool)} {src dst t t':TypeId} {x y:Operand} {cs:List Value}
theorem zhf {u:World} {vs:Array Value} {fr:Nat × Nat} (h:u.heap[b]? = some (.cells vs t' fr)):u.shape? b = some (t', vs.size):=by simp [World.shape?, h]
theorem zry (hx:evK κ x = some (.pointer (some ⟨b, 0, none⟩))) (hq:κ q = some (.own (zaj b cs t'))) (hn:Nat.blt d n = true) (hg:gK ops κ ⟨some d, .convert src dst x, ty, pos, aft, g⟩ = some true) (hs:P.underlying src = some (.pointer t)) (hd:P.underlying dst = some .unsafePointer) (hj:(P.info? t).map (fun j => decide (j.size ≠ 0)) = some true) (hc:Nat.ble 1 cs.length = true) :
  StepOKR P F B n ops O κ ⟨some d, .convert src dst x, ty, pos, aft, g⟩ q d (.is (.pointer (some ⟨b, 0, none⟩))):=by
 obtain ⟨j, ht, hj⟩:∃ j, P.info? t = some j ∧ j.size ≠ 0:=by
  cases h:P.info? t with
  | none => rw [h] at hj; cases hj
  | some j => rw [h] at hj; exact ⟨j, rfl, by simpa using hj⟩
 rintro κ' a u hlk hqk ⟨H, fp, hh⟩
 unfold After
 rw [if_pos (zae hh hlk hg)]
 have e:=hh.env hlk
 have h1:=e.is_ x _ (by simp [Op.operands]) hx
 obtain ⟨⟨h2, hC⟩, hM⟩:=hh.slot q _ (hqk.trans hq)
 have hr:=Lib.run_to_unsafe (P:=P) u (src:=src) (dst:=dst) ⟨b, 0, none⟩ hs hd ht hj (zhf h2) (by have:=Nat.le_of_ble_eq_true hc; simp only [List.size_toArray]; omega)
 have hrun:(execOp a.eval ⟨some d, .convert src dst x, ty, pos, aft, g⟩).run P u = .ok (.value (.pointer (some ⟨b, 0, none⟩))) u:=by
  simp only [execOp, h1, Sem.run_bind, Sem.run_pure, hr, Result.andThen_ok]
 rw [hrun]
 simp only [Upon]
 exact ⟨H, fp, hh.put (k:=.is _) (zn hn) trivial rfl⟩
theorem zn1 (hx:evK κ x = some (.pointer (some ⟨b, 0, none⟩))) (hq:κ q = some (.own (zaj b cs t'))) (hn:Nat.blt d n = true) (hg:gK ops κ ⟨some d, .convert src dst x, ty, pos, aft, g⟩ = some true) (hs:P.underlying src = some .unsafePointer) (hd:P.underlying dst = some (.pointer t)) (ht:(P.info? t).isSome = true) {m:Nat} (hm:cs.length = m) (hl:liesAt P P.depth t' (m / P.cellsOf t') 0 t 1 = true) :
  StepOKR P F B n ops O κ ⟨some d, .convert src dst x, ty, pos, aft, g⟩ q d (.is (.pointer (some ⟨b, 0, none⟩))):=by
 obtain ⟨j, ht⟩:=Option.isSome_iff_exists.1 ht
 rintro κ' a u hlk hqk ⟨H, fp, hh⟩
 subst hm
 unfold After
 rw [if_pos (zae hh hlk hg)]
 have e:=hh.env hlk
 have h1:=e.is_ x _ (by simp [Op.operands]) hx
 obtain ⟨⟨h2, hC⟩, hM⟩:=hh.slot q _ (hqk.trans hq)
 have hr:=Lib.run_from_unsafe (P:=P) u (src:=src) (dst:=dst) ⟨b, 0, none⟩ hs hd ht (zhf h2) (by simpa using hl)
 have hrun:(execOp a.eval ⟨some d, .convert src dst x, ty, pos, aft, g⟩).run P u = .ok (.value (.pointer (some ⟨b, 0, none⟩))) u:=by
  simp only [execOp, h1, Sem.run_bind, Sem.run_pure, hr, Result.andThen_ok]
 rw [hrun]
 simp only [Upon]
 exact ⟨H, fp, hh.put (k:=.is _) (zn hn) trivial rfl⟩
theorem zu3 {te:TypeId} {a0:Addr} (hn:Nat.blt d n = true) (hg:gK ops κ ⟨some d, .binOp .neq t x y t', ty, pos, aft, g⟩ = some true) (hx:evK κ x = some (.pointer (some a0))) (hy:evK κ y = some (.pointer (some a0))) (hp:P.underlying t = some (.pointer te)) (hte:(P.info? te).isSome = true) :
  StepOK P F B n ops O κ ⟨some d, .binOp .neq t x y t', ty, pos, aft, g⟩ d (.is (.bool false)):=by
 obtain ⟨j, hte⟩:=Option.isSome_iff_exists.1 hte
 exact zb4 hn hg hx hy fun u => Lib.run_neq_ptr_same u a0 hp hte
theorem zr2 {f:Nat} {at_:Array TypeId} {fo:Operand} {v r:Value} (hn:Nat.blt d n = true) (hg:gK ops κ ⟨some d, .call { callee:=.value fo, args:=#[x], argTypes:=at_ }, ty, pos, aft, g⟩ = some true) (hfo:evK κ fo = some (.func (.func f) #[] #[])) (hx:evK κ x = some v) (hext:∀ u, (callFunc f #[v]).run P u = .ok (.value r) u) :
  StepOK P F B n ops O κ ⟨some d, .call { callee:=.value fo, args:=#[x], argTypes:=at_ }, ty, pos, aft, g⟩ d (.is r):=by
 rintro κ' a u hlk ⟨H, fp, hh⟩
 unfold After
 rw [if_pos (zae hh hlk hg)]
 have e:=hh.env hlk
 have h1:a.eval x = v:=e.is_ x _ (by simp [Op.operands, Call.operands]) hx
 have h2:a.eval fo = .func (.func f) #[] #[]:=e.is_ fo _ (by simp [Op.operands, Call.operands]) hfo
 have hrun:(execOp a.eval ⟨some d, .call { callee:=.value fo, args:=#[x], argTypes:=at_ }, ty, pos, aft, g⟩).run P u = .ok (.value r) u:=by
  simp only [execOp, resolve, h2, Deferred.ofValue, Sem.run_bind, Sem.run_pure, Result.andThen_ok, invoke]
  simp [h1, hext]
 rw [hrun]
 simp only [Upon]
 exact ⟨H, fp, hh.put (k:=.is r) (zn hn) trivial rfl⟩
end
end Go.V
set_option maxRecDepth 20000
namespace Go.V
open Go.RowKit
theorem z1j {P:Program} (u:World) {t ty2 e:TypeId} {aty:TypeId} {i:TypeInfo} {z:Value} (ht:P.underlying t = some (.slice e)) (hu:P.underlying ty2 = some .string) (hi:P.info? e = some i) (hz:i.zero = some z) (hs1:i.size = 1) (hs2:i.bytes = 1) (hs3:z.cells.size = 1)
  {x:Value} {str:ByteArray} {C:Nat → Prop} {H:Heap} {nn:Nat} {xs:List Value} (hsub:H.Le (hp u)) (hown:(SlR e 1 nn xs).P x H u C) (hlt:∀ k, C k → k < u.heap.size ∧ H k = none) (h63:nn + str.size ≤ 9223372036854775807) (hb:nn + str.size ≤ 140737488355328) :
  ∃ x' u' C', (Builtin.append_ #[t, ty2] aty #[x, .string str]).run P u = .ok x' u' ∧ (SlR e 1 (nn + str.size) (xs ++ Lib.strCells str)).P x' H u' C' ∧ Grow C u H u' H ∧ ∀ k, C' k → (C k ∨ u.heap.size ≤ k) ∧ k < u'.heap.size ∧ H k = none:=by
 have hl:=Lib.strCells_length str
 generalize hnews:Lib.strCells str = news at hl ⊢
 obtain ⟨m, hm0⟩:∃ m, str.size = m:=⟨_, rfl⟩
 have hmx:nn + m ≤ maxLen:=by simp only [maxLen]; omega
 obtain ⟨hxl, hown⟩:=hown
 have hlen:(xs ++ news).length = (nn + m) * 1:=by rw [List.length_append, hxl, hl, hm0]; omega
 have hdrew:∀ o:Obj, Grow C u H (u.drew.alloc o) H:=fun o => ⟨⟨rfl, rfl, rfl, by simp, fun k hk _ => zc5 u.drew _ hk, Nat.le_succ _⟩, fun k v hv => by
  have:=hsub.size hv
  show (u.drew.alloc o).heap[k]? = some v
  rw [zc5 u.drew _ this]; exact hsub k v hv, Heap.Le.refl _, fun _ _ _ => rfl⟩
 have hnew:∀ (o:Obj) (k:Nat), k = u.heap.size → (C k ∨ u.heap.size ≤ k) ∧ k < (u.drew.alloc o).heap.size ∧ H k = none:=fun o k hk => by
  subst hk
  exact ⟨.inr (Nat.le_refl _), by simp, za8 hsub (Nat.le_refl _)⟩
 have grown:∀ (old:Nat), old < nn + m → ∀ vs:List Value, vs = xs →
   (SlR e 1 (nn + m) (xs ++ news)).P (.slice (some ⟨u.heap.size, 0, none⟩) (nn + m) (grownCap u (nn + m) old e)) H (u.drew.alloc (.cells (vs.toArray ++ news.toArray ++ Builtin.zeroCells z.cells (grownCap u (nn + m) old e - (nn + m))) e)) (fun k => k = u.heap.size):=by
  rintro old ho vs rfl
  have hge:=grownCap_ge u (nn + m) old e
  refine ⟨hlen, .inr ⟨u.heap.size, _, (Builtin.zeroCells z.cells (grownCap u (nn + m) old e - (nn + m))).toList, rfl, ?_, hge, grownCap_le_maxLen u (nn + m) old e hmx, ?_, fun _ => Iff.rfl⟩⟩
  ·have h2:(u.drew.alloc (.cells (vs.toArray ++ news.toArray ++ Builtin.zeroCells z.cells (grownCap u (nn + m) old e - (nn + m))) e)).heap[u.heap.size]? = some (.cells (vs.toArray ++ news.toArray ++ Builtin.zeroCells z.cells (grownCap u (nn + m) old e - (nn + m))) e):=heap_alloc_new u.drew _
   rw [h2]
   congr 2
   apply Array.ext'
   simp
  ·rw [List.length_append, hlen, Array.length_toList, size_zeroCells, hs3]
   omega
 rcases hown with ⟨rfl, rfl, hC⟩ | ⟨b, cap, rest, rfl, hbk, hnc, hcm, hcl, hC⟩
 ·have hx:xs = []:=List.eq_nil_of_length_eq_zero (by simpa using hxl)
  subst hx
  by_cases h0:m = 0
  ·subst h0
   have hn:news = []:=List.eq_nil_of_length_eq_zero (by omega)
   subst hn
   refine ⟨.slice none 0 0, u, noL, ?_, ⟨by simp [hm0], .inl ⟨by omega, rfl, fun _ h => h⟩⟩, ⟨Keep.refl _ _, hsub, Heap.Le.refl _, fun _ _ _ => rfl⟩, fun _ h => h.elim⟩
   have hf:=Lib.run_firstCells_string (P:=P) u i.size str
   rw [hm0] at hf
   simp [Builtin.append_, run_underlying ht, run_underlying hu, sizeOf, typeInfo, hi, Builtin.lenOf, hm0, hf]
  ·have hr:=run_append_nil_string (P:=P) u t ty2 aty e i z ht hu hi hz str (by omega) (by omega) (by rw [hs2]; omega)
   have hgr:=grown 0 (by omega) [] rfl
   rw [hm0] at hr ⊢
   simp only [Nat.zero_add, List.nil_append, Array.empty_append] at hgr ⊢
   refine ⟨_, _, _, hr, ?_, hdrew _, fun k hk => hnew _ k hk⟩
   have e1:str.data.map (fun b => Value.int .u8 b.toNat) = news.toArray:=by rw [← hnews]; apply Array.ext'; simp [Lib.strCells]
   rw [e1]
   exact hgr
 ·have hbl:=hlt b ((hC b).2 rfl)
  have holds:∀ j v, xs[j]? = some v → u.cell? ((⟨b, 0, none⟩:Addr).add j) = some v:=fun j v hj => by
   rw [zb1, Nat.zero_add, zas hbk]
   have hlt:j < xs.length:=by
    rcases Nat.lt_or_ge j xs.length with h | h
    ·exact h
    ·rw [List.getElem?_eq_none h] at hj; cases hj
   simp only [List.getElem?_toArray]
   rw [List.getElem?_append_left hlt]; exact hj
  rw [hm0]
  by_cases hroom:nn + m ≤ cap
  ·have hfit:nn + str.size ≤ (xs ++ rest).toArray.size:=by simp only [List.size_toArray, hcl]; omega
   have hr:=Lib.run_append_room_string (P:=P) u t ty2 aty e i ht hu hi hs1 b nn cap _ hbk str (by omega) hfit
   rw [hnews, hm0] at hr
   refine ⟨_, _, C, hr, ⟨hlen, .inr ⟨b, cap, rest.drop news.length, rfl, ?_, hroom, hcm, ?_, hC⟩⟩, zdl hsub hbk ((hC b).2 rfl) hbl.2 _, fun k hk => ⟨.inl hk, by rw [setRow_size]; exact (hlt k hk).1, (hlt k hk).2⟩⟩
   ·rw [setRow_heap u b _ _ e (0, 0) hbk]
    congr 2
    have hx1:xs.length = nn:=by omega
    rw [← hx1, hl, hm0]
    simp [List.drop_append, List.drop_eq_nil_of_le]
   ·have h5:rest.length = cap * 1 - nn * 1:=by rw [← hcl, List.length_append, hxl]; omega
    rw [List.length_append, hlen, List.length_drop, h5, hl, hm0]
    omega
  ·have hr:=Lib.run_append_grow_string (P:=P) u t ty2 aty e i z ht hu hi hz ⟨b, 0, none⟩ nn cap xs (by rw [hs1]; exact hxl) holds str (by omega) (by omega) (by rw [hs2]; exact growslice_fits (by omega) (by omega))
   rw [hnews, hm0] at hr
   exact ⟨_, _, _, hr, grown cap (by omega) xs rfl, hdrew _, fun k hk => hnew _ k hk⟩
section
variable {P:Program} {F:Fr} {B:Heap} {O:Boxes} {n:Nat} {ops:Array Oper} {κ:Kap} {d:Nat} {ty:TypeId} {pos:String} {aft:Array Edge} {g:Option (Nat × Bool)}
theorem zf6 (L:Tabs P) {q:Nat} {t ty2 e:TypeId} {y:Operand} {nn:Nat} {xs:List Value} {str:ByteArray} (hn:Nat.blt d n = true) (hg:gK ops κ ⟨some d, .call ⟨.builtin .append, #[.tmp q, y], #[t, ty2]⟩, ty, pos, aft, g⟩ = some true)
  (hq:κ q = some (.own (SlR e 1 nn xs))) (hy:evK κ y = some (.string str)) (ht:L.sl t = some e) (hu:P.underlying ty2 = some .string) (he:elI P e = some (1, 1)) (hb:nn + str.size ≤ 140737488355328) :
  zdg P F B n ops O κ ⟨some d, .call ⟨.builtin .append, #[.tmp q, y], #[t, ty2]⟩, ty, pos, aft, g⟩ q zed d (.own (SlR e 1 (nn + str.size) (xs ++ Lib.strCells str))):=by
 rintro κ' a u hlk hks ⟨H, fp, hh⟩
 unfold After
 rw [if_pos (zae hh hlk hg)]
 have en:=hh.env hlk
 obtain ⟨i, z, hi, hz, hs1, hs2, hs3, hs4⟩:=zer he
 have hk':κ' q = some (.own (SlR e 1 nn xs)):=hks.trans hq
 obtain ⟨hown, hM⟩:=hh.slot q _ hk'
 have h1:a.eval y = .string str:=en.is_ y _ (by simp [Op.operands, Call.operands]) hy
 obtain ⟨x', u', C', hr, hown', hgr, hC'⟩:=z1j u (aty:=ty) (Tabs.sl_spec ht) hu hi hz hs1 hs2 hs3 hh.sub hown (fun k hk => ⟨(hM k hk).1, (hM k hk).2.1⟩) (by omega) hb
 have hrun:(execOp a.eval ⟨some d, .call ⟨.builtin .append, #[.tmp q, y], #[t, ty2]⟩, ty, pos, aft, g⟩).run P u = .ok (.value x') u':=by
  simp only [execOp, resolve, invoke, builtin, Sem.run_bind, Sem.run_pure, Result.andThen_ok, List.map_toArray, List.map_cons, List.map_nil, h1, hr]
 rw [hrun]
 simp only [Upon]
 exact ⟨H, _, hh.usePut hk' hgr (by simp [Act.put]) rfl (fun t ht => zap ht) (by rw [zat (by rw [hh.size]; exact zn hn)]; exact hown') hC'⟩
end
end Go.V
set_option maxRecDepth 20000
namespace Go.V.Bd
open Go.Proofs Go.RowKit Go.V Go.V.L4
abbrev zke:TypeId:=228
theorem z4c (v:Value) (u:World):(callFunc 255 #[v]).run Tryz.prog u = .ok (.value v) u :=
 (run_callFunc_extern Tryz.func255 (by kernel_rfl) (by kernel_rfl) (by kernel_rfl) (e:=Extern.AbiNoEscape.same) (by kernel_rfl) #[v] u).trans rfl
attribute [local irreducible] V N X VO Par StepOK Has Ret RetL RetO RetT zbd RetX RetY Src
theorem check_ret {bb:Nat} {sv p:Value} (hpp:p = .pointer none ∨ p = zam bb) {w:World} {B:Heap} {C:Nat → Prop} (hB:B.Le (hp w)) (hr:(zai bb [p, sv] zke).P B w C) (hC:∀ k, C k → k < w.heap.size ∧ B k = none) :
  zbd Tryz.prog 195 [zam bb] w B C (zai bb [zam bb, sv] zke):=by
 unfold zbd
 refine zaf 900 (zai bb [p, sv] zke) Tryz.func195 rfl Tryz.ntmps195 (Nat.le_of_ble_eq_true rfl) hB hr hC ?_
 rw [zac]
 rcases hpp with rfl | rfl
 ·refine ZC ?_;refine ZbR ?_;refine z7 (zc2 rfl rfl rfl rfl z57 rfl) rfl ?_;refine Z9 ?_;refine Zx ?_;refine Zc ?_;refine qy (zry (q:=900) (t:=zke) rfl rfl rfl rfl (by kernel_rfl) (by kernel_rfl) (by kernel_rfl) rfl) ?_;refine z7 (zr2 rfl rfl rfl rfl (z4c _)) rfl ?_;refine qy (zn1 (q:=900) (t:=zke) rfl rfl rfl rfl (by kernel_rfl) (by kernel_rfl) (by kernel_rfl) rfl (by kernel_rfl)) ?_;refine ZK ?_;refine ym (yf L (q:=900) (cs':=[zam bb, sv]) rfl rfl rfl rfl rfl rfl rfl rfl rfl) ?_;refine zk ?_
  exact za9 L 900 (r:=zai bb _ zke) rfl (fun _ _ h => h) Since.refl rfl rfl
 ·refine ZC ?_;refine ZbR ?_;refine z7 (zc2 rfl rfl rfl rfl z57 rfl) rfl ?_;refine Zat ?_;refine zj ?_;refine Z4 ?_;refine ZaP ?_;refine Za ?_;refine z7 (zu3 (te:=zke) rfl rfl rfl rfl (by kernel_rfl) (by kernel_rfl)) rfl ?_;refine Zbc ?_
  exact za9 L 900 (r:=zai bb _ zke) rfl (fun _ _ h => h) Since.refl rfl rfl
abbrev GBv (bb:Nat) (bs:List Nat) (x:Value × Value):GR:=zdz (zai bb [x.1, x.2] zke) (GSl x.2 bs)
def z4v (bb:Nat) (x:Value × Value):Prop:=(x.1 = .pointer none ∨ x.1 = zam bb) ∧ zq7 x.2
theorem zfc (bb:Nat):zh7 fun (x:Value × Value) (_:Heap) => z4v bb x:=fun _ _ _ h _ => h
abbrev GBd (bb:Nat) (bs:List Nat):GR:=GEx (X:=Value × Value) (GBv bb bs) (fun x _ => z4v bb x) (zfc bb)
def zdn (s:ByteArray):List Nat:=s.data.toList.map fun c => c.toNat
theorem zbv (s:ByteArray):(zdn s).length = s.size:=by unfold zdn; rw [List.length_map, Array.length_toList]; rfl
theorem zsh (bs:List Nat) (s:ByteArray):byV bs ++ Lib.strCells s = byV (bs ++ zdn s):=by
 unfold byV zdn Lib.strCells
 rw [List.map_append, List.map_map]
 rfl
theorem write_ret {bb:Nat} {bs:List Nat} {str:ByteArray} (hz:bs.length + str.size ≤ 140737488355328) {w:World} {B:Heap} {C:Nat → Prop} (hB:B.Le (hp w)) (hr:(GBd bb bs).P B w C) (hC:∀ k, C k → k < w.heap.size ∧ B k = none) :
  RetX Tryz.prog 122 [zam bb, .string str] w B C (GBd bb (bs ++ zdn str)) (.tuple #[.int .i64 str.size, .nilIface]):=by
 unfold RetX
 refine zaf 900 (GBd bb bs) Tryz.func122 rfl Tryz.ntmps122 (Nat.le_of_ble_eq_true rfl) hB hr hC ?_
 refine zgu (X:=Value × Value) 900 (r:=fun x => (GBv bb bs x).res) (φ:=fun x _ => z4v bb x) (hφ:=zfc bb) rfl fun x H0 hs0 hx => ?_
 obtain ⟨p, sv⟩:=x
 obtain ⟨hpp, hsl⟩:=hx
 dsimp only at hpp hsl ⊢
 obtain ⟨p1, k1, c1, rfl⟩:=hsl
 refine zc7 (r1:=zaj bb [p, .slice p1 k1 c1] zke) (r2:=(GSl (.slice p1 k1 c1) bs).res) 900 901 rfl (zag _) ?_
 rw [zlg]
 refine Zar ?_;refine Zbj ?_;refine qe (zau L 900 (zai bb [zam bb, .slice p1 k1 c1] zke) (r:=zai bb [p, .slice p1 k1 c1] zke) rfl rfl rfl rfl rfl (fun u H C hH _ hr hC => check_ret hpp hH hr hC)) ?_;refine Zj ?_;refine Zy ?_;refine Zcm ?_;refine zcr 12 901 rfl rfl ?_;refine Za ?_;refine qe (zf6 L rfl rfl rfl rfl rfl (by kernel_rfl) el5 hz) ?_;refine zd9 14 901 zq7 rfl zs7 fun s2 hp2 => ?_;obtain ⟨p2, k2, c2, rfl⟩:=hp2; refine ZK ?_;refine ym (yf L (q:=900) (cs':=[zam bb, .slice p2 k2 c2]) rfl rfl rfl rfl rfl rfl rfl rfl rfl) ?_;refine Zj ?_;refine Zs ?_;refine ZH ?_;refine Z5 ?_
 have e2:bs.length + str.size = (bs ++ zdn str).length:=by rw [List.length_append, zbv]
 rw [zsh, e2]
 refine ZeV ?_
 refine zjc (X:=Value × Value) 900 (r:=fun x => (GBv bb (bs ++ zdn str) x).res) (φ:=fun x _ => z4v bb x) (zfc bb) (zam bb, .slice p2 k2 c2) ⟨.inr rfl, _, _, _, rfl⟩ rfl ?_
 exact zaq L 900 (r:=GBd bb (bs ++ zdn str)) (rs:=[.tmp 4, .tmp 5]) rfl (fun _ _ h => h) hs0 rfl rfl (fun _ => rfl)
end Go.V.Bd
set_option maxRecDepth 20000
namespace Go.V.L3
open Go.Proofs Go.RowKit Go.V Go.V.L2
attribute [local irreducible] V N X VO Par StepOK Has Ret RetL RetO RetT Src
end Go.V.L3
set_option maxRecDepth 20000
namespace Go.V.L3
open Go.Proofs Go.RowKit Go.V Go.V.L2
attribute [local irreducible] V N X VO Par StepOK Has Ret RetL RetO RetT Src
end Go.V.L3
