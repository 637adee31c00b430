/- StoresNil returns true for every input, and leaves it as it was: no condition. -/
import Derived.Test.YtcppaheijljnfaaGreatStoresNilM6
import Derived.SizedLaws
import Derived.Test.YtcppaheijljnfaaGreatRows
set_option linter.unusedVariables false
set_option linter.unusedSimpArgs false
set_option maxRecDepth 20000
namespace Go.V
open Go.ChangeShapes Go.WideShapes Go.ChangeAt Go.ChangeMaps Go.RowKit
section
variable {P:Program} {H:Type} {enc:TypeId × Value → H} {W:World} {held:Bool}
def zhg (enc:TypeId × Value → H) (P:Program) (W:World) (held:Bool) (t:TypeId) (n:Nat) (Φ:List Value → Prop):Prop :=
 P.cellsOf t = n ∧ ∀ (fuel:Nat) (cs:List Value) (x:DataW H × List MemPlace), DataW.trod enc P W 0 (fun _ => true) held fuel t cs = some x → (x.1.weights P t).all (· ≤ reachBytes) = true → cs.length = n ∧ Φ cs
theorem zhr {t:TypeId} {ls:List zhi} (h:zpn P 20 t = some ls) (hc:P.cellsOf t = ls.length):zhg enc P W held t ls.length (LeafsOK ls) :=
 ⟨hc, fun _ _ _ hx _ => ⟨(zfv 20 h hx).1.length, (zfv 20 h hx).1⟩⟩
def SlD (e:TypeId) (n by_:Nat) (Φ:List Value → Prop) (Hh:Heap) (v:Value):Prop:=∃ cs:List (List Value), (∀ c ∈ cs, c.length = n ∧ Φ c) ∧ cs.length ≤ maxLen ∧ cs.length * by_ ≤ reachBytes ∧ SlV e n cs.flatten cs.length false v Hh
theorem zfi {e:TypeId}:∀ {l:List (DataW H)} {d:DataW H}, d ∈ l → ∀ n ∈ d.weights P e, n ∈ DataW.weightsAll P e l
 | d0 :: l, d, hd, n, hn => by
  simp only [DataW.weightsAll, List.mem_append]
  rcases List.mem_cons.1 hd with rfl | hd
  ·exact .inl hn
  ·exact .inr (zfi hd n hn)
theorem zyy {l m:List Nat} (h:l.all (· ≤ reachBytes) = true) (hs:∀ n ∈ m, n ∈ l):m.all (· ≤ reachBytes) = true :=
 List.all_eq_true.2 fun n hn => List.all_eq_true.1 h n (hs n hn)
theorem wt_at {ts:List TypeId} {ds:List (DataW H)} (h:(DataW.weightsEach P ts ds).all (· ≤ reachBytes) = true) (j:Nat) {t:TypeId} {d:DataW H} (ht:ts[j]? = some t) (hd:ds[j]? = some d):(d.weights P t).all (· ≤ reachBytes) = true :=
 zyy h (DataW.weights_mem_each ht hd)
theorem zju {t e:TypeId} {n:Nat} {Φ:List Value → Prop} (ht:P.underlying t = some (.slice e)) (hct:P.cellsOf t = 1) (he:zhg enc P W held e n Φ) (hn:0 < n) :
  zhg enc P W held t 1 (fun vs => ∃ v, vs = [v] ∧ SlD e n (P.bytesOf e) Φ (hp W) v):=by
 refine ⟨hct, fun fuel cs x hf hw => ?_⟩
 rcases Deep.open_slice ht hf with ⟨rfl, _⟩ | ⟨a, len, cap, m, nn, D, Pl, rfl, _, h1, h2, hm, rfl, hx⟩
 ·exact ⟨rfl, _, rfl, [], fun c h => (nomatch h), Nat.zero_le _, by simp, SlV.nil⟩
 refine ⟨rfl, _, rfl, ?_⟩
 simp only [if_true] at hm
 subst hm
 have hwe:(DataW.weights P t (DataW.slice ((List.range len).map D) ((List.range (m - len)).map fun j => D (len + j)))) = (len + (m - len)) * P.bytesOf e :: (DataW.weightsAll P e ((List.range len).map D) ++ DataW.weightsAll P e ((List.range (m - len)).map fun j => D (len + j))):=by
  rw [DataW.weights, ht]; simp
 simp only at hw
 rw [hwe] at hw
 have hb:(len + (m - len)) * P.bytesOf e ≤ reachBytes:=by
  have:=List.all_eq_true.1 hw _ (List.mem_cons_self ..)
  simpa using this
 have hwD:∀ i, i < len → ((D i).weights P e).all (· ≤ reachBytes) = true:=fun i hi => zyy hw fun k hk =>
  List.mem_cons_of_mem _ (List.mem_append_left _ (zfi (List.mem_map.2 ⟨i, List.mem_range.2 hi, rfl⟩) k hk))
 rcases Nat.eq_zero_or_pos m with h0 | h0
 ·obtain rfl:len = 0:=by omega
  subst h0
  exact ⟨[], fun c h => (nomatch h), Nat.zero_le _, by simp, by simp, .inl ⟨rfl, _, rfl⟩⟩
 obtain ⟨he1, he2⟩:=he
 have hsp:a.spot = none ∧ ∃ c0 ty fr, W.heap[a.block]? = some (.cells c0 ty fr):=by
  obtain ⟨c, g1, _⟩:=hx 0 h0
  obtain ⟨_, g2, g3⟩:=World.cells?_some g1
  have g4:=g3 0 (by omega)
  have hc0:∃ v, c[0]? = some v:=⟨_, List.getElem?_eq_getElem (by omega)⟩
  obtain ⟨v, hv⟩:=hc0
  rw [hv] at g4
  have hadd:((a.add (0 * P.cellsOf e)).add 0) = a:=by
   rw [Nat.zero_mul]
   unfold Addr.add
   simp
  rw [hadd] at g4
  unfold World.cell? at g4
  split at g4
  ·rename_i c1 ty fr hh
   split at g4
   ·cases g4
   ·rename_i hs
    exact ⟨by simpa using hs, _, _, _, hh⟩
  ·cases g4
 obtain ⟨h3, cs, ty, fr, h4⟩:=hsp
 obtain ⟨C, hC⟩:=Deep.choose_lt (α:=List Value) (n:=m) (p:=fun i c => W.cells? 0 (a.add (i * P.cellsOf e)) (P.cellsOf e) = some c ∧ (i < len → c.length = n ∧ Φ c)) (fun i hi => by
  obtain ⟨c, g1, g2⟩:=hx i hi
  exact ⟨c, g1, fun hl => he2 _ _ _ g2 (hwD i hl)⟩)
 have hln:∀ i, i < len → (C i).length = n:=fun i hi => ((hC i (by omega)).2 hi).1
 refine ⟨(List.range len).map C, fun c hc => ?_, by simp; omega, ?_, ?_⟩
 ·obtain ⟨i, hi, rfl⟩:=List.mem_map.1 hc
  exact (hC i (by have:=List.mem_range.1 hi; omega)).2 (List.mem_range.1 hi)
 ·rw [List.length_map, List.length_range]
  exact Nat.le_trans (Nat.mul_le_mul_right _ (by omega)) hb
 ·have hfl:∀ k, k ≤ len → ((List.range k).map C).flatten.length = k * n:=by
   intro k
   induction k with
   | zero => simp
   | succ k ih =>
    intro hk
    rw [List.range_succ, List.map_append, List.flatten_append, List.length_append, ih (by omega), Nat.succ_mul]
    simp [hln k (by omega)]
  refine ⟨by rw [hfl len (Nat.le_refl _), List.length_map, List.length_range], .inr ⟨a.block, a.off, m, cs, ty, fr, ?_, h4, ?_, by simpa using h1, fun h => by cases h⟩⟩
  ·obtain ⟨ab, ao, asp⟩:=a
   simp only at h3
   subst h3
   simp
  ·rw [hfl len (Nat.le_refl _)]
   have key:∀ k, k ≤ len → (cs.toList.drop a.off).take (k * n) = ((List.range k).map C).flatten:=by
    intro k
    induction k with
    | zero => simp
    | succ k ih =>
     intro hk
     rw [Nat.succ_mul, zhm, ih (by omega), List.range_succ, List.map_append, List.flatten_append]
     congr 1
     obtain ⟨_, g2, g3⟩:=World.cells?_some (hC k (by omega)).1
     simp only [List.map_cons, List.map_nil, List.flatten_cons, List.flatten_nil, List.append_nil]
     apply List.ext_getElem?
     intro j
     rcases Nat.lt_or_ge j n with hj | hj
     ·have:=g3 j (by omega)
      rw [← this, List.getElem?_take_of_lt hj, List.getElem?_drop]
      obtain ⟨ab, ao, asp⟩:=a
      simp only at h3
      subst h3
      rw [zcx, zcx, za3 h4]
      simp only [he1]
      rw [Array.getElem?_toList]
     ·rw [List.getElem?_eq_none (by rw [List.length_take]; omega), List.getElem?_eq_none (by rw [hln k (by omega)]; exact hj)]
   exact key len (Nat.le_refl _)
def zgg:List (Nat × (List Value → Prop)) → List Value → Prop
 | [], vs => vs = []
 | (n, Φ) :: r, vs => ∃ a b, vs = a ++ b ∧ a.length = n ∧ Φ a ∧ zgg r b
inductive zkt (enc:TypeId × Value → H) (P:Program) (W:World) (held:Bool):List Field → Nat → List (Nat × (List Value → Prop)) → Prop
 | nil {off:Nat}:zkt enc P W held [] off []
 | cons {f:Field} {fs:List Field} {off n:Nat} {Φ:List Value → Prop} {r:List (Nat × (List Value → Prop))} (ho:f.offset = off) (hr:zhg enc P W held f.type n Φ) (h:zkt enc P W held fs (off + n) r):zkt enc P W held (f :: fs) off ((n, Φ) :: r)
def z1n:List (Nat × (List Value → Prop)) → Nat
 | [] => 0
 | p :: r => p.1 + z1n r
theorem zee {t:TypeId} {fs:Array Field} {ps:List (Nat × (List Value → Prop))} (hu:P.underlying t = some (.struct fs)) (h:zkt enc P W held fs.toList 0 ps) (hc:P.cellsOf t = z1n ps):zhg enc P W held t (z1n ps) (zgg ps):=by
 refine ⟨hc, fun fuel cs x hf hw => ?_⟩
 obtain ⟨xs, n, rfl, rfl, hl, hxl, hx⟩:=DataW.trod_struct hu hf
 have hwe:DataW.weights P t (DataW.agg (H:=H) (xs.map (·.1))) = DataW.weightsEach P (fs.toList.map (·.type)) (xs.map (·.1)):=by
  rw [DataW.weights, hu]
 simp only at hw
 rw [hwe] at hw
 refine ⟨by rw [hl, hc], ?_⟩
 have gen:∀ (fl:List Field) (i off:Nat) (ps:List (Nat × (List Value → Prop))), (∀ (j:Nat) f, fl[j]? = some f → fs[i + j]? = some f) → zkt enc P W held fl off ps → off + z1n ps = cs.length → zgg ps (cs.drop off):=by
  intro fl
  induction fl with
  | nil => intro i off ps _ h ho; cases h; simp only [z1n] at ho; simp only [zgg]; rw [List.drop_eq_nil_of_le (by omega)]
  | cons f fl ihf =>
   intro i off ps hm h ho
   cases h with
   | @cons _ _ _ n' Φ r h1 h2 h3 =>
   simp only [z1n] at ho
   have g0:=hm 0 f rfl
   rw [Nat.add_zero] at g0
   have g1:=hx i f g0
   have hi:i < xs.length:=by
    rw [hxl]
    rcases Nat.lt_or_ge i fs.size with h | h
    ·exact h
    ·rw [Array.getElem?_eq_none h] at g0; cases g0
   rw [List.getElem?_eq_getElem hi, h1, h2.1] at g1
   have hwi:(xs[i].1.weights P f.type).all (· ≤ reachBytes) = true:=wt_at hw i (by rw [List.getElem?_map, Array.getElem?_toList, g0]; rfl) (by rw [List.getElem?_map, List.getElem?_eq_getElem hi]; rfl)
   obtain ⟨g2, g3⟩:=h2.2 _ _ _ g1 hwi
   refine ⟨(cs.drop off).take n', cs.drop (off + n'), ?_, g2, g3, ihf (i + 1) (off + n') r (fun j f' hj => ?_) h3 (by omega)⟩
   ·rw [← List.drop_drop, List.take_append_drop]
   ·have:=hm (j + 1) f' (by simpa using hj)
    rw [← this]; congr 1; omega
 have g:=gen fs.toList 0 0 ps (fun j f hj => by rw [Nat.zero_add, ← Array.getElem?_toList]; exact hj) h (by rw [hl, hc]; omega)
 simpa using g
theorem open_agD {t:TypeId} {n b0:Nat} {Φ:List Value → Prop} {v:Value} {dd:DataW H} {ps:List MemPlace} (h:zhg enc P W held t n Φ) (ha:(match P.underlying t with | some (.struct _) | some (.array _ _) => true | _ => false) = true)
  (hval:Value.okWide P W .any b0 t v) (hd:DataW.Trod enc P W 0 (fun _ => true) held t v dd ps) (hw:(dd.weights P t).all (· ≤ reachBytes) = true):∃ cs:List Value, v = .agg cs.toArray ∧ Φ cs:=by
 obtain ⟨fuel, hf⟩:=hd
 have key:∃ cs, v = .agg cs:=by
  unfold Value.okWide at hval
  split at hval
  ·obtain ⟨cs, h1, _⟩:=hval; exact ⟨cs, h1⟩
  ·obtain ⟨cs, h1, _⟩:=hval; exact ⟨cs, h1⟩
  ·rename_i h1 h2
   exfalso
   split at ha
   ·rename_i x hx; exact h1 _ hx
   ·rename_i x y hx; exact h2 _ _ hx
   ·cases ha
 obtain ⟨cs, rfl⟩:=key
 exact ⟨cs.toList, by simp, (h.2 _ _ _ hf hw).2⟩
end
end Go.V
set_option maxRecDepth 20000
namespace Go.V.L10
open Go.Proofs Go.ChangeShapes Go.WideShapes Go.ChangeAt Go.ChangeMaps Go.RowKit Go.V Go.V.L2 Go.V.L6
abbrev C3L:List zhi:=[.i .u8, .i .u8, .i .u8]
abbrev C3P (H:Heap):List Value → Prop:=fun vs => ∃ v, vs = [v] ∧ SlD ty3 3 (Tryz.prog.bytesOf ty3) (LeafsOK C3L) H v
abbrev DdP (H:Heap):List (Nat × (List Value → Prop)):=[(1, C3P H)]
abbrev MmP (H:Heap):List (Nat × (List Value → Prop)):=[(1, zgg (DdP H))]
abbrev OoP (H:Heap):List (Nat × (List Value → Prop)):=[(1, LeafsOK [.i .u8]), (1, zgg (MmP H)), (1, zgg (DdP H)), (1, LeafsOK [.i .u8]), (1, LeafsOK [.i .i64])]
abbrev OsP (H:Heap):List Value → Prop:=fun vs => ∃ v, vs = [v] ∧ SlD zz1 5 (Tryz.prog.bytesOf zz1) (zgg (OoP H)) H v
abbrev WwP (H:Heap):List (Nat × (List Value → Prop)):=[(1, OsP H)]
section
variable {H:Type} {enc:TypeId × Value → H} {W:World} {held:Bool}
theorem zt5:zhg enc Tryz.prog W held 64 1 (C3P (hp W)):=zju Tryz.underlying64 (by kernel_rfl) (zhr (ls:=C3L) (by kernel_rfl) (by kernel_rfl)) (by decide)
theorem zqm:zhg enc Tryz.prog W held 66 1 (zgg (DdP (hp W))):=zee Tryz.underlying66 (.cons rfl zt5 .nil) (by kernel_rfl)
theorem zw4:zhg enc Tryz.prog W held 68 1 (zgg (MmP (hp W))):=zee Tryz.underlying68 (.cons rfl zqm .nil) (by kernel_rfl)
theorem zql:zhg enc Tryz.prog W held 5 1 (LeafsOK [.i .u8]):=zhr (ls:=[.i .u8]) (by kernel_rfl) (by kernel_rfl)
theorem zt4:zhg enc Tryz.prog W held 3 1 (LeafsOK [.i .i64]):=zhr (ls:=[.i .i64]) (by kernel_rfl) (by kernel_rfl)
theorem reads_oo:zhg enc Tryz.prog W held zz1 5 (zgg (OoP (hp W))):=zee Tryz.underlying70 (.cons rfl zql (.cons rfl zw4 (.cons rfl zqm (.cons rfl zql (.cons rfl zt4 .nil))))) (by kernel_rfl)
theorem zw3:zhg enc Tryz.prog W held 22 1 (OsP (hp W)):=zju Tryz.underlying22 (by kernel_rfl) reads_oo (by decide)
theorem reads_ww:zhg enc Tryz.prog W held 24 1 (zgg (WwP (hp W))):=zee Tryz.underlying24 (.cons rfl zw3 .nil) (by kernel_rfl)
end
theorem zmu {k:IntKind} {a:List Value} (h:LeafsOK [.i k] a):∃ z, a = [.int k z] ∧ (Lit.int k z).wf = true:=by
 obtain ⟨z, r, rfl, h1, h2⟩:=zq3 h
 obtain rfl:=zq2 h2
 exact ⟨z, rfl, h1⟩
theorem zpt {α:Type} {f:α → List Value} {Φ:List Value → Prop} {Ψ:α → Prop} (hf:∀ c, Φ c → ∃ x, c = f x ∧ Ψ x):∀ (cs:List (List Value)), (∀ c ∈ cs, Φ c) → ∃ l:List α, cs.flatten = l.flatMap f ∧ l.length = cs.length ∧ ∀ x ∈ l, Ψ x
 | [], _ => ⟨[], rfl, rfl, fun x h => by cases h⟩
 | c :: cs, h => by
  obtain ⟨x, rfl, hx⟩:=hf c (h c (List.mem_cons_self ..))
  obtain ⟨l, h1, h2, h3⟩:=zpt hf cs fun d hd => h d (List.mem_cons_of_mem _ hd)
  exact ⟨x :: l, by rw [List.flatten_cons, List.flatMap_cons, h1], by rw [List.length_cons, List.length_cons, h2], fun y hy => by
   rcases List.mem_cons.1 hy with rfl | hy
   ·exact hx
   ·exact h3 y hy⟩
theorem zne {z:Int} (h:(Lit.int .u8 z).wf = true):∃ n:Nat, z = (n:Int) ∧ n ≤ 255:=by
 have:=Go.bounds_u8 h
 exact ⟨z.toNat, by omega, by omega⟩
theorem z42 {a:List Value} (h:LeafsOK C3L a):∃ x:C3, a = qcs x ∧ x.1 ≤ 255 ∧ x.2.1 ≤ 255 ∧ x.2.2 ≤ 255:=by
 obtain ⟨z1, r, rfl, h1, h⟩:=zq3 h
 obtain ⟨z2, r, rfl, h2, h⟩:=zq3 h
 obtain ⟨z3, r, rfl, h3, h⟩:=zq3 h
 obtain rfl:=zq2 h
 obtain ⟨n1, rfl, b1⟩:=zne h1
 obtain ⟨n2, rfl, b2⟩:=zne h2
 obtain ⟨n3, rfl, b3⟩:=zne h3
 exact ⟨(n1, n2, n3), rfl, b1, b2, b3⟩
theorem zzn {H:Heap} {v:Value} (h:SlD ty3 3 (Tryz.prog.bytesOf ty3) (LeafsOK C3L) H v):∃ l:List C3, PS3 l false v H ∧ l.length ≤ 9223372036854775807 ∧ ∀ c ∈ l, c.1 ≤ 255 ∧ c.2.1 ≤ 255 ∧ c.2.2 ≤ 255:=by
 obtain ⟨cs, h1, h2, h3, h4⟩:=h
 obtain ⟨l, g1, g2, g3⟩:=zpt (f:=qcs) (Ψ:=fun x:C3 => x.1 ≤ 255 ∧ x.2.1 ≤ 255 ∧ x.2.2 ≤ 255) (fun c hc => z42 hc) cs fun c hc => (h1 c hc).2
 rw [g1, ← g2] at h4
 exact ⟨l, h4, by rw [g2]; exact h2, g3⟩
theorem z2i {H:Heap} {c:List Value} (h:zgg (OoP H) c):∃ z:ZO, c = ooc z ∧ OOK z.1 ∧ PS3 z.1.ms false z.2.1 H ∧ PS3 z.1.cs false z.2.2 H:=by
 obtain ⟨a1, b, rfl, -, h1, h⟩:=h
 obtain ⟨a2, b, rfl, -, ⟨_, _, rfl, -, ⟨_, _, rfl, -, ⟨mv, rfl, hm⟩, rfl⟩, rfl⟩, h⟩:=h
 obtain ⟨a3, b, rfl, -, ⟨_, _, rfl, -, ⟨cv, rfl, hc⟩, rfl⟩, h⟩:=h
 obtain ⟨a4, b, rfl, -, h4, h⟩:=h
 obtain ⟨a5, b, rfl, -, h5, rfl⟩:=h
 obtain ⟨z1, rfl, w1⟩:=zmu h1
 obtain ⟨z4, rfl, w4⟩:=zmu h4
 obtain ⟨z5, rfl, w5⟩:=zmu h5
 obtain ⟨n1, rfl, b1⟩:=zne w1
 obtain ⟨n4, rfl, b4⟩:=zne w4
 obtain ⟨ms, g1, g2, g3⟩:=zzn hm
 obtain ⟨cs, k1, k2, k3⟩:=zzn hc
 exact ⟨(⟨n1, ms, cs, n4, z5⟩, mv, cv), rfl, ⟨b1, b4, g3, k3, g2, k2⟩, g1, k1⟩
theorem z39 {H:Heap} {c:List Value} (h:zgg (WwP H) c):∃ (xv:Value) (zs:List ZO), c = [xv] ∧ WsV zs xv H ∧ OzOK zs H:=by
 obtain ⟨a1, b, rfl, -, ⟨v, rfl, cs, g1, g2, g3, g4⟩, rfl⟩:=h
 obtain ⟨zs, e1, e2, e3⟩:=zpt (f:=ooc) (Ψ:=fun z:ZO => OOK z.1 ∧ PS3 z.1.ms false z.2.1 H ∧ PS3 z.1.cs false z.2.2 H) (fun c hc => z2i hc) cs fun c hc => (g1 c hc).2
 rw [e1, ← e2] at g4
 exact ⟨v, zs, rfl, g4, e3⟩
end Go.V.L10
set_option maxRecDepth 20000
namespace Go.V.L10
open Go.Proofs Go.RowKit Go.V Go.V.L2 Go.V.L8 Go.V.L6
theorem zq1 {b:Nat} {S:Sto} (hn:S.R.length ≠ 0) {u:World} {H:Heap} (hH:H.Le (hp u)) (h:∃ m s, (∃ p k c, s = .slice p k c) ∧ H b = some (.cells (stc S.R.length m s S.P.length).toArray tyS)):Ret Tryz.prog 15 [zff b] u H (fun v _ => v = .int .u64 S.R.length):=by
 obtain ⟨m, s, _, hb⟩:=h
 exact zlj hn hb hH
attribute [local irreducible] V N X VO Par StepOK Has Ret RetL RetO RetT zb8 zdn RetY Src
end Go.V.L10
set_option maxRecDepth 20000
namespace Go.V.L10
open Go.Proofs Go.RowKit Go.V Go.V.L2 Go.V.L8 Go.V.L6
def NoneV (v:Value) (B:Heap):Prop:=v = .pointer none ∨ ∃ b, v = zff b ∧ B b = some (.cells #[.int .u64 0, .map none, .slice none 0 0, .int .i64 0] tyS)
theorem NoneV.le {v:Value} {H H':Heap} (h:NoneV v H) (hle:H.Le H'):NoneV v H':=h.imp id fun ⟨b, h1, h2⟩ => ⟨b, h1, hle _ _ h2⟩
attribute [local irreducible] V N X VO Par StepOK Has Ret RetL RetO RetT zb8 zdn RetY Src
theorem zd4 {v:Value} {w:World} {B:Heap} (hv:NoneV v B) (hB:B.Le (hp w)):Ret Tryz.prog 43 [v] w B (fun x _ => x = .bool true):=by
 rcases hv with rfl | ⟨b, rfl, hb⟩
 ·refine yc Tryz.func43 rfl Tryz.ntmps43 (Nat.le_of_ble_eq_true rfl) hB ?_
  refine Z286 ?_; refine z7 (ze6 rfl rfl rfl rfl z2q rfl) rfl ?_; refine Z291 ?_; refine Z204 ?_; refine Z139 ?_
  refine yb L (rs:=[.tmp 2]) rfl (fun _ _ h => h) Since.refl fun u H hH hle => ?_
  rfl
 ·refine yc Tryz.func43 rfl Tryz.ntmps43 (Nat.le_of_ble_eq_true rfl) hB ?_
  refine Z286 ?_; refine z7 (ze6 rfl rfl rfl rfl z2q rfl) rfl ?_; refine Z141 ?_; refine Z296 ?_; refine Z26 ?_; refine Z8 ?_; refine Z139 ?_
  refine yb L (rs:=[.tmp 2]) rfl (fun _ _ h => h) Since.refl fun u H hH hle => ?_
  rfl
theorem zcf {v:Value} {w:World} {B:Heap} (hv:NoneV v B) (hB:B.Le (hp w)):Ret Tryz.prog 15 [v] w B (fun x _ => x = .int .u64 0):=by
 refine yc Tryz.func15 rfl Tryz.ntmps15 (Nat.le_of_ble_eq_true rfl) hB ?_
 refine Z256 ?_; refine z7 (zo L rfl rfl (zk rfl) rfl rfl rfl (fun u H hH hle _ => zd4 (hv.le hle) hH)) rfl ?_; refine Z263 ?_
 refine yb L (rs:=[.tmp 2]) rfl (fun _ _ h => h) Since.refl fun u H hH hle => ?_
 rfl
theorem zd7 {v:Value} {w:World} {B:Heap} (hv:NoneV v B) (hB:B.Le (hp w)):Ret Tryz.prog 12 [v] w B (fun x _ => x = .slice none 0 0):=by
 refine yc Tryz.func12 rfl Tryz.ntmps12 (Nat.le_of_ble_eq_true rfl) hB ?_
 refine Z256 ?_; refine z7 (zo L rfl rfl (zk rfl) rfl rfl rfl (fun u H hH hle _ => zd4 (hv.le hle) hH)) rfl ?_; refine Z263 ?_
 refine yb L (rs:=[.tmp 2]) rfl (fun _ _ h => h) Since.refl fun u H hH hle => ?_
 rfl
theorem zoq {v:Value} {w:World} {B:Heap} (hv:NoneV v B) (hB:B.Le (hp w)):Ret Tryz.prog 32 [v] w B (fun x _ => x = .pointer none):=by
 refine yc Tryz.func32 rfl Tryz.ntmps32 (Nat.le_of_ble_eq_true rfl) hB ?_
 refine Z256 ?_; refine z7 (zo L rfl rfl (zk rfl) rfl rfl rfl (fun u H hH hle _ => zd4 (hv.le hle) hH)) rfl ?_; refine Z263 ?_
 refine yb L (rs:=[.tmp 2]) rfl (fun _ _ h => h) Since.refl fun u H hH hle => ?_
 rfl
theorem zet {v:Value} {w:World} {B:Heap} (hv:NoneV v B) (hB:B.Le (hp w)):Ret Tryz.prog 25 [v] w B (fun x _ => x = pnv (.slice none 0 0) 0):=by
 refine yc Tryz.func25 rfl Tryz.ntmps25 (Nat.le_of_ble_eq_true rfl) hB ?_
 refine Z315 ?_; refine Z191 ?_; refine Z289 ?_; refine z7 (zo L rfl rfl (zk rfl) rfl rfl rfl (fun u H hH hle _ => zd4 (hv.le hle) hH)) rfl ?_; refine Z208 ?_; refine z7 (yv (cs:=[_, _]) rfl rfl zy9 rfl rfl) rfl ?_; refine Z252 ?_
 refine yb L (rs:=[.cell 2 74]) rfl (fun _ _ h => h) Since.refl fun u H hH hle => ?_
 exact ⟨_, yk rfl, rfl, rfl⟩
theorem zm6 {v:Value} {r:Int} {w:World} {B:Heap} (hv:NoneV v B) (hB:B.Le (hp w)):Ret Tryz.prog 13 [v, .int .u64 r] w B (fun x _ => x = .tuple #[nilSet, .int .i64 2]):=by
 refine yc Tryz.func13 rfl Tryz.ntmps13 (Nat.le_of_ble_eq_true rfl) hB ?_
 refine Z315 ?_; refine Z188 ?_; refine z7 (zo L rfl rfl (zk rfl) rfl rfl rfl (fun u H hH hle _ => zd4 (hv.le hle) hH)) rfl ?_; refine Z208 ?_; refine z7 (yv (cs:=[_, _, _, _]) rfl rfl ztb rfl rfl) rfl ?_; refine Z235 ?_
 refine yb L (rs:=[.cell 4 45, .tmp 5]) rfl (fun _ _ h => h) Since.refl fun u H hH hle => ?_
 exact ⟨_, yk rfl, rfl, rfl⟩
theorem zos {v:Value} {r:Int} {w:World} {B:Heap} (hv:NoneV v B) (hB:B.Le (hp w)):Ret Tryz.prog 21 [v, .int .i64 r] w B (fun x _ => x = .tuple #[.slice none 0 0, .int .i64 2]):=by
 refine yc Tryz.func21 rfl Tryz.ntmps21 (Nat.le_of_ble_eq_true rfl) hB ?_
 refine Z146 ?_; refine Z195 ?_; refine Z332 ?_; refine z7 (zo L rfl rfl (zk rfl) rfl rfl rfl (fun u H hH hle _ => zd4 (hv.le hle) hH)) rfl ?_; refine Z247 ?_; refine zh ?_; refine Z29 ?_; refine Z186 ?_
 refine yb L (rs:=[.tmp 4, .tmp 5]) rfl (fun _ _ h => h) Since.refl fun u H hH hle => ?_
 rfl
theorem zkm {v:Value} {fv:Value} {r:Int} {w:World} {B:Heap} (hv:NoneV v B) (hB:B.Le (hp w)):Ret Tryz.prog 50 [v, .int .u64 r, fv] w B (fun x _ => x = .int .i64 2):=by
 refine yc Tryz.func50 rfl Tryz.ntmps50 (Nat.le_of_ble_eq_true rfl) hB ?_
 refine Z256 ?_; refine z7 (zo L rfl rfl (zk rfl) rfl rfl rfl (fun u H hH hle _ => zd4 (hv.le hle) hH)) rfl ?_; refine Z263 ?_
 refine yb L (rs:=[.tmp 6]) rfl (fun _ _ h => h) Since.refl fun u H hH hle => ?_
 rfl
theorem zqn {v:Value} {r:Int} {w:World} {B:Heap} (hv:NoneV v B) (hB:B.Le (hp w)):Ret Tryz.prog 20 [v, .int .u64 r] w B (fun x _ => x = .int .i64 2):=by
 refine yc Tryz.func20 rfl Tryz.ntmps20 (Nat.le_of_ble_eq_true rfl) hB ?_
 refine Z331 ?_; refine z7 (zo L rfl rfl (zk rfl) rfl rfl rfl (fun u H hH hle _ => zkm (hv.le hle) hH)) rfl ?_; refine Z139 ?_
 refine yb L (rs:=[.tmp 4]) rfl (fun _ _ h => h) Since.refl fun u H hH hle => ?_
 rfl
theorem zk4 {v:Value} {r:Int} {w:World} {B:Heap} (hv:NoneV v B) (hB:B.Le (hp w)):Ret Tryz.prog 39 [v, .int .u64 r] w B (fun x _ => x = .int .i64 2):=by
 refine yc Tryz.func39 rfl Tryz.ntmps39 (Nat.le_of_ble_eq_true rfl) hB ?_
 refine Z331 ?_; refine z7 (zo L rfl rfl (zk rfl) rfl rfl rfl (fun u H hH hle _ => zkm (hv.le hle) hH)) rfl ?_; refine Z139 ?_
 refine yb L (rs:=[.tmp 4]) rfl (fun _ _ h => h) Since.refl fun u H hH hle => ?_
 rfl
theorem zk3 {v lv cv:Value} {l cs:List CH} {fl fc:Bool} {w:World} {B:Heap} (hv:NoneV v B) (hl:KS tyM l fl lv B) (hc:KS tyC cs fc cv B) (hB:B.Le (hp w)):Ret Tryz.prog 19 [v, lv, cv] w B (fun x _ => x = .tuple #[.int .u64 0, .int .i64 2]):=by
 refine yc Tryz.func19 rfl Tryz.ntmps19 (Nat.le_of_ble_eq_true rfl) hB ?_
 refine Z251 ?_; refine Z397 ?_; refine z7 (zo L rfl rfl (zk rfl) rfl rfl rfl (fun u H hH hle _ => zm6 (hv.le hle) hH)) rfl ?_; refine Z352 ?_; refine Z148 ?_; refine Z175 ?_; refine Z222 ?_; refine Z173 ?_; refine Z186 ?_
 refine yb L (rs:=[.tmp 6, .tmp 7]) rfl (fun _ _ h => h) Since.refl fun u H hH hle => ?_
 rfl
theorem zlu {v:Value} {p q:Int} {w:World} {B:Heap} (hv:NoneV v B) (hB:B.Le (hp w)):Ret Tryz.prog 28 [v, .int .u64 p, .int .u64 q] w B (fun x _ => x = .tuple #[.slice none 0 0, .int .i64 2]):=by
 refine yc Tryz.func28 rfl Tryz.ntmps28 (Nat.le_of_ble_eq_true rfl) hB ?_
 refine Z251 ?_; refine Z160 ?_; refine Z141 ?_; refine z7 (zo L rfl rfl (zk rfl) rfl rfl rfl (fun u H hH hle _ => zm6 (hv.le hle) hH)) rfl ?_; refine Z352 ?_; refine Z148 ?_; refine Z175 ?_; refine Z222 ?_; refine Z173 ?_; refine Z186 ?_
 refine yb L (rs:=[.tmp 6, .tmp 7]) rfl (fun _ _ h => h) Since.refl fun u H hH hle => ?_
 rfl
end Go.V.L10
set_option maxRecDepth 20000
namespace Go.V.L10
open Go.Proofs Go.RowKit Go.V Go.V.L2 Go.V.L8 Go.V.L6
attribute [local irreducible] V N X VO Par StepOK Has Ret RetL RetO RetT zb8 zdn RetY Src
set_option maxHeartbeats 1000000 in
theorem zk9 {v:Value} {w:World} {B:Heap} (hv:NoneV v B) (hB:B.Le (hp w)):Ret Tryz.prog 33 [.pointer none, v] w B (fun x _ => x = .bool true):=by
 rcases hv with rfl | ⟨z, rfl, hz⟩
 ·refine yc Tryz.func33 rfl Tryz.ntmps33 (Nat.le_of_ble_eq_true rfl) hB ?_
  refine Z157 ?_; refine zbl 2 rfl fun v1 H1 hs2 hv1 => ?_; obtain ⟨d1, rfl, hd1⟩:=hv1; refine Z16 ?_; refine zbl 3 rfl fun v2 H2 hs3 hv2 => ?_; obtain ⟨d2, rfl, hd2⟩:=hv2; refine Z144 ?_
  have hd1':=hs3.le _ _ hd1
  refine Z17 ?_; refine Z59 ?_; refine z7 (zo L rfl rfl (zk rfl) rfl rfl rfl (fun u H hH hle _ => zd7 (.inl rfl) hH)) rfl ?_; refine Z148 ?_
  refine Z117 ?_; refine Z22 ?_; refine z8 (zo L rfl rfl (zk rfl) rfl rfl rfl (fun u H hH hle _ => zcf (.inl rfl) hH)) rfl ?_; refine Z22 ?_; refine z8 (zo L rfl rfl (zk rfl) rfl rfl rfl (fun u H hH hle _ => zcf (.inl rfl) hH)) rfl ?_; refine Z99 ?_; refine Z147 ?_; refine Z22 ?_; refine z8 (zo L rfl rfl (zk rfl) rfl rfl rfl (fun u H hH hle _ => zd7 (.inl rfl) hH)) rfl ?_; refine z8 (zo L rfl rfl (zk rfl) rfl rfl rfl (fun u H hH hle _ => zlt (a:=[]) (b:=[]) (fa:=true) (fb:=true) rfl (Nat.zero_le _) hH SlV.nil SlV.nil)) rfl ?_; refine Z63 ?_; refine Z34 ?_; refine Z326 ?_; refine z8 (zo L rfl rfl (zk rfl) rfl rfl rfl (fun u H hH hle _ => zet (.inl rfl) hH)) rfl ?_; refine Z22 ?_; refine z8 (zo L rfl rfl (zk rfl) rfl rfl rfl (fun u H hH hle _ => zet (.inl rfl) hH)) rfl ?_; refine z8 (zo L rfl rfl (zk rfl) rfl rfl rfl (fun u H hH hle _ => zg1 (L1:=[]) (L2:=[]) (t1:=0) (t2:=0) (f:=true) (by decide) (Nat.zero_le _) (Nat.zero_le _) hH SlV.nil SlV.nil)) rfl ?_; refine Z63 ?_; refine Z382 ?_
  refine Z161 ?_; refine z7 (zd3 rfl rfl rfl rfl) rfl ?_; refine z7 (zo L rfl rfl (zk rfl) rfl rfl rfl (fun u H hH hle _ => zor (l:=[]) (fu:=true) (p:=fun _ => false) (f:=66) (cap:=[zff d1, zff d2]) (b:=false) rfl rfl (Nat.zero_le _) (fun r hr => by cases hr) SlV.nil hH)) rfl ?_; refine Z52 ?_; refine Z139 ?_
  refine yb L (rs:=[.tmp 4]) rfl (fun _ _ h => h) (hs2.trans hs3) fun u H hH hle => ?_
  rfl
 ·refine yc Tryz.func33 rfl Tryz.ntmps33 (Nat.le_of_ble_eq_true rfl) hB ?_
  refine Z157 ?_; refine zbl 2 rfl fun v1 H1 hs2 hv1 => ?_; obtain ⟨d1, rfl, hd1⟩:=hv1; refine Z16 ?_; refine zbl 3 rfl fun v2 H2 hs3 hv2 => ?_; obtain ⟨d2, rfl, hd2⟩:=hv2; refine Z144 ?_
  have hd1':=hs3.le _ _ hd1
  refine Z17 ?_; refine Z59 ?_; refine z7 (zo L rfl rfl (zk rfl) rfl rfl rfl (fun u H hH hle _ => zd7 (.inl rfl) hH)) rfl ?_; refine Z148 ?_
  refine Z117 ?_; refine Z22 ?_; refine z8 (zo L rfl rfl (zk rfl) rfl rfl rfl (fun u H hH hle _ => zcf (.inl rfl) hH)) rfl ?_; refine Z22 ?_; refine z8 (zo L rfl rfl (zk rfl) rfl rfl rfl (fun u H hH hle _ => zcf (.inr ⟨z, rfl, hle _ _ ((hs2.trans hs3).le _ _ hz)⟩) hH)) rfl ?_; refine Z99 ?_; refine Z147 ?_; refine Z22 ?_; refine z8 (zo L rfl rfl (zk rfl) rfl rfl rfl (fun u H hH hle _ => zd7 (.inr ⟨z, rfl, hle _ _ ((hs2.trans hs3).le _ _ hz)⟩) hH)) rfl ?_; refine z8 (zo L rfl rfl (zk rfl) rfl rfl rfl (fun u H hH hle _ => zlt (a:=[]) (b:=[]) (fa:=true) (fb:=true) rfl (Nat.zero_le _) hH SlV.nil SlV.nil)) rfl ?_; refine Z63 ?_; refine Z34 ?_; refine Z326 ?_; refine z8 (zo L rfl rfl (zk rfl) rfl rfl rfl (fun u H hH hle _ => zet (.inl rfl) hH)) rfl ?_; refine Z22 ?_; refine z8 (zo L rfl rfl (zk rfl) rfl rfl rfl (fun u H hH hle _ => zet (.inr ⟨z, rfl, hle _ _ ((hs2.trans hs3).le _ _ hz)⟩) hH)) rfl ?_; refine z8 (zo L rfl rfl (zk rfl) rfl rfl rfl (fun u H hH hle _ => zg1 (L1:=[]) (L2:=[]) (t1:=0) (t2:=0) (f:=true) (by decide) (Nat.zero_le _) (Nat.zero_le _) hH SlV.nil SlV.nil)) rfl ?_; refine Z63 ?_; refine Z382 ?_
  refine Z161 ?_; refine z7 (zd3 rfl rfl rfl rfl) rfl ?_; refine z7 (zo L rfl rfl (zk rfl) rfl rfl rfl (fun u H hH hle _ => zor (l:=[]) (fu:=true) (p:=fun _ => false) (f:=66) (cap:=[zff d1, zff d2]) (b:=false) rfl rfl (Nat.zero_le _) (fun r hr => by cases hr) SlV.nil hH)) rfl ?_; refine Z52 ?_; refine Z139 ?_
  refine yb L (rs:=[.tmp 4]) rfl (fun _ _ h => h) (hs2.trans hs3) fun u H hH hle => ?_
  rfl
set_option maxHeartbeats 1000000 in
theorem zr3 {S:Sto} {b:Nat} (hne:S.R.length ≠ 0) (hk:(za8 S.R).length ≤ 100000) {w:World} {B:Heap} {C:Nat → Prop} (hB:B.Le (hp w)) (hr:(StG b S).P B w C) (hC:∀ k, C k → k < w.heap.size ∧ B k = none) :
  RetY Tryz.prog 33 [zff b, .pointer none] w B C (StG b S) (fun v _ => v = .bool false):=by
 unfold RetY
 refine zar 900 (StG b S) Tryz.func33 rfl Tryz.ntmps33 (Nat.le_of_ble_eq_true rfl) hB hr hC ?_
 refine Z206 ?_; refine Z144 ?_
 refine Z17 ?_; refine Z31 ?_; refine yr (zb2 L 900 (RsV (za8 S.R) true) (r:=StG b S) rfl rfl rfl rfl rfl SlV.mono (fun u H2 C2 hH hle hr2 hC2 => znl hne hk hH hr2 hC2)) ?_; refine Z359 ?_
 refine qf (id:=2) [(200009, [900])] mixed (by kernel_rfl) ?_; refine Z55 ?_; refine qp (zay L 900 (c:=.int .u64 S.R.length) rfl rfl (zk rfl) rfl rfl rfl rfl rfl zq0 (fun u H hH hle hb => zq1 hne hH hb)) rfl rfl ?_; refine Z55 ?_; refine z8 (zo L rfl rfl (zk rfl) rfl rfl rfl (fun u H hH hle _ => zcf (.inl rfl) hH)) rfl ?_; refine Z129 ?_; refine Z226 ?_; refine Z5 ?_; refine Z34 ?_; refine Z226 ?_; refine Z153 ?_; refine Z261 ?_; refine Z392 ?_; refine Z139 ?_
 exact zbx L 900 (r:=StG b S) (rs:=[.tmp 4]) rfl (fun _ _ h => h) Since.refl rfl rfl (fun H hle => rfl)
set_option maxHeartbeats 1000000 in
theorem zr2 {S:Sto} {b:Nat} {z:Nat} (hne:S.R.length ≠ 0) (hk:(za8 S.R).length ≤ 100000) {w:World} {B:Heap} {C:Nat → Prop} (hz:NoneV (zff z) B) (hB:B.Le (hp w)) (hr:(StG b S).P B w C) (hC:∀ k, C k → k < w.heap.size ∧ B k = none) :
  RetY Tryz.prog 33 [zff z, zff b] w B C (StG b S) (fun v _ => v = .bool false):=by
 unfold RetY
 refine zar 900 (StG b S) Tryz.func33 rfl Tryz.ntmps33 (Nat.le_of_ble_eq_true rfl) hB hr hC ?_
 refine Z206 ?_; refine Z144 ?_
 refine Z17 ?_; refine Z31 ?_; refine z7 (zo L rfl rfl (zk rfl) rfl rfl rfl (fun u H hH hle _ => zd7 (hz.le hle) hH)) rfl ?_; refine Z148 ?_
 refine qf (id:=2) [(200011, [900])] mixed (by kernel_rfl) ?_; refine Z55 ?_; refine z8 (zo L rfl rfl (zk rfl) rfl rfl rfl (fun u H hH hle _ => zcf (hz.le hle) hH)) rfl ?_; refine Z55 ?_; refine qp (zay L 900 (c:=.int .u64 S.R.length) rfl rfl (zk rfl) rfl rfl rfl rfl rfl zq0 (fun u H hH hle hb => zq1 hne hH hb)) rfl rfl ?_; refine Z129 ?_; refine Z226 ?_; refine Z5 ?_; refine Z34 ?_; refine Z226 ?_; refine Z153 ?_; refine Z261 ?_; refine Z392 ?_; refine Z139 ?_
 exact zbx L 900 (r:=StG b S) (rs:=[.tmp 4]) rfl (fun _ _ h => h) Since.refl rfl rfl (fun H hle => rfl)
end Go.V.L10
set_option maxRecDepth 20000
namespace Go.V.L10
open Go.Proofs Go.RowKit Go.V Go.V.L2 Go.V.L8 Go.V.L6
theorem zr0 {S:Sto} {b:Nat} (hn:S.R.length ≠ 0) (hz:(za8 S.R).length ≤ 100000) {w:World} {B:Heap} {C:Nat → Prop} (hB:B.Le (hp w)) (hr:(StG b S).P B w C) (hC:∀ k, C k → k < w.heap.size ∧ B k = none) :
  RetT Tryz.prog 12 [zff b] w B C (zf6 (zyv S.R) (StG b S).res):=by
 obtain ⟨⟨m, s, es⟩, ⟨hm, hes, hps⟩, hr⟩:=hr
 exact RetL.mono (ziz hm hn (by rw [hm.len]; exact hz) hB hr hC) fun v H u hg ⟨C', ⟨C1, C2, a1, a2, a3, a4⟩, h2⟩ => ⟨C', ⟨C1, C2, a1, zfo hm hes hps v H u C2 hg.le a2, a3, a4⟩, h2⟩
attribute [local irreducible] V N X VO Par StepOK Has Ret RetL RetO RetT zb8 zdn RetY Src
set_option maxHeartbeats 4000000 in
set_option maxRecDepth 20000 in
theorem zl3 {o:OO} {zs:List ZO} {mv cv xv:Value} {w:World} {B:Heap} (hok:OOK o) (hB:B.Le (hp w)) (hmv:PS3 o.ms false mv B) (hcv:PS3 o.cs false cv B) (hx:WsV zs xv B) (ho:OzOK zs B) :
  Ret Tryz.prog 8 [.agg #[.int .u8 o.wh, mv, cv, .int .u8 o.rv, .int .i64 o.kp], .agg #[xv]] w B (fun v _ => v = .bool true):=by
 obtain ⟨px, cx, rfl⟩:=zap hx
 obtain ⟨p1, c1, rfl⟩:=zap hmv
 obtain ⟨p2, c2, rfl⟩:=zap hcv
 refine yc Tryz.func8 rfl Tryz.ntmps8 (Nat.le_of_ble_eq_true rfl) hB ?_
 refine Z206 ?_; refine Z160 ?_; refine Z23 ?_; refine Z159 ?_
 refine z47 5 rfl ?_
 refine zky 5 rfl fun v H0 hs0 hz => ?_
 obtain ⟨z, rfl, hz⟩:=hz
 have hN:NoneV (zff z) H0:=.inr ⟨z, rfl, hz⟩
 refine Z29 ?_; refine Z35 ?_; refine Z359 ?_; refine Z28 ?_; refine Z203 ?_
 refine zak (fun i:Nat => [(2, .sat (At [.int .u8 o.wh, .slice p1 o.ms.length c1, .slice p2 o.cs.length c2, .int .u8 o.rv, .int .i64 o.kp] zz1 0)), (3, .sat (At [.slice px zs.length cx] 24 0)), (5, .is (zff z)), (6, .sat (SlB [.pointer none, zff z] 29 2)), (7, .is (.int .i64 i))]) (fun i => i ≤ 2) (fun i => 2 - i) 0 (Nat.zero_le _) ⟨rfl, rfl, rfl, rfl, rfl, trivial⟩ ?_
 rintro i hi
 by_cases h0:i = 0
 ·subst h0
  ·refine Z216 ?_; refine Z201 ?_; refine Z43 ?_; refine Z194 ?_; refine Z133 ?_; refine Z31 ?_; refine Z144 ?_; refine Z196 ?_; refine z7 (zw L (vs:=[_, _, _, _, _]) (ql rfl) rfl rfl rfl rfl ⟨_, rfl⟩) rfl ?_; refine z7 (zo L rfl rfl (zk rfl) rfl rfl rfl (fun u H hH _ _ => rev_ret hok rfl rfl hH)) rfl ?_; refine z7 (zo L rfl rfl (zk rfl) rfl rfl rfl (fun u H hH hle _ => zm6 (NoneV.le (.inl rfl) hle) hH)) rfl ?_; refine Z352 ?_; refine Z144 ?_
   refine Z87 ?_; refine Z3 ?_; refine Z46 ?_; refine z8 (zw L (vs:=[_]) (ql rfl) rfl rfl rfl rfl ⟨_, rfl⟩) rfl ?_; refine z8 (yq (φ:=KS tyM (dOf o.ms) false) L rfl rfl (zk rfl) rfl rfl rfl SlV.mono (fun u H hH hle _ => zmp rfl hok.ms hok.lm hH (hmv.le (hs0.le.trans hle)))) rfl ?_; refine Z46 ?_; refine z8 (zw L (vs:=[_]) (ql rfl) rfl rfl rfl rfl ⟨_, rfl⟩) rfl ?_; refine z8 (yq (φ:=KS tyC (dOf o.cs) false) L rfl rfl (zk rfl) rfl rfl rfl SlV.mono (fun u H hH hle _ => zki rfl hok.cs hok.lc hH (hcv.le (hs0.le.trans hle)))) rfl ?_; refine z8 (zo L rfl rfl (zk rfl) rfl rfl rfl (fun u H hH hle _ v1 h1 v2 h2 => zk3 (NoneV.le (.inl rfl) hle) h1 h2 hH)) rfl ?_; refine Z3 ?_; refine Z411 ?_; refine Z327 ?_
   refine Z280 ?_; refine Z181 ?_; refine z7 (zo L rfl rfl (zk rfl) rfl rfl rfl (fun u H hH hle _ => zos (NoneV.le (.inl rfl) hle) hH)) rfl ?_; refine Z229 ?_; refine Z292 ?_; refine z7 (zw L (vs:=[_, _, _, _, _]) (ql rfl) rfl rfl rfl rfl ⟨_, rfl⟩) rfl ?_; refine z7 (zo L rfl rfl (zk rfl) rfl rfl rfl (fun u H hH _ _ => rev_ret hok rfl rfl hH)) rfl ?_; refine z7 (zo L rfl rfl (zk rfl) rfl rfl rfl (fun u H hH hle _ => zlu (NoneV.le (.inl rfl) hle) hH)) rfl ?_; refine Z229 ?_
   refine Z272 ?_; refine Z21 ?_; refine Z141 ?_; refine Z290 ?_; refine Z290 ?_; refine Z290 ?_; refine z7 (zw L (vs:=[_, _, _, _, _]) (ql rfl) rfl rfl rfl rfl ⟨_, rfl⟩) rfl ?_; refine z7 (zo L rfl rfl (zk rfl) rfl rfl rfl (fun u H hH _ _ => rev_ret hok rfl rfl hH)) rfl ?_; refine z7 (zo L rfl rfl (zk rfl) rfl rfl rfl (fun u H hH hle _ => zqn (NoneV.le (.inl rfl) hle) hH)) rfl ?_; refine Z290 ?_; refine z7 (zw L (vs:=[_, _, _, _, _]) (ql rfl) rfl rfl rfl rfl ⟨_, rfl⟩) rfl ?_; refine z7 (zo L rfl rfl (zk rfl) rfl rfl rfl (fun u H hH _ _ => rev_ret hok rfl rfl hH)) rfl ?_; refine z7 (zo L rfl rfl (zk rfl) rfl rfl rfl (fun u H hH hle _ => zk4 (NoneV.le (.inl rfl) hle) hH)) rfl ?_; refine Z290 ?_; refine z7 (zo L rfl rfl (zk rfl) rfl rfl rfl (fun u H hH hle _ => zcf (NoneV.le (.inl rfl) hle) hH)) rfl ?_; refine Z290 ?_; refine z7 (zo L rfl rfl (zk rfl) rfl rfl rfl (fun u H hH hle _ => zd7 (NoneV.le (.inl rfl) hle) hH)) rfl ?_; refine Z75 ?_; refine Z290 ?_; refine z7 (zo L rfl rfl (zk rfl) rfl rfl rfl (fun u H hH hle _ => zoq (NoneV.le (.inl rfl) hle) hH)) rfl ?_; refine z7 (zml rfl rfl rfl rfl z2q rfl rfl) rfl ?_; refine Z200 ?_; refine z7 (zo L rfl rfl (zk rfl) rfl rfl rfl (fun u H hH hle _ => zet (NoneV.le (.inl rfl) hle) hH)) rfl ?_; refine z7 (yv (cs:=[_, _]) rfl rfl zy9 rfl rfl) rfl ?_; refine z7 (zo L rfl rfl (zk rfl) rfl rfl rfl (fun u H hH hle _ => zg1 (L1:=[]) (L2:=[]) (t1:=0) (t2:=0) (f:=true) (by decide) (Nat.zero_le _) (Nat.zero_le _) hH SlV.nil SlV.nil)) rfl ?_; refine Z287 ?_; refine Z221 ?_; refine Z304 ?_
   exact yi (x:=0) 1 (by omega) (by omega) ⟨rfl, rfl, rfl, rfl, rfl, trivial⟩
 ·by_cases h1:i = 1
  ·subst h1
   refine Z216 ?_; refine Z201 ?_; refine Z43 ?_; refine Z194 ?_; refine z7 (zc9 L _ rfl rfl rfl rfl rfl rfl rfl (by omega)) rfl ?_; refine Z31 ?_; refine Z144 ?_; refine Z196 ?_; refine z7 (zw L (vs:=[_, _, _, _, _]) (ql rfl) rfl rfl rfl rfl ⟨_, rfl⟩) rfl ?_; refine z7 (zo L rfl rfl (zk rfl) rfl rfl rfl (fun u H hH _ _ => rev_ret hok rfl rfl hH)) rfl ?_; refine z7 (zo L rfl rfl (zk rfl) rfl rfl rfl (fun u H hH hle _ => zm6 (NoneV.le (hN) hle) hH)) rfl ?_; refine Z352 ?_; refine Z144 ?_
   refine Z87 ?_; refine Z3 ?_; refine Z46 ?_; refine z8 (zw L (vs:=[_]) (ql rfl) rfl rfl rfl rfl ⟨_, rfl⟩) rfl ?_; refine z8 (yq (φ:=KS tyM (dOf o.ms) false) L rfl rfl (zk rfl) rfl rfl rfl SlV.mono (fun u H hH hle _ => zmp rfl hok.ms hok.lm hH (hmv.le (hs0.le.trans hle)))) rfl ?_; refine Z46 ?_; refine z8 (zw L (vs:=[_]) (ql rfl) rfl rfl rfl rfl ⟨_, rfl⟩) rfl ?_; refine z8 (yq (φ:=KS tyC (dOf o.cs) false) L rfl rfl (zk rfl) rfl rfl rfl SlV.mono (fun u H hH hle _ => zki rfl hok.cs hok.lc hH (hcv.le (hs0.le.trans hle)))) rfl ?_; refine z8 (zo L rfl rfl (zk rfl) rfl rfl rfl (fun u H hH hle _ v1 h1 v2 h2 => zk3 (NoneV.le (hN) hle) h1 h2 hH)) rfl ?_; refine Z3 ?_; refine Z411 ?_; refine Z327 ?_
   refine Z280 ?_; refine Z181 ?_; refine z7 (zo L rfl rfl (zk rfl) rfl rfl rfl (fun u H hH hle _ => zos (NoneV.le (hN) hle) hH)) rfl ?_; refine Z229 ?_; refine Z292 ?_; refine z7 (zw L (vs:=[_, _, _, _, _]) (ql rfl) rfl rfl rfl rfl ⟨_, rfl⟩) rfl ?_; refine z7 (zo L rfl rfl (zk rfl) rfl rfl rfl (fun u H hH _ _ => rev_ret hok rfl rfl hH)) rfl ?_; refine z7 (zo L rfl rfl (zk rfl) rfl rfl rfl (fun u H hH hle _ => zlu (NoneV.le (hN) hle) hH)) rfl ?_; refine Z229 ?_
   refine Z272 ?_; refine Z21 ?_; refine Z141 ?_; refine Z290 ?_; refine Z290 ?_; refine Z290 ?_; refine z7 (zw L (vs:=[_, _, _, _, _]) (ql rfl) rfl rfl rfl rfl ⟨_, rfl⟩) rfl ?_; refine z7 (zo L rfl rfl (zk rfl) rfl rfl rfl (fun u H hH _ _ => rev_ret hok rfl rfl hH)) rfl ?_; refine z7 (zo L rfl rfl (zk rfl) rfl rfl rfl (fun u H hH hle _ => zqn (NoneV.le (hN) hle) hH)) rfl ?_; refine Z290 ?_; refine z7 (zw L (vs:=[_, _, _, _, _]) (ql rfl) rfl rfl rfl rfl ⟨_, rfl⟩) rfl ?_; refine z7 (zo L rfl rfl (zk rfl) rfl rfl rfl (fun u H hH _ _ => rev_ret hok rfl rfl hH)) rfl ?_; refine z7 (zo L rfl rfl (zk rfl) rfl rfl rfl (fun u H hH hle _ => zk4 (NoneV.le (hN) hle) hH)) rfl ?_; refine Z290 ?_; refine z7 (zo L rfl rfl (zk rfl) rfl rfl rfl (fun u H hH hle _ => zcf (NoneV.le (hN) hle) hH)) rfl ?_; refine Z290 ?_; refine z7 (zo L rfl rfl (zk rfl) rfl rfl rfl (fun u H hH hle _ => zd7 (NoneV.le (hN) hle) hH)) rfl ?_; refine Z75 ?_; refine Z290 ?_; refine z7 (zo L rfl rfl (zk rfl) rfl rfl rfl (fun u H hH hle _ => zoq (NoneV.le (hN) hle) hH)) rfl ?_; refine z7 (zml rfl rfl rfl rfl z2q rfl rfl) rfl ?_; refine Z200 ?_; refine z7 (zo L rfl rfl (zk rfl) rfl rfl rfl (fun u H hH hle _ => zet (NoneV.le (hN) hle) hH)) rfl ?_; refine z7 (yv (cs:=[_, _]) rfl rfl zy9 rfl rfl) rfl ?_; refine z7 (zo L rfl rfl (zk rfl) rfl rfl rfl (fun u H hH hle _ => zg1 (L1:=[]) (L2:=[]) (t1:=0) (t2:=0) (f:=true) (by decide) (Nat.zero_le _) (Nat.zero_le _) hH SlV.nil SlV.nil)) rfl ?_; refine Z287 ?_; refine Z221 ?_; refine Z304 ?_
   exact yi (x:=1) 2 (by omega) (by omega) ⟨rfl, rfl, rfl, rfl, rfl, trivial⟩
  ·obtain rfl:i = 2:=by omega
   have hj:=z0v zvp (zs:=zs) (by omega)
   obtain ⟨S, hS⟩:∃ S, zug newS zs = S:=⟨_, rfl⟩
   rw [hS] at hj
   have hne:=hj.ne
   have hR:=hj.hR
   have hkl:=zdj S.R
   refine Z216 ?_; refine Z248 ?_; refine Z82 ?_; refine z7 (zeg L rfl rfl (zk rfl) rfl rfl rfl (fun u H hH hle _ => zxh hH)) rfl ?_; refine qn (yo (.inr rfl) rfl rfl rfl rfl) ?_; refine Z191 ?_
   refine zi6 17 900 rfl fun x => ?_
   obtain ⟨pb, b⟩:=x
   refine Z267 ?_; refine z7 (zw L (vs:=[_]) (ql rfl) rfl rfl rfl rfl ⟨_, rfl⟩) rfl ?_; refine qn (zai L 900 (BoG pb b S) (.int .i64 1) (r:=BoG pb b newS) rfl rfl rfl rfl rfl (fun u H2 C2 hH hle hr2 hC2 => by have h:=zw6 zvp (by omega) hH (hx.le (hs0.le.trans hle)) (ho.le (hs0.le.trans hle)) hr2 hC2; rw [hS] at h; exact zd1 h)) ?_; rw [zpy pb b S]; refine zzw 900 901 rfl (zaw (StG b S)) ?_; rw [zpz pb b S]; refine zzx 900 rfl fun x H1 hs1 hφ => ?_; obtain ⟨lv, pv⟩:=x; obtain ⟨hl, hpv⟩:=hφ; dsimp only at hl hpv ⊢; refine Z15 ?_; refine Z1 ?_; refine z7 (zo L rfl rfl (zk rfl) rfl rfl rfl (fun u H hH hle _ => zk9 (hN.le (hs1.le.trans hle)) hH)) rfl ?_; refine Z287 ?_; refine Z1 ?_; refine z7 (zo L rfl rfl (zk rfl) rfl rfl rfl (fun u H hH hle _ => zk9 (.inl rfl) hH)) rfl ?_; refine Z52 ?_; refine Z200 ?_; refine Z262 ?_; refine yr (zft L 901 (.bool false) (r:=StG b S) rfl rfl rfl rfl rfl (fun u H2 C2 hH hle hr2 hC2 => zr3 hne (by omega) hH hr2 hC2)) ?_; refine Z200 ?_; refine Z262 ?_; refine yr (zft L 901 (.bool false) (r:=StG b S) rfl rfl rfl rfl rfl (fun u H2 C2 hH hle hr2 hC2 => zr2 hne (by omega) (hN.le (hs1.le.trans hle)) hH hr2 hC2)) ?_; refine Z8 ?_; refine Z162 ?_
   refine Z102 ?_; refine Z1 ?_; refine Z262 ?_; refine qn (zu3 L 901 (r:=StG b S) (r':=zf6 (zyv S.R) (StG b S).res) rfl rfl rfl rfl rfl (fun u H2 C2 hH hle hr2 hC2 => zr0 hne (by omega) hH hr2 hC2)) ?_; refine qn (yo (.inr rfl) rfl rfl rfl rfl) ?_; refine Z191 ?_
   refine zf4 18 901 rfl (zaw (StG b S)) ?_
   have hk0:0 < (za8 S.R).length:=List.length_pos_iff.2 fun h => by have:=zd6.2 hj.last; rw [h] at this; cases this
   refine zwd 18 903 hk0 rfl fun kb hkb => ?_
   refine Z108 ?_; refine Z203 ?_
   refine zak (fun y:Nat × List Value => [(17, .is (zff pb)), (18, .is (.slice (some ⟨kb, 0, none⟩) (za8 S.R).length (za8 S.R).length)), (19, .is (.int .i64 y.1)), (900, .own (zal pb [zff b, lv, pv] zz2)), (901, .own (StG b S).res), (903, .own (zal kb y.2 zin))]) (fun y => y.1 ≤ (za8 S.R).length ∧ y.2.length = (za8 S.R).length) (fun y => (za8 S.R).length - y.1) (0, _) ⟨Nat.zero_le _, by dsimp only; rw [List.length_map]⟩ ⟨rfl, rfl, rfl, rfl, rfl, rfl, trivial⟩ ?_
   rintro ⟨k, cs⟩ ⟨hk, hcs⟩
   dsimp only at hk hcs ⊢
   by_cases hlk:k < (za8 S.R).length
   ·have hwk:IntKind.i64.wrap ((k:Int) + 1) = ((k + 1:Nat):Int):=zaa (by omega) (by omega)
    refine Z140 ?_; refine Z100 ?_; refine Z141 ?_; refine Z75 ?_; refine Z177 ?_; refine Z236 ?_; refine Z334 ?_; refine z7 (qg L _ rfl rfl rfl rfl rfl rfl rfl (by omega)) rfl ?_; refine zcl (yw L (q:=903) rfl rfl rfl rfl rfl rfl (Nat.ble_eq_true_of_le (by rw [hcs]; omega)) rfl rfl) ?_; refine Z237 ?_; refine Z119 ?_; refine Z1 ?_; refine Z217 ?_
    exact yi (x:=(k, cs)) (k + 1, cs.take (0 + k * 1) ++ ([Value.int .u64 99] ++ cs.drop (0 + k * 1 + 1))) ⟨hlk, by dsimp only; rw [List.length_append, List.length_append, List.length_take, List.length_drop, hcs]; simp only [List.length_cons, List.length_nil]; omega⟩ (by dsimp only; omega) ⟨rfl, rfl, rfl, rfl, rfl, rfl, trivial⟩
   ·obtain rfl:k = (za8 S.R).length:=by omega
    refine Z140 ?_; refine Z100 ?_; refine Z141 ?_; refine Z75 ?_; refine Z248 ?_
    refine zcj 900 (BhG pb b S).res rfl (zkp hl hpv) ?_
    refine zb3 900 901 rfl rfl (zaw (StG b S)) ?_
    refine Z385 ?_; refine yr (zft L 900 (.int .i64 1) (r:=BoG pb b S) rfl rfl rfl rfl rfl (fun u H2 C2 hH hle hr2 hC2 => zv9 hj (by omega) hH hr2 hC2)) ?_; refine Z26 ?_; refine Z1 ?_; refine z7 (zo L rfl rfl (zk rfl) rfl rfl rfl (fun u H hH hle _ => zpl hH)) rfl ?_; refine Z8 ?_; refine Z139 ?_
    refine yb L (rs:=[.tmp 4]) rfl (fun _ _ h => h) (hs0.trans hs1) fun u H hH hle => ?_
    rfl
end Go.V.L10
set_option maxRecDepth 20000
namespace Go.V.L10
open Go.Proofs Go.ChangeShapes Go.RowKit Go.V
theorem storesNil_in {W:World} {cs ds:List Value} (l0:zgg (OoP (hp W)) cs) (l1:zgg (WwP (hp W)) ds):Ret Tryz.prog 8 [.agg cs.toArray, .agg ds.toArray] W (hp W) (fun v _ => v = .bool true):=by
 obtain ⟨⟨o, mv, cv⟩, rfl, hok, hm, hc⟩:=z2i l0
 obtain ⟨xv, zs, rfl, hx, ho⟩:=z39 l1
 exact zl3 hok (Heap.Le.refl _) hm hc hx ho
end Go.V.L10
set_option maxRecDepth 20000
namespace Go.Proofs.YtcppaheijljnfaaGreat.storesNil
open Go.ChangeShapes Go.WideShapes Go.ChangeAt Go.ChangeMaps Go.RowKit Go.V Go.V.L10
theorem own : ownKnob Tryz.prog.godebug = none := by kernel_rfl
theorem laidOut : laidOutB Tryz.prog = true := by kernel_rfl
theorem la0 : (match Tryz.prog.underlying 70 with | some (.struct _) | some (.array _ _) => true | _ => false) = true := by kernel_rfl
theorem lr1 : Tryz.prog.readableRec 70 = true := by kernel_rfl
theorem lt1 : 70 < Tryz.prog.types.size := of_decide_eq_true (by kernel_rfl)
theorem la2 : (match Tryz.prog.underlying 24 with | some (.struct _) | some (.array _ _) => true | _ => false) = true := by kernel_rfl
theorem lr3 : Tryz.prog.readableRec 24 = true := by kernel_rfl
theorem lt3 : 24 < Tryz.prog.types.size := of_decide_eq_true (by kernel_rfl)
set_option maxRecDepth 100000 in
theorem lifted (os : Os) (started : os.Started) (H : Type) (enc : TypeId × Value → H) :
    ReturnsInHanded {} Tryz.checked os 8 .any (Rows.storesNilSpec.pre6 enc Tryz.prog Tryz.f8 Rows.storesNilRow.domain false) (Rows.storesNilSpec.post enc Tryz.prog Tryz.f8 false true false false) := by
  refine returnsInHanded_of_change_shaped (C := Tryz.checked) own started (by kernel_rfl) Tryz.func8
    (ChangeSpec.witness6 (enc := enc) (C := Tryz.checked) false ⟨#[], #[.agg #[.int .u8 0, .slice none 0 0, .slice none 0 0, .int .u8 0, .int .i64 0], .agg #[.slice none 0 0]], []⟩ 8 (by kernel_rfl) (by kernel_rfl) (by kernel_rfl) (by kernel_rfl)) ?_
  intro W base args ds gs before hval0 hW hcnd hsz hsh _
  have hval : ∀ (j : Nat) t v, Tryz.f8.params[j]? = some t → args[j]? = some v → Value.okWide Tryz.prog W .any base t v := hval0
  have hW' := hW
  obtain ⟨p, q, hA0, hV, rfl, hfz, hnd⟩ := hW
  have hA : DataW.TrodAll enc Tryz.prog W 0 (fun _ => true) true Tryz.f8.params.toList args.toList ds p := hA0
  rw [Tryz.params8] at hA hval hsz
  obtain ⟨v0, v1, d0, d1, p0, p1, rfl, rfl, rfl, h0, h1⟩ := trodAll_two hA
  obtain ⟨rfl, rfl⟩ := trodVars_none hV
  clear hA0 hval0
  obtain ⟨c0, rfl, l0⟩ := open_agD reads_oo la0 (hval 0 70 v0 rfl rfl) h0 (wt_at hsz 0 rfl rfl)
  obtain ⟨c1, rfl, l1⟩ := open_agD reads_ww la2 (hval 1 24 v1 rfl rfl) h1 (wt_at hsz 1 rfl rfl)
  have hplc := hW'.lt
  simp only [List.append_nil] at hW'
  have hlaw := Go.V.L10.storesNil_in l0 l1
  unfold Ret at hlaw
  refine hlaw.mono fun e W' hp => ?_
  obtain ⟨v, rfl, H', g, rfl⟩ := hp
  refine ⟨_, rfl, _, _, _, [], p0 ++ (p1 ++ ([])), [], hW', trodAll_cons_mk (shut_bool Tryz.underlying4 _) trodAll_mk0, ?_, rfl, g.below.frame _, fun h => by cases h⟩
  exact trodAll_cons_mk (Below.trod laidOut lr1 lt1 h0 g.below (fun x hx => hplc x (by simp [hx]))) (trodAll_cons_mk (Below.trod laidOut lr3 lt3 h1 g.below (fun x hx => hplc x (by simp [hx]))) trodAll_mk0)
theorem proved : Rows.StoresNilSaid :=
  OpenClaim.holds_of_wide 8 Tryz.f8 rfl rfl rfl rfl rfl rfl rfl ⟨rfl, rfl, rfl, rfl, rfl⟩ rfl rfl rfl rfl rfl (by kernel_rfl) Tryz.func8 (by kernel_rfl)
    (of_decide_eq_true (by kernel_rfl)) (by unfold Func.isWrapper; first | (rw [if_pos (by decide +kernel)]; kernel_rfl) | (rw [if_neg (by decide +kernel)]; exact ⟨rfl, rfl⟩))
    (fun os started H enc _ => lifted os started H enc)
#print axioms proved
end Go.Proofs.YtcppaheijljnfaaGreat.storesNil
