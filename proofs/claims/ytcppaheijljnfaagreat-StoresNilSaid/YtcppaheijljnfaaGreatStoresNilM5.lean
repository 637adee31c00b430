/- Texts on the way to StoresNil, part 5: one behind another. -/
import Derived.Test.YtcppaheijljnfaaGreatStoresNilM4
import Derived.Sort.Walk13
import Derived.Lib.AppendZerosOnto
import Derived.Lib.Overlaps
import Derived.Laws.Externs
set_option linter.unusedVariables false
set_option linter.unusedSimpArgs false
set_option maxRecDepth 20000
namespace Go.V.So
open Go.Proofs Go.RowKit Go.V Go.Sort
theorem _root_.Go.V.Z93 {A B:Prop} (h:B) (t:Wr B → A:=by intro h; refine qf (id:=17) [(200080, [900]), (200084, [900])] mixed (by kernel_rfl) ?_; exact h.h):A:=t ⟨h⟩
theorem _root_.Go.V.Z311 {A B:Prop} (h:B) (t:Wr B → A:=by intro h; refine Z144 ?_; refine zf (id:=22) ?_; exact h.h):A:=t ⟨h⟩
theorem _root_.Go.V.Z312 {A B:Prop} (h:B) (t:Wr B → A:=by intro h; refine zf (id:=23) ?_; refine Z1 ?_; exact h.h):A:=t ⟨h⟩
theorem _root_.Go.V.Z338 {A B:Prop} (h:B) (t:Wr B → A:=by intro h; refine Z144 ?_; refine zf (id:=24) ?_; exact h.h):A:=t ⟨h⟩
theorem _root_.Go.V.Z339 {A B:Prop} (h:B) (t:Wr B → A:=by intro h; refine zf (id:=25) ?_; refine Z141 ?_; exact h.h):A:=t ⟨h⟩
theorem zvs {h:Hint}:zmy h = 2 ↔ h = .decreasing:=by cases h <;> simp [zmy]
theorem z0t {b:Nat} {cs:List Value} {ty:TypeId}:∀ v H u C, (zal b cs ty).P v H u C → joinH H u C b = some (.cells cs.toArray ty):=fun _ _ _ _ ⟨hb, hC⟩ => (zg7 ((hC b).2 rfl)).trans hb
attribute [local irreducible] V N X VO Par StepOK Has Ret RetL RetO zb8 zdn Src
set_option maxHeartbeats 4000000 in
set_option maxRecDepth 20000 in
theorem z0h:∀ (N:Nat) {d:Array Int} {rest:List Value} {b m cap a e lim:Nat} (_:e - a < N) (_:a ≤ e) (_:e ≤ m) (_:d.size = m) (_:m ≤ 100000) (_:lim ≤ 1000) (_:Below lt a e d) {w:World} {B:Heap} {C:Nat → Prop} (_:B.Le (hp w))
  (_:(zab b (uC d ++ rest) tyU).P B w C) (_:∀ k, C k → k < w.heap.size ∧ B k = none),
  zb8 Tryz.prog 72 [.slice (some ⟨b, 0, none⟩) m cap, .int .i64 a, .int .i64 e, .int .i64 lim] w B C (zab b (uC (pdq lt d a e lim true true) ++ rest) tyU):=by
 intro N
 induction N with
 | zero => intro d rest b m cap a e lim h; omega
 | succ N ih =>
 intro d rest b m cap a e lim hN hab he hm hm1 hlim hBel w B C hB hr hC
 unfold zb8
 refine zar 900 (zab b (uC d ++ rest) tyU) Tryz.func72 rfl Tryz.ntmps72 (Nat.le_of_ble_eq_true rfl) hB hr hC ?_
 rw [za2]
 obtain ⟨X, hX⟩:∃ X, X = pdq lt d a e lim true true:=⟨_, rfl⟩
 rw [← hX]
 refine Z182 ?_; refine Z203 ?_
 refine zak (fun s:((Nat × Nat) × Nat) × ((Bool × Bool) × Array Int) => [(0, .is (.slice (some ⟨b, 0, none⟩) m cap)), (1, .is (.int .i64 s.1.1.1)), (2, .is (.int .i64 s.1.1.2)), (3, .is (.int .i64 s.1.2)), (8, .is (.bool s.2.1.1)), (9, .is (.bool s.2.1.2)), (900, .own (zal b (uC s.2.2 ++ rest) tyU))])
  (fun s => s.1.1.1 ≤ s.1.1.2 ∧ s.1.1.2 ≤ m ∧ s.1.1.2 - s.1.1.1 ≤ e - a ∧ s.1.2 ≤ 1000 ∧ s.2.2.size = m ∧ Below lt s.1.1.1 s.1.1.2 s.2.2 ∧ pdq lt s.2.2 s.1.1.1 s.1.1.2 s.1.2 s.2.1.1 s.2.1.2 = X) (fun s => s.1.1.2 - s.1.1.1) (((a, e), lim), ((true, true), d)) ⟨hab, he, Nat.le_refl _, hlim, hm, hBel, hX.symm⟩ ⟨rfl, rfl, rfl, rfl, rfl, rfl, rfl, trivial⟩ ?_
 rintro ⟨⟨⟨x, y⟩, l⟩, ⟨⟨wb, wp⟩, D⟩⟩ ⟨hxy, hy, hL, hl, hD, hBl, hP⟩
 dsimp only at hxy hy hL hl hD hBl hP ⊢
 clear hX hBel hm
 have hw0:IntKind.i64.wrap ((y:Int) - (x:Int)) = ((y - x:Nat):Int):=zaa (by omega) (by omega) |>.trans (by omega)
 by_cases h12:y - x ≤ 12
 ·rw [pdq_small h12] at hP
  rw [← hP]
  refine Z152 ?_; refine Z29 ?_; refine Z212 ?_; refine Z333 ?_; refine Z74 ?_; refine Z323 ?_; refine Z176 ?_; refine qn (za1 L 900 (zab b (uC (insertionSort lt D x y) ++ rest) tyU) (r:=zab b (uC D ++ rest) tyU) rfl rfl rfl rfl rfl (fun u H C hH _ hr hC => ins_ret hxy (by omega) hD hm1 hH hr hC)) ?_; refine Z138 ?_
  exact zbi L 900 (r:=zab b _ tyU) rfl (fun _ _ h => h) Since.refl rfl rfl
 ·by_cases hl0:l = 0
  ·rw [pdq_heap h12 hl0] at hP
   rw [← hP]
   refine Z152 ?_; refine Z29 ?_; refine Z212 ?_; refine Z333 ?_; refine Z70 ?_; refine Z168 ?_; refine Z179 ?_; refine Z305 ?_; refine Z43 ?_; refine Z176 ?_; refine qn (za1 L 900 (zab b (uC (heapSort lt D x y) ++ rest) tyU) (r:=zab b (uC D ++ rest) tyU) rfl rfl rfl rfl rfl (fun u H C hH _ hr hC => zxt (by omega) (by omega) hD hm1 hH hr hC)) ?_; refine Z138 ?_
   exact zbi L 900 (r:=zab b _ tyU) rfl (fun _ _ h => h) Since.refl rfl rfl
  ·obtain ⟨s1, B1, hc1, s2, B2, hpv, s3, B3⟩:=rd_facts (lt:=lt) (limit:=l) (wb:=wb) (wp:=wp) swo_ltInt partialInsertionSort_holds reverseRange_holds (show x < y by omega) (show y ≤ D.size by omega) hBl
   have hlle:(rd lt D x y l wb wp).lim ≤ 1000:=Nat.le_trans rd_lim_le hl
   have hdone:=fun h => pdq_done (lt:=lt) (d:=D) (wb:=wb) (wp:=wp) h12 hl0 h
   have heq:=fun h1 h2 h3 => pdq_eq (lt:=lt) (d:=D) (wb:=wb) (wp:=wp) h12 hl0 h1 h2 h3
   have hleft:=fun h1 h2 h3 h4 => pdq_left (lt:=lt) (d:=D) (wb:=wb) (wp:=wp) h12 hl0 h1 h2 h3 h4
   have hright:=fun h1 h2 h3 h4 => pdq_right (lt:=lt) (d:=D) (wb:=wb) (wp:=wp) h12 hl0 h1 h2 h3 h4
   have hrt:wb = true → (rd lt D x y l wb wp).d1 = D ∧ (rd lt D x y l wb wp).lim = l:=fun e => by subst e; exact rd_true
   have hrf:wb = false → (rd lt D x y l wb wp).d1 = breakPatterns D x y ∧ (rd lt D x y l wb wp).lim = l - 1:=fun e => by subst e; exact rd_false
   have hrc:=rd_c (lt:=lt) (d:=D) (a:=x) (b:=y) (limit:=l) (wb:=wb) (wp:=wp)
   have hde:=fun h => rd_dec (lt:=lt) (d:=D) (a:=x) (b:=y) (limit:=l) (wb:=wb) (wp:=wp) h
   have hno:=fun h => rd_not (lt:=lt) (d:=D) (a:=x) (b:=y) (limit:=l) (wb:=wb) (wp:=wp) h
   have hpy:=fun h => rd_pi_yes (lt:=lt) (d:=D) (a:=x) (b:=y) (limit:=l) (wb:=wb) (wp:=wp) h
   have hpn:=fun h => rd_pi_no (lt:=lt) (d:=D) (a:=x) (b:=y) (limit:=l) (wb:=wb) (wp:=wp) h
   rw [hP] at hdone heq hleft hright
   generalize (rd lt D x y l wb wp) = R at *
   refine Z152 ?_; refine Z29 ?_; refine Z212 ?_; refine Z333 ?_; refine Z70 ?_; refine Z168 ?_; refine Z179 ?_; refine Z281 ?_
   refine zfb (fun _:Unit => [(0, .is (.slice (some ⟨b, 0, none⟩) m cap)), (1, .is (.int .i64 x)), (2, .is (.int .i64 y)), (3, .is (.int .i64 R.lim)), (8, .is (.bool wb)), (9, .is (.bool wp)), (10, .is (.int .i64 (y - x:Nat))), (900, .own (zal b (uC R.d1 ++ rest) tyU))]) (fun _ => True) (fun _ => []) ?rest1 ?first1
   case first1 =>
    cases wb with
    | true =>
     obtain ⟨e1, e2⟩:=hrt rfl
     rw [e1, e2]
     refine Z196 ?_; refine Z52 ?_; refine Z193 ?_
     exact za6 () Since.refl trivial rfl ⟨rfl, rfl, rfl, rfl, rfl, rfl, rfl, rfl, trivial⟩
    | false =>
     obtain ⟨e1, e2⟩:=hrf rfl
     have hw1:IntKind.i64.wrap ((l:Int) - 1) = ((l - 1:Nat):Int):=zaa (by omega) (by omega) |>.trans (by omega)
     rw [e1, e2]
     refine Z196 ?_; refine Z52 ?_; refine Z154 ?_; refine Z57 ?_; refine Z176 ?_; refine qn (za1 L 900 (zab b (uC (breakPatterns D x y) ++ rest) tyU) (r:=zab b (uC D ++ rest) tyU) rfl rfl rfl rfl rfl (fun u H C hH _ hr hC => z1e (by omega) (by omega) hD hm1 hH hr hC)) ?_; refine Z138 ?_; refine Z60 ?_; refine Z231 ?_; refine Z156 ?_
     exact za6 () Since.refl trivial rfl ⟨rfl, rfl, rfl, rfl, rfl, rfl, rfl, rfl, trivial⟩
   intro _ _
   refine zh ?_; refine Z68 ?_; refine Z176 ?_; refine yr (zay L 900 (Φ:=fun H => H b = some (.cells (uC R.d1 ++ rest).toArray tyU)) (c:=.tuple #[.int .i64 R.c.1, .int .i64 (zmy R.c.2)]) rfl rfl (zk rfl) rfl rfl rfl rfl rfl z0t (fun u H hH hle h1 => by rw [hrc]; exact z0d (by omega) hy (by omega) hm1 hH h1)) ?_; refine Z347 ?_
   refine zfb (fun _:Unit => [(0, .is (.slice (some ⟨b, 0, none⟩) m cap)), (1, .is (.int .i64 x)), (2, .is (.int .i64 y)), (3, .is (.int .i64 R.lim)), (8, .is (.bool wb)), (9, .is (.bool wp)), (10, .is (.int .i64 (y - x:Nat))), (11, .is (.int .i64 R.pivot)), (12, .is (.int .i64 (zmy R.hint))), (900, .own (zal b (uC R.d2 ++ rest) tyU))]) (fun _ => True) (fun _ => []) ?rest2 ?first2
   case first2 =>
    by_cases hdec:R.c.2 = .decreasing
    ·obtain ⟨e1, e2, e3⟩:=hde hdec
     have hz:zmy R.c.2 = 2:=by rw [hdec]; rfl
     rw [e1, e2, e3]
     have w1:IntKind.i64.wrap ((y:Int) - 1) = ((y - 1:Nat):Int):=zaa (by omega) (by omega) |>.trans (by omega)
     have w2:IntKind.i64.wrap ((R.c.1:Int) - (x:Int)) = ((R.c.1 - x:Nat):Int):=zaa (by omega) (by omega) |>.trans (by omega)
     have w3:IntKind.i64.wrap (((y - 1:Nat):Int) - ((R.c.1 - x:Nat):Int)) = ((y - 1 - (R.c.1 - x):Nat):Int):=zaa (by omega) (by omega) |>.trans (by omega)
     refine Z272 ?_; refine Z305 ?_; refine Z86 ?_; refine Z176 ?_; refine qn (za1 L 900 (zab b (uC (reverseRange R.d1 x y) ++ rest) tyU) (r:=zab b (uC R.d1 ++ rest) tyU) rfl rfl rfl rfl rfl (fun u H C hH _ hr hC => rev_ret (by omega) (by omega) (by omega) hm1 hH hr hC)) ?_; refine Z159 ?_; refine Z82 ?_; refine Z231 ?_; refine Z212 ?_; refine Z25 ?_; refine Z139 ?_; refine Z72 ?_; refine Z156 ?_
     exact za6 () Since.refl trivial rfl ⟨rfl, rfl, rfl, rfl, rfl, rfl, rfl, rfl, rfl, rfl, trivial⟩
    ·obtain ⟨e1, e2, e3⟩:=hno hdec
     have hz:zmy R.c.2 ≠ 2:=fun h => hdec (zvs.1 h)
     rw [e1, e2, e3]
     refine Z272 ?_; refine Z15 ?_; refine Z193 ?_
     exact za6 () Since.refl trivial rfl ⟨rfl, rfl, rfl, rfl, rfl, rfl, rfl, rfl, rfl, rfl, trivial⟩
   intro _ _
   refine zh (zh (zfb (fun _:Unit => [(0, .is (.slice (some ⟨b, 0, none⟩) m cap)), (1, .is (.int .i64 x)), (2, .is (.int .i64 y)), (3, .is (.int .i64 R.lim)), (8, .is (.bool wb)), (9, .is (.bool wp)), (10, .is (.int .i64 (y - x:Nat))), (11, .is (.int .i64 R.pivot)), (900, .own (zal b (uC R.pi.1 ++ rest) tyU))]) (fun _ => R.pi.2 = false) (fun _ => []) ?rest3 ?first3))
   case first3 =>
    cases wb with
    | false =>
     have hpi:=hpn rfl
     rw [hpi]
     refine Z96 ?_; refine Z141 ?_; refine Z204 ?_; refine Z187 ?_; refine Z8 ?_; refine Z193 ?_
     exact za6 () Since.refl rfl rfl ⟨rfl, rfl, rfl, rfl, rfl, rfl, rfl, rfl, rfl, trivial⟩
    | true =>
     cases wp with
     | false =>
      have hpi:=hpn rfl
      rw [hpi]
      refine Z96 ?_; refine Z176 ?_; refine Z8 ?_; refine Z187 ?_; refine Z8 ?_; refine Z193 ?_
      exact za6 () Since.refl rfl rfl ⟨rfl, rfl, rfl, rfl, rfl, rfl, rfl, rfl, rfl, trivial⟩
     | true =>
      by_cases hi:R.hint = .increasing
      ·have hz:zmy R.hint = 1:=by rw [hi]; rfl
       have hpi:=hpy (by rw [hi]; rfl)
       cases hb:(partialInsertionSort lt R.d2 x y).2 with
       | true =>
        rw [hdone (by rw [hpi]; exact hb)]
        refine Z96 ?_; refine Z176 ?_; refine Z200 ?_; refine Z26 ?_; refine Z8 ?_; refine Z154 ?_; refine Z102 ?_; refine Z176 ?_; refine qn (zai L 900 (zab b (uC R.pi.1 ++ rest) tyU) (.bool true) (r:=zab b (uC R.d2 ++ rest) tyU) rfl rfl rfl rfl rfl (fun u H C hH hle hr hC => by have h:=pins_ret (rest:=rest) (cap:=cap) (d:=R.d2) (a:=x) (e:=y) (m:=m) (by omega) (by omega) (by omega) hm1 hH hr hC; rw [hb, ← hpi] at h; exact h)) ?_; refine Z145 ?_
        exact zbi L 900 (r:=zab b _ tyU) rfl (fun _ _ h => h) Since.refl rfl rfl
       | false =>
        refine Z96 ?_; refine Z176 ?_; refine Z200 ?_; refine Z26 ?_; refine Z8 ?_; refine Z154 ?_; refine Z102 ?_; refine Z176 ?_; refine qn (zai L 900 (zab b (uC R.pi.1 ++ rest) tyU) (.bool false) (r:=zab b (uC R.d2 ++ rest) tyU) rfl rfl rfl rfl rfl (fun u H C hH hle hr hC => by have h:=pins_ret (rest:=rest) (cap:=cap) (d:=R.d2) (a:=x) (e:=y) (m:=m) (by omega) (by omega) (by omega) hm1 hH hr hC; rw [hb, ← hpi] at h; exact h)) ?_; refine Z193 ?_
        exact za6 () Since.refl (by rw [hpi]; exact hb) rfl ⟨rfl, rfl, rfl, rfl, rfl, rfl, rfl, rfl, rfl, trivial⟩
      ·have hz:zmy R.hint ≠ 1:=fun h => by
        cases hh:R.hint with
        | unknown => rw [hh] at h; cases h
        | increasing => exact hi hh
        | decreasing => rw [hh] at h; cases h
       have hpi:=hpn (by simp [hi])
       rw [hpi]
       refine Z96 ?_; refine Z176 ?_; refine Z200 ?_; refine Z15 ?_; refine Z8 ?_; refine Z193 ?_
       exact za6 () Since.refl rfl rfl ⟨rfl, rfl, rfl, rfl, rfl, rfl, rfl, rfl, rfl, trivial⟩
   intro _ h2
   obtain ⟨_, q2⟩:=zc2 (rest:=rest) (show R.pivot < R.pi.1.size by omega) (0 + (R.pivot) * 1) rfl
   by_cases hx0:0 < x
   ·obtain ⟨_, q1⟩:=zc2 (rest:=rest) (show x - 1 < R.pi.1.size by omega) (0 + (x - 1) * 1) rfl
    have hw3:IntKind.i64.wrap ((x:Int) - 1) = ((x - 1:Nat):Int):=zaa (by omega) (by omega) |>.trans (by omega)
    cases hc:lt R.pi.1[x - 1]! R.pi.1[R.pivot]! with
    | false =>
     obtain ⟨mid, d4, hx⟩:∃ mid d4, partitionEqual lt R.pi.1 x y R.pivot = (mid, d4):=⟨_, _, rfl⟩
     obtain ⟨g1, g2, g3, g4, _⟩:=round_eq swo_ltInt (partitionEqual_holds lt) hx0 hpv.1 hpv.2 (by omega) B3 hc hx
     have hn:=heq h2 (by simp [hx0, hc]) (by rw [hx]; exact ⟨g1, g2⟩)
     rw [hx] at hn
     refine Z140 ?_; refine Z93 ?_; refine Z3 ?_; refine Z90 ?_; refine Z180 ?_; refine Z58 ?_; refine z8 (qg L _ rfl rfl rfl rfl rfl rfl rfl (by omega)) rfl ?_; refine qp (qq L (q:=900) rfl rfl rfl rfl rfl q1) rfl rfl ?_; refine Z147 ?_; refine z8 (qg L _ rfl rfl rfl rfl rfl rfl rfl (by omega)) rfl ?_; refine qp (qq L (q:=900) rfl rfl rfl rfl rfl q2) rfl rfl ?_; refine z8 (zo L rfl rfl (zk rfl) rfl rfl rfl (fun u H hH _ _ => zbc hc hH)) rfl ?_; refine Z63 ?_; refine Z261 ?_; refine zh ?_; refine Z100 ?_; refine Z232 ?_; refine qn (zai L 900 (zab b (uC d4 ++ rest) tyU) (.int .i64 mid) (r:=zab b (uC R.pi.1 ++ rest) tyU) rfl rfl rfl rfl rfl (fun u H C hH hle hr hC => by have h:=z0g (rest:=rest) (cap:=cap) (d:=R.pi.1) hpv.1 hpv.2 (by omega) (m:=m) (by omega) hm1 hH hr hC; rw [hx] at h; exact h)) ?_; refine Z144 ?_; refine Z119 ?_; refine Z1 ?_; refine Z139 ?_; refine Z163 ?_; refine yt ?_
     exact yi (x:=(((x, y), l), ((wb, wp), D))) (((mid, y), R.lim), ((wb, wp), d4)) ⟨by dsimp only; omega, hy, by dsimp only; omega, hlle, by dsimp only; omega, g4, hn.symm⟩ (by dsimp only; omega) ⟨rfl, rfl, rfl, rfl, rfl, rfl, rfl, trivial⟩
    | true =>
     have h2b:(decide (x > 0) && !lt R.pi.1[x - 1]! R.pi.1[R.pivot]!) = false:=by simp [hc]
     obtain ⟨mid, ap, d4, hx⟩:∃ mid ap d4, Go.Sort.partition lt R.pi.1 x y R.pivot = (mid, ap, d4):=⟨_, _, _, rfl⟩
     obtain ⟨g1, g2, g3, g4, g5, gL, gR⟩:=round_part swo_ltInt (partition_holds lt) hpv.1 hpv.2 (by omega) B3 hx
     have w1:IntKind.i64.wrap ((mid:Int) - (x:Int)) = ((mid - x:Nat):Int):=zaa (by omega) (by omega) |>.trans (by omega)
     have w2:IntKind.i64.wrap ((y:Int) - (mid:Int)) = ((y - mid:Nat):Int):=zaa (by omega) (by omega) |>.trans (by omega)
     have w4:IntKind.i64.wrap ((mid:Int) + 1) = ((mid + 1:Nat):Int):=zaa (by omega) (by omega)
     have et:((y - x:Nat):Int).tdiv 8 = (((y - x) / 8:Nat):Int):=by
      rw [Int.tdiv_eq_ediv_of_nonneg (by omega)]
      omega
     have w3:IntKind.i64.wrap (((y - x:Nat):Int).tdiv 8) = (((y - x) / 8:Nat):Int):=by rw [et]; exact zaa (by omega) (by omega)
     by_cases hlr:mid - x < y - mid
     ·have hn:=hleft h2 h2b (by rw [hx]; exact ⟨g1, g2⟩) (by rw [hx]; exact hlr)
      rw [hx] at hn
      dsimp only at hn
      obtain ⟨pL, sL⟩:=pdq_sorts lt swo_ltInt d4 x mid R.lim true true g1 (by omega) g4
      obtain ⟨LL, hLL⟩:∃ LL, LL = pdq lt d4 x mid R.lim true true:=⟨_, rfl⟩
      rw [← hLL] at hn pL sL
      obtain ⟨gB, _⟩:=gL LL pL sL
      have hLs:LL.size = d4.size:=pL.1
      by_cases h8:mid - x ≥ (y - x) / 8
      ·rw [decide_eq_true h8] at hn
       refine Z140 ?_; refine Z93 ?_; refine Z3 ?_; refine Z90 ?_; refine Z180 ?_; refine Z58 ?_; refine z8 (qg L _ rfl rfl rfl rfl rfl rfl rfl (by omega)) rfl ?_; refine qp (qq L (q:=900) rfl rfl rfl rfl rfl q1) rfl rfl ?_; refine Z147 ?_; refine z8 (qg L _ rfl rfl rfl rfl rfl rfl rfl (by omega)) rfl ?_; refine qp (qq L (q:=900) rfl rfl rfl rfl rfl q2) rfl rfl ?_; refine z8 (zo L rfl rfl (zk rfl) rfl rfl rfl (fun u H hH _ _ => zbc hc hH)) rfl ?_; refine Z63 ?_; refine Z382 ?_; refine Z94 ?_; refine Z232 ?_; refine qn (zai L 900 (zab b (uC d4 ++ rest) tyU) (.tuple #[.int .i64 mid, .bool ap]) (r:=zab b (uC R.pi.1 ++ rest) tyU) rfl rfl rfl rfl rfl (fun u H C hH hle hr hC => by have h:=zef (rest:=rest) (cap:=cap) (d:=R.pi.1) hpv.1 hpv.2 (by omega) (m:=m) (by omega) hm1 hH hr hC; rw [hx] at h; exact h)) ?_; refine Z229 ?_; refine Z385 ?_; refine Z311 ?_; refine Z212 ?_; refine Z212 ?_; refine Z195 ?_; refine Z312 ?_; refine Z50 ?_; refine Z338 ?_; refine Z330 ?_; refine Z154 ?_; refine Z339 ?_; refine Z41 ?_; refine Z144 ?_; refine zf (id:=26) ?_; refine Z232 ?_; refine qn (za1 L 900 (zab b (uC LL ++ rest) tyU) (r:=zab b (uC d4 ++ rest) tyU) rfl rfl rfl rfl rfl (fun u H C hH _ hr hC => by rw [hLL]; exact ih (by omega) g1 (by omega) (by omega) hm1 hlle g4 hH hr hC)) ?_; refine Z138 ?_; refine zf (id:=27) ?_; refine Z1 ?_; refine Z217 ?_; refine y9 ?_
       exact yi (x:=(((x, y), l), ((wb, wp), D))) (((mid + 1, y), R.lim), ((true, ap), LL)) ⟨by dsimp only; omega, hy, by dsimp only; omega, hlle, by dsimp only; omega, gB, hn.symm⟩ (by dsimp only; omega) ⟨rfl, rfl, rfl, rfl, rfl, rfl, rfl, trivial⟩
      ·rw [decide_eq_false h8] at hn
       refine Z140 ?_; refine Z93 ?_; refine Z3 ?_; refine Z90 ?_; refine Z180 ?_; refine Z58 ?_; refine z8 (qg L _ rfl rfl rfl rfl rfl rfl rfl (by omega)) rfl ?_; refine qp (qq L (q:=900) rfl rfl rfl rfl rfl q1) rfl rfl ?_; refine Z147 ?_; refine z8 (qg L _ rfl rfl rfl rfl rfl rfl rfl (by omega)) rfl ?_; refine qp (qq L (q:=900) rfl rfl rfl rfl rfl q2) rfl rfl ?_; refine z8 (zo L rfl rfl (zk rfl) rfl rfl rfl (fun u H hH _ _ => zbc hc hH)) rfl ?_; refine Z63 ?_; refine Z382 ?_; refine Z94 ?_; refine Z232 ?_; refine qn (zai L 900 (zab b (uC d4 ++ rest) tyU) (.tuple #[.int .i64 mid, .bool ap]) (r:=zab b (uC R.pi.1 ++ rest) tyU) rfl rfl rfl rfl rfl (fun u H C hH hle hr hC => by have h:=zef (rest:=rest) (cap:=cap) (d:=R.pi.1) hpv.1 hpv.2 (by omega) (m:=m) (by omega) hm1 hH hr hC; rw [hx] at h; exact h)) ?_; refine Z229 ?_; refine Z385 ?_; refine Z311 ?_; refine Z212 ?_; refine Z212 ?_; refine Z195 ?_; refine Z312 ?_; refine Z50 ?_; refine Z338 ?_; refine Z330 ?_; refine Z154 ?_; refine Z339 ?_; refine Z47 ?_; refine Z144 ?_; refine zf (id:=26) ?_; refine Z232 ?_; refine qn (za1 L 900 (zab b (uC LL ++ rest) tyU) (r:=zab b (uC d4 ++ rest) tyU) rfl rfl rfl rfl rfl (fun u H C hH _ hr hC => by rw [hLL]; exact ih (by omega) g1 (by omega) (by omega) hm1 hlle g4 hH hr hC)) ?_; refine Z138 ?_; refine zf (id:=27) ?_; refine Z1 ?_; refine Z217 ?_; refine y9 ?_
       exact yi (x:=(((x, y), l), ((wb, wp), D))) (((mid + 1, y), R.lim), ((false, ap), LL)) ⟨by dsimp only; omega, hy, by dsimp only; omega, hlle, by dsimp only; omega, gB, hn.symm⟩ (by dsimp only; omega) ⟨rfl, rfl, rfl, rfl, rfl, rfl, rfl, trivial⟩
     ·have hn:=hright h2 h2b (by rw [hx]; exact ⟨g1, g2⟩) (by rw [hx]; exact hlr)
      rw [hx] at hn
      dsimp only at hn
      obtain ⟨pL, sL⟩:=pdq_sorts lt swo_ltInt d4 (mid + 1) y R.lim true true (by omega) (by omega) g5
      obtain ⟨LL, hLL⟩:∃ LL, LL = pdq lt d4 (mid + 1) y R.lim true true:=⟨_, rfl⟩
      rw [← hLL] at hn pL sL
      obtain ⟨gB, _⟩:=gR LL pL sL
      have hLs:LL.size = d4.size:=pL.1
      by_cases h8:y - mid ≥ (y - x) / 8
      ·rw [decide_eq_true h8] at hn
       refine Z140 ?_; refine Z93 ?_; refine Z3 ?_; refine Z90 ?_; refine Z180 ?_; refine Z58 ?_; refine z8 (qg L _ rfl rfl rfl rfl rfl rfl rfl (by omega)) rfl ?_; refine qp (qq L (q:=900) rfl rfl rfl rfl rfl q1) rfl rfl ?_; refine Z147 ?_; refine z8 (qg L _ rfl rfl rfl rfl rfl rfl rfl (by omega)) rfl ?_; refine qp (qq L (q:=900) rfl rfl rfl rfl rfl q2) rfl rfl ?_; refine z8 (zo L rfl rfl (zk rfl) rfl rfl rfl (fun u H hH _ _ => zbc hc hH)) rfl ?_; refine Z63 ?_; refine Z382 ?_; refine Z94 ?_; refine Z232 ?_; refine qn (zai L 900 (zab b (uC d4 ++ rest) tyU) (.tuple #[.int .i64 mid, .bool ap]) (r:=zab b (uC R.pi.1 ++ rest) tyU) rfl rfl rfl rfl rfl (fun u H C hH hle hr hC => by have h:=zef (rest:=rest) (cap:=cap) (d:=R.pi.1) hpv.1 hpv.2 (by omega) (m:=m) (by omega) hm1 hH hr hC; rw [hx] at h; exact h)) ?_; refine Z229 ?_; refine Z385 ?_; refine Z311 ?_; refine Z212 ?_; refine Z212 ?_; refine Z195 ?_; refine Z312 ?_; refine Z50 ?_; refine Z338 ?_; refine Z360 ?_; refine zh ?_; refine zf (id:=28) ?_; refine Z141 ?_; refine Z41 ?_; refine Z144 ?_; refine zf (id:=29) ?_; refine Z295 ?_; refine Z141 ?_; refine qn (za1 L 900 (zab b (uC LL ++ rest) tyU) (r:=zab b (uC d4 ++ rest) tyU) rfl rfl rfl rfl rfl (fun u H C hH _ hr hC => by rw [hLL]; exact ih (by omega) (by omega) hy (by omega) hm1 hlle g5 hH hr hC)) ?_; refine Z138 ?_; refine zf (id:=30) ?_; refine Z1 ?_; refine Z243 ?_
       exact yi (x:=(((x, y), l), ((wb, wp), D))) (((x, mid), R.lim), ((true, ap), LL)) ⟨by dsimp only; omega, by dsimp only; omega, by dsimp only; omega, hlle, by dsimp only; omega, gB, hn.symm⟩ (by dsimp only; omega) ⟨rfl, rfl, rfl, rfl, rfl, rfl, rfl, trivial⟩
      ·rw [decide_eq_false h8] at hn
       refine Z140 ?_; refine Z93 ?_; refine Z3 ?_; refine Z90 ?_; refine Z180 ?_; refine Z58 ?_; refine z8 (qg L _ rfl rfl rfl rfl rfl rfl rfl (by omega)) rfl ?_; refine qp (qq L (q:=900) rfl rfl rfl rfl rfl q1) rfl rfl ?_; refine Z147 ?_; refine z8 (qg L _ rfl rfl rfl rfl rfl rfl rfl (by omega)) rfl ?_; refine qp (qq L (q:=900) rfl rfl rfl rfl rfl q2) rfl rfl ?_; refine z8 (zo L rfl rfl (zk rfl) rfl rfl rfl (fun u H hH _ _ => zbc hc hH)) rfl ?_; refine Z63 ?_; refine Z382 ?_; refine Z94 ?_; refine Z232 ?_; refine qn (zai L 900 (zab b (uC d4 ++ rest) tyU) (.tuple #[.int .i64 mid, .bool ap]) (r:=zab b (uC R.pi.1 ++ rest) tyU) rfl rfl rfl rfl rfl (fun u H C hH hle hr hC => by have h:=zef (rest:=rest) (cap:=cap) (d:=R.pi.1) hpv.1 hpv.2 (by omega) (m:=m) (by omega) hm1 hH hr hC; rw [hx] at h; exact h)) ?_; refine Z229 ?_; refine Z385 ?_; refine Z311 ?_; refine Z212 ?_; refine Z212 ?_; refine Z195 ?_; refine Z312 ?_; refine Z50 ?_; refine Z338 ?_; refine Z360 ?_; refine zh ?_; refine zf (id:=28) ?_; refine Z141 ?_; refine Z47 ?_; refine Z144 ?_; refine zf (id:=29) ?_; refine Z295 ?_; refine Z141 ?_; refine qn (za1 L 900 (zab b (uC LL ++ rest) tyU) (r:=zab b (uC d4 ++ rest) tyU) rfl rfl rfl rfl rfl (fun u H C hH _ hr hC => by rw [hLL]; exact ih (by omega) (by omega) hy (by omega) hm1 hlle g5 hH hr hC)) ?_; refine Z138 ?_; refine zf (id:=30) ?_; refine Z1 ?_; refine Z243 ?_
       exact yi (x:=(((x, y), l), ((wb, wp), D))) (((x, mid), R.lim), ((false, ap), LL)) ⟨by dsimp only; omega, by dsimp only; omega, by dsimp only; omega, hlle, by dsimp only; omega, gB, hn.symm⟩ (by dsimp only; omega) ⟨rfl, rfl, rfl, rfl, rfl, rfl, rfl, trivial⟩
   ·have h2b:(decide (x > 0) && !lt R.pi.1[x - 1]! R.pi.1[R.pivot]!) = false:=by simp [hx0]
    obtain ⟨mid, ap, d4, hx⟩:∃ mid ap d4, Go.Sort.partition lt R.pi.1 x y R.pivot = (mid, ap, d4):=⟨_, _, _, rfl⟩
    obtain ⟨g1, g2, g3, g4, g5, gL, gR⟩:=round_part swo_ltInt (partition_holds lt) hpv.1 hpv.2 (by omega) B3 hx
    have w1:IntKind.i64.wrap ((mid:Int) - (x:Int)) = ((mid - x:Nat):Int):=zaa (by omega) (by omega) |>.trans (by omega)
    have w2:IntKind.i64.wrap ((y:Int) - (mid:Int)) = ((y - mid:Nat):Int):=zaa (by omega) (by omega) |>.trans (by omega)
    have w4:IntKind.i64.wrap ((mid:Int) + 1) = ((mid + 1:Nat):Int):=zaa (by omega) (by omega)
    have et:((y - x:Nat):Int).tdiv 8 = (((y - x) / 8:Nat):Int):=by
     rw [Int.tdiv_eq_ediv_of_nonneg (by omega)]
     omega
    have w3:IntKind.i64.wrap (((y - x:Nat):Int).tdiv 8) = (((y - x) / 8:Nat):Int):=by rw [et]; exact zaa (by omega) (by omega)
    by_cases hlr:mid - x < y - mid
    ·have hn:=hleft h2 h2b (by rw [hx]; exact ⟨g1, g2⟩) (by rw [hx]; exact hlr)
     rw [hx] at hn
     dsimp only at hn
     obtain ⟨pL, sL⟩:=pdq_sorts lt swo_ltInt d4 x mid R.lim true true g1 (by omega) g4
     obtain ⟨LL, hLL⟩:∃ LL, LL = pdq lt d4 x mid R.lim true true:=⟨_, rfl⟩
     rw [← hLL] at hn pL sL
     obtain ⟨gB, _⟩:=gL LL pL sL
     have hLs:LL.size = d4.size:=pL.1
     by_cases h8:mid - x ≥ (y - x) / 8
     ·rw [decide_eq_true h8] at hn
      refine Z140 ?_; refine Z93 ?_; refine Z3 ?_; refine Z92 ?_; refine Z306 ?_; refine Z5 ?_; refine Z382 ?_; refine Z94 ?_; refine Z232 ?_; refine qn (zai L 900 (zab b (uC d4 ++ rest) tyU) (.tuple #[.int .i64 mid, .bool ap]) (r:=zab b (uC R.pi.1 ++ rest) tyU) rfl rfl rfl rfl rfl (fun u H C hH hle hr hC => by have h:=zef (rest:=rest) (cap:=cap) (d:=R.pi.1) hpv.1 hpv.2 (by omega) (m:=m) (by omega) hm1 hH hr hC; rw [hx] at h; exact h)) ?_; refine Z229 ?_; refine Z385 ?_; refine Z311 ?_; refine Z212 ?_; refine Z212 ?_; refine Z195 ?_; refine Z312 ?_; refine Z50 ?_; refine Z338 ?_; refine Z330 ?_; refine Z154 ?_; refine Z339 ?_; refine Z41 ?_; refine Z144 ?_; refine zf (id:=26) ?_; refine Z232 ?_; refine qn (za1 L 900 (zab b (uC LL ++ rest) tyU) (r:=zab b (uC d4 ++ rest) tyU) rfl rfl rfl rfl rfl (fun u H C hH _ hr hC => by rw [hLL]; exact ih (by omega) g1 (by omega) (by omega) hm1 hlle g4 hH hr hC)) ?_; refine Z138 ?_; refine zf (id:=27) ?_; refine Z1 ?_; refine Z217 ?_; refine y9 ?_
      exact yi (x:=(((x, y), l), ((wb, wp), D))) (((mid + 1, y), R.lim), ((true, ap), LL)) ⟨by dsimp only; omega, hy, by dsimp only; omega, hlle, by dsimp only; omega, gB, hn.symm⟩ (by dsimp only; omega) ⟨rfl, rfl, rfl, rfl, rfl, rfl, rfl, trivial⟩
     ·rw [decide_eq_false h8] at hn
      refine Z140 ?_; refine Z93 ?_; refine Z3 ?_; refine Z92 ?_; refine Z306 ?_; refine Z5 ?_; refine Z382 ?_; refine Z94 ?_; refine Z232 ?_; refine qn (zai L 900 (zab b (uC d4 ++ rest) tyU) (.tuple #[.int .i64 mid, .bool ap]) (r:=zab b (uC R.pi.1 ++ rest) tyU) rfl rfl rfl rfl rfl (fun u H C hH hle hr hC => by have h:=zef (rest:=rest) (cap:=cap) (d:=R.pi.1) hpv.1 hpv.2 (by omega) (m:=m) (by omega) hm1 hH hr hC; rw [hx] at h; exact h)) ?_; refine Z229 ?_; refine Z385 ?_; refine Z311 ?_; refine Z212 ?_; refine Z212 ?_; refine Z195 ?_; refine Z312 ?_; refine Z50 ?_; refine Z338 ?_; refine Z330 ?_; refine Z154 ?_; refine Z339 ?_; refine Z47 ?_; refine Z144 ?_; refine zf (id:=26) ?_; refine Z232 ?_; refine qn (za1 L 900 (zab b (uC LL ++ rest) tyU) (r:=zab b (uC d4 ++ rest) tyU) rfl rfl rfl rfl rfl (fun u H C hH _ hr hC => by rw [hLL]; exact ih (by omega) g1 (by omega) (by omega) hm1 hlle g4 hH hr hC)) ?_; refine Z138 ?_; refine zf (id:=27) ?_; refine Z1 ?_; refine Z217 ?_; refine y9 ?_
      exact yi (x:=(((x, y), l), ((wb, wp), D))) (((mid + 1, y), R.lim), ((false, ap), LL)) ⟨by dsimp only; omega, hy, by dsimp only; omega, hlle, by dsimp only; omega, gB, hn.symm⟩ (by dsimp only; omega) ⟨rfl, rfl, rfl, rfl, rfl, rfl, rfl, trivial⟩
    ·have hn:=hright h2 h2b (by rw [hx]; exact ⟨g1, g2⟩) (by rw [hx]; exact hlr)
     rw [hx] at hn
     dsimp only at hn
     obtain ⟨pL, sL⟩:=pdq_sorts lt swo_ltInt d4 (mid + 1) y R.lim true true (by omega) (by omega) g5
     obtain ⟨LL, hLL⟩:∃ LL, LL = pdq lt d4 (mid + 1) y R.lim true true:=⟨_, rfl⟩
     rw [← hLL] at hn pL sL
     obtain ⟨gB, _⟩:=gR LL pL sL
     have hLs:LL.size = d4.size:=pL.1
     by_cases h8:y - mid ≥ (y - x) / 8
     ·rw [decide_eq_true h8] at hn
      refine Z140 ?_; refine Z93 ?_; refine Z3 ?_; refine Z92 ?_; refine Z306 ?_; refine Z5 ?_; refine Z382 ?_; refine Z94 ?_; refine Z232 ?_; refine qn (zai L 900 (zab b (uC d4 ++ rest) tyU) (.tuple #[.int .i64 mid, .bool ap]) (r:=zab b (uC R.pi.1 ++ rest) tyU) rfl rfl rfl rfl rfl (fun u H C hH hle hr hC => by have h:=zef (rest:=rest) (cap:=cap) (d:=R.pi.1) hpv.1 hpv.2 (by omega) (m:=m) (by omega) hm1 hH hr hC; rw [hx] at h; exact h)) ?_; refine Z229 ?_; refine Z385 ?_; refine Z311 ?_; refine Z212 ?_; refine Z212 ?_; refine Z195 ?_; refine Z312 ?_; refine Z50 ?_; refine Z338 ?_; refine Z360 ?_; refine zh ?_; refine zf (id:=28) ?_; refine Z141 ?_; refine Z41 ?_; refine Z144 ?_; refine zf (id:=29) ?_; refine Z295 ?_; refine Z141 ?_; refine qn (za1 L 900 (zab b (uC LL ++ rest) tyU) (r:=zab b (uC d4 ++ rest) tyU) rfl rfl rfl rfl rfl (fun u H C hH _ hr hC => by rw [hLL]; exact ih (by omega) (by omega) hy (by omega) hm1 hlle g5 hH hr hC)) ?_; refine Z138 ?_; refine zf (id:=30) ?_; refine Z1 ?_; refine Z243 ?_
      exact yi (x:=(((x, y), l), ((wb, wp), D))) (((x, mid), R.lim), ((true, ap), LL)) ⟨by dsimp only; omega, by dsimp only; omega, by dsimp only; omega, hlle, by dsimp only; omega, gB, hn.symm⟩ (by dsimp only; omega) ⟨rfl, rfl, rfl, rfl, rfl, rfl, rfl, trivial⟩
     ·rw [decide_eq_false h8] at hn
      refine Z140 ?_; refine Z93 ?_; refine Z3 ?_; refine Z92 ?_; refine Z306 ?_; refine Z5 ?_; refine Z382 ?_; refine Z94 ?_; refine Z232 ?_; refine qn (zai L 900 (zab b (uC d4 ++ rest) tyU) (.tuple #[.int .i64 mid, .bool ap]) (r:=zab b (uC R.pi.1 ++ rest) tyU) rfl rfl rfl rfl rfl (fun u H C hH hle hr hC => by have h:=zef (rest:=rest) (cap:=cap) (d:=R.pi.1) hpv.1 hpv.2 (by omega) (m:=m) (by omega) hm1 hH hr hC; rw [hx] at h; exact h)) ?_; refine Z229 ?_; refine Z385 ?_; refine Z311 ?_; refine Z212 ?_; refine Z212 ?_; refine Z195 ?_; refine Z312 ?_; refine Z50 ?_; refine Z338 ?_; refine Z360 ?_; refine zh ?_; refine zf (id:=28) ?_; refine Z141 ?_; refine Z47 ?_; refine Z144 ?_; refine zf (id:=29) ?_; refine Z295 ?_; refine Z141 ?_; refine qn (za1 L 900 (zab b (uC LL ++ rest) tyU) (r:=zab b (uC d4 ++ rest) tyU) rfl rfl rfl rfl rfl (fun u H C hH _ hr hC => by rw [hLL]; exact ih (by omega) (by omega) hy (by omega) hm1 hlle g5 hH hr hC)) ?_; refine Z138 ?_; refine zf (id:=30) ?_; refine Z1 ?_; refine Z243 ?_
      exact yi (x:=(((x, y), l), ((wb, wp), D))) (((x, mid), R.lim), ((false, ap), LL)) ⟨by dsimp only; omega, by dsimp only; omega, by dsimp only; omega, hlle, by dsimp only; omega, gB, hn.symm⟩ (by dsimp only; omega) ⟨rfl, rfl, rfl, rfl, rfl, rfl, rfl, trivial⟩
end Go.V.So
set_option maxRecDepth 20000
namespace Go.V.So
open Go.Proofs Go.RowKit Go.V Go.Sort
theorem _root_.Go.V.Z75 {A B:Prop} (h:B) (t:Wr B → A:=by intro h; refine z7 (zmn L rfl rfl rfl rfl) rfl ?_; exact h.h):A:=t ⟨h⟩
attribute [local irreducible] V N X VO Par StepOK Has Ret RetL RetO zb8 zdn Src
set_option maxRecDepth 20000 in
theorem sortU_ret {d:Array Int} {rest:List Value} {b m cap:Nat} (hm:d.size = m) (hm1:m ≤ 100000) {w:World} {B:Heap} {C:Nat → Prop} (hB:B.Le (hp w))
  (hr:(zab b (uC d ++ rest) tyU).P B w C) (hC:∀ k, C k → k < w.heap.size ∧ B k = none) :
  zb8 Tryz.prog 44 [.slice (some ⟨b, 0, none⟩) m cap] w B C (zab b (uC (Go.Sort.sort lt d) ++ rest) tyU):=by
 unfold zb8
 refine zar 900 (zab b (uC d ++ rest) tyU) Tryz.func44 rfl Tryz.ntmps44 (Nat.le_of_ble_eq_true rfl) hB hr hC ?_
 rw [za2]
 have hc:IntKind.u64.wrap (m:Int) = (m:Int):=wrap_u64 (by omega) (by omega)
 have hb17:bitsLen m ≤ 17:=(bitsLen_le_iff m 17).2 (by omega)
 refine Z146 ?_; refine Z1 ?_; refine Z75 ?_; refine Z139 ?_; refine Z17 ?_; refine Z176 ?_; refine z7 (zau rfl rfl rfl zbq.1 zbq.2 (wrap_u64 (by omega) (by omega))) rfl ?_; refine z7 (zo L rfl rfl (zk rfl) rfl rfl rfl (fun u H hH _ _ => zko (by omega) hH)) rfl ?_; refine qn (za1 L 900 (zab b (uC (Go.Sort.sort lt d) ++ rest) tyU) (r:=zab b (uC d ++ rest) tyU) rfl rfl rfl rfl rfl (fun u H C hH _ hr hC => by have h:=z0h (rest:=rest) (cap:=cap) (m:=m) (d:=d) (a:=0) (e:=m) (lim:=bitsLen m) (m + 1) (by omega) (by omega) (by omega) hm hm1 (by omega) (Or.inl rfl) hH hr hC; unfold Go.Sort.sort; rw [hm]; exact h)) ?_; refine zi ?_
 exact zbb L 900 (r:=zab b _ tyU) rfl (fun _ _ h => h) Since.refl rfl rfl
end Go.V.So
set_option maxRecDepth 20000
namespace Go.V
open Go.RowKit
section
variable {P:Program} {F:Fr} {B:Heap} {O:Boxes} {n:Nat} {ops:Array Oper} {κ:Kap} {d:Nat} {ty:TypeId} {pos:String} {aft:Array Edge} {g:Option (Nat × Bool)} {a:Act} {u:World} {H:Heap} {fp:Nat → Nat → Prop} {os:List Oper} {Q:Exit → Act → World → Prop} {ex:Exs}
theorem zkn {b:Nat} {cs:List Value} {t:TypeId} (hb:u.heap[b]? = some (.cells cs.toArray t)) (off j:Nat):u.cell? ((⟨b, off, none⟩:Addr).add j) = cs[off + j]?:=by
 rw [zcx, za3 hb]; simp
theorem zie {cs news:List Value} {off k j:Nat} {v:Value} (hn:news = (cs.drop off).take k) (hj:news[j]? = some v):cs[off + j]? = some v:=by
 subst hn
 rw [List.getElem?_take] at hj
 split at hj
 ·rwa [List.getElem?_drop] at hj
 ·cases hj
theorem zjo {t ti e:TypeId} {i:TypeInfo} {b off m c k:Nat} {cur:List Value} {ty0:TypeId} {ad:Addr} {m' c':Nat} {news:List Value} (ht:P.underlying t = some (.slice e)) (hi:P.info? e = some i) (hb:u.heap[b]? = some (.cells cur.toArray ty0)) (hl:news.length = k * i.size) (hk:Nat.min m' m = k) (hcl:off + news.length ≤ cur.length)
  (h1:∀ v ∈ news, v.oneCell' = true) (hy:∀ j v, news[j]? = some v → u.cell? (ad.add j) = some v) :
  (Builtin.copy_ #[t, ti] ty #[.slice (some ⟨b, off, none⟩) m c, .slice (some ad) m' c']).run P u = .ok (goInt k) (u.setRow b (cur.take off ++ (news ++ cur.drop (off + news.length))).toArray):=by
 have hf:=run_firstCells_some (P:=P) u i.size k ad m' c' news hl hy
 have hst:=zcn (P:=P) b ty0 off news 0 cur.toArray u hb (by simpa using hcl) h1
 simp only [Nat.add_zero, List.append_assoc] at hst
 simp [Builtin.copy_, run_underlying ht, Builtin.lenOf, sizeOf, typeInfo, hi, hk, hf, hst]
theorem zmo (L:Tabs P) {q b off m c m':Nat} {x y:Operand} {t e ti t':TypeId} {s by_:Nat} {cur all news cur':List Value} (k:Nat) (hn:Nat.blt d n = true) (hg:gK ops κ ⟨some d, .call ⟨.builtin .copy, #[x, y], #[t, ti]⟩, ty, pos, aft, g⟩ = some true)
  (hx:evK κ x = some (.slice (some ⟨b, off, none⟩) m c)) (hq:κ q = some (.own (zal b cur t'))) (hy:Apd F B O κ y m' all) (ht:L.sl t = some e) (he:elI P e = some (s, by_)) (hm:0 < m') (hk:Nat.min m' m = k) (hal:k * s ≤ all.length) (hnews:all.take (k * s) = news) (hcl:off + k * s ≤ cur.length) (h1:news.all zbp = true)
  (hr:cur.take off ++ (news ++ cur.drop (off + k * s)) = cur') :
  StepOK2 P F B n ops O κ ⟨some d, .call ⟨.builtin .copy, #[x, y], #[t, ti]⟩, ty, pos, aft, g⟩ q (.own (zal b cur' t')) d (.is (.int .i64 k)):=by
 rintro κ' a u hlk hks ⟨H, fp, hh⟩
 unfold After
 rw [if_pos (zaf hh hlk hg)]
 have en:=hh.env hlk
 have hk':κ' q = some (.own (zal b cur t')):=hks.trans hq
 have hxe:=en.is_ x _ (by simp [Op.operands, Call.operands]) hx
 obtain ⟨⟨hb, hC⟩, hM⟩:=hh.slot q _ hk'
 obtain ⟨i, z, hi, hz, hs1, hs2, hs3, hs4⟩:=zb9 he
 subst hs1
 have hnl:news.length = k * i.size:=by rw [← hnews, List.length_take, Nat.min_eq_left hal]
 rcases hy _ a u H fp (by simp [Op.operands, Call.operands]) en with ⟨h0, _⟩ | ⟨ad, c', hye, hcy⟩
 ·omega
 have hrun0:=zjo (P:=P) (ty:=ty) (ti:=ti) (c:=c) (c':=c') (Tabs.sl_spec ht) hi hb hnl hk (by rw [hnl]; exact hcl) (fun v hv => zc5 (List.all_eq_true.1 h1 v hv)) (ad:=ad) (fun j v hj => hcy j v (by
  rw [← hnews, List.getElem?_take] at hj
  split at hj
  ·exact hj
  ·cases hj))
 rw [hnl, hr] at hrun0
 have hrun:(execOp a.eval ⟨some d, .call ⟨.builtin .copy, #[x, y], #[t, ti]⟩, ty, pos, aft, g⟩).run P u = .ok (.value (goInt k)) (u.setRow b cur'.toArray):=by
  simp only [execOp, resolve, invoke, builtin, Sem.run_bind, Sem.run_pure, Result.andThen_ok, List.map_toArray, List.map_cons, List.map_nil, hxe, hye, hrun0]
 rw [hrun]
 simp only [Upon]
 have hbm:=hM b ((hC b).2 rfl)
 have h2:=hh.usePut (d:=q) (a':=a) (r':=zal b cur' t') (C:=fun k => k = b) hk' (zbn hh.sub hb ((hC b).2 rfl) hbm.2.1 _) rfl rfl (fun _ _ => rfl) ⟨setRow_heap u b cur.toArray cur'.toArray t' (0, 0) hb, fun _ => Iff.rfl⟩ (fun k hk => by
  subst hk; exact ⟨.inl ((hC k).2 rfl), by rw [setRow_size]; exact hbm.1, hbm.2.1⟩)
 rw [zbe] at h2
 exact ⟨H, _, h2.put (k:=.is (.int .i64 k)) (zk hn) trivial rfl⟩
theorem zu0 (L:Tabs P) {q b off m c off2 m' c':Nat} {x y:Operand} {t e ti t':TypeId} {s by_:Nat} {cur news cur':List Value} (k:Nat) (hn:Nat.blt d n = true) (hg:gK ops κ ⟨some d, .call ⟨.builtin .copy, #[x, y], #[t, ti]⟩, ty, pos, aft, g⟩ = some true)
  (hx:evK κ x = some (.slice (some ⟨b, off, none⟩) m c)) (hq:κ q = some (.own (zal b cur t'))) (hy:evK κ y = some (.slice (some ⟨b, off2, none⟩) m' c')) (ht:L.sl t = some e) (he:elI P e = some (s, by_)) (hk:Nat.min m' m = k) (hnews:(cur.drop off2).take (k * s) = news) (hnl:news.length = k * s) (hcl:off + k * s ≤ cur.length) (h1:news.all zbp = true)
  (hr:cur.take off ++ (news ++ cur.drop (off + k * s)) = cur') :
  StepOK2 P F B n ops O κ ⟨some d, .call ⟨.builtin .copy, #[x, y], #[t, ti]⟩, ty, pos, aft, g⟩ q (.own (zal b cur' t')) d (.is (.int .i64 k)):=by
 rintro κ' a u hlk hks ⟨H, fp, hh⟩
 unfold After
 rw [if_pos (zaf hh hlk hg)]
 have en:=hh.env hlk
 have hk':κ' q = some (.own (zal b cur t')):=hks.trans hq
 have hxe:=en.is_ x _ (by simp [Op.operands, Call.operands]) hx
 have hye:=en.is_ y _ (by simp [Op.operands, Call.operands]) hy
 obtain ⟨⟨hb, hC⟩, hM⟩:=hh.slot q _ hk'
 obtain ⟨i, z, hi, hz, hs1, hs2, hs3, hs4⟩:=zb9 he
 subst hs1
 have hrun0:=zjo (P:=P) (ty:=ty) (ti:=ti) (c:=c) (c':=c') (Tabs.sl_spec ht) hi hb hnl hk (by rw [hnl]; exact hcl) (fun v hv => zc5 (List.all_eq_true.1 h1 v hv)) (ad:=⟨b, off2, none⟩) (fun j v hj => (zkn hb off2 j).trans (zie hnews.symm hj))
 rw [hnl, hr] at hrun0
 have hrun:(execOp a.eval ⟨some d, .call ⟨.builtin .copy, #[x, y], #[t, ti]⟩, ty, pos, aft, g⟩).run P u = .ok (.value (goInt k)) (u.setRow b cur'.toArray):=by
  simp only [execOp, resolve, invoke, builtin, Sem.run_bind, Sem.run_pure, Result.andThen_ok, List.map_toArray, List.map_cons, List.map_nil, hxe, hye, hrun0]
 rw [hrun]
 simp only [Upon]
 have hbm:=hM b ((hC b).2 rfl)
 have h2:=hh.usePut (d:=q) (a':=a) (r':=zal b cur' t') (C:=fun k => k = b) hk' (zbn hh.sub hb ((hC b).2 rfl) hbm.2.1 _) rfl rfl (fun _ _ => rfl) ⟨setRow_heap u b cur.toArray cur'.toArray t' (0, 0) hb, fun _ => Iff.rfl⟩ (fun k hk => by
  subst hk; exact ⟨.inl ((hC k).2 rfl), by rw [setRow_size]; exact hbm.1, hbm.2.1⟩)
 rw [zbe] at h2
 exact ⟨H, _, h2.put (k:=.is (.int .i64 k)) (zk hn) trivial rfl⟩
theorem zj2 (L:Tabs P) {q b nn cap off2 m' c':Nat} {x y:Operand} {t e:TypeId} {s by_:Nat} {cur news cur':List Value} (hn:Nat.blt d n = true) (hg:gK ops κ ⟨some d, .call ⟨.builtin .append, #[x, y], #[t, t]⟩, ty, pos, aft, g⟩ = some true)
  (hx:evK κ x = some (.slice (some ⟨b, 0, none⟩) nn cap)) (hq:κ q = some (.own (zal b cur e))) (hy:evK κ y = some (.slice (some ⟨b, off2, none⟩) m' c')) (ht:L.sl t = some e) (he:elI P e = some (s, by_)) (hnews:(cur.drop off2).take (m' * s) = news) (hnl:news.length = m' * s) (hroom:nn + m' ≤ cap) (hcl:nn * s + m' * s ≤ cur.length) (h1:news.all zbp = true)
  (hr:cur.take (nn * s) ++ (news ++ cur.drop (nn * s + m' * s)) = cur') :
  StepOK2 P F B n ops O κ ⟨some d, .call ⟨.builtin .append, #[x, y], #[t, t]⟩, ty, pos, aft, g⟩ q (.own (zal b cur' e)) d (.is (.slice (some ⟨b, 0, none⟩) (nn + m') cap)):=by
 rintro κ' a u hlk hks ⟨H, fp, hh⟩
 unfold After
 rw [if_pos (zaf hh hlk hg)]
 have en:=hh.env hlk
 have hk':κ' q = some (.own (zal b cur e)):=hks.trans hq
 have hxe:=en.is_ x _ (by simp [Op.operands, Call.operands]) hx
 have hye:=en.is_ y _ (by simp [Op.operands, Call.operands]) hy
 obtain ⟨⟨hb, hC⟩, hM⟩:=hh.slot q _ hk'
 obtain ⟨i, z, hi, hz, hs1, hs2, hs3, hs4⟩:=zb9 he
 subst hs1
 have hrun0:=run_append_room (P:=P) u t ty e i (Tabs.sl_spec ht) hi b nn cap cur.toArray hb ⟨b, off2, none⟩ m' c' news hnl (fun j v hj => (zkn hb off2 j).trans (zie hnews.symm hj)) (fun v hv => zc5 (List.all_eq_true.1 h1 v hv)) hroom (by rw [hnl]; simpa using hcl)
 rw [hnl] at hrun0
 simp only [List.append_assoc] at hrun0
 rw [hr] at hrun0
 have hrun:(execOp a.eval ⟨some d, .call ⟨.builtin .append, #[x, y], #[t, t]⟩, ty, pos, aft, g⟩).run P u = .ok (.value (.slice (some ⟨b, 0, none⟩) (nn + m') cap)) (u.setRow b cur'.toArray):=by
  simp only [execOp, resolve, invoke, builtin, Sem.run_bind, Sem.run_pure, Result.andThen_ok, List.map_toArray, List.map_cons, List.map_nil, hxe, hye, hrun0]
 rw [hrun]
 simp only [Upon]
 have hbm:=hM b ((hC b).2 rfl)
 have h2:=hh.usePut (d:=q) (a':=a) (r':=zal b cur' e) (C:=fun k => k = b) hk' (zbn hh.sub hb ((hC b).2 rfl) hbm.2.1 _) rfl rfl (fun _ _ => rfl) ⟨setRow_heap u b cur.toArray cur'.toArray e (0, 0) hb, fun _ => Iff.rfl⟩ (fun k hk => by
  subst hk; exact ⟨.inl ((hC k).2 rfl), by rw [setRow_size]; exact hbm.1, hbm.2.1⟩)
 rw [zbe] at h2
 exact ⟨H, _, h2.put (k:=.is _) (zk hn) trivial rfl⟩
theorem zsf (L:Tabs P) {q b nn cap k:Nat} {x y:Operand} {t ti e t':TypeId} {s by_:Nat} {kn:IntKind} {cur xs zs:List Value} {z:Value} (hn:Nat.blt d n = true) (hg:gK ops κ ⟨some d, .call ⟨.builtin .append, #[x, y], #[t, ti]⟩, ty, pos, aft, g⟩ = some true)
  (hx:evK κ x = some (.slice (some ⟨b, 0, none⟩) nn cap)) (hq:κ q = some (.own (zal b cur t'))) (hy:evK κ y = some (.int .i64 k)) (ht:L.sl t = some e) (hti:P.underlying ti = some (.int kn)) (he:elI P e = some (s, by_)) (hz:L.zr e = some z) (h0:0 < k) (hg2:cap < nn + k) (hxs:cur.take (nn * s) = xs) (hxl:nn * s ≤ cur.length) (hzs:(Builtin.zeroCells z.cells k).toList = zs)
  (hb:(nn + k) * by_ ≤ 140737488355328) (h63:nn + k ≤ 4611686018427387904) :
  zdm P F B n ops O κ ⟨some d, .call ⟨.builtin .append, #[x, y], #[t, ti]⟩, ty, pos, aft, g⟩ q d (.own (SlR e s (nn + k) (xs ++ zs))):=by
 rintro κ' a u hlk hks ⟨H, fp, hh⟩
 unfold After
 rw [if_pos (zaf hh hlk hg)]
 have en:=hh.env hlk
 have hk':κ' q = some (.own (zal b cur t')):=hks.trans hq
 have hxe:=en.is_ x _ (by simp [Op.operands, Call.operands]) hx
 have hye:=en.is_ y _ (by simp [Op.operands, Call.operands]) hy
 obtain ⟨⟨hbb, hC⟩, hM⟩:=hh.slot q _ hk'
 obtain ⟨i, z', hi, hz', hs1, hs2, hs3, hs4⟩:=zb9 he
 have hzz:i.zero = some z:=by
  have:=Tabs.zr_spec hz
  unfold zrI at this
  rw [hi] at this
  exact this
 rw [hz'] at hzz
 obtain rfl:=Option.some.inj hzz
 subst hs1
 subst hs2
 have hold:(Builtin.firstCells i.size nn (.slice (some ⟨b, 0, none⟩) nn cap)).run P u.drew = .ok xs.toArray u.drew:=run_firstCells_some (P:=P) u.drew i.size nn ⟨b, 0, none⟩ nn cap xs (by rw [← hxs, List.length_take, Nat.min_eq_left hxl]) fun j v hj => by
  have hb2:u.drew.heap[b]? = some (.cells cur.toArray t'):=hbb
  rw [zkn hb2 0 j, Nat.zero_add]
  rw [← hxs, List.getElem?_take] at hj
  split at hj
  ·exact hj
  ·cases hj
 have hkb:k * i.bytes ≤ (nn + k) * i.bytes:=Nat.mul_le_mul_right _ (by omega)
 have hns:=growslice_fits hg2 hb
 have hr:=Lib.run_append_grow_zeros (P:=P) u t ti ty e i z' .i64 kn (Tabs.sl_spec ht) hti hi hz' (some ⟨b, 0, none⟩) nn cap xs hold k h0 hs4 hg2 (by omega) (by omega) hns
 have hrun:(execOp a.eval ⟨some d, .call ⟨.builtin .append, #[x, y], #[t, ti]⟩, ty, pos, aft, g⟩).run P u = .ok (.value (.slice (some ⟨u.heap.size, 0, none⟩) (nn + k) (grownCap u (nn + k) cap e))) (u.drew.alloc (.cells (xs.toArray ++ Builtin.zeroCells z'.cells k ++ Builtin.zeroCells z'.cells (grownCap u (nn + k) cap e - (nn + k))) e)):=by
  simp only [execOp, resolve, invoke, builtin, Sem.run_bind, Sem.run_pure, Result.andThen_ok, List.map_toArray, List.map_cons, List.map_nil, hxe, hye, hr]
 rw [hrun]
 simp only [Upon]
 have hge:=grownCap_ge u (nn + k) cap e
 have hmx:nn + k ≤ maxLen:=by simp only [maxLen]; omega
 have hxl2:xs.length = nn * i.size:=by rw [← hxs, List.length_take, Nat.min_eq_left hxl]
 have hzl:zs.length = k * i.size:=by rw [← hzs, Array.length_toList, size_zeroCells, hs3]
 have hg3:=hh.grow (u':=u.drew.alloc (.cells (xs.toArray ++ Builtin.zeroCells z'.cells k ++ Builtin.zeroCells z'.cells (grownCap u (nn + k) cap e - (nn + k))) e)) (H':=H) ⟨⟨rfl, rfl, rfl, by simp, fun k hk _ => zb5 u.drew _ hk, Nat.le_succ _⟩, fun k v hv => by
  have:=hh.sub.size hv
  show (u.drew.alloc _).heap[k]? = some v
  rw [zb5 u.drew _ this]; exact hh.sub k v hv, Heap.Le.refl _, fun _ _ _ => rfl⟩
 refine ⟨H, _, hg3.putR (C:=fun k => k = u.heap.size) (by simp [Act.put]) rfl (fun t ht => zam ht) ⟨by rw [List.length_append, hxl2, hzl, Nat.add_mul], .inr ⟨u.heap.size, _, (Builtin.zeroCells z'.cells (grownCap u (nn + k) cap e - (nn + k))).toList, zaq (by rw [hh.size]; exact zk hn), ?_, hge, grownCap_le_maxLen u (nn + k) cap e hmx, ?_, fun _ => Iff.rfl⟩⟩ (fun k hk => ?_) fun t r' htd ht k hf hk => ?_⟩
 ·rw [show u.heap.size = u.drew.heap.size from rfl, heap_alloc_new]
  congr 2
  apply Array.ext'
  simp [← hzs]
 ·have hz2:(Builtin.zeroCells z'.cells (grownCap u (nn + k) cap e - (nn + k))).toList.length = (grownCap u (nn + k) cap e - (nn + k)) * i.size:=(Array.length_toList).trans (by rw [size_zeroCells, hs3])
  rw [List.length_append, List.length_append, hz2, hxl2, hzl, ← Nat.add_mul, ← Nat.add_mul]
  congr 1
  omega
 ·subst hk
  exact ⟨by simp, zbg hh.sub (Nat.le_refl _), .inl hh.keep.size, fun y hy e => by have:=zah (hh.boxes y hy).1; omega⟩
 ·have:=((hh.slot t _ ht).2 k hf).1
  omega
theorem zpf (L:Tabs P) {q w b off m f len cap:Nat} {y:Operand} {t e t':TypeId} {ag:Bool} {s:Nat} {cur cs:List Value} {te:TypeId} {fo:Operand} {tR:TypeId} (hn:Nat.blt d n = true) {at_:Array TypeId} (hg:gK ops κ ⟨some d, .call { callee:=.value fo, args:=#[.tmp w, y], argTypes:=at_ }, ty, pos, aft, g⟩ = some true)
  (hfo:evK κ fo = some (.func (.func f) #[] #[])) (hext:∀ args u, (callFunc f args).run P u = ((Extern.SlicesOverlaps.overlaps #[t, t] #[tR] args).run P u).andThen fun v w' => .ok (.value v) w')
  (hx:κ w = some (.sat (SlB cs te len))) (hy:evK κ y = some (.slice (some ⟨b, off, none⟩) m cap)) (hq:κ q = some (.own (zal b cur t'))) (ht:L.sl t = some e) (hl:L.ld e = some (ag, s)) (hc:0 < cur.length) :
  zdm P F B n ops O κ ⟨some d, .call { callee:=.value fo, args:=#[.tmp w, y], argTypes:=at_ }, ty, pos, aft, g⟩ q d (.is (.bool false)):=by
 rintro κ' a u hlk hks ⟨H, fp, hh⟩
 unfold After
 rw [if_pos (zaf hh hlk hg)]
 have en:=hh.env hlk
 have hk':κ' q = some (.own (zal b cur t')):=hks.trans hq
 have hfe:a.eval fo = .func (.func f) #[] #[]:=en.is_ fo _ (by simp [Op.operands, Call.operands]) hfo
 have hye:=en.is_ y _ (by simp [Op.operands, Call.operands]) hy
 obtain ⟨b2, hxe, hb2⟩:=en.sat_ w _ (by simp [Op.operands, Call.operands]) hx
 obtain ⟨⟨hbb, hC⟩, hM⟩:=hh.slot q _ hk'
 have hbm:=hM b ((hC b).2 rfl)
 have hne:b2 ≠ b:=fun e => by subst e; rw [hbm.2.1] at hb2; cases hb2
 have hb2':=en.sub _ _ hb2
 have hsz:∀ w, (Go.sizeOf e).run P w = .ok s w:=za7 (Tabs.ld_spec hl)
 have hr:=Lib.run_overlaps_apart (P:=P) u t tR e (Tabs.sl_spec ht) s hsz ⟨b2, 0, none⟩ ⟨b, off, none⟩ len len m cap hne te t' cs.length cur.length
  (by simp [World.shape?, hp] at hb2' ⊢; simp [hb2']) (by simp [World.shape?, hbb]) (by omega) (by simp [World.frozen?, hp] at hb2' ⊢; simp [hb2']) (by simp [World.frozen?, hp] at hb2' ⊢; simp [hb2'])
 have hrun:(execOp a.eval ⟨some d, .call { callee:=.value fo, args:=#[.tmp w, y], argTypes:=at_ }, ty, pos, aft, g⟩).run P u = .ok (.value (.bool false)) u:=by
  simp only [execOp, resolve, hfe, Deferred.ofValue, Sem.run_bind, Sem.run_pure, Result.andThen_ok, invoke]
  simp [hext, hxe, hye, hr]
 rw [hrun]
 simp only [Upon]
 exact ⟨H, fp, hh.put (k:=.is (.bool false)) (zk hn) trivial rfl⟩
theorem zr9 (L:Tabs P) {x y:Operand} {tt e:TypeId} {s:Nat} {k:IntKind} {ag:Bool} (hn:Nat.blt d n = true) (hg:gK ops κ ⟨some d, .slice tt x (some y) none none, ty, pos, aft, g⟩ = some true)
  (hx:evK κ x = some (.slice none 0 0)) (ht:L.sl tt = some e) (hl:L.ld e = some (ag, s)) {p:Int} (hy:evK κ y = some (.int k p)) (hp:p = (0:Nat)) :
  StepOK P F B n ops O κ ⟨some d, .slice tt x (some y) none none, ty, pos, aft, g⟩ d (.is (.slice none 0 0)) :=
 zav rfl (zk hn) hg trivial fun a u H fp en => ⟨_, by
  have hu:=Tabs.sl_spec ht
  have h1:=en.is_ x _ (by simp [Op.operands]) hx
  have h2:=en.is_ y _ (by simp [Op.operands]) hy
  subst hp
  have hrun:(Instr.sliceBounds true 0 0 (some (a.eval y)) none none).run P u = .ok (0, 0, 0) u:=by
   have h4:=fun c w => za5 (P:=P) 0 k 0 c (Nat.le_refl _) w
   simp only [h2, Instr.sliceBounds, Sem.run_bind, h4, Result.andThen_ok, Sem.run_pure]
  simp only [execOp, h1, Instr.sliceAt, Instr.slice, Sem.run_bind, run_underlying hu, Result.andThen_ok, Option.map_none, Option.map_some, hrun, za7 (Tabs.ld_spec hl)]
  rfl, rfl⟩
theorem zn4 (L:Tabs P) {x y1 y2 y3:Operand} {tt e:TypeId} {s m b off cap:Nat} {k1 k2 k3:IntKind} {ag:Bool} (i j l:Nat) {p1 p2 p3:Int} (hn:Nat.blt d n = true) (hg:gK ops κ ⟨some d, .slice tt x (some y1) (some y2) (some y3), ty, pos, aft, g⟩ = some true)
  (hx:evK κ x = some (.slice (some ⟨b, off, none⟩) m cap)) (ht:L.sl tt = some e) (hl:L.ld e = some (ag, s)) (h1:evK κ y1 = some (.int k1 p1)) (h2:evK κ y2 = some (.int k2 p2)) (h3:evK κ y3 = some (.int k3 p3)) (e1:p1 = i) (e2:p2 = j) (e3:p3 = l)
  (hij:i ≤ j) (hjl:j ≤ l) (hlc:l ≤ cap) :
  StepOK P F B n ops O κ ⟨some d, .slice tt x (some y1) (some y2) (some y3), ty, pos, aft, g⟩ d (.is (.slice (some (if l = i then ⟨b, off, none⟩ else ⟨b, off + i * s, none⟩)) (j - i) (l - i))) :=
 zav rfl (zk hn) hg trivial fun a u H fp en => ⟨_, by
  have hu:=Tabs.sl_spec ht
  subst e1 e2 e3
  have q0:=en.is_ x _ (by simp [Op.operands]) hx
  have q1:=en.is_ y1 _ (by simp [Op.operands]) h1
  have q2:=en.is_ y2 _ (by simp [Op.operands]) h2
  have q3:=en.is_ y3 _ (by simp [Op.operands]) h3
  have hrun:(Instr.sliceBounds true m cap (some (a.eval y1)) (some (a.eval y2)) (some (a.eval y3))).run P u = .ok (i, j, l) u:=by
   simp [q1, q2, q3, Instr.sliceBounds, za5 i k1 _ _ hij, za5 j k2 _ _ hjl, za5 l k3 _ _ hlc]
  simp only [execOp, q0, Instr.sliceAt, Instr.slice, Sem.run_bind, run_underlying hu, Result.andThen_ok, Option.map_some, hrun, za7 (Tabs.ld_spec hl), Sem.run_pure]
  congr 3
  split <;> simp [Addr.add], rfl⟩
end
end Go.V
set_option maxRecDepth 20000
namespace Go.V.L10
open Go.Proofs Go.RowKit Go.V
theorem _root_.Go.V.Z48 {A B:Prop} (h:B) (t:Wr B → A:=by intro h; refine z7 (StepOK.seeV (qd L (ql rfl) rfl rfl rfl rfl) (by assumption)) rfl ?_; exact h.h):A:=t ⟨h⟩
theorem _root_.Go.V.Z103 {A B:Prop} (h:B) (t:Wr B → A:=by intro h; refine z7 (zzb rfl rfl rfl rfl (by omega) (by assumption)) rfl ?_; exact h.h):A:=t ⟨h⟩
theorem _root_.Go.V.Z220 {A B:Prop} (h:B) (t:Wr B → A:=by intro h; refine Z19 ?_; refine Z48 ?_; exact h.h):A:=t ⟨h⟩
theorem _root_.Go.V.Z365 {A B:Prop} (h:B) (t:Wr B → A:=by intro h; refine Z78 ?_; refine Z56 ?_; exact h.h):A:=t ⟨h⟩
abbrev ztp:TypeId:=137
abbrev zin:TypeId:=49
def pnc (p:Int × Int):List Value:=[.int .u64 p.1, .int .i64 p.2]
theorem zud (p:Int × Int):(pnc p).length = 2:=rfl
theorem zg2 (l:List (Int × Int)):(l.flatMap pnc).all zbp = true:=by
 rw [List.all_eq_true]
 intro v hv
 obtain ⟨x, _, hx⟩:=List.mem_flatMap.1 hv
 simp only [pnc, List.mem_cons, List.mem_nil_iff, or_false] at hx
 rcases hx with rfl | rfl <;> rfl
abbrev PsV (l:List (Int × Int)):Value → Heap → Prop:=SlV ztp 2 (l.flatMap pnc) l.length false
theorem zr8 {l:List (Int × Int)} {i:Nat} {x:Int × Int} (h:l[i]? = some x):((l.flatMap pnc).drop (i * 2)).take 2 = [.int .u64 x.1, .int .i64 x.2]:=zdc zud l i x h
abbrev RsV (l:List Int) (fu:Bool):Value → Heap → Prop:=SlV zin 1 (l.map (Value.int .u64)) l.length fu
theorem zme (l:List Int):(l.map (Value.int .u64)).all zbp = true:=by
 rw [List.all_eq_true]
 intro v hv
 obtain ⟨x, _, rfl⟩:=List.mem_map.1 hv
 rfl
theorem zih {l:List Int} {i:Nat} {x:Int} (h:l[i]? = some x):((l.map (Value.int .u64)).drop (i * 1)).take 1 = [.int .u64 x]:=by
 rw [Nat.mul_one, List.take_one]
 simp [List.head?_drop, h]
attribute [local irreducible] V N X VO Par StepOK Has Ret RetL RetO zb8 zdn Src
theorem cmpU_ret (a b:Int) {w:World} {B:Heap} (hB:B.Le (hp w)):Ret Tryz.prog 130 [.int .u64 a, .int .u64 b] w B (fun v _ => v = .int .i64 (cP a b)):=by
 unfold cP
 refine yc Tryz.func130 rfl Tryz.ntmps130 (Nat.le_of_ble_eq_true rfl) hB ?_
 by_cases h:a < b
 ·rw [if_pos h]
  refine Z286 ?_; refine z7 (zo L rfl rfl (zk rfl) rfl rfl rfl (fun u H hH _ _ => So.isnanU _ hH)) rfl ?_; refine Z250 ?_; refine z7 (zo L rfl rfl (zk rfl) rfl rfl rfl (fun u H hH _ _ => So.isnanU _ hH)) rfl ?_; refine Z333 ?_; refine Z168 ?_; refine Z196 ?_; refine Z168 ?_; refine Z60 ?_; refine Z330 ?_; refine Z154 ?_; refine Z68 ?_; refine Z139 ?_
  refine yb L (rs:=[.tmp 4]) rfl (fun _ _ h => h) Since.refl fun u H hH hle => ?_
  rfl
 ·rw [if_neg h]
  by_cases h2:b < a
  ·rw [if_pos h2]
   refine Z286 ?_; refine z7 (zo L rfl rfl (zk rfl) rfl rfl rfl (fun u H hH _ _ => So.isnanU _ hH)) rfl ?_; refine Z250 ?_; refine z7 (zo L rfl rfl (zk rfl) rfl rfl rfl (fun u H hH _ _ => So.isnanU _ hH)) rfl ?_; refine Z333 ?_; refine Z168 ?_; refine Z196 ?_; refine Z168 ?_; refine Z60 ?_; refine Z273 ?_; refine Z168 ?_; refine Z65 ?_; refine Z141 ?_; refine Z40 ?_; refine Z154 ?_; refine Z86 ?_; refine Z139 ?_
   refine yb L (rs:=[.tmp 4]) rfl (fun _ _ h => h) Since.refl fun u H hH hle => ?_
   rfl
  ·rw [if_neg h2]
   refine Z286 ?_; refine z7 (zo L rfl rfl (zk rfl) rfl rfl rfl (fun u H hH _ _ => So.isnanU _ hH)) rfl ?_; refine Z250 ?_; refine z7 (zo L rfl rfl (zk rfl) rfl rfl rfl (fun u H hH _ _ => So.isnanU _ hH)) rfl ?_; refine Z333 ?_; refine Z168 ?_; refine Z196 ?_; refine Z168 ?_; refine Z60 ?_; refine Z273 ?_; refine Z168 ?_; refine Z65 ?_; refine Z141 ?_; refine Z32 ?_; refine Z162 ?_; refine Z82 ?_; refine Z139 ?_
   refine yb L (rs:=[.tmp 4]) rfl (fun _ _ h => h) Since.refl fun u H hH hle => ?_
   rfl
theorem zhb (a n b:Int) {w:World} {B:Heap} (hB:B.Le (hp w)):Ret Tryz.prog 129 [.agg #[.int .u64 a, .int .i64 n], .int .u64 b] w B (fun v _ => v = .int .i64 (cP a b)):=by
 refine yc Tryz.func129 rfl Tryz.ntmps129 (Nat.le_of_ble_eq_true rfl) hB ?_
 refine Z285 ?_; refine Z181 ?_; refine Z1 ?_; refine z7 (zo L rfl rfl (zk rfl) rfl rfl rfl (fun u H hH _ _ => cmpU_ret _ _ hH)) rfl ?_; refine Z139 ?_
 refine yb L (rs:=[.tmp 4]) rfl (fun _ _ h => h) Since.refl fun u H hH hle => ?_
 rfl
abbrev BSP:Nat:=128
abbrev fvP:Value:=.func (.func 129) #[] #[]
set_option maxHeartbeats 2000000 in
theorem z1c {L0:List Int} {r:Int} (hz:(zaj L0).length ≤ 100000) {v:Value} {w:World} {B:Heap} (hB:B.Le (hp w)) (hv:PsV (zaj L0) v B) :
  Ret Tryz.prog BSP [v, .int .u64 r, fvP] w B (fun v _ => v = .tuple #[.int .i64 (zgo cP r (zan L0):Nat), .bool (decide (r ∈ zan L0))]):=by
 have hs:=za9 L0
 obtain ⟨l, hl⟩:∃ l, l = zan L0:=⟨_, rfl⟩
 obtain ⟨ps, hps⟩:∃ ps, ps = zaj L0:=⟨_, rfl⟩
 have hat:∀ (i:Nat) (x:Int), l[i]? = some x → ps[i]? = some (x, (L0.count x:Int)):=fun i x h => by subst hl hps; exact zjx h
 have hlen:ps.length = l.length:=by subst hl hps; exact zbk L0
 rw [← hl] at hs ⊢
 rw [← hps] at hv hz
 clear hl hps
 refine yc Tryz.func128 rfl Tryz.ntmps128 (Nat.le_of_ble_eq_true rfl) hB ?_
 refine zax 0 (PsV ps) rfl SlV.mono hv ?_
 refine Z251 ?_; refine Z160 ?_; refine Z151 ?_; refine Z250 ?_; refine Z195 ?_; refine qk ?_
 refine zak (fun s:Nat × Nat => [(0, .sat (PsV ps)), (2, .is fvP), (1, .is (.int .u64 r)), (8, .is (.int .i64 ps.length)), (9, .is (.int .i64 s.1)), (10, .is (.int .i64 s.2))])
  (fun s => s.1 ≤ s.2 ∧ s.2 ≤ l.length ∧ (∀ (k:Nat) (x:Int), k < s.1 → l[k]? = some x → cP x r < 0) ∧ ∀ (k:Nat) (x:Int), s.2 ≤ k → l[k]? = some x → ¬ cP x r < 0) (fun s => s.2 - s.1) (0, ps.length) ⟨Nat.zero_le _, Nat.le_of_eq hlen, fun k x h => (by cases h), fun k x h hx => (by rw [List.getElem?_eq_none (by dsimp only at h; omega)] at hx; cases hx)⟩ ⟨rfl, rfl, rfl, rfl, rfl, rfl, trivial⟩ ?_
 rintro ⟨i, j⟩ ⟨hij, hjl, hlo, hhi⟩
 dsimp only at hij hjl hlo hhi ⊢
 by_cases hlt:i < j
 ·obtain ⟨h, hh⟩:∃ h, h = (i + j) / 2:=⟨_, rfl⟩
  have hsh:((i:Int) + (j:Int)).fdiv (2 ^ min (1:Int).toNat IntKind.u64.bits) = (h:Int):=by
   show ((i:Int) + (j:Int)).fdiv 2 = (h:Int)
   rw [Int.fdiv_eq_ediv_of_nonneg _ (by decide)]
   omega
  obtain ⟨y, hy⟩:=zae (show h < l.length by omega)
  have hc:=zr8 (hat h y hy)
  by_cases hcm:cP y r < 0
  ·refine Z233 ?_; refine Z403 ?_; refine Z335 ?_; refine Z24 ?_; refine z7 (zau rfl rfl rfl zbq.1 zbq.2 (wrap_u64 (by omega) (by omega))) rfl ?_; refine Z103 ?_; refine z7 (zau rfl rfl rfl zbr.1 zbr.2 (zaa (by omega) (by omega))) rfl ?_; refine Z144 ?_; refine Z179 ?_; refine Z194 ?_; refine z7 (qu L _ rfl rfl rfl rfl rfl rfl rfl (by first | omega | decide) (by assumption)) rfl ?_; refine z7 (yg L (vs:=[_, _]) rfl rfl rfl rfl rfl ⟨_, rfl⟩) rfl ?_; refine Z1 ?_; refine z7 (zo L rfl rfl (zk rfl) rfl rfl rfl (fun u H hH _ _ => zhb _ _ _ hH)) rfl ?_; refine Z177 ?_; refine Z192 ?_; refine Z197 ?_; refine y9 ?_
   exact yi (x:=(i, j)) (h + 1, j) ⟨by dsimp only; omega, hjl, fun k x hk hx => zk8 zci hs hy hx (by dsimp only at hk; omega) hcm, hhi⟩ (by dsimp only; omega) ⟨rfl, rfl, rfl, rfl, rfl, rfl, trivial⟩
  ·refine Z233 ?_; refine Z403 ?_; refine Z335 ?_; refine Z24 ?_; refine z7 (zau rfl rfl rfl zbq.1 zbq.2 (wrap_u64 (by omega) (by omega))) rfl ?_; refine Z103 ?_; refine z7 (zau rfl rfl rfl zbr.1 zbr.2 (zaa (by omega) (by omega))) rfl ?_; refine Z144 ?_; refine Z179 ?_; refine Z194 ?_; refine z7 (qu L _ rfl rfl rfl rfl rfl rfl rfl (by first | omega | decide) (by assumption)) rfl ?_; refine z7 (yg L (vs:=[_, _]) rfl rfl rfl rfl rfl ⟨_, rfl⟩) rfl ?_; refine Z1 ?_; refine z7 (zo L rfl rfl (zk rfl) rfl rfl rfl (fun u H hH _ _ => zhb _ _ _ hH)) rfl ?_; refine Z10 ?_; refine Z142 ?_; refine Z196 ?_; refine Z243 ?_
   exact yi (x:=(i, j)) (i, h) ⟨by dsimp only; omega, by dsimp only; omega, hlo, fun k x hk hx hcx => hcm (zk8 zci hs hx hy hk hcx)⟩ (by dsimp only; omega) ⟨rfl, rfl, rfl, rfl, rfl, rfl, trivial⟩
 ·obtain rfl:i = j:=by omega
  rw [zuc zci hs hlo hhi hjl]
  by_cases hin:i < l.length
  ·obtain ⟨y, hy⟩:=zae hin
   have hc:=zr8 (hat i y hy)
   have hm:=z2v zci hs hlo hy hhi
   by_cases hcm:cP y r = 0
   ·rw [decide_eq_true (hm.2 hcm)]
    refine Z233 ?_; refine Z248 ?_; refine Z57 ?_; refine Z176 ?_; refine Z7 ?_; refine Z141 ?_; refine Z194 ?_; refine z7 (qu L _ rfl rfl rfl rfl rfl rfl rfl (by first | omega | decide) (by assumption)) rfl ?_; refine z7 (yg L (vs:=[_, _]) rfl rfl rfl rfl rfl ⟨_, rfl⟩) rfl ?_; refine Z1 ?_; refine z7 (zo L rfl rfl (zk rfl) rfl rfl rfl (fun u H hH _ _ => zhb _ _ _ hH)) rfl ?_; refine Z26 ?_; refine Z8 ?_; refine Z186 ?_
    refine yb L (rs:=[.tmp 6, .tmp 7]) rfl (fun _ _ h => h) Since.refl fun u H hH hle => ?_
    rfl
   ·rw [decide_eq_false fun h => hcm (hm.1 h)]
    refine Z233 ?_; refine Z248 ?_; refine Z57 ?_; refine Z176 ?_; refine Z7 ?_; refine Z141 ?_; refine Z194 ?_; refine z7 (qu L _ rfl rfl rfl rfl rfl rfl rfl (by first | omega | decide) (by assumption)) rfl ?_; refine z7 (yg L (vs:=[_, _]) rfl rfl rfl rfl rfl ⟨_, rfl⟩) rfl ?_; refine Z1 ?_; refine z7 (zo L rfl rfl (zk rfl) rfl rfl rfl (fun u H hH _ _ => zhb _ _ _ hH)) rfl ?_; refine Z15 ?_; refine Z8 ?_; refine Z186 ?_
    refine yb L (rs:=[.tmp 6, .tmp 7]) rfl (fun _ _ h => h) Since.refl fun u H hH hle => ?_
    rfl
  ·obtain rfl:i = l.length:=by omega
   rw [decide_eq_false (zpk zci hlo)]
   refine Z233 ?_; refine Z248 ?_; refine Z57 ?_; refine Z176 ?_; refine Z10 ?_; refine Z343 ?_; refine Z223 ?_; refine Z186 ?_
   refine yb L (rs:=[.tmp 6, .tmp 7]) rfl (fun _ _ h => h) Since.refl fun u H hH hle => ?_
   rfl
abbrev pnv (s:Value) (t:Nat):Value:=.agg #[s, .int .i64 t]
set_option maxHeartbeats 1000000 in
theorem zgd {L0:List Int} {r:Int} {t:Nat} (hz:L0.length ≤ 100000) {s:Value} {w:World} {B:Heap} (hB:B.Le (hp w)) (hv:PsV (zaj L0) s B) :
  Ret Tryz.prog 88 [pnv s t, .int .u64 r] w B (fun v _ => v = .tuple #[.int .i64 (zgo cP r (zan L0):Nat), .bool (decide (r ∈ zan L0))]):=by
 have hz2:(zaj L0).length ≤ 100000:=by rw [zbk]; exact Nat.le_trans (zbu _) hz
 obtain ⟨p, c, rfl⟩:=zap hv
 refine yc Tryz.func88 rfl Tryz.ntmps88 (Nat.le_of_ble_eq_true rfl) hB ?_
 refine Z329 ?_; refine Z160 ?_; refine Z181 ?_; refine Z1 ?_; refine z7 (zo L rfl rfl (zk rfl) rfl rfl rfl (fun u H hH hle _ => z1c hz2 hH (hv.le hle))) rfl ?_; refine Z169 ?_; refine Z186 ?_
 refine yb L (rs:=[.tmp 4, .tmp 5]) rfl (fun _ _ h => h) Since.refl fun u H hH hle => ?_
 rfl
theorem zhy {L0:List Int} {r:Int} (h:r ∈ zan L0):(zaj L0)[zgo cP r (zan L0)]? = some (r, (L0.count r:Int)):=zjx (zmh zci (za9 L0) h)
set_option maxHeartbeats 1000000 in
theorem count_ret {L0:List Int} {r:Int} {t:Nat} (hz:L0.length ≤ 100000) {s:Value} {w:World} {B:Heap} (hB:B.Le (hp w)) (hv:PsV (zaj L0) s B) :
  Ret Tryz.prog 58 [pnv s t, .int .u64 r] w B (fun v _ => v = .int .i64 (L0.count r:Nat)):=by
 obtain ⟨p, c, rfl⟩:=zap hv
 refine yc Tryz.func58 rfl Tryz.ntmps58 (Nat.le_of_ble_eq_true rfl) hB ?_
 by_cases h:r ∈ zan L0
 ·have hf:decide (r ∈ zan L0) = true:=decide_eq_true h
  have hp:=zhy h
  have hlt:=get_lt hp
  have hc:=zr8 hp
  refine Z344 ?_; refine z7 (zw L (vs:=[_, _]) (ql rfl) rfl rfl rfl rfl ⟨_, rfl⟩) rfl ?_; refine Z1 ?_; refine z7 (zo L rfl rfl (zk rfl) rfl rfl rfl (fun u H hH hle _ => hf ▸ zgd (t:=t) hz hH (hv.le hle))) rfl ?_; refine Z229 ?_; refine Z175 ?_; refine Z154 ?_; refine Z28 ?_; refine Z220 ?_; refine Z1 ?_; refine z7 (qu L _ rfl rfl rfl rfl rfl rfl rfl (by first | omega | decide) (by assumption)) rfl ?_; refine Z365 ?_; refine Z139 ?_
  refine yb L (rs:=[.tmp 4]) rfl (fun _ _ h => h) Since.refl fun u H hH hle => ?_
  rfl
 ·have hf:decide (r ∈ zan L0) = false:=decide_eq_false h
  have hc0:L0.count r = 0:=List.count_eq_zero.2 fun hm => h (za0.2 hm)
  rw [hc0]
  refine Z344 ?_; refine z7 (zw L (vs:=[_, _]) (ql rfl) rfl rfl rfl rfl ⟨_, rfl⟩) rfl ?_; refine Z1 ?_; refine z7 (zo L rfl rfl (zk rfl) rfl rfl rfl (fun u H hH hle _ => hf ▸ zgd (t:=t) hz hH (hv.le hle))) rfl ?_; refine Z229 ?_; refine Z175 ?_; refine Z162 ?_; refine Z30 ?_; refine Z139 ?_
  refine yb L (rs:=[.tmp 4]) rfl (fun _ _ h => h) Since.refl fun u H hH hle => ?_
  rfl
end Go.V.L10
set_option maxRecDepth 20000
namespace Go.V.L10
open Go.Proofs Go.RowKit Go.V
theorem _root_.Go.V.Z109 {A B:Prop} (h:B) (t:Wr B → A:=by intro h; refine qn (zce L rfl rfl rfl (zh5 rfl) rfl zx3 rfl rfl (by omega) (by omega)) ?_; exact h.h):A:=t ⟨h⟩
theorem _root_.Go.V.Z275 {A B:Prop} (h:B) (t:Wr B → A:=by intro h; refine Z220 ?_; refine Z11 ?_; exact h.h):A:=t ⟨h⟩
theorem _root_.Go.V.Z404 {A B:Prop} (h:B) (t:Wr B → A:=by intro h; refine Z20 ?_; refine Z255 ?_; exact h.h):A:=t ⟨h⟩
attribute [local irreducible] V N X VO Par StepOK Has Ret RetL RetO zb8 zdn Src
set_option maxHeartbeats 1000000 in
theorem zxs {L0:List Int} {t:Nat} (hz:L0.length ≤ 100000) {s:Value} {w:World} {B:Heap} (hB:B.Le (hp w)) (hv:PsV (zaj L0) s B) :
  Ret Tryz.prog 26 [pnv s t] w B (RsV (zan L0) true):=by
 have hz2:(zaj L0).length ≤ 100000:=by rw [zbk]; exact Nat.le_trans (zbu _) hz
 have hat:∀ (i:Nat) (x:Int), (zan L0)[i]? = some x → (zaj L0)[i]? = some (x, (L0.count x:Int)):=fun i x h => zjx h
 have hlen:(zaj L0).length = (zan L0).length:=zbk L0
 obtain ⟨p, c, rfl⟩:=zap hv
 refine yc Tryz.func26 rfl Tryz.ntmps26 (Nat.le_of_ble_eq_true rfl) hB ?_
 by_cases h0:(zan L0).length = 0
 ·have hnil:zan L0 = []:=List.eq_nil_of_length_eq_zero h0
  rw [hnil]
  refine Z285 ?_; refine Z181 ?_; refine Z75 ?_; refine z7 (zmm L (zan L0).length rfl rfl rfl zx3 rfl rfl (congrArg (Nat.cast (R:=Int)) hlen) (congrArg (Nat.cast (R:=Int)) hlen) (by omega) (by unfold maxLen; omega)) rfl ?_; refine qn (yo (.inr rfl) rfl rfl rfl rfl) ?_; refine Z191 ?_; refine Z29 ?_; refine Z275 ?_; refine Z283 ?_
  refine zzr 3 rfl ?_
  refine zak (fun _:Unit => [(3, .sat (SlV zin 1 (zsL Tryz.prog zin ((zan L0).length * 1)) (zan L0).length true)), (13, .is (.int .i64 0)), (12, .is (.int .i64 (zaj L0).length))]) (fun _ => True) (fun _ => 0) () trivial ⟨rfl, rfl, rfl, trivial⟩ ?_
  rintro _ _
  refine Z392 ?_; refine Z300 ?_; refine Z44 ?_; refine Z4 ?_; refine Z266 ?_
  refine yb L (rs:=[.tmp 2]) rfl (fun _ _ h => h) Since.refl fun u H hH hle => ?_
  intro v hv
  have h1:(zan L0).length * 1 = 0:=by omega
  rw [h0] at hv
  have hzl:zsL Tryz.prog zin (0 * 1) = []:=by
   have:=hv.1
   exact List.eq_nil_of_length_eq_zero (by simpa using this)
  rw [hzl] at hv
  exact hv
 ·refine Z285 ?_; refine Z181 ?_; refine Z75 ?_; refine z7 (zmm L (zan L0).length rfl rfl rfl zx3 rfl rfl (congrArg (Nat.cast (R:=Int)) hlen) (congrArg (Nat.cast (R:=Int)) hlen) (by omega) (by unfold maxLen; omega)) rfl ?_; refine qn (yo (.inr rfl) rfl rfl rfl rfl) ?_; refine Z191 ?_
  refine zwd 3 901 (by omega) rfl fun b hzl => ?_
  refine Z29 ?_; refine Z275 ?_; refine Z283 ?_
  generalize zsL Tryz.prog zin ((zan L0).length * 1) = zs at hzl ⊢
  refine zak (fun s:Nat × List Value => [(3, .is (.slice (some ⟨b, 0, none⟩) (zan L0).length (zan L0).length)), (11, .sat (PsV (zaj L0))), (13, .is (.int .i64 s.1)), (12, .is (.int .i64 (zaj L0).length)), (901, .own (zal b s.2 zin))])
   (fun s => s.1 ≤ (zan L0).length ∧ s.2.length = (zan L0).length ∧ s.2.take s.1 = ((zan L0).take s.1).map (Value.int .u64)) (fun s => (zan L0).length - s.1) (0, zs) ⟨Nat.zero_le _, by dsimp only; omega, rfl⟩ ⟨rfl, rfl, rfl, rfl, rfl, trivial⟩ ?_
  rintro ⟨i, cs⟩ ⟨hi, hcs, htk⟩
  dsimp only at hi hcs htk ⊢
  by_cases hlt:i < (zan L0).length
  ·obtain ⟨x, hx⟩:=zae hlt
   have hc:=zr8 (hat i x hx)
   have hle1:0 + i * 1 + 1 ≤ cs.length:=by rw [hcs]; omega
   have hwi:IntKind.i64.wrap ((i:Int) + 1) = ((i + 1:Nat):Int):=zaa (by omega) (by omega)
   refine Z392 ?_; refine Z219 ?_; refine Z161 ?_; refine z7 (qu L _ rfl rfl rfl rfl rfl rfl rfl (by first | omega | decide) (by assumption)) rfl ?_; refine z7 (yg L (vs:=[_, _]) rfl rfl rfl rfl rfl ⟨_, rfl⟩) rfl ?_; refine Z260 ?_; refine Z252 ?_; refine Z244 ?_; refine z1v 5 rfl ?_; refine Z181 ?_; refine z7 (qg L _ rfl rfl rfl rfl rfl rfl rfl (by omega)) rfl ?_; refine zcl (yw L (q:=901) rfl rfl rfl rfl rfl rfl (Nat.ble_eq_true_of_le hle1) rfl rfl) ?_; refine Z237 ?_; refine Z43 ?_; refine Z404 ?_
   exact yi (x:=(i, cs)) (i + 1, cs.take (0 + i * 1) ++ ([.int .u64 x] ++ cs.drop (0 + i * 1 + 1))) ⟨hlt, by dsimp only; rw [List.length_append, List.length_append, List.length_take, List.length_drop]; simp only [List.length_cons, List.length_nil]; omega, by
    dsimp only
    rw [zbj hx, List.map_append, ← htk, Nat.zero_add, Nat.mul_one, List.take_append, List.take_take, Nat.min_eq_right (by omega), List.length_take, Nat.min_eq_left (by omega), show i + 1 - i = 1 by omega]
    rfl⟩ (by dsimp only; omega) ⟨rfl, rfl, rfl, rfl, rfl, trivial⟩
  ·obtain rfl:i = (zan L0).length:=by omega
   have hcs2:cs = (zan L0).map (Value.int .u64):=by
    rw [List.take_of_length_le (by omega), List.take_length] at htk
    exact htk
   subst hcs2
   refine Z392 ?_; refine Z300 ?_
   refine zzp (s:=1) 3 901 rfl rfl (by simp) (by unfold maxLen; omega) ?_
   refine zzr 3 rfl ?_
   refine Z44 ?_; refine Z4 ?_; refine Z266 ?_
   refine yb L (rs:=[.tmp 2]) rfl (fun _ _ h => h) Since.refl fun u H hH hle => ?_
   exact fun v hv => hv
theorem ztq {s:Value} {t:Nat} (_hs:(zat s).length = 1 ∧ (zat s).all zbp = true) {w:World} {B:Heap} (hB:B.Le (hp w)) :
  Ret Tryz.prog 56 [pnv s t] w B (fun v _ => v = .int .i64 t):=by
 refine yc Tryz.func56 rfl Tryz.ntmps56 (Nat.le_of_ble_eq_true rfl) hB ?_
 refine Z285 ?_; refine Z181 ?_; refine Z139 ?_
 refine yb L (rs:=[.tmp 2]) rfl (fun _ _ h => h) Since.refl fun u H hH hle => ?_
 rfl
theorem zv1 {l:List Int} {fu:Bool} {v:Value} {w:World} {B:Heap} (hB:B.Le (hp w)) (hv:RsV l fu v B):Ret Tryz.prog 83 [v] w B (RsV l true):=by
 refine yc Tryz.func83 rfl Tryz.ntmps83 (Nat.le_of_ble_eq_true rfl) hB ?_
 refine zax 0 (RsV l fu) rfl SlV.mono hv ?_
 refine Z182 ?_; refine Z4 ?_; refine Z151 ?_; refine Z151 ?_; refine Z122 ?_; refine Z266 ?_
 refine yb L (rs:=[.tmp 2]) rfl (fun _ _ h => h) Since.refl fun u H hH hle => ?_
 exact fun v hv => hv
theorem zmd {l:List Int} {x:Int}:some (Kn.own (SlR zin 1 (l.length + 1) (l.map (Value.int .u64) ++ [.int .u64 x]))) = some (Kn.own (SlR zin 1 (l ++ [x]).length ((l ++ [x]).map (Value.int .u64)))):=by
 rw [List.map_append, List.length_append]; rfl
set_option maxHeartbeats 1000000 in
set_option maxRecDepth 10000 in
theorem zxu {L0 R:List Int} {t keep:Nat} {fu:Bool} (hz:L0.length ≤ 100000) (hR:R.length ≤ 100000) (hkp:keep ≤ 100000) {s v:Value} {w:World} {B:Heap} (hB:B.Le (hp w)) (hv:PsV (zaj L0) s B) (hr:RsV R fu v B) :
  Ret Tryz.prog 52 [pnv s t, v, .int .i64 keep] w B (RsV (zdb L0 R keep) true):=by
 obtain ⟨p, c, rfl⟩:=zap hv
 obtain ⟨n1, hn1⟩:∃ n1, n1 = R.length - keep:=⟨_, rfl⟩
 have hmx:(if (0:Int) > (keep:Int) then (0:Int) else (keep:Int)) = (keep:Int):=if_neg (by omega)
 have hmn:(if (R.length:Int) < (keep:Int) then (R.length:Int) else (keep:Int)) = (min R.length keep:Nat):=by split <;> omega
 have hsub:IntKind.i64.wrap ((R.length:Int) - (min R.length keep:Nat)) = (n1:Int):=zaa (by omega) (by omega) |>.trans (by omega)
 have hys:((R.map (Value.int .u64)).drop (0 * 1)).take ((n1 - 0) * 1) = (R.take n1).map (Value.int .u64):=by simp
 obtain ⟨g, hg⟩:∃ g, g = R.take n1:=⟨_, rfl⟩
 have hgl:g.length = n1:=by rw [hg, List.length_take]; omega
 have hgo:zdb L0 R keep = g.filter fun r => decide (L0.count r = 0):=by unfold zdb; rw [hg, hn1]
 rw [← hg] at hys
 rw [hgo]
 clear hg hgo
 refine yc Tryz.func52 rfl Tryz.ntmps52 (Nat.le_of_ble_eq_true rfl) hB ?_
 refine zax 1 (RsV R fu) rfl SlV.mono hr ?_
 refine Z285 ?_; refine Z148 ?_
 refine zeb 7 zin 1 rfl ?_
 refine Z29 ?_; refine Z4 ?_; refine Z151 ?_; refine Z1 ?_; refine z7 (zgi rfl rfl rfl rfl (by assumption)) rfl ?_; refine Z151 ?_; refine z7 (zuv rfl rfl rfl rfl (by assumption)) rfl ?_; refine Z25 ?_; refine z7 (zba L (kl:=.i64) (pl:=0) (km:=.i64) (pm:=0) 0 _ false rfl rfl rfl rfl rfl rfl ⟨rfl, rfl⟩ (fun h => by cases h) (by omega) (by omega) (by assumption)) rfl ?_; refine Z11 ?_; refine Z283 ?_
 refine zyn 19 (RsV g false) rfl SlV.mono (fun v H h => by unfold RsV; rw [hgl]; exact h) ?_
 refine zak (fun y:Nat × List Int => [(3, .sat (At [.slice p (zaj L0).length c, .int .i64 t] 74 0)), (7, .own (SlR zin 1 y.2.length (y.2.map (Value.int .u64)))), (19, .sat (RsV g false)), (20, .is (.int .i64 n1)), (21, .is (.int .i64 y.1))])
  (fun y => y.1 ≤ g.length ∧ y.2 = (g.take y.1).filter fun r => decide (L0.count r = 0)) (fun y => g.length - y.1) (0, []) ⟨Nat.zero_le _, rfl⟩ ⟨rfl, rfl, rfl, rfl, rfl, trivial⟩ ?_
 rintro ⟨k, out⟩ ⟨hk, hout⟩
 dsimp only at hk hout ⊢
 have hol:out.length ≤ k:=by rw [hout]; exact Nat.le_trans (List.length_filter_le ..) (by rw [List.length_take]; omega)
 by_cases hlt:k < g.length
 ·obtain ⟨x, hx⟩:=zae hlt
  have hc:=zih hx
  have htk:=zbj hx
  have hwk:IntKind.i64.wrap ((k:Int) + 1) = ((k + 1:Nat):Int):=zaa (by omega) (by omega)
  by_cases h0:L0.count x = 0
  ·have ho:out ++ [x] = (g.take (k + 1)).filter fun r => decide (L0.count r = 0):=by rw [htk, List.filter_append, ← hout]; simp [h0]
   refine Z392 ?_; refine Z219 ?_; refine Z30 ?_; refine z7 (qu L _ rfl rfl rfl rfl rfl rfl rfl (by first | omega | decide) (by assumption)) rfl ?_; refine Z56 ?_; refine Z144 ?_; refine Z37 ?_; refine z7 (zw L (vs:=[_, _]) (ql rfl) rfl rfl rfl rfl ⟨_, rfl⟩) rfl ?_; refine Z1 ?_; refine z7 (zo L rfl rfl (zk rfl) rfl rfl rfl (fun u H hH hle _ => count_ret hz hH (hv.le hle))) rfl ?_; refine Z288 ?_; refine Z43 ?_; refine qn (yo (.inl rfl) rfl rfl rfl rfl) ?_; refine Z1 ?_; refine Z35 ?_; refine Z109 ?_; refine qn (yo (.inr rfl) rfl rfl rfl rfl) ?_; refine Z237 ?_; refine Z44 ?_; refine Z404 ?_
   exact yi (x:=(k, out)) (k + 1, out ++ [x]) ⟨hlt, ho⟩ (by dsimp only; omega) ⟨rfl, zmd, rfl, rfl, rfl, trivial⟩
  ·have ho:out = (g.take (k + 1)).filter fun r => decide (L0.count r = 0):=by rw [htk, List.filter_append, ← hout]; simp [h0]
   refine Z392 ?_; refine Z219 ?_; refine Z30 ?_; refine z7 (qu L _ rfl rfl rfl rfl rfl rfl rfl (by first | omega | decide) (by assumption)) rfl ?_; refine Z56 ?_; refine Z144 ?_; refine Z37 ?_; refine z7 (zw L (vs:=[_, _]) (ql rfl) rfl rfl rfl rfl ⟨_, rfl⟩) rfl ?_; refine Z1 ?_; refine z7 (zo L rfl rfl (zk rfl) rfl rfl rfl (fun u H hH hle _ => count_ret hz hH (hv.le hle))) rfl ?_; refine Z15 ?_; refine Z221 ?_; refine Z44 ?_; refine Z404 ?_
   exact yi (x:=(k, out)) (k + 1, out) ⟨hlt, ho⟩ (by dsimp only; omega) ⟨rfl, rfl, rfl, rfl, rfl, trivial⟩
 ·obtain rfl:k = g.length:=by omega
  rw [List.take_length] at hout
  rw [← hout]
  refine zck 7 rfl ?_
  refine Z392 ?_; refine Z300 ?_; refine Z57 ?_; refine Z4 ?_; refine z7 (yq (φ:=RsV out true) L rfl rfl (zk rfl) rfl rfl rfl SlV.mono (fun u H hH _ _ v1 h1 => zv1 hH h1)) rfl ?_; refine Z266 ?_
  refine yb L (rs:=[.tmp 6]) rfl (fun _ _ h => h) Since.refl fun u H hH hle => ?_
  exact fun v hv => hv
theorem z54 {a b:Int × Int} {f:Bool} (h:decide (a = b) = f):zfz [1, 1] (pnc a) (pnc b) = some f:=by
 obtain ⟨a1, a2⟩:=a
 obtain ⟨b1, b2⟩:=b
 subst h
 simp only [pnc, zfz, eqC, if_true, Bool.and_true, Prod.mk.injEq]
 congr 1
 rw [Bool.eq_iff_iff]
 simp
theorem znn {a b:Int × Int} {f:Bool} (h:decide (a = b) = f) {w:World} {B:Heap} (hB:B.Le (hp w)):Ret Tryz.prog 71 [.agg #[.int .u64 a.1, .int .i64 a.2], .agg #[.int .u64 b.1, .int .i64 b.2]] w B (fun v _ => v = .bool f):=by
 have hq:zfz [1, 1] [.int .u64 a.1, .int .i64 a.2] [.int .u64 b.1, .int .i64 b.2] = some f:=z54 h
 refine yc Tryz.func71 rfl Tryz.ntmps71 (Nat.le_of_ble_eq_true rfl) hB ?_
 refine Z206 ?_; refine Z160 ?_; refine z7 (zw L (vs:=[_, _]) (ql rfl) rfl rfl rfl rfl ⟨_, rfl⟩) rfl ?_; refine z7 (zw L (vs:=[_, _]) (ql rfl) rfl rfl rfl rfl ⟨_, rfl⟩) rfl ?_; refine z7 (zpj rfl rfl rfl rfl z4x (by assumption) rfl) rfl ?_; refine Z139 ?_
 refine yb L (rs:=[.tmp 4]) rfl (fun _ _ h => h) Since.refl fun u H hH hle => ?_
 rfl
theorem zvh {α:Type} {a b:List α} (h:a.length ≠ b.length):a ≠ b:=fun e => h (congrArg List.length e)
theorem z1f {α:Type} {a b:List α} {i:Nat} {x y:α} (hx:a[i]? = some x) (hy:b[i]? = some y) (h:x ≠ y):a ≠ b:=fun e => h (by subst e; rw [hx] at hy; exact Option.some.inj hy)
set_option maxHeartbeats 1000000 in
theorem z03 {a b:List (Int × Int)} {f:Bool} (hf:decide (a = b) = f) (ha:a.length ≤ 100000) (hb:b.length ≤ 100000) {v1 v2:Value} {w:World} {B:Heap} (hB:B.Le (hp w)) (h1:PsV a v1 B) (h2:PsV b v2 B) :
  Ret Tryz.prog 70 [v1, v2, .func (.func 71) #[] #[]] w B (fun v _ => v = .bool f):=by
 subst hf
 refine yc Tryz.func70 rfl Tryz.ntmps70 (Nat.le_of_ble_eq_true rfl) hB ?_
 refine zax 0 (PsV a) rfl SlV.mono h1 ?_
 refine zax 1 (PsV b) rfl SlV.mono h2 ?_
 by_cases hl:a.length = b.length
 ·refine Z313 ?_; refine Z151 ?_; refine Z240 ?_; refine Z28 ?_; refine Z395 ?_
  refine zak (fun i:Nat => [(0, .sat (PsV a)), (15, .sat (PsV a)), (1, .sat (PsV b)), (2, .is (.func (.func 71) #[] #[])), (16, .is (.int .i64 a.length)), (17, .is (.int .i64 i))]) (fun i => i ≤ a.length ∧ a.take i = b.take i) (fun i => a.length - i) 0 ⟨Nat.zero_le _, rfl⟩ ⟨rfl, rfl, rfl, rfl, rfl, rfl, trivial⟩ ?_
  rintro i ⟨hi, ht⟩
  by_cases hlt:i < a.length
  ·obtain ⟨x, hx⟩:=zae hlt
   obtain ⟨y, hy⟩:=zae (show i < b.length by omega)
   have hc1:=zr8 hx
   have hc2:=zr8 hy
   have hwk:IntKind.i64.wrap ((i:Int) + 1) = ((i + 1:Nat):Int):=zaa (by omega) (by omega)
   by_cases hxy:x = y
   ·refine Z342 ?_; refine z7 (qu L _ rfl rfl rfl rfl rfl rfl rfl (by first | omega | decide) (by assumption)) rfl ?_; refine z7 (yg L (vs:=[_, _]) rfl rfl rfl rfl rfl ⟨_, rfl⟩) rfl ?_; refine Z260 ?_; refine Z18 ?_; refine Z159 ?_; refine Z43 ?_; refine Z194 ?_; refine z7 (qu L _ rfl rfl rfl rfl rfl rfl rfl (by first | omega | decide) (by assumption)) rfl ?_; refine z7 (yg L (vs:=[_, _]) rfl rfl rfl rfl rfl ⟨_, rfl⟩) rfl ?_; refine Z199 ?_; refine Z159 ?_; refine Z196 ?_; refine z7 (zw L (vs:=[_, _]) (yk rfl) rfl rfl rfl rfl ⟨_, rfl⟩) rfl ?_; refine z7 (zw L (vs:=[_, _]) (yk rfl) rfl rfl rfl rfl ⟨_, rfl⟩) rfl ?_; refine z7 (zo L rfl rfl (zk rfl) rfl rfl rfl (fun u H hH _ _ => znn (decide_eq_true hxy) hH)) rfl ?_; refine Z52 ?_; refine Z221 ?_; refine Z60 ?_; refine Z404 ?_
    exact yi (x:=i) (i + 1) ⟨hlt, by rw [zbj hx, zbj hy, ht, hxy]⟩ (by omega) ⟨rfl, rfl, rfl, rfl, rfl, rfl, trivial⟩
   ·rw [decide_eq_false (z1f hx hy hxy)]
    refine Z342 ?_; refine z7 (qu L _ rfl rfl rfl rfl rfl rfl rfl (by first | omega | decide) (by assumption)) rfl ?_; refine z7 (yg L (vs:=[_, _]) rfl rfl rfl rfl rfl ⟨_, rfl⟩) rfl ?_; refine Z260 ?_; refine Z18 ?_; refine Z159 ?_; refine Z43 ?_; refine Z194 ?_; refine z7 (qu L _ rfl rfl rfl rfl rfl rfl rfl (by first | omega | decide) (by assumption)) rfl ?_; refine z7 (yg L (vs:=[_, _]) rfl rfl rfl rfl rfl ⟨_, rfl⟩) rfl ?_; refine Z199 ?_; refine Z159 ?_; refine Z196 ?_; refine z7 (zw L (vs:=[_, _]) (yk rfl) rfl rfl rfl rfl ⟨_, rfl⟩) rfl ?_; refine z7 (zw L (vs:=[_, _]) (yk rfl) rfl rfl rfl rfl ⟨_, rfl⟩) rfl ?_; refine z7 (zo L rfl rfl (zk rfl) rfl rfl rfl (fun u H hH _ _ => znn (decide_eq_false hxy) hH)) rfl ?_; refine Z52 ?_; refine Z154 ?_; refine Z376 ?_
    refine yb L (rs:=[.tmp 6]) rfl (fun _ _ h => h) Since.refl fun u H hH hle => ?_
    rfl
  ·obtain rfl:i = a.length:=by omega
   have hab:a = b:=by rw [List.take_length, hl, List.take_length] at ht; exact ht
   rw [decide_eq_true hab]
   refine Z276 ?_; refine Z300 ?_; refine Z68 ?_; refine Z139 ?_
   refine yb L (rs:=[.tmp 6]) rfl (fun _ _ h => h) Since.refl fun u H hH hle => ?_
   rfl
 ·rw [decide_eq_false (zvh hl)]
  refine Z313 ?_; refine Z151 ?_; refine Z45 ?_; refine Z263 ?_
  refine yb L (rs:=[.tmp 6]) rfl (fun _ _ h => h) Since.refl fun u H hH hle => ?_
  rfl
theorem zg1 {L1 L2:List Int} {t1 t2:Nat} {f:Bool} (hf:decide (zaj L1 = zaj L2) = f) (hz1:L1.length ≤ 100000) (hz2:L2.length ≤ 100000) {s1 s2:Value} {w:World} {B:Heap} (hB:B.Le (hp w)) (h1:PsV (zaj L1) s1 B) (h2:PsV (zaj L2) s2 B) :
  Ret Tryz.prog 40 [pnv s1 t1, pnv s2 t2] w B (fun v _ => v = .bool f):=by
 have q1:(zaj L1).length ≤ 100000:=by rw [zbk]; exact Nat.le_trans (zbu _) hz1
 have q2:(zaj L2).length ≤ 100000:=by rw [zbk]; exact Nat.le_trans (zbu _) hz2
 obtain ⟨p, c, rfl⟩:=zap h1
 obtain ⟨p', c', rfl⟩:=zap h2
 refine yc Tryz.func40 rfl Tryz.ntmps40 (Nat.le_of_ble_eq_true rfl) hB ?_
 refine Z206 ?_; refine Z160 ?_; refine Z181 ?_; refine Z181 ?_; refine z7 (zo L rfl rfl (zk rfl) rfl rfl rfl (fun u H hH hle _ => z03 hf q1 q2 hH (h1.le hle) (h2.le hle))) rfl ?_; refine Z139 ?_
 refine yb L (rs:=[.tmp 4]) rfl (fun _ _ h => h) Since.refl fun u H hH hle => ?_
 rfl
end Go.V.L10
set_option maxRecDepth 20000
namespace Go.V.L10
open Go.Proofs Go.RowKit Go.V
theorem _root_.Go.V.Z391 {A B:Prop} (h:B) (t:Wr B → A:=by intro h; refine Z4 ?_; refine z7 (zw9 L rfl rfl rfl rfl) rfl ?_; exact h.h):A:=t ⟨h⟩
theorem zc7 (l:List (Int × Int)):(l.flatMap pnc).length = l.length * 2:=zch zud l
section
variable {A Bq R X Z:List Value} {a b:Nat}
theorem zzi (hA:A.length = a) (T:List Value):(A ++ T).take a = A ∧ (A ++ T).drop a = T:=by subst hA; simp
theorem z4j (hA:A.length = a) (hB:Bq.length = b) (_hR:2 ≤ R.length) :
  ((A ++ (Bq ++ R)).drop a).take b = Bq ∧
  ((A ++ (Bq ++ R)).take (a + 2) ++ (Bq ++ (A ++ (Bq ++ R)).drop (a + 2 + b))) = A ++ ((Bq ++ R).take 2 ++ (Bq ++ R.drop 2)) ∧
  ∀ (W:List Value), W.length = 2 → ((A ++ (W ++ (Bq ++ R.drop 2))).take a ++ (X ++ (A ++ (W ++ (Bq ++ R.drop 2))).drop (a + 2))) = A ++ (X ++ (Bq ++ R.drop 2)):=by
 subst hA hB
 refine ⟨by simp, ?_, fun W hW => ?_⟩
 ·have e1:(A ++ (Bq ++ R)).take (A.length + 2) = A ++ (Bq ++ R).take 2:=by rw [List.take_append, List.take_of_length_le (by omega)]; congr 2; omega
  have e2:(A ++ (Bq ++ R)).drop (A.length + 2 + Bq.length) = R.drop 2:=by
   rw [← List.append_assoc, List.drop_append, List.drop_eq_nil_of_le (by rw [List.length_append]; omega), List.nil_append]
   congr 1
   rw [List.length_append]; omega
  rw [e1, e2, List.append_assoc]
 ·rw [List.take_append, List.take_of_length_le (Nat.le_refl _), Nat.sub_self, List.take_zero, List.append_nil, List.drop_append, List.drop_eq_nil_of_le (by omega), List.nil_append, show A.length + 2 - A.length = 2 by omega, List.drop_append, List.drop_eq_nil_of_le (by omega), List.nil_append, hW, Nat.sub_self, List.drop_zero]
theorem z2s (hA:A.length = a) (hB:Bq.length = b) (hZ:Z.length = b + 2) (hX:X.length = 2) :
  ((A ++ Z ++ R).take a ++ (X ++ (A ++ Z ++ R).drop (a + 2))) = A ++ (X ++ (Z.drop 2 ++ R)) ∧
  ((A ++ (X ++ (Z.drop 2 ++ R))).take (a + 2) ++ (Bq ++ (A ++ (X ++ (Z.drop 2 ++ R))).drop (a + 2 + b))) = A ++ (X ++ (Bq ++ R)):=by
 subst hA hB
 refine ⟨?_, ?_⟩
 ·rw [List.append_assoc, List.take_append, List.take_of_length_le (Nat.le_refl _), Nat.sub_self, List.take_zero, List.append_nil, List.drop_append, List.drop_eq_nil_of_le (by omega), List.nil_append, show A.length + 2 - A.length = 2 by omega, List.drop_append, show 2 - Z.length = 0 by omega, List.drop_zero]
 ·have e1:(A ++ (X ++ (Z.drop 2 ++ R))).take (A.length + 2) = A ++ X:=by
   rw [← List.append_assoc, List.take_append, List.take_of_length_le (by rw [List.length_append]; omega), List.length_append, show A.length + 2 - (A.length + X.length) = 0 by omega, List.take_zero, List.append_nil]
  have e2:(A ++ (X ++ (Z.drop 2 ++ R))).drop (A.length + 2 + Bq.length) = R:=by
   rw [← List.append_assoc, ← List.append_assoc, List.drop_append, List.drop_eq_nil_of_le (by rw [List.length_append, List.length_append, List.length_drop]; omega), List.nil_append, List.length_append, List.length_append, List.length_drop, show A.length + 2 + Bq.length - (A.length + X.length + (Z.length - 2)) = 0 by omega, List.drop_zero]
  rw [e1, e2, List.append_assoc]
theorem z2r (hA:A.length = a) (hB:Bq.length = b) (hX:X.length = 2) :
  ((A ++ (X ++ (Bq ++ R))).drop (a + 2)).take b = Bq ∧
  ((A ++ (X ++ (Bq ++ R))).take a ++ (Bq ++ (A ++ (X ++ (Bq ++ R))).drop (a + b))) = A ++ (Bq ++ ((X ++ (Bq ++ R)).drop b)) ∧
  ∀ (W:List Value), ((A ++ (Bq ++ W)).take (a + b) ++ (Z ++ (A ++ (Bq ++ W)).drop (a + b + 2))) = A ++ Bq ++ (Z ++ W.drop 2):=by
 subst hA hB
 refine ⟨?_, ?_, fun W => ?_⟩
 ·rw [List.drop_append, List.drop_eq_nil_of_le (by omega), List.nil_append, show A.length + 2 - A.length = 2 by omega, List.drop_append, List.drop_eq_nil_of_le (by omega), List.nil_append, hX, Nat.sub_self, List.drop_zero]; simp
 ·rw [List.take_append, List.take_of_length_le (Nat.le_refl _), Nat.sub_self, List.take_zero, List.append_nil, List.drop_append, List.drop_eq_nil_of_le (by omega), List.nil_append, show A.length + Bq.length - A.length = Bq.length by omega]
 ·rw [← List.append_assoc A Bq W, List.take_append, List.take_of_length_le (by rw [List.length_append]; omega), List.length_append, Nat.sub_self, List.take_zero, List.append_nil, List.drop_append, List.drop_eq_nil_of_le (by rw [List.length_append]; omega), List.nil_append, List.length_append, show A.length + Bq.length + 2 - (A.length + Bq.length) = 2 by omega]
end
attribute [local irreducible] V N X VO Par StepOK Has Ret RetL RetO RetT zb8 zdn Src
theorem zhu {l:List (Int × Int)} (hz:l.length ≤ 100000) {v:Value} {w:World} {B:Heap} (hB:B.Le (hp w)) (hv:PsV l v B) :
  RetO Tryz.prog 99 [v] w B (SlR ztp 2 l.length (l.flatMap pnc)):=by
 have hv0:=hv
 have hlen:=zc7 l
 have hpl:=zg2 l
 obtain ⟨p, c, rfl⟩:=zap hv
 rcases p with _ | b
 ·obtain ⟨h0, rfl⟩:l.length = 0 ∧ c = 0:=zqg hv
  have hn:l = []:=List.eq_nil_of_length_eq_zero h0
  subst hn
  refine zej Tryz.func99 rfl Tryz.ntmps99 (Nat.le_of_ble_eq_true rfl) hB ?_
  refine Z256 ?_; refine z7 (ze6 rfl rfl rfl rfl z5i rfl) rfl ?_; refine Z263 ?_
  refine zeb 2 ztp 2 rfl ?_
  exact zig rfl (fun _ _ h => h) Since.refl rfl
 ·refine zej Tryz.func99 rfl Tryz.ntmps99 (Nat.le_of_ble_eq_true rfl) hB ?_
  refine Z256 ?_; refine z7 (ze6 rfl rfl rfl rfl z5i rfl) rfl ?_; refine Z162 ?_
  refine zax 0 (PsV l) rfl SlV.mono hv0 ?_
  refine Z28 ?_; refine z7 (zgj L rfl rfl rfl rfl rfl) rfl ?_; refine Z4 ?_; refine qn (zce L rfl rfl rfl (zh4 rfl) rfl zim (by assumption) (by assumption) (by omega) (by omega)) ?_; refine qn (yo (.inr rfl) rfl rfl rfl rfl) ?_; refine Z138 ?_
  rw [Nat.zero_add, List.nil_append]
  exact zig rfl (fun _ _ h => h) Since.refl rfl
def zst (l:List (Int × Int)) (i:Nat) (x:Int × Int):List (Int × Int):=l.take i ++ x :: l.drop i
theorem zpo {l:List (Int × Int)} {i:Nat} {x:Int × Int} (hi:i ≤ l.length):(zst l i x).length = l.length + 1:=by
 unfold zst; rw [List.length_append, List.length_cons, List.length_take, List.length_drop]; omega
theorem zlp {l:List (Int × Int)} {i:Nat} {x:Int × Int}:(zst l i x).flatMap pnc = (l.take i).flatMap pnc ++ ([.int .u64 x.1, .int .i64 x.2] ++ (l.drop i).flatMap pnc):=by
 unfold zst; rw [List.flatMap_append, List.flatMap_cons]; rfl
theorem z0i (args:Array Value) (u:World):(callFunc 155 args).run Tryz.prog u = ((Extern.SlicesOverlaps.overlaps #[72, 72] #[4] args).run Tryz.prog u).andThen fun v w' => .ok (.value v) w' :=
 run_callFunc_extern Tryz.func155 (by kernel_rfl) (by kernel_rfl) (by kernel_rfl) (by kernel_rfl) args u
abbrev zPn:Value:=.agg #[.int .u64 0, .int .i64 0]
def zPs (m:Nat):List Value:=(Builtin.zeroCells (Value.cells zPn) m).toList
theorem ztc (m:Nat):(zPs m).length = m * 2:=by unfold zPs; rw [Array.length_toList, size_zeroCells]; rfl
set_option maxHeartbeats 4000000 in
set_option maxRecDepth 20000 in
theorem zss {l:List (Int × Int)} {i:Nat} {y:Int × Int} (hi:i ≤ l.length) (hz:l.length ≤ 100000) {x v2:Value} {w:World} {B:Heap} {C:Nat → Prop} (hB:B.Le (hp w)) (h2:SlB [Value.int .u64 y.1, Value.int .i64 y.2] ztp 1 v2 B) (hx:(SlR ztp 2 l.length (l.flatMap pnc)).P x B w C) (hC:∀ k, C k → k < w.heap.size ∧ B k = none) :
  RetT Tryz.prog 123 [x, .int .i64 i, v2] w B C (SlR ztp 2 (l.length + 1) ((zst l i y).flatMap pnc)):=by
 have hpl:=zg2 l
 unfold RetT
 refine zm7 0 (x:=x) (SlR ztp 2 l.length (l.flatMap pnc)) rfl Tryz.func123 rfl Tryz.ntmps123 (Nat.le_of_ble_eq_true rfl) hB hx hC ?_
 refine zax 2 (SlB [Value.int .u64 y.1, Value.int .i64 y.2] ztp 1) rfl SlB.mono h2 ?_
 have hw1:IntKind.i64.wrap ((l.length:Int) + ((1:Nat):Int)) = ((l.length + 1:Nat):Int):=zaa (by omega) (by omega)
 refine zgw 0 900 rfl (fun hm hn => ?_) fun b cap rest hl hmc hcm hcl => ?_
 ·have h0:l = []:=List.eq_nil_of_length_eq_zero hm
  subst h0
  obtain rfl:i = 0:=by simpa using hi
  refine Z331 ?_; refine z7 (zr9 L rfl rfl rfl rfl rfl rfl rfl) rfl ?_; refine Z159 ?_; refine Z29 ?_; refine Z391 ?_; refine Z333 ?_; refine Z245 ?_; refine Z179 ?_; refine Z75 ?_; refine Z148 ?_; refine Z284 ?_; refine Z305 ?_; refine Z196 ?_; refine Z4 ?_; refine z7 (zc0 L rfl rfl rfl (zh5 rfl) rfl zim rfl rfl (by omega) (by omega)) rfl ?_; refine qn (yo (.inr rfl) rfl rfl rfl rfl) ?_; refine Z138 ?_
  exact zks rfl (fun _ _ h => h) Since.refl rfl
 ·by_cases hin:i = l.length
  ·subst hin
   have e1:(zst l l.length y).flatMap pnc = l.flatMap pnc ++ [Value.int .u64 y.1, Value.int .i64 y.2]:=by rw [zlp, List.take_length, List.drop_length]; simp
   rw [e1]
   refine Z331 ?_; refine z7 (zbf L (kh:=.i64) (ph:=0) _ _ rfl rfl rfl rfl rfl ⟨rfl, rfl⟩ rfl (by omega) (by omega)) rfl ?_; refine Z159 ?_; refine Z29 ?_; refine Z391 ?_; refine Z333 ?_; refine Z245 ?_; refine Z179 ?_; refine Z75 ?_; refine Z148 ?_; refine Z284 ?_; refine Z305 ?_; refine Z196 ?_; refine Z4 ?_; refine qn (zsg L (q:=900) rfl rfl rfl rfl hl hmc hcm hcl (zh5 rfl) rfl zim rfl rfl (by omega) (by omega)) ?_; refine qn (yo (.inr rfl) rfl rfl rfl rfl) ?_; refine Z138 ?_
   exact zks rfl (fun _ _ h => h) Since.refl rfl
  ·have hil:i < l.length:=by omega
   have hA:((l.take i).flatMap pnc).length = i * 2:=by rw [zc7, List.length_take, Nat.min_eq_left (by omega)]
   have hBq:((l.drop i).flatMap pnc).length = (l.length - i) * 2:=by rw [zc7, List.length_drop]
   have hcur:l.flatMap pnc = (l.take i).flatMap pnc ++ (l.drop i).flatMap pnc:=by rw [← List.flatMap_append, List.take_append_drop]
   have hpB:=zg2 (l.drop i)
   have hwi:IntKind.i64.wrap ((i:Int) + ((1:Nat):Int)) = ((i + 1:Nat):Int):=zaa (by omega) (by omega)
   rw [zlp]
   generalize hAe:(l.take i).flatMap pnc = A at *
   generalize hBe:(l.drop i).flatMap pnc = Bq at *
   rw [hcur, List.append_assoc] at hcl
   rw [hcur, List.append_assoc]
   rw [List.length_append, List.length_append, hA, hBq] at hcl
   by_cases hg:l.length + 1 ≤ cap
   ·have hne1:¬ cap = i:=by omega
    have hne2:¬ cap = i + 1:=by omega
    have hne3:¬ cap = 0:=by omega
    have hR:2 ≤ rest.length:=by omega
    obtain ⟨m1, m2, m3⟩:=z4j (R:=rest) (X:=[Value.int .u64 y.1, Value.int .i64 y.2]) hA hBq hR
    have m3':=m3 ((Bq ++ rest).take 2) (by rw [List.length_take, List.length_append]; omega)
    have q1:((A ++ (Bq ++ rest)).drop (0 + i * 2)).take ((l.length - i) * 2) = Bq:=by rw [Nat.zero_add]; exact m1
    have q2:(A ++ (Bq ++ rest)).take (0 + (i + 1) * 2) ++ (Bq ++ (A ++ (Bq ++ rest)).drop (0 + (i + 1) * 2 + (l.length - i) * 2)) = A ++ ((Bq ++ rest).take 2 ++ (Bq ++ rest.drop 2)):=by rw [Nat.zero_add, Nat.add_mul i 1 2]; exact m2
    have q3:(A ++ ((Bq ++ rest).take 2 ++ (Bq ++ rest.drop 2))).take (0 + i * 2) ++ ([Value.int .u64 y.1, Value.int .i64 y.2] ++ (A ++ ((Bq ++ rest).take 2 ++ (Bq ++ rest.drop 2))).drop (0 + i * 2 + 1 * 2)) = A ++ ([Value.int .u64 y.1, Value.int .i64 y.2] ++ (Bq ++ rest.drop 2)):=by rw [Nat.zero_add]; exact m3'
    have q4:0 + (i + 1) * 2 + (l.length - i) * 2 ≤ (A ++ (Bq ++ rest)).length:=by rw [List.length_append, List.length_append]; omega
    have q5:0 + i * 2 + 1 * 2 ≤ (A ++ ((Bq ++ rest).take 2 ++ (Bq ++ rest.drop 2))).length:=by rw [List.length_append, List.length_append, List.length_append, List.length_take, List.length_append]; omega
    have q8:0 < (A ++ (Bq ++ rest)).length:=by rw [List.length_append, List.length_append]; omega
    have q6:Nat.min (l.length + 1 - i) (l.length + 1 - (i + 1)) = l.length - i:=by show min _ _ = _; omega
    have q7:Nat.min 1 (l.length + 1 - i) = 1:=by show min _ _ = _; omega
    refine Z331 ?_; refine z7 (zbf L (kh:=.i64) (ph:=0) _ _ rfl rfl rfl rfl rfl ⟨rfl, rfl⟩ rfl (by omega) (by omega)) rfl ?_; rw [if_neg hne1]; refine Z159 ?_; refine Z29 ?_; refine Z391 ?_; refine Z333 ?_; refine Z245 ?_; refine Z179 ?_; refine Z75 ?_; refine Z148 ?_; refine Z284 ?_; refine Z281 ?_; refine Z57 ?_; refine Z295 ?_; refine Z1 ?_; refine z7 (zu2 L rfl rfl rfl rfl) rfl ?_; refine Z32 ?_; refine Z162 ?_; refine Z82 ?_; refine Z176 ?_; refine Z20 ?_; refine z7 (zbf L (kl:=.i64) (pl:=0) 0 (l.length + 1) rfl rfl rfl rfl rfl rfl ⟨rfl, rfl⟩ (by omega) (by omega)) rfl ?_; rw [if_neg hne3, show (0 + 0 * 2:Nat) = 0 from rfl, Nat.sub_zero, Nat.sub_zero]; refine Z148 ?_
    refine Z72 ?_; refine Z4 ?_; refine Z176 ?_; refine Z20 ?_; refine z7 (zbf L (kh:=.i64) (ph:=0) (i + 1) _ rfl rfl rfl rfl rfl ⟨rfl, rfl⟩ rfl (by omega) (by omega)) rfl ?_; rw [if_neg hne2]; refine yr (zpf L (q:=900) rfl rfl rfl z0i rfl rfl rfl rfl rfl q8) ?_; refine Z52 ?_; refine Z154 ?_; refine qf (id:=15) [(77, [900])] mixed (by kernel_rfl) ?_; refine Z209 ?_; refine z8 (zbf L (kh:=.i64) (ph:=0) (i + 1) _ rfl rfl rfl rfl rfl ⟨rfl, rfl⟩ rfl (by omega) (by omega)) rfl ?_; rw [if_neg hne2]; refine Z147 ?_; refine z8 (zbf L (kh:=.i64) (ph:=0) i _ rfl rfl rfl rfl rfl ⟨rfl, rfl⟩ rfl (by omega) (by omega)) rfl ?_; rw [if_neg hne1]; refine za4 (zu0 L (q:=900) (l.length - i) rfl rfl rfl rfl rfl rfl zim q6 q1 hBq q4 hpB q2) rfl rfl ?_; refine Z301 ?_; refine Z102 ?_; refine Z141 ?_; refine z7 (zbf L (kh:=.i64) (ph:=0) i _ rfl rfl rfl rfl rfl ⟨rfl, rfl⟩ rfl (by omega) (by omega)) rfl ?_; rw [if_neg hne1]; refine Z4 ?_; refine qn (zmo L (q:=900) 1 rfl rfl rfl rfl (zh5 rfl) rfl zim (by decide) q7 (Nat.le_refl 2) rfl q5 rfl q3) ?_; refine Z159 ?_; refine Z108 ?_; refine Z1 ?_; refine Z139 ?_
    refine zb7 (s:=2) (xs:=A ++ ([Value.int .u64 y.1, Value.int .i64 y.2] ++ Bq)) (rest:=rest.drop 2) 6 900 (by simp [List.append_assoc]) rfl rfl (by simp only [List.length_append, List.length_cons, List.length_nil]; omega) hg hcm (by simp only [List.length_append, List.length_cons, List.length_nil, List.length_drop]; omega) ?_
    exact zks rfl (fun _ _ h => h) Since.refl rfl
   ·have hne1:¬ cap = i:=by omega
    have hne3:¬ cap = 0:=by omega
    have hr0:rest = []:=List.eq_nil_of_length_eq_zero (by omega)
    subst hr0
    have hcap:cap = l.length:=by omega
    subst hcap
    rw [List.append_nil]
    have hwk:IntKind.i64.wrap (((l.length + 1:Nat):Int) - (i:Int)) = ((l.length + 1 - i:Nat):Int):=zaa (by omega) (by omega) |>.trans (by omega)
    have hxs:(A ++ Bq).take (i * 2) = A:=(zzi hA Bq).1
    have hxl:i * 2 ≤ (A ++ Bq).length:=by rw [List.length_append]; omega
    have hZ:=ztc (l.length + 1 - i)
    have hgt:l.length < i + (l.length + 1 - i):=by omega
    refine Z331 ?_; refine z7 (zbf L (kh:=.i64) (ph:=0) _ _ rfl rfl rfl rfl rfl ⟨rfl, rfl⟩ rfl (by omega) (by omega)) rfl ?_; rw [if_neg hne1]; refine Z159 ?_; refine Z29 ?_; refine Z391 ?_; refine Z333 ?_; refine Z245 ?_; refine Z179 ?_; refine Z75 ?_; refine Z148 ?_; refine Z284 ?_; refine Z281 ?_; refine Z57 ?_; refine Z295 ?_; refine Z1 ?_; refine z7 (zu2 L rfl rfl rfl rfl) rfl ?_; refine Z40 ?_; refine Z154 ?_; refine Z60 ?_; refine Z141 ?_; refine z7 (zbf L (kl:=.i64) (pl:=0) 0 i rfl rfl rfl rfl rfl rfl ⟨rfl, rfl⟩ (by omega) (by omega)) rfl ?_; rw [if_neg hne3, show (0 + 0 * 2:Nat) = 0 from rfl, Nat.sub_zero, Nat.sub_zero]; refine Z295 ?_; refine Z231 ?_; refine yr (zsf L (q:=900) (z:=zPn) (k:=l.length + 1 - i) (kn:=.i64) rfl rfl rfl rfl rfl rfl (by kernel_rfl) zim rfl (by omega) hgt hxs hxl rfl (by omega) (by omega)) ?_; refine qn (yo (.inr rfl) rfl rfl rfl rfl) ?_; refine Z159 ?_
    rw [show (Builtin.zeroCells (Value.cells zPn) (l.length + 1 - i)).toList = zPs (l.length + 1 - i) from rfl]
    have hlt:i + (l.length + 1 - i) = l.length + 1:=by omega
    rw [hlt]
    refine zgw 9 901 rfl (fun hm _ => by omega) fun b2 cap2 rest2 hl2 hmc2 hcm2 hcl2 => ?_
    have hn1:¬ cap2 = i:=by omega
    have hn2:¬ cap2 = i + 1:=by omega
    have hZ2:(zPs (l.length + 1 - i)).length = (l.length - i) * 2 + 2:=by omega
    obtain ⟨m1, m2⟩:=z2s (R:=rest2) (X:=[Value.int .u64 y.1, Value.int .i64 y.2]) hA hBq hZ2 rfl
    have q1:(A ++ zPs (l.length + 1 - i) ++ rest2).take (0 + i * 2) ++ ([Value.int .u64 y.1, Value.int .i64 y.2] ++ (A ++ zPs (l.length + 1 - i) ++ rest2).drop (0 + i * 2 + 1 * 2)) = A ++ ([Value.int .u64 y.1, Value.int .i64 y.2] ++ ((zPs (l.length + 1 - i)).drop 2 ++ rest2)):=by rw [Nat.zero_add]; exact m1
    have q2:(A ++ ([Value.int .u64 y.1, Value.int .i64 y.2] ++ ((zPs (l.length + 1 - i)).drop 2 ++ rest2))).take (0 + (i + 1) * 2) ++ (Bq ++ (A ++ ([Value.int .u64 y.1, Value.int .i64 y.2] ++ ((zPs (l.length + 1 - i)).drop 2 ++ rest2))).drop (0 + (i + 1) * 2 + (l.length - i) * 2)) = A ++ ([Value.int .u64 y.1, Value.int .i64 y.2] ++ (Bq ++ rest2)):=by rw [Nat.zero_add, Nat.add_mul i 1 2]; exact m2
    have q3:0 + i * 2 + 1 * 2 ≤ (A ++ zPs (l.length + 1 - i) ++ rest2).length:=by rw [List.length_append, List.length_append]; omega
    have q4:0 + (i + 1) * 2 + (l.length - i) * 2 ≤ (A ++ ([Value.int .u64 y.1, Value.int .i64 y.2] ++ ((zPs (l.length + 1 - i)).drop 2 ++ rest2))).length:=by simp only [List.length_append, List.length_cons, List.length_nil, List.length_drop]; omega
    have q5:Nat.min 1 (l.length + 1 - i) = 1:=by show min _ _ = _; omega
    have q6:Nat.min (l.length - i) (l.length + 1 - (i + 1)) = l.length - i:=by show min _ _ = _; omega
    have q7:((A ++ Bq).drop (i * 2)).take ((l.length - i) * 2) = Bq:=by rw [(zzi hA Bq).2, List.take_of_length_le (by omega)]
    have q8:Bq.take ((l.length - i) * 2) = Bq:=List.take_of_length_le (by omega)
    have q9:(l.length - i) * 2 ≤ Bq.length:=by omega
    refine Z398 ?_; refine z7 (zbf L (kh:=.i64) (ph:=0) i _ rfl rfl rfl rfl rfl ⟨rfl, rfl⟩ rfl (by omega) (by omega)) rfl ?_; rw [if_neg hn1]; refine Z4 ?_; refine qn (zmo L (q:=901) 1 rfl rfl rfl rfl (zh5 rfl) rfl zim (by decide) q5 (Nat.le_refl 2) rfl q3 rfl q1) ?_; refine Z159 ?_
    refine zb7 (s:=2) (xs:=A ++ Bq) (rest:=[]) 0 900 (List.append_nil _).symm rfl rfl (by rw [← hcur]; exact hl) (Nat.le_refl _) hcm (by rw [← hcur]; exact hl) ?_
    refine zck 0 rfl ?_
    refine qf (id:=11) [(54, [901])] mixed (by kernel_rfl) ?_; refine Z209 ?_; refine z8 (zbf L (kh:=.i64) (ph:=0) (i + 1) _ rfl rfl rfl rfl rfl ⟨rfl, rfl⟩ rfl (by omega) (by omega)) rfl ?_; rw [if_neg hn2]; refine Z198 ?_; refine z8 (zba L (kh:=.i64) (ph:=0) (km:=.i64) (pm:=0) i l.length false rfl rfl rfl rfl rfl ⟨rfl, rfl⟩ ⟨rfl, rfl⟩ (fun h => by cases h) (by omega) (by omega) q7) rfl ?_; refine za4 (zmo L (q:=901) (l.length - i) rfl rfl rfl rfl (zh4 rfl) rfl zim (by omega) q6 q9 q8 q4 hpB q2) rfl rfl ?_; refine Z301 ?_
    refine zb7 (s:=2) (xs:=A ++ ([Value.int .u64 y.1, Value.int .i64 y.2] ++ Bq)) (rest:=rest2) 9 901 (by simp [List.append_assoc]) rfl rfl (by simp only [List.length_append, List.length_cons, List.length_nil]; omega) hmc2 hcm2 (by simp only [List.length_append, List.length_cons, List.length_nil] at hcl2 ⊢; omega) ?_
    refine Z86 ?_; refine qn (yo (.inl rfl) rfl rfl rfl rfl) ?_; refine qn (yo (.inr rfl) rfl rfl rfl rfl) ?_; refine Z138 ?_
    exact zks rfl (fun _ _ h => h) Since.refl rfl
theorem zvx (l:List (Int × Int)) (i:Nat):(l.eraseIdx i).flatMap pnc = (l.take i).flatMap pnc ++ (l.drop (i + 1)).flatMap pnc:=by rw [List.eraseIdx_eq_take_drop_succ, List.flatMap_append]
set_option maxHeartbeats 4000000 in
set_option maxRecDepth 20000 in
theorem zs2 {l:List (Int × Int)} {i:Nat} (hi:i < l.length) (hz:l.length ≤ 100000) {x:Value} {j:Int} (hj:j = ((i + 1:Nat):Int)) {w:World} {B:Heap} {C:Nat → Prop} (hB:B.Le (hp w)) (hx:(SlR ztp 2 l.length (l.flatMap pnc)).P x B w C) (hC:∀ k, C k → k < w.heap.size ∧ B k = none) :
  RetT Tryz.prog 100 [x, .int .i64 i, .int .i64 j] w B C (SlR ztp 2 (l.length - 1) ((l.eraseIdx i).flatMap pnc)):=by
 subst hj
 unfold RetT
 refine zm7 0 (x:=x) (SlR ztp 2 l.length (l.flatMap pnc)) rfl Tryz.func100 rfl Tryz.ntmps100 (Nat.le_of_ble_eq_true rfl) hB hx hC ?_
 refine zgw 0 900 rfl (fun hm hn => by omega) fun b cap rest hl hmc hcm hcl => ?_
 obtain ⟨y, hy⟩:=zae hi
 have hA:((l.take i).flatMap pnc).length = i * 2:=by rw [zc7, List.length_take, Nat.min_eq_left (by omega)]
 have hBq:((l.drop (i + 1)).flatMap pnc).length = (l.length - (i + 1)) * 2:=by rw [zc7, List.length_drop]
 have hcur:l.flatMap pnc = (l.take i).flatMap pnc ++ (pnc y ++ (l.drop (i + 1)).flatMap pnc):=by
  rw [← List.flatMap_cons, ← List.flatMap_append]
  congr 1
  rw [show y :: l.drop (i + 1) = l.drop i by rw [List.drop_eq_getElem_cons hi, zea hy], List.take_append_drop]
 have hpB:=zg2 (l.drop (i + 1))
 rw [zvx]
 generalize hAe:(l.take i).flatMap pnc = A at *
 generalize hBe:(l.drop (i + 1)).flatMap pnc = Bq at *
 rw [hcur, List.append_assoc, List.append_assoc] at hcl
 rw [hcur, List.append_assoc, List.append_assoc]
 obtain ⟨X, hX⟩:∃ X, X = pnc y:=⟨_, rfl⟩
 have hXl:X.length = 2:=by rw [hX]; rfl
 rw [← hX] at hcl hcur ⊢
 rw [List.length_append, List.length_append, List.length_append, hA, hBq, hXl] at hcl
 clear hX hAe hBe
 obtain ⟨m1, m2, m3⟩:=z2r (R:=rest) (Z:=zPs 1) hA hBq hXl
 have m3':=m3 ((X ++ (Bq ++ rest)).drop ((l.length - (i + 1)) * 2))
 have hw1:i + (l.length - (i + 1)) = l.length - 1:=by omega
 have hw2:l.length - (l.length - 1) = 1:=by omega
 have e1:i * 2 + (l.length - (i + 1)) * 2 = (l.length - 1) * 2:=by omega
 have q2:(A ++ (X ++ (Bq ++ rest))).take (i * 2) ++ (Bq ++ (A ++ (X ++ (Bq ++ rest))).drop (i * 2 + (l.length - (i + 1)) * 2)) = A ++ (Bq ++ ((X ++ (Bq ++ rest)).drop ((l.length - (i + 1)) * 2))):=m2
 have q3:(A ++ (Bq ++ ((X ++ (Bq ++ rest)).drop ((l.length - (i + 1)) * 2)))).take (0 + (l.length - 1) * 2) ++ (zPs 1 ++ (A ++ (Bq ++ ((X ++ (Bq ++ rest)).drop ((l.length - (i + 1)) * 2)))).drop (0 + (l.length - 1) * 2 + 1 * 2)) = A ++ Bq ++ (zPs 1 ++ ((X ++ (Bq ++ rest)).drop ((l.length - (i + 1)) * 2)).drop 2):=by rw [Nat.zero_add, ← e1]; exact m3'
 have q4:i * 2 + (l.length - (i + 1)) * 2 ≤ (A ++ (X ++ (Bq ++ rest))).length:=by simp only [List.length_append]; omega
 have q5:0 + (l.length - 1) * 2 + 1 * 2 ≤ (A ++ (Bq ++ ((X ++ (Bq ++ rest)).drop ((l.length - (i + 1)) * 2)))).length:=by simp only [List.length_append, List.length_drop]; omega
 have hne3:¬ cap = 0:=by omega
 have hne4:¬ l.length = i:=by omega
 have hne5:¬ cap = l.length - 1:=by omega
 have fin:(A ++ Bq ++ (zPs 1 ++ ((X ++ (Bq ++ rest)).drop ((l.length - (i + 1)) * 2)).drop 2)).length = cap * 2:=by simp only [List.length_append, List.length_drop, ztc]; omega
 by_cases hc:cap = i + 1
 ·have hl1:l.length - (i + 1) = 0:=by omega
  have hB0:Bq = []:=List.eq_nil_of_length_eq_zero (by omega)
  have q1:((A ++ (X ++ (Bq ++ rest))).drop 0).take ((l.length - (i + 1)) * 2) = Bq:=by rw [hl1, hB0]; rfl
  refine Z182 ?_; refine Z232 ?_; refine Z75 ?_; refine z7 (zn4 L i (i + 1) l.length rfl rfl rfl rfl rfl rfl rfl rfl rfl rfl rfl (by omega) (by omega) hmc) rfl ?_; refine Z191 ?_; refine Z238 ?_; refine Z245 ?_; refine Z161 ?_; refine Z75 ?_; refine Z144 ?_; refine qf (id:=5) [(26, [900])] mixed (by kernel_rfl) ?_; refine Z147 ?_; refine z8 (zbf L (kl:=.i64) (pl:=0) 0 i rfl rfl rfl rfl rfl rfl ⟨rfl, rfl⟩ (by omega) (by omega)) rfl ?_; rw [if_neg hne3, show (0 + 0 * 2:Nat) = 0 from rfl, Nat.sub_zero, Nat.sub_zero]; refine Z147 ?_; refine z8 (zbf L (kh:=.i64) (ph:=0) (i + 1) _ rfl rfl rfl rfl rfl ⟨rfl, rfl⟩ rfl (by omega) (by omega)) rfl ?_; rw [if_pos hc]; refine za4 (zj2 L (q:=900) rfl rfl rfl rfl rfl rfl zim q1 hBq (by omega) q4 hpB q2) rfl rfl ?_; rw [hw1]; refine Z249 ?_; refine Z284 ?_; refine Z75 ?_; refine Z1 ?_; refine z7 (zbf L (l.length - 1) l.length rfl rfl rfl rfl rfl ⟨rfl, rfl⟩ ⟨rfl, rfl⟩ (by omega) (by omega)) rfl ?_; rw [if_neg hne5, hw2]; refine zcl (zn7 L (q:=900) rfl rfl rfl rfl zim rfl rfl (.inr q5) (fun _ => q3) (fun h => by cases h)) ?_; refine Z159 ?_
  refine Z196 ?_; refine Z139 ?_
  refine zb7 (s:=2) (xs:=A ++ Bq) 6 900 rfl rfl rfl (by rw [List.length_append]; omega) (by omega) hcm fin ?_
  exact zks rfl (fun _ _ h => h) Since.refl rfl
 ·have q1:((A ++ (X ++ (Bq ++ rest))).drop (0 + (i + 1) * 2)).take ((l.length - (i + 1)) * 2) = Bq:=by rw [Nat.zero_add, Nat.add_mul]; exact m1
  refine Z182 ?_; refine Z232 ?_; refine Z75 ?_; refine z7 (zn4 L i (i + 1) l.length rfl rfl rfl rfl rfl rfl rfl rfl rfl rfl rfl (by omega) (by omega) hmc) rfl ?_; refine Z191 ?_; refine Z238 ?_; refine Z245 ?_; refine Z161 ?_; refine Z75 ?_; refine Z144 ?_; refine qf (id:=5) [(26, [900])] mixed (by kernel_rfl) ?_; refine Z147 ?_; refine z8 (zbf L (kl:=.i64) (pl:=0) 0 i rfl rfl rfl rfl rfl rfl ⟨rfl, rfl⟩ (by omega) (by omega)) rfl ?_; rw [if_neg hne3, show (0 + 0 * 2:Nat) = 0 from rfl, Nat.sub_zero, Nat.sub_zero]; refine Z147 ?_; refine z8 (zbf L (kh:=.i64) (ph:=0) (i + 1) _ rfl rfl rfl rfl rfl ⟨rfl, rfl⟩ rfl (by omega) (by omega)) rfl ?_; rw [if_neg hc]; refine za4 (zj2 L (q:=900) rfl rfl rfl rfl rfl rfl zim q1 hBq (by omega) q4 hpB q2) rfl rfl ?_; rw [hw1]; refine Z249 ?_; refine Z284 ?_; refine Z75 ?_; refine Z1 ?_; refine z7 (zbf L (l.length - 1) l.length rfl rfl rfl rfl rfl ⟨rfl, rfl⟩ ⟨rfl, rfl⟩ (by omega) (by omega)) rfl ?_; rw [if_neg hne5, hw2]; refine zcl (zn7 L (q:=900) rfl rfl rfl rfl zim rfl rfl (.inr q5) (fun _ => q3) (fun h => by cases h)) ?_; refine Z159 ?_
  refine Z196 ?_; refine Z139 ?_
  refine zb7 (s:=2) (xs:=A ++ Bq) 6 900 rfl rfl rfl (by rw [List.length_append]; omega) (by omega) hcm fin ?_
  exact zks rfl (fun _ _ h => h) Since.refl rfl
end Go.V.L10
set_option maxRecDepth 20000
namespace Go.V.L10
open Go.Proofs Go.RowKit Go.V
theorem _root_.Go.V.Z366 {A B:Prop} (h:B) (t:Wr B → A:=by intro h; refine Z15 ?_; refine Z190 ?_; exact h.h):A:=t ⟨h⟩
def PinP (L0:List Int) (e:Int):Value → Heap → Prop:=fun v H => ∃ s, v = .tuple #[pnv s L0.length, .int .i64 e] ∧ PsV (zaj L0) s H
theorem PinP.mono {L0:List Int} {e:Int}:Kn.mono (.sat (PinP L0 e)):=fun _ _ _ ⟨s, h1, h2⟩ hle => ⟨s, h1, h2.le hle⟩
theorem zmi {l:List (Int × Int)} {i:Nat} {x:Int × Int} (h:l[i]? = some x) (rest:List Value):l.flatMap pnc ++ rest = (l.take i).flatMap pnc ++ (pnc x ++ ((l.drop (i + 1)).flatMap pnc ++ rest)):=by
 have hi:=get_lt h
 have e:l = l.take i ++ x :: l.drop (i + 1):=by
  rw [show x :: l.drop (i + 1) = l.drop i by rw [List.drop_eq_getElem_cons hi, zea h], List.take_append_drop]
 conv => lhs; rw [e, List.flatMap_append, List.flatMap_cons]
 simp only [List.append_assoc]
theorem zw5 {l:List (Int × Int)} {i:Nat} {r c:Int} (h:l[i]? = some (r, c)) (rest:List Value):∃ t, (l.flatMap pnc ++ rest).drop (0 + i * 2 + 1) = .int .i64 c :: t:=by
 rw [zmi h rest]
 have hl:((l.take i).flatMap pnc).length = i * 2:=by rw [zc7, List.length_take, Nat.min_eq_left (Nat.le_of_lt (get_lt h))]
 refine ⟨(l.drop (i + 1)).flatMap pnc ++ rest, ?_⟩
 rw [List.drop_append, List.drop_eq_nil_of_le (by omega), List.nil_append, show 0 + i * 2 + 1 - ((l.take i).flatMap pnc).length = 1 by omega]
 rfl
theorem zue {l:List (Int × Int)} {i:Nat} {r c:Int} (h:l[i]? = some (r, c)) (c':Int) (rest:List Value):(l.flatMap pnc ++ rest).take (0 + i * 2 + 1) ++ ([Value.int .i64 c'] ++ (l.flatMap pnc ++ rest).drop (0 + i * 2 + 1 + 1)) = (l.set i (r, c')).flatMap pnc ++ rest:=by
 have hi:=get_lt h
 have hl:((l.take i).flatMap pnc).length = i * 2:=by rw [zc7, List.length_take, Nat.min_eq_left (Nat.le_of_lt hi)]
 have hs:(l.set i (r, c'))[i]? = some (r, c'):=by rw [List.getElem?_set_self hi]
 rw [zmi h rest, zmi hs rest, List.take_set_of_le (Nat.le_refl _), List.drop_set_of_lt (Nat.lt_succ_self i)]
 generalize (l.take i).flatMap pnc = A at hl ⊢
 generalize (l.drop (i + 1)).flatMap pnc ++ rest = T
 subst_vars
 have e1:(A ++ (pnc (r, c) ++ T)).take (0 + i * 2 + 1) = A ++ [Value.int .u64 r]:=by
  rw [List.take_append, List.take_of_length_le (by omega), show 0 + i * 2 + 1 - A.length = 1 by omega]; rfl
 have e2:(A ++ (pnc (r, c) ++ T)).drop (0 + i * 2 + 1 + 1) = T:=by
  rw [List.drop_append, List.drop_eq_nil_of_le (by omega), List.nil_append, show 0 + i * 2 + 1 + 1 - A.length = 2 by omega]; rfl
 rw [e1, e2]
 simp [pnc]
theorem zuf {l:List (Int × Int)} {i:Nat} (h:i < l.length) (rest:List Value):Nat.ble (0 + i * 2 + 1 + 1) (l.flatMap pnc ++ rest).length = true:=Nat.ble_eq_true_of_le (by rw [List.length_append, zc7]; omega)
theorem z0z {l:List (Int × Int)} {i:Nat} {x:Int × Int} (hi:i ≤ l.length):(zst l i x)[i]? = some x:=by
 unfold zst; rw [List.getElem?_append_right (by rw [List.length_take]; omega), List.length_take, Nat.min_eq_left hi, Nat.sub_self]; rfl
theorem zxp {l:List (Int × Int)} {i:Nat} {x y:Int × Int} (hi:i ≤ l.length):(zst l i x).set i y = zst l i y:=by
 unfold zst; rw [List.set_append_right _ _ (by rw [List.length_take]; omega), List.length_take, Nat.min_eq_left hi, Nat.sub_self]; rfl
theorem z19 {L0:List Int} (r:Int):zgo cP r (zan L0) ≤ (zaj L0).length:=by rw [zbk]; exact zub r _
attribute [local irreducible] V N X VO Par StepOK Has Ret RetL RetO RetT zb8 zdn Src
set_option maxHeartbeats 4000000 in
set_option maxRecDepth 20000 in
theorem zxj {L0:List Int} {r:Int} (hr:r ≠ 0) (hz:L0.length ≤ 1000) {s:Value} {w:World} {B:Heap} (hB:B.Le (hp w)) (hv:PsV (zaj L0) s B) :
  Ret Tryz.prog 82 [pnv s L0.length, .int .u64 r, .int .i64 1] w B (PinP (L0 ++ [r]) 0):=by
 have hz2:(zaj L0).length ≤ 1000:=by rw [zbk]; exact Nat.le_trans (zbu _) hz
 have hcz:L0.count r ≤ 1000:=Nat.le_trans List.count_le_length hz
 have hws:IntKind.i64.wrap (4096 - ((L0.count r:Nat):Int)) = 4096 - ((L0.count r:Nat):Int):=zaa (by omega) (by omega)
 have hwt:IntKind.i64.wrap ((L0.length:Int) + 1) = ((L0 ++ [r]).length:Nat):=by rw [List.length_append]; exact zaa (by omega) (by omega)
 obtain ⟨p, c, rfl⟩:=zap hv
 have hpl:=z19 (L0:=L0) r
 by_cases hm:r ∈ zan L0
 ·have hf:decide (r ∈ zan L0) = true:=decide_eq_true hm
  have hp:=zhy hm
  have hpi:=get_lt hp
  have e1:=zjw (za0.1 hm)
  have hwc:IntKind.i64.wrap (((L0.count r:Nat):Int) + 1) = ((L0.count r:Nat):Int) + 1:=zaa (by omega) (by omega)
  generalize hat:zgo cP r (zan L0) = at_ at *
  refine yc Tryz.func82 rfl Tryz.ntmps82 (Nat.le_of_ble_eq_true rfl) hB ?_
  refine Z357 ?_; refine Z144 ?_; refine Z332 ?_; refine Z10 ?_; refine Z213 ?_; refine Z173 ?_; refine Z242 ?_; refine Z179 ?_; refine Z366 ?_; refine Z318 ?_; refine zh ?_; refine Z44 ?_; refine z7 (zw L (vs:=[_, _]) (ql rfl) rfl rfl rfl rfl ⟨_, rfl⟩) rfl ?_; refine Z1 ?_; refine z7 (zo L rfl rfl (zk rfl) rfl rfl rfl (fun u H hH hle _ => hf ▸ hat ▸ zgd (L0:=L0) (t:=L0.length) (by omega) hH (hv.le hle))) rfl ?_; refine Z347 ?_; refine Z228 ?_; refine z7 (zw L (vs:=[_, _]) (ql rfl) rfl rfl rfl rfl ⟨_, rfl⟩) rfl ?_; refine Z1 ?_; refine z7 (zo L rfl rfl (zk rfl) rfl rfl rfl (fun u H hH hle _ => count_ret (by omega) hH (hv.le hle))) rfl ?_; refine Z25 ?_; refine Z32 ?_; refine Z141 ?_; refine Z52 ?_; refine Z319 ?_; refine Z8 ?_; refine Z162 ?_; refine Z68 ?_; refine Z181 ?_; refine z7 (zeg L rfl rfl (zk rfl) rfl rfl rfl (fun u H hH hle _ => zhu (by omega) hH (hv.le hle))) rfl ?_; refine qn (yo (.inr rfl) rfl rfl rfl rfl) ?_; refine Z191 ?_; refine Z272 ?_; refine Z52 ?_; refine Z162 ?_
  refine zgw 10 900 rfl (fun h0 _ => by omega) fun b cap rest hl hmc hcm hcl => ?_
  obtain ⟨tl, hld⟩:=zw5 hp rest
  have hst:=zue hp (((L0.count r:Nat):Int) + 1) rest
  have hbl:=zuf hpi rest
  refine Z82 ?_; refine Z141 ?_; refine z7 (qg L _ rfl rfl rfl rfl rfl rfl rfl (by omega)) rfl ?_; refine Z42 ?_; refine yr (qq L (q:=900) rfl rfl rfl rfl rfl hld) ?_; refine Z1 ?_; refine Z20 ?_; refine z7 (qg L _ rfl rfl rfl rfl rfl rfl rfl (by omega)) rfl ?_; refine Z42 ?_; refine zcl (yw L (q:=900) rfl rfl rfl rfl rfl rfl hbl rfl hst) ?_; refine Z159 ?_
  have hln:(zaj (L0 ++ [r])).length = (zaj L0).length:=by rw [e1, List.length_set]
  rw [← e1]
  refine zb7 (s:=2) (xs:=(zaj (L0 ++ [r])).flatMap pnc) (rest:=rest) 10 900 rfl rfl rfl (by rw [zc7, hln]) hmc hcm (by rw [List.length_append, zc7, hln, ← zc7, ← List.length_append]; exact hcl) ?_
  refine zrn 10 rfl fun x H hs _ hsw => ?_
  have hsv:PsV (zaj (L0 ++ [r])) x H:=by unfold PsV; rw [hln]; exact hsw.toV
  obtain ⟨p2, c2, rfl⟩:=zap hsv
  refine Z267 ?_; refine Z181 ?_; refine Z1 ?_; refine Z20 ?_; refine z7 (yv (cs:=[_, _]) rfl rfl zy9 rfl rfl) rfl ?_; refine Z235 ?_
  refine yb L (rs:=[.cell 6 74, .tmp 7]) rfl (fun _ _ h => h) hs fun u H hH hle => ?_
  exact ⟨_, yk rfl, rfl, _, rfl, hsv.le hle⟩
 ·have hf:decide (r ∈ zan L0) = false:=decide_eq_false hm
  have e1:=zpe (L:=L0) fun h => hm (za0.2 h)
  generalize hat:zgo cP r (zan L0) = at_ at *
  have e2:zaj (L0 ++ [r]) = (zst (zaj L0) at_ (r, 0)).set at_ (r, 1):=by rw [zxp hpl]; exact e1
  have hp:=z0z (x:=(r, (0:Int))) hpl
  have hpi:=get_lt hp
  have hil:=zpo (x:=(r, (0:Int))) hpl
  refine yc Tryz.func82 rfl Tryz.ntmps82 (Nat.le_of_ble_eq_true rfl) hB ?_
  refine Z357 ?_; refine Z144 ?_; refine Z332 ?_; refine Z10 ?_; refine Z213 ?_; refine Z173 ?_; refine Z242 ?_; refine Z179 ?_; refine Z366 ?_; refine Z318 ?_; refine zh ?_; refine Z44 ?_; refine z7 (zw L (vs:=[_, _]) (ql rfl) rfl rfl rfl rfl ⟨_, rfl⟩) rfl ?_; refine Z1 ?_; refine z7 (zo L rfl rfl (zk rfl) rfl rfl rfl (fun u H hH hle _ => hf ▸ hat ▸ zgd (L0:=L0) (t:=L0.length) (by omega) hH (hv.le hle))) rfl ?_; refine Z347 ?_; refine Z228 ?_; refine z7 (zw L (vs:=[_, _]) (ql rfl) rfl rfl rfl rfl ⟨_, rfl⟩) rfl ?_; refine Z1 ?_; refine z7 (zo L rfl rfl (zk rfl) rfl rfl rfl (fun u H hH hle _ => count_ret (by omega) hH (hv.le hle))) rfl ?_; refine Z25 ?_; refine Z32 ?_; refine Z141 ?_; refine Z52 ?_; refine Z1 ?_; refine Z181 ?_; refine Z75 ?_; refine Z15 ?_; refine Z394 ?_; refine Z162 ?_; refine Z68 ?_; refine Z181 ?_; refine z7 (zeg L rfl rfl (zk rfl) rfl rfl rfl (fun u H hH hle _ => zhu (by omega) hH (hv.le hle))) rfl ?_; refine qn (yo (.inr rfl) rfl rfl rfl rfl) ?_; refine Z191 ?_; refine Z272 ?_; refine Z52 ?_; refine Z145 ?_; refine Z86 ?_; refine qn (yo (.inl rfl) rfl rfl rfl rfl) ?_; refine Z141 ?_; refine z7 (yv (cs:=[_, _]) rfl rfl z4g rfl rfl) rfl ?_; refine Z35 ?_; refine qn (zn8 L (q:=51) rfl rfl rfl rfl rfl (fun u H C x hH hle hx hC v2 hv2 => zss (y:=(r, 0)) hpl (by omega) hH hv2 hx hC)) ?_; refine qn (yo (.inr rfl) rfl rfl rfl rfl) ?_; refine Z159 ?_
  rw [← hil]
  refine zgw 10 900 rfl (fun h0 _ => by omega) fun b cap rest hl hmc hcm hcl => ?_
  obtain ⟨tl, hld⟩:=zw5 hp rest
  have hst:=zue hp 1 rest
  have hbl:=zuf hpi rest
  refine Z82 ?_; refine Z141 ?_; refine z7 (qg L _ rfl rfl rfl rfl rfl rfl rfl (by omega)) rfl ?_; refine Z42 ?_; refine yr (qq L (q:=900) rfl rfl rfl rfl rfl hld) ?_; refine Z1 ?_; refine Z24 ?_; refine z7 (qg L _ rfl rfl rfl rfl rfl rfl rfl (by omega)) rfl ?_; refine Z42 ?_; refine zcl (yw L (q:=900) rfl rfl rfl rfl rfl rfl hbl rfl hst) ?_; refine Z159 ?_
  have hln:(zaj (L0 ++ [r])).length = (zst (zaj L0) at_ (r, 0)).length:=by rw [e2, List.length_set]
  rw [← e2]
  refine zb7 (s:=2) (xs:=(zaj (L0 ++ [r])).flatMap pnc) (rest:=rest) 10 900 rfl rfl rfl (by rw [zc7, hln]) hmc hcm (by rw [List.length_append, zc7, hln, ← zc7, ← List.length_append]; exact hcl) ?_
  refine zrn 10 rfl fun x H hs _ hsw => ?_
  have hsv:PsV (zaj (L0 ++ [r])) x H:=by unfold PsV; rw [hln]; exact hsw.toV
  obtain ⟨p2, c2, rfl⟩:=zap hsv
  refine Z267 ?_; refine Z181 ?_; refine Z1 ?_; refine Z20 ?_; refine z7 (yv (cs:=[_, _]) rfl rfl zy9 rfl rfl) rfl ?_; refine Z235 ?_
  refine yb L (rs:=[.cell 6 74, .tmp 7]) rfl (fun _ _ h => h) hs fun u H hH hle => ?_
  exact ⟨_, yk rfl, rfl, _, rfl, hsv.le hle⟩
theorem z0e {L0:List Int} {r:Int} (hr:r ≠ 0) (hz:L0.length ≤ 1000) {s:Value} {w:World} {B:Heap} (hB:B.Le (hp w)) (hv:PsV (zaj L0) s B) :
  Ret Tryz.prog 51 [pnv s L0.length, .int .u64 r] w B (PinP (L0 ++ [r]) 0):=by
 obtain ⟨p, c, rfl⟩:=zap hv
 refine yc Tryz.func51 rfl Tryz.ntmps51 (Nat.le_of_ble_eq_true rfl) hB ?_
 refine Z357 ?_; refine Z160 ?_; refine z7 (zw L (vs:=[_, _]) (ql rfl) rfl rfl rfl rfl ⟨_, rfl⟩) rfl ?_; refine Z1 ?_; refine z7 (yq L rfl rfl (zk rfl) rfl rfl rfl PinP.mono (fun u H hH hle _ => zxj hr hz hH (hv.le hle))) rfl ?_; refine zbl 8 rfl fun v1 H1 hs1 hp1 => ?_; obtain ⟨s1, rfl, hq1⟩:=hp1; obtain ⟨p1, c1, rfl⟩:=zap hq1; refine Z169 ?_; refine Z235 ?_
 refine yb L (rs:=[.cell 4 74, .tmp 5]) rfl (fun _ _ h => h) hs1 fun u H hH hle => ?_
 exact ⟨_, yk rfl, rfl, _, rfl, hq1.le hle⟩
theorem PinP.nil {e:Int} {B:Heap}:PinP [] e (.tuple #[pnv (.slice none 0 0) 0, .int .i64 e]) B:=⟨_, rfl, SlV.nil⟩
set_option maxHeartbeats 4000000 in
set_option maxRecDepth 20000 in
theorem zto {L0 L1:List Int} {r:Int} {e:Nat} (hr:zfl L0 r = (L1, e)) (hz:L0.length ≤ 1000) {s:Value} {w:World} {B:Heap} (hB:B.Le (hp w)) (hv:PsV (zaj L0) s B) :
  Ret Tryz.prog 69 [pnv s L0.length, .int .u64 r] w B (PinP L1 e):=by
 have hz2:(zaj L0).length ≤ 1000:=by rw [zbk]; exact Nat.le_trans (zbu _) hz
 have hcz:L0.count r ≤ 1000:=Nat.le_trans List.count_le_length hz
 obtain ⟨p, c, rfl⟩:=zap hv
 unfold zfl at hr
 by_cases h0:L0.count r = 0
 ·rw [if_pos h0] at hr
  cases hr
  have hm:r ∉ zan L0:=fun h => (List.count_eq_zero.1 h0) (za0.1 h)
  have hf:decide (r ∈ zan L0) = false:=decide_eq_false hm
  refine yc Tryz.func69 rfl Tryz.ntmps69 (Nat.le_of_ble_eq_true rfl) hB ?_
  refine Z357 ?_; refine Z160 ?_; refine z7 (zw L (vs:=[_, _]) (ql rfl) rfl rfl rfl rfl ⟨_, rfl⟩) rfl ?_; refine Z1 ?_; refine z7 (zo L rfl rfl (zk rfl) rfl rfl rfl (fun u H hH hle _ => hf ▸ zgd (L0:=L0) (t:=L0.length) (by omega) hH (hv.le hle))) rfl ?_; refine Z347 ?_; refine Z175 ?_; refine Z52 ?_; refine Z154 ?_; refine Z28 ?_; refine z7 (yv (cs:=[_, _]) rfl rfl zy9 rfl rfl) rfl ?_; refine Z235 ?_
  refine yb L (rs:=[.cell 4 74, .tmp 5]) rfl (fun _ _ h => h) Since.refl fun u H hH hle => ?_
  exact ⟨_, yk rfl, rfl, PinP.nil⟩
 ·rw [if_neg h0] at hr
  cases hr
  have hmem:r ∈ L0:=List.count_pos_iff.1 (by omega)
  have hm:r ∈ zan L0:=za0.2 hmem
  have hf:decide (r ∈ zan L0) = true:=decide_eq_true hm
  have hp:=zhy hm
  have hpi:=get_lt hp
  have hL1:(L0.erase r).length = L0.length - 1:=by rw [List.length_erase_of_mem hmem]
  have hL0:0 < L0.length:=List.length_pos_of_mem hmem
  have hwt:IntKind.i64.wrap ((L0.length:Int) - 1) = ((L0.erase r).length:Nat):=by rw [hL1]; exact zaa (by omega) (by omega) |>.trans (by omega)
  have hwc:IntKind.i64.wrap (((L0.count r:Nat):Int) - 1) = ((L0.count r:Nat):Int) - 1:=zaa (by omega) (by omega)
  have e1:1 < L0.count r → zaj (L0.erase r) = (zaj L0).set (zgo cP r (zan L0)) (r, ((L0.count r:Nat):Int) - 1):=zht
  have e2:L0.count r = 1 → zaj (L0.erase r) = (zaj L0).eraseIdx (zgo cP r (zan L0)):=zii
  generalize hat:zgo cP r (zan L0) = at_ at *
  have hwi:IntKind.i64.wrap ((at_:Int) + 1) = ((at_ + 1:Nat):Int):=zaa (by omega) (by omega)
  refine yc Tryz.func69 rfl Tryz.ntmps69 (Nat.le_of_ble_eq_true rfl) hB ?_
  refine Z357 ?_; refine Z160 ?_; refine z7 (zw L (vs:=[_, _]) (ql rfl) rfl rfl rfl rfl ⟨_, rfl⟩) rfl ?_; refine Z1 ?_; refine z7 (zo L rfl rfl (zk rfl) rfl rfl rfl (fun u H hH hle _ => hf ▸ hat ▸ zgd (L0:=L0) (t:=L0.length) (by omega) hH (hv.le hle))) rfl ?_; refine Z347 ?_; refine Z175 ?_; refine Z52 ?_; refine Z162 ?_; refine Z30 ?_; refine Z181 ?_; refine z7 (zeg L rfl rfl (zk rfl) rfl rfl rfl (fun u H hH hle _ => zhu (by omega) hH (hv.le hle))) rfl ?_; refine qn (yo (.inr rfl) rfl rfl rfl rfl) ?_; refine Z191 ?_
  refine zgw 8 900 rfl (fun h0 _ => by omega) fun b cap rest hl hmc hcm hcl => ?_
  obtain ⟨tl, hld⟩:=zw5 hp rest
  have hst:=zue hp (((L0.count r:Nat):Int) - 1) rest
  have hbl:=zuf hpi rest
  have hp2:((zaj L0).set at_ (r, ((L0.count r:Nat):Int) - 1))[at_]? = some (r, ((L0.count r:Nat):Int) - 1):=by rw [List.getElem?_set_self hpi]
  obtain ⟨tl2, hld2⟩:=zw5 hp2 rest
  have hsl:((zaj L0).set at_ (r, ((L0.count r:Nat):Int) - 1)).length = (zaj L0).length:=List.length_set ..
  have hcl2:(((zaj L0).set at_ (r, ((L0.count r:Nat):Int) - 1)).flatMap pnc ++ rest).length = cap * 2:=by rw [List.length_append, zc7, hsl, ← zc7, ← List.length_append]; exact hcl
  have hers:((zaj L0).set at_ (r, ((L0.count r:Nat):Int) - 1)).eraseIdx at_ = (zaj L0).eraseIdx at_:=by rw [List.eraseIdx_set_eq]
  by_cases h1:L0.count r = 1
  ·have hz0:((L0.count r:Nat):Int) - 1 = 0:=by omega
   refine Z244 ?_; refine z7 (qg L _ rfl rfl rfl rfl rfl rfl rfl (by omega)) rfl ?_; refine Z42 ?_; refine yr (qq L (q:=900) rfl rfl rfl rfl rfl hld) ?_; refine Z25 ?_; refine z7 (qg L _ rfl rfl rfl rfl rfl rfl rfl (by omega)) rfl ?_; refine Z42 ?_; refine zcl (yw L (q:=900) rfl rfl rfl rfl rfl rfl hbl rfl hst) ?_; refine Z159 ?_; refine Z284 ?_; refine z7 (qg L _ rfl rfl rfl rfl rfl rfl rfl (by omega)) rfl ?_; refine Z42 ?_; refine yr (qq L (q:=900) rfl rfl rfl rfl rfl hld2) ?_; refine Z288 ?_
   refine zb7 (s:=2) (xs:=((zaj L0).set at_ (r, ((L0.count r:Nat):Int) - 1)).flatMap pnc) (rest:=rest) 8 900 rfl rfl rfl (by rw [zc7, hsl]) hmc hcm hcl2 ?_
   refine Z44 ?_; refine qn (yo (.inl rfl) rfl rfl rfl rfl) ?_; refine Z295 ?_; refine qn (zn8 L (q:=35) rfl rfl rfl rfl rfl (fun u H C x hH hle hx hC => zs2 (l:=(zaj L0).set at_ (r, ((L0.count r:Nat):Int) - 1)) (by rw [hsl]; exact hpi) (by rw [hsl]; omega) rfl hH (by rw [hsl]; exact hx) hC)) ?_; refine qn (yo (.inr rfl) rfl rfl rfl rfl) ?_; refine Z159 ?_
   rw [hers, hsl, ← e2 h1]
   refine zrn 8 rfl fun x H hs _ hsw => ?_
   have hsv:PsV (zaj (L0.erase r)) x H:=by
    unfold PsV
    rw [show (zaj (L0.erase r)).length = (zaj L0).length - 1 by rw [e2 h1, List.length_eraseIdx_of_lt hpi]]
    exact hsw.toV
   obtain ⟨p2, c2, rfl⟩:=zap hsv
   refine Z228 ?_; refine Z181 ?_; refine Z25 ?_; refine z7 (yv (cs:=[_, _]) rfl rfl zy9 rfl rfl) rfl ?_; refine Z235 ?_
   refine yb L (rs:=[.cell 4 74, .tmp 5]) rfl (fun _ _ h => h) hs fun u H hH hle => ?_
   exact ⟨_, yk rfl, rfl, _, rfl, hsv.le hle⟩
  ·have hz0:((L0.count r:Nat):Int) - 1 ≠ 0:=by omega
   refine Z244 ?_; refine z7 (qg L _ rfl rfl rfl rfl rfl rfl rfl (by omega)) rfl ?_; refine Z42 ?_; refine yr (qq L (q:=900) rfl rfl rfl rfl rfl hld) ?_; refine Z25 ?_; refine z7 (qg L _ rfl rfl rfl rfl rfl rfl rfl (by omega)) rfl ?_; refine Z42 ?_; refine zcl (yw L (q:=900) rfl rfl rfl rfl rfl rfl hbl rfl hst) ?_; refine Z159 ?_; refine Z284 ?_; refine z7 (qg L _ rfl rfl rfl rfl rfl rfl rfl (by omega)) rfl ?_; refine Z42 ?_; refine yr (qq L (q:=900) rfl rfl rfl rfl rfl hld2) ?_; refine Z245 ?_
   refine zb7 (s:=2) (xs:=((zaj L0).set at_ (r, ((L0.count r:Nat):Int) - 1)).flatMap pnc) (rest:=rest) 8 900 rfl rfl rfl (by rw [zc7, hsl]) hmc hcm hcl2 ?_
   rw [← e1 (by omega)] at hsl ⊢
   refine zrn 8 rfl fun x H hs _ hsw => ?_
   have hsv:PsV (zaj (L0.erase r)) x H:=by unfold PsV; rw [hsl]; exact hsw.toV
   obtain ⟨p2, c2, rfl⟩:=zap hsv
   refine Z228 ?_; refine Z181 ?_; refine Z25 ?_; refine z7 (yv (cs:=[_, _]) rfl rfl zy9 rfl rfl) rfl ?_; refine Z235 ?_
   refine yb L (rs:=[.cell 4 74, .tmp 5]) rfl (fun _ _ h => h) hs fun u H hH hle => ?_
   exact ⟨_, yk rfl, rfl, _, rfl, hsv.le hle⟩
end Go.V.L10
set_option maxRecDepth 20000
namespace Go.V.L10
open Go.Proofs Go.RowKit Go.V Go.V.L2 Go.V.L8 Go.V.L6
theorem _root_.Go.V.Z262 {A B:Prop} (h:B) (t:Wr B → A:=by intro h; refine Z202 ?_; refine Z64 ?_; exact h.h):A:=t ⟨h⟩
abbrev tyS:TypeId:=94
abbrev Ent:=List (Int × (List U × Value))
abbrev vcE (p:List U × Value):Value:=p.2
abbrev stc (n m:Nat) (s:Value) (t:Nat):List Value:=[.int .u64 n, .map (some m), s, .int .i64 t]
abbrev StO (b n m:Nat) (s:Value) (t:Nat) (es:Ent):GR:=zyw (zab b (stc n m s t) tyS) (z5e m .u64 vcE es)
theorem zfm (b n m:Nat) (s:Value) (t:Nat) (es:Ent):(StO b n m s t es).res = zf6 (zal b (stc n m s t) tyS) (zk1 m .u64 vcE es):=rfl
def EsV (es:Ent) (H:Heap):Prop:=∀ e ∈ es, SetV e.2.1 e.2.2 H
theorem EsV.le {es:Ent} {H H':Heap} (h:EsV es H) (hle:H.Le H'):EsV es H':=fun e he => (h e he).le hle
theorem zj7 {b:Nat} {cs:List Value} {ty:TypeId}:∀ v H u C, (zal b cs ty).P v H u C → joinH H u C b = some (.cells cs.toArray ty):=fun _ _ _ _ ⟨hb, hC⟩ => (zg7 ((hC b).2 rfl)).trans hb
theorem z1t {P:Program} (L:Tabs P) {e:TypeId} {z:Value} (hz:L.zr e = some z) (w:World):(zeroValue e).run P w = .ok z w:=by
 have h:=Tabs.zr_spec hz
 unfold zrI at h
 split at h
 ·rename_i it hit; simp [zeroValue, typeInfo, hit, h]
 ·cases h
abbrev z5r:TypeId:=92
abbrev z5f:TypeId:=45
theorem mpS:Tryz.prog.underlying z5r = some (.map zin z5f):=by kernel_rfl
theorem kyS:Tryz.prog.underlying zin = some (.int .u64):=by kernel_rfl
theorem zrS (w:World):(zeroValue z5f).run Tryz.prog w = .ok nilSet w:=z1t L rfl w
attribute [local irreducible] V N X VO Par StepOK Has Ret RetL RetO RetT zb8 zdn RetY Src
theorem zcw {b n:Nat} {rest:List Value} (hn:n ≠ 0) {w:World} {B:Heap} (hb:B b = some (.cells (Value.int .u64 n :: rest).toArray tyS)) (hB:B.Le (hp w)) :
  Ret Tryz.prog 43 [.pointer (some ⟨b, 0, none⟩)] w B (fun v _ => v = .bool false):=by
 refine yc Tryz.func43 rfl Tryz.ntmps43 (Nat.le_of_ble_eq_true rfl) hB ?_
 refine Z286 ?_; refine z7 (ze6 rfl rfl rfl rfl z2q rfl) rfl ?_; refine Z141 ?_; refine Z296 ?_; refine Z15 ?_; refine Z8 ?_; refine Z139 ?_
 refine yb L (rs:=[.tmp 2]) rfl (fun _ _ h => h) Since.refl fun u H hH hle => ?_
 rfl
theorem zlj {b n:Nat} {rest:List Value} (hn:n ≠ 0) {w:World} {B:Heap} (hb:B b = some (.cells (Value.int .u64 n :: rest).toArray tyS)) (hB:B.Le (hp w)) :
  Ret Tryz.prog 15 [.pointer (some ⟨b, 0, none⟩)] w B (fun v _ => v = .int .u64 n):=by
 refine yc Tryz.func15 rfl Tryz.ntmps15 (Nat.le_of_ble_eq_true rfl) hB ?_
 refine Z256 ?_; refine z7 (zo L rfl rfl (zk rfl) rfl rfl rfl (fun u H hH hle _ => zcw hn (hle _ _ hb) hH)) rfl ?_; refine Z162 ?_; refine Z173 ?_; refine Z296 ?_; refine Z139 ?_
 refine yb L (rs:=[.tmp 2]) rfl (fun _ _ h => h) Since.refl fun u H hH hle => ?_
 rfl
theorem pins_ret {b n m t:Nat} {s:Value} (hs:∃ p k c, s = .slice p k c) (hn:n ≠ 0) {w:World} {B:Heap} (hb:B b = some (.cells (stc n m s t).toArray tyS)) (hB:B.Le (hp w)) :
  Ret Tryz.prog 25 [.pointer (some ⟨b, 0, none⟩)] w B (fun v _ => v = pnv s t):=by
 obtain ⟨p, k, c, rfl⟩:=hs
 refine yc Tryz.func25 rfl Tryz.ntmps25 (Nat.le_of_ble_eq_true rfl) hB ?_
 refine Z315 ?_; refine Z191 ?_; refine Z289 ?_; refine z7 (zo L rfl rfl (zk rfl) rfl rfl rfl (fun u H hH hle _ => zcw hn (hle _ _ hb) hH)) rfl ?_; refine Z162 ?_; refine Z173 ?_; refine Z202 ?_; refine z7 (zw L (vs:=[_, _]) (ya rfl (by assumption)) rfl rfl rfl rfl ⟨_, rfl⟩) rfl ?_; refine Z252 ?_
 refine yb L (rs:=[.cell 2 74]) rfl (fun _ _ h => h) Since.refl fun u H hH hle => ?_
 exact ⟨_, yk rfl, rfl, rfl⟩
set_option maxHeartbeats 1000000 in
theorem zfn {S:Sto} {b m t:Nat} {s:Value} {es:Ent} {r:Int} (hm:MapOK es S.R) (hn:S.R.length ≠ 0) {w:World} {B:Heap} {C:Nat → Prop} (hes:EsV es B) (hB:B.Le (hp w)) (hr:(StO b S.R.length m s t es).P B w C) (hC:∀ k, C k → k < w.heap.size ∧ B k = none) :
  RetY Tryz.prog 13 [.pointer (some ⟨b, 0, none⟩), .int .u64 r] w B C (StO b S.R.length m s t es) (WithP (atS S r).1 (atS S r).2):=by
 unfold RetY
 refine zar 900 (StO b S.R.length m s t es) Tryz.func13 rfl Tryz.ntmps13 (Nat.le_of_ble_eq_true rfl) hB hr hC ?_
 rw [zfm]
 refine zf4 900 901 rfl (zaw _) ?_
 obtain ⟨k, hk⟩:∃ k, k = if r = 0 then (S.R.length:Int) else r:=⟨_, rfl⟩
 have hat:atS S r = match kpt S.R k with | some t => (t, 0) | none => ([], 14):=by rw [hk]; rfl
 have hg:=hm.get k
 by_cases hr0:r = 0
 ·rw [if_pos hr0] at hk
  subst hr0
  subst hk
  cases hgk:ze7 (S.R.length:Int) es with
  | none =>
   rw [hgk] at hg
   rw [hat, ← hg]
   have q1:(ze7 (S.R.length:Int) es).elim nilSet vcE = nilSet:=by rw [hgk]; rfl
   have q2:(ze7 (S.R.length:Int) es).isSome = false:=by rw [hgk]; rfl
   refine Z315 ?_; refine Z188 ?_; refine yr (zay L 900 (Φ:=fun H => H b = some (.cells (stc S.R.length m s t).toArray tyS)) (c:=.bool false) rfl rfl (zk rfl) rfl rfl rfl rfl rfl zj7 (fun u H hH hle hb => zcw hn hb hH)) ?_; refine Z168 ?_; refine Z173 ?_; refine Z288 ?_; refine Z161 ?_; refine Z262 ?_; refine Z144 ?_; refine Z179 ?_; refine Z262 ?_; refine Z1 ?_; refine yr (zdw (q:=901) (vc:=vcE) (S.R.length:Int) mpS kyS zrS rfl rfl rfl rfl rfl q1 q2) ?_; refine Z352 ?_; refine Z358 ?_; refine Z52 ?_; refine Z154 ?_; refine Z44 ?_; refine z7 (yv (cs:=[_, _, _, _]) rfl rfl ztb rfl rfl) rfl ?_; refine Z235 ?_
   refine zb3 900 901 rfl rfl (zaw _) ?_
   exact zbx L 900 (r:=StO b S.R.length m s t es) (rs:=[.cell 4 45, .tmp 5]) rfl (fun _ _ h => h) Since.refl rfl rfl (fun H hle => ⟨_, yk rfl, rfl, _, rfl, SetV.nil⟩)
  | some x =>
   obtain ⟨l, sv⟩:=x
   rw [hgk] at hg
   rw [hat, ← hg]
   have hx:SetV l sv B:=hes _ (ziv hgk)
   obtain ⟨f1, p1, f2, p2, rfl, hpl⟩:=hx.shape
   have q1:(ze7 (S.R.length:Int) es).elim nilSet vcE = .agg #[f1, .pointer p1, f2, .pointer p2]:=by rw [hgk]; rfl
   have q2:(ze7 (S.R.length:Int) es).isSome = true:=by rw [hgk]; rfl
   refine Z315 ?_; refine Z188 ?_; refine yr (zay L 900 (Φ:=fun H => H b = some (.cells (stc S.R.length m s t).toArray tyS)) (c:=.bool false) rfl rfl (zk rfl) rfl rfl rfl rfl rfl zj7 (fun u H hH hle hb => zcw hn hb hH)) ?_; refine Z168 ?_; refine Z173 ?_; refine Z288 ?_; refine Z161 ?_; refine Z262 ?_; refine Z144 ?_; refine Z179 ?_; refine Z262 ?_; refine Z1 ?_; refine yr (zdw (q:=901) (vc:=vcE) (S.R.length:Int) mpS kyS zrS rfl rfl rfl rfl rfl q1 q2) ?_; refine Z309 ?_; refine Z358 ?_; refine Z52 ?_; refine Z162 ?_; refine Z57 ?_; refine z7 (zw L (vs:=[_, _, _, _]) (yk rfl) rfl rfl rfl rfl ⟨_, rfl⟩) rfl ?_; refine Z62 ?_; refine Z139 ?_
   refine zb3 900 901 rfl rfl (zaw _) ?_
   exact zbx L 900 (r:=StO b S.R.length m s t es) (rs:=[.cell 4 45, .tmp 5]) rfl (fun _ _ h => h) Since.refl rfl rfl (fun H hle => ⟨_, yk rfl, rfl, _, rfl, hx.le hle⟩)
 ·rw [if_neg hr0] at hk
  subst hk
  cases hgk:ze7 k es with
  | none =>
   rw [hgk] at hg
   rw [hat, ← hg]
   have q1:(ze7 k es).elim nilSet vcE = nilSet:=by rw [hgk]; rfl
   have q2:(ze7 k es).isSome = false:=by rw [hgk]; rfl
   refine Z315 ?_; refine Z188 ?_; refine yr (zay L 900 (Φ:=fun H => H b = some (.cells (stc S.R.length m s t).toArray tyS)) (c:=.bool false) rfl rfl (zk rfl) rfl rfl rfl rfl rfl zj7 (fun u H hH hle hb => zcw hn hb hH)) ?_; refine Z168 ?_; refine Z173 ?_; refine Z245 ?_; refine Z179 ?_; refine Z262 ?_; refine Z1 ?_; refine yr (zdw (q:=901) (vc:=vcE) k mpS kyS zrS rfl rfl rfl rfl rfl q1 q2) ?_; refine Z352 ?_; refine Z358 ?_; refine Z52 ?_; refine Z154 ?_; refine Z44 ?_; refine z7 (yv (cs:=[_, _, _, _]) rfl rfl ztb rfl rfl) rfl ?_; refine Z235 ?_
   refine zb3 900 901 rfl rfl (zaw _) ?_
   exact zbx L 900 (r:=StO b S.R.length m s t es) (rs:=[.cell 4 45, .tmp 5]) rfl (fun _ _ h => h) Since.refl rfl rfl (fun H hle => ⟨_, yk rfl, rfl, _, rfl, SetV.nil⟩)
  | some x =>
   obtain ⟨l, sv⟩:=x
   rw [hgk] at hg
   rw [hat, ← hg]
   have hx:SetV l sv B:=hes _ (ziv hgk)
   obtain ⟨f1, p1, f2, p2, rfl, hpl⟩:=hx.shape
   have q1:(ze7 k es).elim nilSet vcE = .agg #[f1, .pointer p1, f2, .pointer p2]:=by rw [hgk]; rfl
   have q2:(ze7 k es).isSome = true:=by rw [hgk]; rfl
   refine Z315 ?_; refine Z188 ?_; refine yr (zay L 900 (Φ:=fun H => H b = some (.cells (stc S.R.length m s t).toArray tyS)) (c:=.bool false) rfl rfl (zk rfl) rfl rfl rfl rfl rfl zj7 (fun u H hH hle hb => zcw hn hb hH)) ?_; refine Z168 ?_; refine Z173 ?_; refine Z245 ?_; refine Z179 ?_; refine Z262 ?_; refine Z1 ?_; refine yr (zdw (q:=901) (vc:=vcE) k mpS kyS zrS rfl rfl rfl rfl rfl q1 q2) ?_; refine Z309 ?_; refine Z358 ?_; refine Z52 ?_; refine Z162 ?_; refine Z57 ?_; refine z7 (zw L (vs:=[_, _, _, _]) (yk rfl) rfl rfl rfl rfl ⟨_, rfl⟩) rfl ?_; refine Z62 ?_; refine Z139 ?_
   refine zb3 900 901 rfl rfl (zaw _) ?_
   exact zbx L 900 (r:=StO b S.R.length m s t es) (rs:=[.cell 4 45, .tmp 5]) rfl (fun _ _ h => h) Since.refl rfl rfl (fun H hle => ⟨_, yk rfl, rfl, _, rfl, hx.le hle⟩)
end Go.V.L10
set_option maxRecDepth 20000
namespace Go.V
open Go.RowKit
def SlX (e:TypeId) (s cap n:Nat) (xs:List Value):Res where
 P x _ u C:=xs.length = n * s ∧ ∃ b rest, x = .slice (some ⟨b, 0, none⟩) n cap ∧ u.heap[b]? = some (.cells (xs ++ rest).toArray e) ∧ n ≤ cap ∧ cap ≤ maxLen ∧ (xs ++ rest).length = cap * s ∧ ∀ k, C k ↔ k = b
 st:=fun ⟨hl, b, rest, h1, h2, h3, h4, h5, h6⟩ _ _ _ hk => ⟨hl, b, rest, h1, (hk b ((h6 b).2 rfl)).trans h2, h3, h4, h5, h6⟩
section
variable {P:Program} {F:Fr} {B:Heap} {O:Boxes} {n:Nat} {ops:Array Oper} {κ:Kap} {d:Nat} {ty:TypeId} {pos:String} {aft:Array Edge} {g:Option (Nat × Bool)} {Q:Exit → Act → World → Prop}
theorem zuw (L:Tabs P) {t e:TypeId} {x y:Operand} {kl kc:IntKind} {s by_:Nat} (c:Nat) {p:Int} (hn:Nat.blt d n = true) (hg:gK ops κ ⟨some d, .makeSlice t x y, ty, pos, aft, g⟩ = some true) (ht:L.sl t = some e) (he:elI P e = some (s, by_))
  (hx:evK κ x = some (.int kl 0)) (hy:evK κ y = some (.int kc p)) (hp:p = c) (hb:by_ * c ≤ 281474976710656) (hc:c ≤ maxLen):StepOK P F B n ops O κ ⟨some d, .makeSlice t x y, ty, pos, aft, g⟩ d (.own (SlX e s c 0 [])):=by
 rintro κ' a u hl ⟨H, fp, hh⟩
 unfold After
 rw [if_pos (zaf hh hl hg)]
 have en:=hh.env hl
 obtain ⟨i, z, hi, hz, hs1, hs2, hs3, hs4⟩:=zb9 he
 have h1:=en.is_ x _ (by simp [Op.operands]) hx
 have h2:=en.is_ y _ (by simp [Op.operands]) hy
 subst hp
 have hb':(i.bytes:Int) * (c:Int) ≤ 281474976710656:=by
  have h:((by_ * c:Nat):Int) ≤ 281474976710656:=by omega
  rw [hs2]; rwa [Int.natCast_mul] at h
 have h63:(c:Int) ≤ 9223372036854775807:=by simp [maxLen] at hc; omega
 have hr:=run_make (P:=P) u t e i z (Tabs.sl_spec ht) hi hz kl kc 0 c (Int.le_refl _) (by omega) hb' h63
 simp only [Int.toNat_zero, Int.toNat_natCast] at hr
 have hrun:(execOp a.eval ⟨some d, .makeSlice t x y, ty, pos, aft, g⟩).run P u = .ok (.value (.slice (some ⟨u.heap.size, 0, none⟩) 0 c)) (u.alloc (.cells (madeCells z.cells (c * i.size)) e)):=by
  simp only [execOp, h1, h2, Sem.run_bind, hr, Result.andThen_ok]; rfl
 rw [hrun]
 simp only [Upon]
 have hg2:=hh.grow (Grow.hid hh.sub (.cells (madeCells z.cells (c * i.size)) e))
 refine ⟨H, _, hg2.putR (C:=fun k => k = u.heap.size) (by simp [Act.put]) rfl (fun t ht => zam ht) ⟨by simp, u.heap.size, (madeCells z.cells (c * i.size)).toList, zaq (by rw [hh.size]; exact zk hn), by rw [zas]; simp, Nat.zero_le _, hc, by simp [size_madeCells, hs1], fun _ => Iff.rfl⟩ (fun k hk => ?_) fun t r' _ ht k hf hk => ?_⟩
 ·subst hk
  exact ⟨zah (zas u _), zbg hh.sub (Nat.le_refl _), .inl hh.keep.size, fun y hy e => by have:=zah (hh.boxes y hy).1; omega⟩
 ·have:=((hh.slot t _ ht).2 k hf).1
  omega
theorem zyo (t q:Nat) {e:TypeId} {s cap m:Nat} {xs:List Value} {c:Code} (hk:κ t = some (.own (SlX e s cap m xs)))
  (h:∀ b rest, xs.length = m * s → m ≤ cap → cap ≤ maxLen → (xs ++ rest).length = cap * s → V P F B n O (upd (upd (upd κ t zd5) q (.own (zal b (xs ++ rest) e))) t (.is (.slice (some ⟨b, 0, none⟩) m cap))) c Q):V P F B n O κ c Q:=fun a u hh => by
 obtain ⟨H, fp, hh⟩:=hh
 obtain ⟨⟨hl, b, rest, hv, hb, h3, h4, h5, hC⟩, hM⟩:=hh.slot t _ hk
 have h2:=hh.usePut (d:=q) (a':=a) (r':=zal b (xs ++ rest) e) (C:=fp t) hk ⟨Keep.refl _ _, hh.sub, Heap.Le.refl _, fun _ _ _ => rfl⟩ rfl rfl (fun _ _ => rfl) ⟨hb, hC⟩ fun k hk => ⟨.inl hk, (hM k hk).1, (hM k hk).2.1⟩
 have h3':=h2.name t
 rw [hv] at h3'
 exact h b rest hl h3 h4 h5 a u ⟨H, _, h3'⟩
theorem zpi (L:Tabs P) {q b nn cap m:Nat} {x y:Operand} {t e:TypeId} {s by_:Nat} {cur news cur':List Value} (hn:Nat.blt d n = true) (hg:gK ops κ ⟨some d, .call ⟨.builtin .append, #[x, y], #[t, t]⟩, ty, pos, aft, g⟩ = some true)
  (hx:evK κ x = some (.slice (some ⟨b, 0, none⟩) nn cap)) (hq:κ q = some (.own (zal b cur e))) (hy:Apd F B O κ y m news) (ht:L.sl t = some e) (he:elI P e = some (s, by_)) (hm:0 < m) (hnl:news.length = m * s) (hroom:nn + m ≤ cap) (hcl:nn * s + m * s ≤ cur.length) (h1:news.all zbp = true)
  (hr:cur.take (nn * s) ++ (news ++ cur.drop (nn * s + m * s)) = cur') :
  StepOK2 P F B n ops O κ ⟨some d, .call ⟨.builtin .append, #[x, y], #[t, t]⟩, ty, pos, aft, g⟩ q (.own (zal b cur' e)) d (.is (.slice (some ⟨b, 0, none⟩) (nn + m) cap)):=by
 rintro κ' a u hlk hks ⟨H, fp, hh⟩
 unfold After
 rw [if_pos (zaf hh hlk hg)]
 have en:=hh.env hlk
 have hk':κ' q = some (.own (zal b cur e)):=hks.trans hq
 have hxe:=en.is_ x _ (by simp [Op.operands, Call.operands]) hx
 obtain ⟨⟨hb, hC⟩, hM⟩:=hh.slot q _ hk'
 obtain ⟨i, z, hi, hz, hs1, hs2, hs3, hs4⟩:=zb9 he
 subst hs1
 rcases hy _ a u H fp (by simp [Op.operands, Call.operands]) en with ⟨h0, _⟩ | ⟨ad, c', hye, hcy⟩
 ·omega
 have hrun0:=run_append_room (P:=P) u t ty e i (Tabs.sl_spec ht) hi b nn cap cur.toArray hb ad m c' news hnl hcy (fun v hv => zc5 (List.all_eq_true.1 h1 v hv)) hroom (by rw [hnl]; simpa using hcl)
 rw [hnl] at hrun0
 simp only [List.append_assoc] at hrun0
 rw [hr] at hrun0
 have hrun:(execOp a.eval ⟨some d, .call ⟨.builtin .append, #[x, y], #[t, t]⟩, ty, pos, aft, g⟩).run P u = .ok (.value (.slice (some ⟨b, 0, none⟩) (nn + m) cap)) (u.setRow b cur'.toArray):=by
  simp only [execOp, resolve, invoke, builtin, Sem.run_bind, Sem.run_pure, Result.andThen_ok, List.map_toArray, List.map_cons, List.map_nil, hxe, hye, hrun0]
 rw [hrun]
 simp only [Upon]
 have hbm:=hM b ((hC b).2 rfl)
 have h2:=hh.usePut (d:=q) (a':=a) (r':=zal b cur' e) (C:=fun k => k = b) hk' (zbn hh.sub hb ((hC b).2 rfl) hbm.2.1 _) rfl rfl (fun _ _ => rfl) ⟨setRow_heap u b cur.toArray cur'.toArray e (0, 0) hb, fun _ => Iff.rfl⟩ (fun k hk => by
  subst hk; exact ⟨.inl ((hC k).2 rfl), by rw [setRow_size]; exact hbm.1, hbm.2.1⟩)
 rw [zbe] at h2
 exact ⟨H, _, h2.put (k:=.is _) (zk hn) trivial rfl⟩
theorem zu3 (L:Tabs P) (q:Nat) {r:GR} {r':Res} {f:Nat} {args:Array Operand} {at_:Array TypeId} {cap:List Value} {fo:Operand}
  (hn:Nat.blt d n = true) (hg:gK ops κ ⟨some d, .call { callee:=.value fo, args:=args, argTypes:=at_ }, ty, pos, aft, g⟩ = some true)
  (hf:evK κ fo = some (.func (.func f) #[] cap.toArray)) (hfn:L.fn f = some ()) (hq:κ q = some (.own r.res))
  (h:∀ u H C, H.Le (hp u) → B.Le H → r.P H u C → (∀ k, C k → k < u.heap.size ∧ H k = none) → Args κ H args.toList [] (fun vs => RetT P f (vs ++ cap) u H C r')) :
  StepOK2 P F B n ops O κ ⟨some d, .call { callee:=.value fo, args:=args, argTypes:=at_ }, ty, pos, aft, g⟩ q zd5 d (.own r'):=by
 rintro κ' a u hlk hks ⟨H, fp, hh⟩
 unfold After
 rw [if_pos (zaf hh hlk hg)]
 have hk':κ' q = some (.own r.res):=hks.trans hq
 obtain ⟨hown, hM⟩:=hh.slot q _ hk'
 have e2:=hh.env hlk
 have hfe:a.eval fo = .func (.func f) #[] cap.toArray:=e2.is_ fo _ (by simp [Op.operands, Call.operands]) hf
 have hc:=Args.use e2 args.toList [] (fun x hx => by simp [Op.operands, Call.operands] at hx ⊢; exact .inr hx) (h u H (fp q) hh.sub hh.base hown fun k hk => ⟨(hM k hk).1, (hM k hk).2.1⟩)
 simp only [List.reverse_nil, List.nil_append] at hc
 rw [zcv L rfl hfe hfn]
 simp only [Upon]
 refine Calls.mono hc fun e' u' hp => ?_
 obtain ⟨v, rfl, H', g', C', hv, hC'⟩:=hp
 exact ⟨v, rfl, H', _, hh.usePut (d:=d) (a':=a.put (some d) v) hk' g' (by simp [Act.put]) rfl (fun t ht => zam ht) (by rw [zaq (by rw [hh.size]; exact zk hn)]; exact hv) hC'⟩
end
end Go.V
set_option maxRecDepth 20000
namespace Go.V.L10
open Go.Proofs Go.RowKit Go.V Go.V.L2 Go.V.L8 Go.V.L6
theorem zwy {R:List (Option (List U))} {es:Ent} (hm:MapOK es R) {out:List Int} (hp:out.Perm (es.map Prod.fst)):(Go.Sort.sort So.lt out.toArray).toList = za8 R:=by
 have h1:(Go.Sort.sort So.lt out.toArray).toList = out.mergeSort (fun x y => decide (x ≤ y)):=Go.Sort.sortInt out
 rw [h1]
 have hperm:=List.mergeSort_perm out (fun x y => decide (x ≤ y))
 have hnd:(out.mergeSort (fun x y => decide (x ≤ y))).Nodup:=(hperm.trans hp).nodup_iff.2 hm.nd
 have hs:(out.mergeSort (fun x y => decide (x ≤ y))).Pairwise fun a b => decide (a ≤ b) = true:=List.pairwise_mergeSort (le:=fun x y:Int => decide (x ≤ y)) (fun a b c h1 h2 => by simp at h1 h2 ⊢; omega) (fun a b => by simp; omega) out
 refine ze3 zci ?_ (zjd R) fun z => ?_
 ·refine (List.Pairwise.and hs hnd).imp ?_
  rintro a b ⟨h2, h3⟩
  have h4:a ≤ b:=by simpa using h2
  have h5:a ≠ b:=h3
  exact zyf.2 (by omega)
 ·rw [(hperm.trans hp).mem_iff, hm.mem]
theorem zls {α:Type}:∀ {l:List α} {j:Nat} {x:α}, l[j]? = some x → (x :: l.eraseIdx j).Perm l
 | [], _, _, h => by cases h
 | y :: l, 0, x, h => by cases h; exact List.Perm.refl _
 | y :: l, j + 1, x, h => by
  have:=zls (l:=l) (j:=j) (x:=x) (by simpa using h)
  exact (List.Perm.swap y x _).trans (this.cons y)
theorem zvi {left:Ent} {j:Nat} {p:Int × (List U × Value)} (h:left[j]? = some p) (out:List Int):(out ++ [p.1] ++ (left.eraseIdx j).map Prod.fst).Perm (out ++ left.map Prod.fst):=by
 have h1:(p :: left.eraseIdx j).Perm left:=zls h
 rw [List.append_assoc]
 refine List.Perm.append_left out ?_
 simpa using h1.map Prod.fst
attribute [local irreducible] V N X VO Par StepOK Has Ret RetL RetO RetT zb8 zdn RetY Src
abbrev zyv (R:List (Option (List U))):Res:=SlE zin 1 (za8 R).length ((za8 R).map (Value.int .u64))
set_option maxHeartbeats 2000000 in
set_option maxRecDepth 10000 in
theorem ziz {R:List (Option (List U))} {b m t:Nat} {s:Value} {es:Ent} (hm:MapOK es R) (hn:R.length ≠ 0) (hz:es.length ≤ 100000) {w:World} {B:Heap} {C:Nat → Prop} (hB:B.Le (hp w)) (hr:(StO b R.length m s t es).P B w C) (hC:∀ k, C k → k < w.heap.size ∧ B k = none) :
  RetT Tryz.prog 12 [.pointer (some ⟨b, 0, none⟩)] w B C (zf6 (zyv R) (StO b R.length m s t es).res):=by
 have hlen:=hm.len
 rw [show zyv R = SlE zin 1 es.length ((za8 R).map (Value.int .u64)) by rw [hlen]]
 unfold RetT
 refine zar 900 (StO b R.length m s t es) Tryz.func12 rfl Tryz.ntmps12 (Nat.le_of_ble_eq_true rfl) hB hr hC ?_
 rw [zfm]
 refine zf4 900 901 rfl (zaw _) ?_
 refine Z256 ?_; refine yr (zay L 900 (Φ:=fun H => H b = some (.cells (stc R.length m s t).toArray tyS)) (c:=.bool false) rfl rfl (zk rfl) rfl rfl rfl rfl rfl zj7 (fun u H hH hle hb => zcw hn hb hH)) ?_; refine Z162 ?_; refine Z173 ?_; refine Z262 ?_; refine yr (zph (q:=901) (vc:=vcE) mpS rfl rfl rfl rfl rfl) ?_; refine z7 (zuw L es.length rfl rfl rfl zx3 rfl rfl rfl (by omega) (by unfold maxLen; omega)) rfl ?_; refine qn (yo (.inr rfl) rfl rfl rfl rfl) ?_; refine Z191 ?_
 refine zyo 3 902 rfl fun b3 rest0 _ _ hcm hcl0 => ?_
 refine Z161 ?_; refine Z262 ?_; refine qn (zus (q:=901) (vc:=vcE) mpS rfl rfl rfl rfl) ?_; refine Z254 ?_
 refine zak (fun T:(List Int × List Value) × Ent => [(3, .is (.slice (some ⟨b3, 0, none⟩) T.1.1.length es.length)), (17, .own (zys m .u64 vcE es T.2)), (900, .own (zal b (stc R.length m s t) tyS)), (902, .own (zal b3 (T.1.1.map (Value.int .u64) ++ T.1.2) zin))])
  (fun T => (T.1.1 ++ T.2.map Prod.fst).Perm (es.map Prod.fst) ∧ (T.1.1.map (Value.int .u64) ++ T.1.2).length = es.length * 1) (fun T => T.2.length) (([], rest0), es) ⟨List.Perm.refl _, hcl0⟩ ⟨rfl, rfl, rfl, rfl, trivial⟩ ?_
 rintro ⟨⟨out, rest⟩, left⟩ ⟨hp, hcl⟩
 dsimp only at hp hcl ⊢
 have hpl:=hp.length_eq
 rw [List.length_append, List.length_map, List.length_map] at hpl
 by_cases hl:left = []
 ·subst hl
  rw [List.map_nil, List.append_nil] at hp
  have hol:out.length = es.length:=by simpa using hpl
  have hr0:rest = []:=List.eq_nil_of_length_eq_zero (by rw [List.length_append, List.length_map] at hcl; omega)
  subst hr0
  rw [hol]
  have hsk:=zwy hm hp
  refine zh ?_; refine Z37 ?_; refine z7 (zut rfl rfl rfl rfl rfl) rfl ?_; refine Z13 ?_; refine Z269 ?_; refine zh ?_
  refine z3s 17 901 rfl ?_
  refine Z228 ?_; refine qn (za1 L 902 (zab b3 ((za8 R).map (Value.int .u64) ++ []) So.tyU) (r:=zab b3 (out.map (Value.int .u64) ++ []) So.tyU) rfl rfl rfl rfl rfl (fun u H C hH _ hr hC => by have h:=So.sortU_ret (d:=out.toArray) (rest:=[]) (b:=b3) (m:=es.length) (cap:=es.length) (by simpa using hol) hz hH hr hC; unfold uC at h; rw [hsk] at h; exact h)) ?_; refine Z159 ?_
  rw [za2, show (za8 R).map (Value.int .u64) ++ [] = (za8 R).map (Value.int .u64) from List.append_nil _]
  refine zzp (s:=1) 3 902 rfl rfl (by rw [List.length_map, hlen, Nat.mul_one]) (by unfold maxLen; omega) ?_
  refine Z60 ?_; refine qn (yo (.inl rfl) rfl rfl rfl rfl) ?_; refine qn (yo (.inr rfl) rfl rfl rfl rfl) ?_; refine Z138 ?_
  refine zb3 900 901 rfl rfl (zaw _) ?_
  refine zb3 2 900 rfl rfl (zaw (StO b R.length m s t es)) ?_
  exact zks rfl (fun _ _ h => h) Since.refl rfl
 ·have hll:0 < left.length:=List.length_pos_iff.2 hl
  have hroom:out.length + 1 ≤ es.length:=by omega
  have hrl:0 < rest.length:=by rw [List.length_append, List.length_map] at hcl; omega
  have hcl2:out.length * 1 + 1 * 1 ≤ (out.map (Value.int .u64) ++ rest).length:=by rw [hcl]; omega
  have hrr:∀ k:Int, (out.map (Value.int .u64) ++ rest).take (out.length * 1) ++ ([Value.int .u64 k] ++ (out.map (Value.int .u64) ++ rest).drop (out.length * 1 + 1 * 1)) = (out ++ [k]).map (Value.int .u64) ++ rest.drop 1:=fun k => by
   have e1:(out.map (Value.int .u64)).length = out.length * 1:=by simp
   rw [← e1, List.take_append, List.take_of_length_le (Nat.le_refl _), Nat.sub_self, List.take_zero, List.append_nil, List.drop_append, List.drop_eq_nil_of_le (by omega), List.nil_append, show (out.map (Value.int .u64)).length + 1 * 1 - (out.map (Value.int .u64)).length = 1 by omega]
   simp
  refine zh ?_; refine Z37 ?_; refine zwo rfl rfl hl rfl rfl rfl (fun j p hjp => ?_); refine Z13 ?_; refine Z215 ?_; refine Z230 ?_; refine Z43 ?_; refine z7 (zuz rfl rfl rfl) rfl ?_; refine Z13 ?_; refine Z139 ?_; refine Z328 ?_; refine Z35 ?_; refine qn (zpi L (q:=902) rfl rfl rfl rfl (zh5 rfl) rfl zx3 (by omega) rfl hroom hcl2 rfl (hrr _)) ?_; refine Z243 ?_
  refine z1i 17 (zys m .u64 vcE es (left.eraseIdx j)) rfl z15 ?_
  exact yi (x:=((out, rest), left)) ((out ++ [p.1], rest.drop 1), left.eraseIdx j) ⟨(zvi hjp out).trans hp, by
   dsimp only
   rw [List.length_append, List.length_map, List.length_append, List.length_drop]
   rw [List.length_append, List.length_map] at hcl
   simp only [List.length_cons, List.length_nil]
   omega⟩ (by dsimp only; rw [List.length_eraseIdx_of_lt (get_lt hjp)]; omega) ⟨by rw [List.length_append]; rfl, rfl, rfl, rfl, trivial⟩
end Go.V.L10
set_option maxRecDepth 20000
namespace Go.V
open Go.RowKit
section
variable {P:Program} {F:Fr} {B:Heap} {O:Boxes} {n:Nat} {ops:Array Oper} {κ:Kap} {d:Nat} {ty:TypeId} {pos:String} {aft:Array Edge} {g:Option (Nat × Bool)} {Q:Exit → Act → World → Prop}
theorem zp7 {κ:Kap} {q:Nat} {k:Kn} (h:κ q = some k):upd κ q k = κ:=by
 funext t
 by_cases e:t = q
 ·subst e; rw [zad]; exact h.symm
 ·rw [zac _ _ e]
theorem zb2 (L:Tabs P) (q:Nat) (φ:Value → Heap → Prop) {r:GR} {f:Nat} {args:Array Operand} {at_:Array TypeId} {cap:List Value} {fo:Operand}
  (hn:Nat.blt d n = true) (hg:gK ops κ ⟨some d, .call { callee:=.value fo, args:=args, argTypes:=at_ }, ty, pos, aft, g⟩ = some true)
  (hf:evK κ fo = some (.func (.func f) #[] cap.toArray)) (hfn:L.fn f = some ()) (hq:κ q = some (.own r.res)) (hm:Kn.mono (.sat φ))
  (h:∀ u H C, H.Le (hp u) → B.Le H → r.P H u C → (∀ k, C k → k < u.heap.size ∧ H k = none) → Args κ H args.toList [] (fun vs => RetY P f (vs ++ cap) u H C r φ)) :
  zdm P F B n ops O κ ⟨some d, .call { callee:=.value fo, args:=args, argTypes:=at_ }, ty, pos, aft, g⟩ q d (.sat φ):=by
 rintro κ' a u hlk hks ⟨H, fp, hh⟩
 unfold After
 rw [if_pos (zaf hh hlk hg)]
 have hk':κ' q = some (.own r.res):=hks.trans hq
 obtain ⟨hown, hM⟩:=hh.slot q _ hk'
 have e2:=hh.env hlk
 have hfe:a.eval fo = .func (.func f) #[] cap.toArray:=e2.is_ fo _ (by simp [Op.operands, Call.operands]) hf
 have hc:=Args.use e2 args.toList [] (fun x hx => by simp [Op.operands, Call.operands] at hx ⊢; exact .inr hx) (h u H (fp q) hh.sub hh.base hown fun k hk => ⟨(hM k hk).1, (hM k hk).2.1⟩)
 simp only [List.reverse_nil, List.nil_append] at hc
 rw [zcv L rfl hfe hfn]
 simp only [Upon]
 refine Calls.mono hc fun e' u' hp => ?_
 obtain ⟨x, rfl, H', g', hx, C', hv, hC'⟩:=hp
 have h2:=hh.usePut (d:=q) (a':=a) (r':=r.res) hk' g' rfl rfl (fun _ _ => rfl) hv hC'
 rw [zbe, zp7 hk'] at h2
 exact ⟨x, rfl, H', _, h2.put (k:=.sat φ) (zk hn) hm hx⟩
theorem zft (L:Tabs P) (q:Nat) (v:Value) {r:GR} {f:Nat} {args:Array Operand} {at_:Array TypeId} {cap:List Value} {fo:Operand}
  (hn:Nat.blt d n = true) (hg:gK ops κ ⟨some d, .call { callee:=.value fo, args:=args, argTypes:=at_ }, ty, pos, aft, g⟩ = some true)
  (hf:evK κ fo = some (.func (.func f) #[] cap.toArray)) (hfn:L.fn f = some ()) (hq:κ q = some (.own r.res))
  (h:∀ u H C, H.Le (hp u) → B.Le H → r.P H u C → (∀ k, C k → k < u.heap.size ∧ H k = none) → Args κ H args.toList [] (fun vs => RetY P f (vs ++ cap) u H C r (fun x _ => x = v))) :
  zdm P F B n ops O κ ⟨some d, .call { callee:=.value fo, args:=args, argTypes:=at_ }, ty, pos, aft, g⟩ q d (.is v):=by
 rintro κ' a u hlk hks ⟨H, fp, hh⟩
 unfold After
 rw [if_pos (zaf hh hlk hg)]
 have hk':κ' q = some (.own r.res):=hks.trans hq
 obtain ⟨hown, hM⟩:=hh.slot q _ hk'
 have e2:=hh.env hlk
 have hfe:a.eval fo = .func (.func f) #[] cap.toArray:=e2.is_ fo _ (by simp [Op.operands, Call.operands]) hf
 have hc:=Args.use e2 args.toList [] (fun x hx => by simp [Op.operands, Call.operands] at hx ⊢; exact .inr hx) (h u H (fp q) hh.sub hh.base hown fun k hk => ⟨(hM k hk).1, (hM k hk).2.1⟩)
 simp only [List.reverse_nil, List.nil_append] at hc
 rw [zcv L rfl hfe hfn]
 simp only [Upon]
 refine Calls.mono hc fun e' u' hp => ?_
 obtain ⟨x, rfl, H', g', hx, C', hv, hC'⟩:=hp
 have h2:=hh.usePut (d:=q) (a':=a) (r':=r.res) hk' g' rfl rfl (fun _ _ => rfl) hv hC'
 rw [zbe, zp7 hk'] at h2
 exact ⟨x, rfl, H', _, h2.put (k:=.is v) (zk hn) trivial hx⟩
theorem zux (L:Tabs P) {x:Operand} {q b:Nat} {t t':TypeId} {s off:Nat} {cs vs:List Value} {r:Res} (hx:evK κ x = some (.pointer (some ⟨b, off, none⟩))) (hq:κ q = some (.own r)) (hcell:∀ v H u C, r.P v H u C → u.heap[b]? = some (.cells cs.toArray t')) (hn:Nat.blt d n = true) (hg:gK ops κ ⟨some d, .load t x, ty, pos, aft, g⟩ = some true)
  (hl:L.ld t = some (true, s)) (hlen:vs.length = s) (hc:∃ r, cs.drop off = vs ++ r):zdm P F B n ops O κ ⟨some d, .load t x, ty, pos, aft, g⟩ q d (.is (.agg vs.toArray)):=by
 rintro κ' a u hlk hqk ⟨H, fp, hh⟩
 unfold After
 rw [if_pos (zaf hh hlk hg)]
 have e:=hh.env hlk
 have h1:=e.is_ x _ (by simp [Op.operands]) hx
 obtain ⟨hown, hM⟩:=hh.slot q _ (hqk.trans hq)
 have h2:=hcell _ _ _ _ hown
 obtain ⟨r, hc⟩:=hc
 have hrun:(execOp a.eval ⟨some d, .load t x, ty, pos, aft, g⟩).run P u = .ok (.value (.agg vs.toArray)) u:=by
  simp only [execOp, h1, Instr.loadAt, Instr.sureAddr, Sem.run_bind, Sem.run_pure, Result.andThen_ok]
  rw [zb1 (Tabs.ld_spec hl) u _ vs hlen (fun j v hj => by
   have h3:cs[off + j]? = some v:=by
    have:=congrArg (·[j]?) hc
    simp only [List.getElem?_drop] at this
    rw [this, List.getElem?_append_left (by
     rcases Nat.lt_or_ge j vs.length with h | h
     ·exact h
     ·rw [List.getElem?_eq_none h] at hj; cases hj)]
    exact hj
   show u.cell? (Addr.add ⟨b, off, none⟩ j) = some v
   have:Addr.add ⟨b, off, none⟩ j = ⟨b, off + j, none⟩:=by simp [Addr.add]
   rw [this, za3 h2]; simpa using h3)]
  rfl
 rw [hrun]
 simp only [Upon]
 exact ⟨H, fp, hh.put (k:=.is (.agg vs.toArray)) (zk hn) trivial rfl⟩
theorem zwa {b:Nat} {cs:List Value} {ty:TypeId} {r2:Res}:∀ v H u C, (zf6 (zal b cs ty) r2).P v H u C → u.heap[b]? = some (.cells cs.toArray ty):=fun _ _ _ _ ⟨_, _, h, _⟩ => h.1
theorem zvf {b:Nat} {cs:List Value} {ty:TypeId} {r2:Res}:∀ v H u C, (zf6 (zal b cs ty) r2).P v H u C → joinH H u C b = some (.cells cs.toArray ty):=fun _ _ _ _ ⟨_, _, ⟨hb, hC⟩, _, h3, _⟩ => (zg7 ((h3 b).2 (.inl ((hC b).2 rfl)))).trans hb
end
theorem RetT.pubY {P:Program} {f:FuncId} {args:List Value} {w:World} {B:Heap} {C:Nat → Prop} {r:GR} {r1:Res} {φ:Value → Heap → Prop} (h:RetT P f args w B C (zf6 r1 r.res)) (hl:z5c r1 φ):RetY P f args w B C r φ :=
 Calls.mono h fun _ u ⟨v, he, H, g, C', ⟨C1, C2, h1, h2, h3, h4⟩, h5⟩ => by
  have hs:=zg6 (u:=u) (C:=C1) g.sub
  have hle:=zmw (u:=u) fun k hk => (h5 k ((h3 k).2 (.inl hk))).2.2
  refine ⟨v, he, joinH H u C1, ⟨g.keep, hs, fun k x hx => hle _ _ (g.le _ _ hx), fun k hk hn => (zd8 fun hc => ?_).trans (g.fresh k hk hn)⟩, hl _ _ _ _ h1, C2, r.st h2 hle hs (On.refl u) (fun _ _ => rfl), fun k hk => ⟨(h5 k ((h3 k).2 (.inr hk))).1, (h5 k ((h3 k).2 (.inr hk))).2.1, (zd8 fun hc => h4 k hc hk).trans (h5 k ((h3 k).2 (.inr hk))).2.2⟩⟩
  rcases (h5 k ((h3 k).2 (.inl hc))).1 with h6 | h6
  ·exact hn h6
  ·omega
theorem RetY.ex {P:Program} {f:FuncId} {args:List Value} {w:World} {B:Heap} {C:Nat → Prop} {X:Type} {r:X → GR} {φ:X → Heap → Prop} {hφ:zgx φ} {ψ:Value → Heap → Prop} (hr:(GEx r φ hφ).P B w C) (h:∀ x, φ x B → (r x).P B w C → RetY P f args w B C (r x) ψ):RetY P f args w B C (GEx r φ hφ) ψ:=by
 obtain ⟨x, h1, h2⟩:=hr
 exact RetL.mono (h x h1 h2) fun v H u hg ⟨h3, C', h4, h5⟩ => ⟨h3, C', ⟨x, hφ _ _ _ h1 hg.le, h4⟩, h5⟩
end Go.V
set_option maxRecDepth 20000
namespace Go.V
open Go.Proofs Go.RowKit
section
variable {α β:Type} [DecidableEq α] [DecidableEq β] {k:α → β} {c:β → β → Int}
def Eqv (k:α → β) (S S':List α):Prop:=∀ t, S'.filter (fun x => decide (k x = t)) = S.filter (fun x => decide (k x = t))
def Srt (k:α → β) (c:β → β → Int) (l:List α):Prop:=l.Pairwise fun x y => ¬ c (k y) (k x) < 0
def Stb (k:α → β) (c:β → β → Int) (S S':List α):Prop:=Srt k c S' ∧ Eqv k S S'
omit [DecidableEq α] in
theorem Eqv.refl (S:List α):Eqv k S S:=fun _ => rfl
omit [DecidableEq α] in
theorem Eqv.trans {A B C:List α} (h1:Eqv k A B) (h2:Eqv k B C):Eqv k A C:=fun t => (h2 t).trans (h1 t)
omit [DecidableEq α] in
theorem Eqv.app {A A' B B':List α} (h1:Eqv k A A') (h2:Eqv k B B'):Eqv k (A ++ B) (A' ++ B'):=fun t => by rw [List.filter_append, List.filter_append, h1 t, h2 t]
omit [DecidableEq α] in
theorem Eqv.swap {A B:List α} (h:∀ a ∈ A, ∀ b ∈ B, k a ≠ k b):Eqv k (A ++ B) (B ++ A):=fun t => by
 rw [List.filter_append, List.filter_append]
 by_cases ha:∃ a ∈ A, k a = t
 ·obtain ⟨a, ha, rfl⟩:=ha
  have:B.filter (fun x => decide (k x = k a)) = []:=List.filter_eq_nil_iff.2 fun b hb e => h a ha b hb (by simpa using e:k b = k a).symm
  rw [this, List.append_nil, List.nil_append]
 ·have:A.filter (fun x => decide (k x = t)) = []:=List.filter_eq_nil_iff.2 fun a h1 e => ha ⟨a, h1, by simpa using e⟩
  rw [this, List.append_nil, List.nil_append]
theorem Eqv.count {S S':List α} (h:Eqv k S S') (x:α):S'.count x = S.count x:=by
 have e:∀ l:List α, (l.filter fun y => decide (k y = k x)).count x = l.count x:=fun l => List.count_filter (by simp)
 rw [← e S', ← e S, h (k x)]
theorem Eqv.perm {S S':List α} (h:Eqv k S S'):S'.Perm S:=List.perm_iff_count.2 fun x => h.count x
theorem Eqv.length {S S':List α} (h:Eqv k S S'):S'.length = S.length:=h.perm.length_eq
theorem Eqv.mem {S S':List α} (h:Eqv k S S') {x:α}:x ∈ S' ↔ x ∈ S:=h.perm.mem_iff
omit [DecidableEq α] [DecidableEq β] in
theorem zdy {A B:List α}:Srt k c (A ++ B) ↔ Srt k c A ∧ Srt k c B ∧ ∀ a ∈ A, ∀ b ∈ B, ¬ c (k b) (k a) < 0:=List.pairwise_append
omit [DecidableEq α] [DecidableEq β] in
theorem zve (ho:Ord3 c) {a b:β} (h:c a b < 0):b ≠ a:=fun e => by subst e; exact ho.irr _ h
omit [DecidableEq α] in
theorem zo7 (ho:Ord3 c) {A B:List α} {x:α} (hs:Srt k c (A ++ B)) (ha:∀ a ∈ A, ¬ c (k x) (k a) < 0) (hb:∀ b ∈ B, c (k x) (k b) < 0):Stb k c (A ++ B ++ [x]) (A ++ x :: B):=by
 obtain ⟨s1, s2, s3⟩:=zdy.1 hs
 refine ⟨zdy.2 ⟨s1, List.pairwise_cons.2 ⟨fun b h => ho.asym (hb b h), s2⟩, fun a h b hm => ?_⟩, ?_⟩
 ·rcases List.mem_cons.1 hm with rfl | hm
  ·exact ha a h
  ·exact s3 a h b hm
 ·rw [List.append_assoc]
  exact (Eqv.refl A).app (Eqv.swap (A:=B) (B:=[x]) fun b h y hy => by
   simp at hy; subst hy
   exact zve ho (hb b h))
omit [DecidableEq α] in
theorem zz6 (ho:Ord3 c) {A B:List α} {x:α} (hs:Srt k c (A ++ B)) (ha:∀ a ∈ A, c (k a) (k x) < 0) (hb:∀ b ∈ B, ¬ c (k b) (k x) < 0):Stb k c (x :: (A ++ B)) (A ++ x :: B):=by
 obtain ⟨s1, s2, s3⟩:=zdy.1 hs
 refine ⟨zdy.2 ⟨s1, List.pairwise_cons.2 ⟨hb, s2⟩, fun a h b hm => ?_⟩, ?_⟩
 ·rcases List.mem_cons.1 hm with rfl | hm
  ·exact ho.asym (ha a h)
  ·exact s3 a h b hm
 ·have e:A ++ x :: B = A ++ [x] ++ B:=by simp
  have e2:x :: (A ++ B) = [x] ++ A ++ B:=by simp
  rw [e, e2]
  exact (Eqv.swap (A:=[x]) (B:=A) fun y hy a h => by
   simp at hy; subst hy
   exact zve ho (ha a h)).app (Eqv.refl B)
theorem zwt (ho:Ord3 c) {A1 A2 B1 B2 S1 S2:List α} (hA:Srt k c (A1 ++ A2)) (hB:Srt k c (B1 ++ B2)) (h12:∀ a ∈ A2, ∀ b ∈ B1, c (k b) (k a) < 0) (h21:∀ a ∈ A1, ∀ b ∈ B2, ¬ c (k b) (k a) < 0)
  (h1:Stb k c (A1 ++ B1) S1) (h2:Stb k c (A2 ++ B2) S2):Stb k c (A1 ++ A2 ++ (B1 ++ B2)) (S1 ++ S2):=by
 obtain ⟨a1, a2, a3⟩:=zdy.1 hA
 obtain ⟨b1, b2, b3⟩:=zdy.1 hB
 refine ⟨zdy.2 ⟨h1.1, h2.1, fun x hx y hy => ?_⟩, ?_⟩
 ·rcases List.mem_append.1 (h1.2.mem.1 hx) with hx | hx <;> rcases List.mem_append.1 (h2.2.mem.1 hy) with hy | hy
  ·exact a3 x hx y hy
  ·exact h21 x hx y hy
  ·exact ho.asym (h12 y hy x hx)
  ·exact b3 x hx y hy
 ·refine Eqv.trans ?_ (h1.2.app h2.2)
  have e1:A1 ++ A2 ++ (B1 ++ B2) = A1 ++ (A2 ++ B1) ++ B2:=by simp
  have e2:A1 ++ B1 ++ (A2 ++ B2) = A1 ++ (B1 ++ A2) ++ B2:=by simp
  rw [e1, e2]
  exact ((Eqv.refl A1).app (Eqv.swap fun a ha b hb => zve ho (h12 a ha b hb))).app (Eqv.refl B2)
omit [DecidableEq α] [DecidableEq β] in
theorem zfc (ho:Ord3 c) {l:List α} (h:Srt k c l) {i j:Nat} {x y:α} (hi:l[i]? = some x) (hj:l[j]? = some y) (hij:i ≤ j):¬ c (k y) (k x) < 0:=by
 rcases Nat.lt_or_ge i j with h1 | h1
 ·obtain ⟨hi', rfl⟩:=List.getElem?_eq_some_iff.1 hi
  obtain ⟨hj', rfl⟩:=List.getElem?_eq_some_iff.1 hj
  exact List.pairwise_iff_getElem.1 h i j hi' hj' h1
 ·have:i = j:=by omega
  subst this
  rw [hi] at hj; cases hj
  exact ho.irr _
end
end Go.V
set_option maxRecDepth 20000
namespace Go.V
open Go.Proofs Go.RowKit
section
variable {α β:Type} [DecidableEq α] [DecidableEq β] {k:α → β} {c:β → β → Int}
theorem zqe (ho:Ord3 c):∀ {S S':List α}, Srt k c S → Srt k c S' → Eqv k S S' → S' = S
 | [], S', _, _, h => List.eq_nil_of_length_eq_zero (by rw [h.length]; rfl)
 | x :: r, [], _, _, h => by have:=h.length; simp at this
 | x :: r, y :: r', h1, h2, h => by
  have hxy:k x = k y:=by
   have hx:x ∈ y :: r':=h.mem.2 (List.mem_cons_self ..)
   have hy:y ∈ x :: r:=h.mem.1 (List.mem_cons_self ..)
   have e1:¬ c (k x) (k y) < 0:=by
    rcases List.mem_cons.1 hx with e | hx
    ·rw [e]; exact ho.irr _
    ·exact (List.pairwise_cons.1 h2).1 x hx
   have e2:¬ c (k y) (k x) < 0:=by
    rcases List.mem_cons.1 hy with e | hy
    ·rw [e]; exact ho.irr _
    ·exact (List.pairwise_cons.1 h1).1 y hy
   have:=ho.anti (k x) (k y)
   exact ho.eq _ _ (by omega)
  have hf:=h (k x)
  rw [List.filter_cons_of_pos (by simp [hxy]), List.filter_cons_of_pos (by simp)] at hf
  have hxe:y = x:=(List.cons.inj hf).1
  subst hxe
  have ht:Eqv k r r':=fun t => by
   have:=h t
   by_cases e:k y = t
   ·rw [List.filter_cons_of_pos (by simpa using e), List.filter_cons_of_pos (by simpa using e)] at this
    exact (List.cons.inj this).2
   ·rwa [List.filter_cons_of_neg (by simpa using e), List.filter_cons_of_neg (by simpa using e)] at this
  rw [zqe ho (List.pairwise_cons.1 h1).2 (List.pairwise_cons.1 h2).2 ht]
omit [DecidableEq α] in
theorem Eqv.symm {A B:List α} (h:Eqv k A B):Eqv k B A:=fun t => (h t).symm
theorem zwr (ho:Ord3 c) {l S S':List α} (h:Stb k c l S) (h':Stb k c l S'):S' = S:=zqe ho h.1 h'.1 (h.2.symm.trans h'.2)
def z0y (k:α → β) (c:β → β → Int) (x:α):List α → List α
 | [] => [x]
 | y :: l => if c (k x) (k y) < 0 then x :: y :: l else y :: z0y k c x l
omit [DecidableEq α] [DecidableEq β] in
theorem zlo (ho:Ord3 c) {x:α}:∀ {S:List α}, Srt k c S → ∃ A B, S = A ++ B ∧ z0y k c x S = A ++ x :: B ∧ (∀ a ∈ A, ¬ c (k x) (k a) < 0) ∧ ∀ b ∈ B, c (k x) (k b) < 0
 | [], _ => ⟨[], [], rfl, rfl, fun a h => (by cases h), fun a h => (by cases h)⟩
 | y :: l, h => by
  obtain ⟨h1, h2⟩:=List.pairwise_cons.1 h
  by_cases hxy:c (k x) (k y) < 0
  ·refine ⟨[], y :: l, rfl, if_pos hxy, fun a h => (by cases h), fun b hb => ?_⟩
   rcases List.mem_cons.1 hb with rfl | hb
   ·exact hxy
   ·have h3:=h1 b hb
    have:=ho.anti (k b) (k y)
    by_cases h4:c (k y) (k b) < 0
    ·exact ho.tr hxy h4
    ·rw [← ho.eq (k y) (k b) (by omega)]; exact hxy
  ·obtain ⟨A, B, e1, e2, e3, e4⟩:=zlo ho (x:=x) h2
   refine ⟨y :: A, B, by rw [e1]; rfl, ?_, fun a ha => ?_, e4⟩
   ·rw [z0y, if_neg hxy, e2]; rfl
   ·rcases List.mem_cons.1 ha with rfl | ha
    ·exact hxy
    ·exact e3 a ha
def zku (k:α → β) (c:β → β → Int) (l:List α):List α:=l.foldl (fun S x => z0y k c x S) []
omit [DecidableEq α] [DecidableEq β] in
theorem zz7:Srt k c []:=List.Pairwise.nil
omit [DecidableEq α] in
theorem zws (ho:Ord3 c) {l S:List α} {x:α} (h:Stb k c l S):Stb k c (l ++ [x]) (z0y k c x S):=by
 obtain ⟨A, B, e1, e2, e3, e4⟩:=zlo ho (x:=x) h.1
 have h1:=h.1
 rw [e1] at h1
 have h2:=zo7 ho h1 e3 e4
 rw [e2]
 rw [← e1] at h2
 exact ⟨h2.1, (h.2.app (Eqv.refl [x])).trans h2.2⟩
omit [DecidableEq α] in
theorem zct (ho:Ord3 c) (l:List α):Stb k c l (zku k c l):=by
 suffices ∀ (r l S:List α), Stb k c l S → Stb k c (l ++ r) (r.foldl (fun S x => z0y k c x S) S) by
  have:=this l [] [] ⟨zz7, Eqv.refl _⟩
  exact this
 intro r
 induction r with
 | nil => intro l S h; rw [List.append_nil]; exact h
 | cons x r ih =>
  intro l S h
  have:=ih (l ++ [x]) (z0y k c x S) (zws ho h)
  rw [List.append_assoc] at this
  exact this
theorem zk7 (ho:Ord3 c) {l S:List α} (h:Stb k c l S):S = zku k c l:=zwr ho (zct ho l) h
theorem zqd (ho:Ord3 c) (l:List α):(zku k c l).length = l.length:=(zct (k:=k) ho l).2.length
omit [DecidableEq α] [DecidableEq β] in
theorem zwv:zku k c [] = []:=rfl
theorem zwu (ho:Ord3 c) {l:List α} (h:Srt k c l):zku k c l = l:=(zk7 ho ⟨h, Eqv.refl l⟩).symm
theorem zww (ho:Ord3 c) (X Y:List α):zku k c (zku k c X ++ zku k c Y) = zku k c (X ++ Y) :=
 zk7 ho ⟨(zct ho _).1, (((zct ho X).2.app (zct ho Y).2)).trans (zct ho _).2⟩
theorem z0x (ho:Ord3 c) {X A B:List α} {x:α} (h:A ++ B = zku k c X) (hb:∀ b ∈ B, c (k x) (k b) < 0) (ha:∀ y, A.getLast? = some y → ¬ c (k x) (k y) < 0):A ++ x :: B = zku k c (X ++ [x]):=by
 have hs:=(zct (k:=k) ho X).1
 rw [← h] at hs
 have hA:∀ a ∈ A, ¬ c (k x) (k a) < 0:=fun a ham => by
  rcases List.eq_nil_or_concat A with e | ⟨A', y, rfl⟩
  ·subst e; cases ham
  ·have h1:=ha y (by simp)
   simp only [List.concat_eq_append, List.mem_append, List.mem_singleton] at ham
   rcases ham with ham | rfl
   ·have h2:=(zdy.1 hs).1
    simp only [List.concat_eq_append] at h2
    have h3:=(zdy.1 h2).2.2 a ham y (by simp)
    have e1:=ho.anti (k y) (k a)
    intro h4
    refine h1 ?_
    by_cases h5:c (k a) (k y) < 0
    ·exact ho.tr h4 h5
    ·rw [← ho.eq (k a) (k y) (by omega)]; exact h4
   ·exact h1
 have h1:=zo7 ho hs hA hb
 rw [h] at h1
 exact zk7 ho ⟨h1.1, ((zct (k:=k) ho X).2.app (Eqv.refl [x])).trans h1.2⟩
def chS (k:α → β) (c:β → β → Int) (n:Nat):Nat → List α → List α
 | 0, _ => []
 | f + 1, l => if l = [] then [] else zku k c (l.take n) ++ chS k c n f (l.drop n)
omit [DecidableEq α] [DecidableEq β] in
theorem zf1 (n f:Nat):chS k c n f [] = []:=by cases f <;> simp [chS]
omit [DecidableEq α] [DecidableEq β] in
theorem zrh {n:Nat} (hn:0 < n):∀ {f g:Nat} {l:List α}, l.length ≤ f → l.length ≤ g → chS k c n f l = chS k c n g l
 | 0, g, l, hf, _ => by obtain rfl:l = []:=List.eq_nil_of_length_eq_zero (by omega); rw [zf1, zf1]
 | f + 1, 0, l, _, hg => by obtain rfl:l = []:=List.eq_nil_of_length_eq_zero (by omega); rw [zf1, zf1]
 | f + 1, g + 1, l, hf, hg => by
  by_cases h:l = []
  ·subst h; rw [zf1, zf1]
  ·rw [chS, chS, if_neg h, if_neg h]
   have:0 < l.length:=List.length_pos_iff.2 h
   rw [zrh hn (f:=f) (g:=g) (by rw [List.length_drop]; omega) (by rw [List.length_drop]; omega)]
def chL (k:α → β) (c:β → β → Int) (n:Nat) (l:List α):List α:=chS k c n l.length l
omit [DecidableEq α] [DecidableEq β] in
theorem zm4 {n:Nat} (hn:0 < n) (l:List α):chL k c n l = zku k c (l.take n) ++ chL k c n (l.drop n):=by
 unfold chL
 by_cases h:l = []
 ·subst h; simp [zf1, zwv]
 ·have:0 < l.length:=List.length_pos_iff.2 h
  obtain ⟨m, hm⟩:∃ m, l.length = m + 1:=⟨l.length - 1, by omega⟩
  rw [hm, chS, if_neg h, zrh hn (f:=m) (g:=(l.drop n).length) (by rw [List.length_drop]; omega) (Nat.le_refl _)]
omit [DecidableEq α] [DecidableEq β] in
theorem zpx (n:Nat):chL k c n [] = []:=zf1 _ _
omit [DecidableEq α] [DecidableEq β] in
theorem z08 {n:Nat} (hn:0 < n) {l:List α} (h:l.length ≤ n):chL k c n l = zku k c l:=by
 rw [zm4 hn, List.take_of_length_le h, List.drop_eq_nil_of_le h, zpx, List.append_nil]
theorem zv4 (ho:Ord3 c) {n:Nat} (hn:0 < n):∀ (m:Nat) {l:List α}, l.length ≤ m → (chL k c n l).length = l.length
 | 0, l, h => by obtain rfl:l = []:=List.eq_nil_of_length_eq_zero (by omega); rw [zpx]
 | m + 1, l, h => by
  by_cases h0:l = []
  ·subst h0; rw [zpx]
  ·have:0 < l.length:=List.length_pos_iff.2 h0
   rw [zm4 hn, List.length_append, zqd ho, zv4 ho hn m (by rw [List.length_drop]; omega), ← List.length_append, List.take_append_drop]
end
end Go.V
set_option maxRecDepth 20000
namespace Go.V.L8
open Go.Proofs Go.RowKit Go.V Go.V.L2 Go.V.L3 Go.V.L6
theorem zlv (l:List CH):(l.flatMap ccs).length = l.length * 7:=zch zv5 l
theorem zx7 (l:List CH):(l.flatMap ccs).all zbp = true:=by
 induction l with
 | nil => rfl
 | cons x l ih => rw [List.flatMap_cons, List.all_append, ih]; rfl
abbrev ch7 (c:CH):List Value:=[.string c.1.1.1.1, .string c.1.1.1.2, .string c.1.1.2, .string c.1.2.1.1, .string c.1.2.1.2, .string c.1.2.2, .bool c.2]
theorem zbz {l:List CH} {rest:List Value} {i:Nat} {t:CH} (h:l[i]? = some t) (off:Nat) (ho:off = i * 7):∃ r, (l.flatMap ccs ++ rest).drop off = ch7 t ++ r:=by
 subst ho
 have h1:((l.flatMap ccs).drop (i * 7)).take 7 = ch7 t:=zik h
 have h2:=get_lt h
 refine ⟨((l.flatMap ccs).drop (i * 7)).drop 7 ++ rest, ?_⟩
 rw [List.drop_append_of_le_length (by rw [zlv]; exact Nat.mul_le_mul_right _ (by omega)), ← List.append_assoc]
 congr 1
 rw [← h1, List.take_append_drop]
theorem zdk {ls:List CH} {rest:List Value} {k:Nat} {z:CH} (h:k < ls.length) (off:Nat) (ho:off = k * 7):(ls.flatMap ccs ++ rest).take off ++ (ch7 z ++ (ls.flatMap ccs ++ rest).drop (off + 7)) = (ls.set k z).flatMap ccs ++ rest:=by
 subst ho
 have e1:ls = ls.take k ++ (ls[k] :: ls.drop (k + 1)):=by rw [List.getElem_cons_drop, List.take_append_drop]
 have hk:(ls.take k).length = k:=by rw [List.length_take]; omega
 have e2:ls.set k z = ls.take k ++ (z :: ls.drop (k + 1)):=by
  conv => lhs; rw [e1]
  rw [List.set_append_right _ _ (by omega), hk, Nat.sub_self]; rfl
 rw [e2]
 generalize ls.take k = A at e1 hk
 generalize ls.drop (k + 1) = D at e1
 generalize ls[k] = y at e1
 subst e1
 have hA:(A.flatMap ccs).length = k * 7:=by rw [zlv, hk]
 simp only [List.flatMap_append, List.flatMap_cons, List.append_assoc]
 rw [List.take_left' hA, show k * 7 + 7 = (A.flatMap ccs).length + 7 by omega, ← List.drop_drop, List.drop_left, show (ccs y ++ (D.flatMap ccs ++ rest)).drop 7 = D.flatMap ccs ++ rest from List.drop_left' rfl]
 rfl
theorem zdl {ls:List CH} {rest:List Value} {k:Nat} (h:k < ls.length) (off:Nat) (ho:off = k * 7):Nat.ble (off + 7) (ls.flatMap ccs ++ rest).length = true:=Nat.ble_eq_true_of_le (by rw [List.length_append, zlv]; omega)
section
variable {α:Type} {A M D:List α} {x y:α}
theorem ziq {i:Nat} (h:A.length = i):(A ++ x :: (M ++ y :: D))[i]? = some x:=by subst h; simp
theorem zio {j:Nat} (h:A.length + 1 + M.length = j):(A ++ x :: (M ++ y :: D))[j]? = some y:=by
 subst h
 have e:A ++ x :: (M ++ y :: D) = (A ++ x :: M) ++ y :: D:=by simp
 rw [e, List.getElem?_append_right (by simp; omega)]
 simp; rw [show A.length + 1 + M.length - (A.length + (M.length + 1)) = 0 by omega]; rfl
theorem zo3 {i j:Nat} (hi:A.length = i) (hj:A.length + 1 + M.length = j):((A ++ x :: (M ++ y :: D)).set i y).set j x = A ++ y :: (M ++ x :: D):=by
 subst hi hj
 have e:(A ++ x :: (M ++ y :: D)).set A.length y = (A ++ y :: M) ++ y :: D:=by simp
 rw [e, List.set_append_right _ _ (by simp; omega)]
 simp; rw [show A.length + 1 + M.length - (A.length + (M.length + 1)) = 0 by omega]; rfl
theorem zqa {i j:Nat} (hi:A.length = i) (hj:A.length + 1 + M.length = j):((A ++ x :: (M ++ y :: D)).set j x).set i y = A ++ y :: (M ++ x :: D):=by
 rw [List.set_comm _ _ (by omega)]; exact zo3 hi hj
end
attribute [local irreducible] V N X VO Par StepOK Has Ret RetL RetO RetT Src
theorem zo6 {P X Q Y R:List CH} {rest:List Value} {b m cap a e n:Nat} (ha:P.length = a) (he:a + X.length + Q.length = e) (hx:X.length = n) (hy:Y.length = n) (hm:(P ++ (X ++ (Q ++ (Y ++ R)))).length = m) (hm1:m ≤ 100000) (fv:Value) {w:World} {B:Heap} {C:Nat → Prop} (hB:B.Le (hp w))
  (hr:(zab b ((P ++ (X ++ (Q ++ (Y ++ R)))).flatMap ccs ++ rest) tyC).P B w C) (hC:∀ k, C k → k < w.heap.size ∧ B k = none) :
  zb8 Tryz.prog 186 [.slice (some ⟨b, 0, none⟩) m cap, .int .i64 a, .int .i64 e, .int .i64 n, fv] w B C (zab b ((P ++ (Y ++ (Q ++ (X ++ R)))).flatMap ccs ++ rest) tyC):=by
 unfold zb8
 refine zar 900 (zab b ((P ++ (X ++ (Q ++ (Y ++ R)))).flatMap ccs ++ rest) tyC) Tryz.func186 rfl Tryz.ntmps186 (Nat.le_of_ble_eq_true rfl) hB hr hC ?_
 rw [za2]
 simp only [List.length_append] at hm
 refine Z146 ?_; refine Z203 ?_
 refine zak (fun i:Nat => [(0, .is (.slice (some ⟨b, 0, none⟩) m cap)), (1, .is (.int .i64 a)), (2, .is (.int .i64 e)), (3, .is (.int .i64 n)), (10, .is (.int .i64 i)), (900, .own (zal b ((P ++ (Y.take i ++ (X.drop i ++ (Q ++ (X.take i ++ (Y.drop i ++ R)))))).flatMap ccs ++ rest) tyC))]) (fun i => i ≤ n) (fun i => n - i) 0 (Nat.zero_le _) ⟨rfl, rfl, rfl, rfl, rfl, by simp only [List.take_zero, List.drop_zero, List.nil_append]; rfl, trivial⟩ ?_
 rintro i hi
 by_cases hlt:i < n
 ·obtain ⟨x, hxi⟩:=zae (l:=X) (show i < X.length by omega)
  obtain ⟨y, hyi⟩:=zae (l:=Y) (show i < Y.length by omega)
  have e0:P ++ (Y.take i ++ (X.drop i ++ (Q ++ (X.take i ++ (Y.drop i ++ R))))) = (P ++ Y.take i) ++ x :: ((X.drop (i + 1) ++ (Q ++ X.take i)) ++ y :: (Y.drop (i + 1) ++ R)):=by
   rw [zfe hxi, zfe hyi]; simp
  have e1:P ++ (Y.take (i + 1) ++ (X.drop (i + 1) ++ (Q ++ (X.take (i + 1) ++ (Y.drop (i + 1) ++ R))))) = (P ++ Y.take i) ++ y :: ((X.drop (i + 1) ++ (Q ++ X.take i)) ++ x :: (Y.drop (i + 1) ++ R)):=by
   rw [List.take_add_one, List.take_add_one, hxi, hyi]; simp
  have l1:(P ++ Y.take i).length = a + i:=by rw [List.length_append, List.length_take]; omega
  have l2:(P ++ Y.take i).length + 1 + (X.drop (i + 1) ++ (Q ++ X.take i)).length = e + i:=by rw [l1, List.length_append, List.length_append, List.length_drop, List.length_take]; omega
  have g1:=ziq (x:=x) (y:=y) (M:=X.drop (i + 1) ++ (Q ++ X.take i)) (D:=Y.drop (i + 1) ++ R) l1
  have g2:=zio (x:=x) (y:=y) (D:=Y.drop (i + 1) ++ R) l2
  have g3:=zo3 (x:=x) (y:=y) (D:=Y.drop (i + 1) ++ R) l1 l2
  rw [e0]
  have hlen:((P ++ Y.take i) ++ x :: ((X.drop (i + 1) ++ (Q ++ X.take i)) ++ y :: (Y.drop (i + 1) ++ R))).length = m:=by rw [← e0]; simp only [List.length_append, List.length_take, List.length_drop]; omega
  generalize (P ++ Y.take i) ++ x :: ((X.drop (i + 1) ++ (Q ++ X.take i)) ++ y :: (Y.drop (i + 1) ++ R)) = K at *
  have h1:=get_lt g1
  have h2:=get_lt g2
  have q1:=zbz (rest:=rest) g1 (0 + (a + i) * 7) (by omega)
  have q2:=zbz (rest:=rest) g2 (0 + (e + i) * 7) (by omega)
  have s1:=zdk (rest:=rest) (z:=y) h1 (0 + (a + i) * 7) (by omega)
  have b1:=zdl (rest:=rest) h1 (0 + (a + i) * 7) (by omega)
  have h3:e + i < (K.set (a + i) y).length:=by rw [List.length_set]; exact h2
  have s2:=zdk (rest:=rest) (z:=x) h3 (0 + (e + i) * 7) (by omega)
  have b2:=zdl (rest:=rest) h3 (0 + (e + i) * 7) (by omega)
  rw [g3, ← e1] at s2
  have a1:IntKind.i64.wrap ((a:Int) + (i:Int)) = ((a + i:Nat):Int):=zaa (by omega) (by omega)
  have a2:IntKind.i64.wrap ((e:Int) + (i:Int)) = ((e + i:Nat):Int):=zaa (by omega) (by omega)
  refine Z140 ?_; refine Z17 ?_; refine Z141 ?_; refine Z177 ?_; refine Z236 ?_; refine qf (id:=3) [(200029, [900]), (200035, [900]), (100036, [900]), (100037, [900])] mixed (by kernel_rfl) ?_; refine Z209 ?_; refine Z209 ?_; refine Z209 ?_; refine z8 (qg L _ rfl rfl rfl rfl rfl rfl rfl (by omega)) rfl ?_; refine qp (zao L (q:=900) (vs:=[_, _, _, _, _, _, _]) rfl rfl rfl rfl rfl rfl q2) rfl rfl ?_; refine Z209 ?_; refine z8 (qg L _ rfl rfl rfl rfl rfl rfl rfl (by omega)) rfl ?_; refine qp (zao L (q:=900) (vs:=[_, _, _, _, _, _, _]) rfl rfl rfl rfl rfl rfl q1) rfl rfl ?_; refine z8 (qg L _ rfl rfl rfl rfl rfl rfl rfl (by omega)) rfl ?_; refine zag (yw L (q:=900) rfl rfl rfl rfl rfl rfl b1 rfl s1) rfl ?_; refine z8 (qg L _ rfl rfl rfl rfl rfl rfl rfl (by omega)) rfl ?_; refine zag (yw L (q:=900) rfl rfl rfl rfl rfl rfl b2 rfl s2) rfl ?_; refine Z282 ?_; refine Z175 ?_; refine Z197 ?_
  exact yi (x:=i) (i + 1) (by omega) (by omega) ⟨rfl, rfl, rfl, rfl, rfl, rfl, trivial⟩
 ·obtain rfl:i = n:=by omega
  have t1:X.take i = X:=List.take_of_length_le (by omega)
  have t2:Y.take i = Y:=List.take_of_length_le (by omega)
  have t3:X.drop i = []:=List.drop_eq_nil_of_le (by omega)
  have t4:Y.drop i = []:=List.drop_eq_nil_of_le (by omega)
  rw [t1, t2, t3, t4]
  simp only [List.nil_append]
  refine Z140 ?_; refine Z17 ?_; refine Z360 ?_; refine Z165 ?_
  exact zbb L 900 (r:=zab b _ tyC) rfl (fun _ _ h => h) Since.refl rfl rfl
end Go.V.L8
set_option maxRecDepth 20000
namespace Go.V.L8
open Go.Proofs Go.RowKit Go.V Go.V.L2 Go.V.L3 Go.V.L6
theorem _root_.Go.V.Z369 {A B:Prop} (h:B) (t:Wr B → A:=by intro h; refine Z140 ?_; refine qf (id:=4) [(200026, [900]), (200031, [900])] mixed (by kernel_rfl) ?_; exact h.h):A:=t ⟨h⟩
theorem _root_.Go.V.Z374 {A B:Prop} (h:B) (t:Wr B → A:=by intro h; refine zh ?_; refine Z43 ?_; exact h.h):A:=t ⟨h⟩
def stC (l:List CH):List CH:=zku (fun c => c.1) zbd l
theorem ze1 (l:List CH):(stC l).length = l.length:=zqd cmpT_ord l
attribute [local irreducible] V N X VO Par StepOK Has Ret RetL RetO RetT zb8 Src
set_option maxHeartbeats 1000000 in
set_option maxRecDepth 20000 in
theorem zz9 {P X Y R:List CH} {rest:List Value} {b m cap a mm e:Nat} (ha:P.length = a) (hmm:a + X.length = mm) (he:mm + Y.length = e) (hx:0 < X.length) (hy:0 < Y.length) (hm:(P ++ (X ++ (Y ++ R))).length = m) (hm1:m ≤ 100000) (fv:Value) {w:World} {B:Heap} {C:Nat → Prop} (hB:B.Le (hp w))
  (hr:(zab b ((P ++ (X ++ (Y ++ R))).flatMap ccs ++ rest) tyC).P B w C) (hC:∀ k, C k → k < w.heap.size ∧ B k = none) :
  zb8 Tryz.prog 183 [.slice (some ⟨b, 0, none⟩) m cap, .int .i64 a, .int .i64 mm, .int .i64 e, fv] w B C (zab b ((P ++ (Y ++ (X ++ R))).flatMap ccs ++ rest) tyC):=by
 unfold zb8
 refine zar 900 (zab b ((P ++ (X ++ (Y ++ R))).flatMap ccs ++ rest) tyC) Tryz.func183 rfl Tryz.ntmps183 (Nat.le_of_ble_eq_true rfl) hB hr hC ?_
 rw [za2]
 simp only [List.length_append] at hm
 have s1:IntKind.i64.wrap ((mm:Int) - (a:Int)) = (X.length:Int):=zaa (by omega) (by omega) |>.trans (by omega)
 have s2:IntKind.i64.wrap ((e:Int) - (mm:Int)) = (Y.length:Int):=zaa (by omega) (by omega) |>.trans (by omega)
 refine Z146 ?_; refine Z212 ?_; refine Z160 ?_; refine Z212 ?_; refine Z144 ?_; refine qk ?_
 refine zak (fun s:(List CH × List CH) × (List CH × List CH) => [(0, .is (.slice (some ⟨b, 0, none⟩) m cap)), (2, .is (.int .i64 mm)), (4, .is fv), (10, .is (.int .i64 s.1.2.length)), (11, .is (.int .i64 s.2.1.length)), (900, .own (zal b ((P ++ (s.1.1 ++ (s.1.2 ++ (s.2.1 ++ (s.2.2 ++ R))))).flatMap ccs ++ rest) tyC))])
  (fun s => a + s.1.1.length + s.1.2.length = mm ∧ mm + s.2.1.length + s.2.2.length = e ∧ 0 < s.1.2.length ∧ 0 < s.2.1.length ∧ s.1.1 ++ (s.2.1 ++ (s.1.2 ++ s.2.2)) = Y ++ X) (fun s => s.1.2.length + s.2.1.length) (([], X), (Y, [])) ⟨hmm, he, hx, hy, by simp⟩ ⟨rfl, rfl, rfl, rfl, rfl, rfl, trivial⟩ ?_
 rintro ⟨⟨D1, X1⟩, ⟨Y1, D2⟩⟩ ⟨h1, h2, h3, h4, h5⟩
 dsimp only at h1 h2 h3 h4 h5 ⊢
 have hs1:IntKind.i64.wrap ((mm:Int) - (X1.length:Int)) = ((mm - X1.length:Nat):Int):=zaa (by omega) (by omega) |>.trans (by omega)
 by_cases heq:X1.length = Y1.length
 ·have e0:P ++ (D1 ++ (X1 ++ (Y1 ++ (D2 ++ R)))) = (P ++ D1) ++ (X1 ++ ([] ++ (Y1 ++ (D2 ++ R)))):=by simp
  have e1:(P ++ D1) ++ (Y1 ++ ([] ++ (X1 ++ (D2 ++ R)))) = P ++ (Y ++ (X ++ R)):=by
   have:Y ++ (X ++ R) = D1 ++ (Y1 ++ (X1 ++ D2)) ++ R:=by rw [h5]; simp
   rw [this]; simp
  have hlen:((P ++ D1) ++ (X1 ++ ([] ++ (Y1 ++ (D2 ++ R))))).length = m:=by simp only [List.length_append, List.length_nil]; omega
  rw [e0]
  refine Z314 ?_; refine Z21 ?_; refine Z183 ?_; refine Z57 ?_; refine Z176 ?_; refine Z25 ?_; refine Z176 ?_; refine qn (za1 L 900 (zab b (((P ++ D1) ++ (Y1 ++ ([] ++ (X1 ++ (D2 ++ R))))).flatMap ccs ++ rest) tyC) (r:=zab b (((P ++ D1) ++ (X1 ++ ([] ++ (Y1 ++ (D2 ++ R))))).flatMap ccs ++ rest) tyC) rfl rfl rfl rfl rfl (fun u H C hH _ hr hC => (by have h:=zo6 (cap:=cap) (a:=mm - X1.length) (e:=mm) (n:=X1.length) (by rw [List.length_append]; omega) (by simp only [List.length_nil]; omega) rfl heq.symm hlen hm1 fv hH hr hC; exact h))) ?_; refine zi ?_
  rw [e1]
  exact zbb L 900 (r:=zab b _ tyC) rfl (fun _ _ h => h) Since.refl rfl rfl
 ·by_cases hgt:Y1.length < X1.length
  ·have hs2:IntKind.i64.wrap ((X1.length:Int) - (Y1.length:Int)) = ((X1.drop Y1.length).length:Int):=zaa (by omega) (by omega) |>.trans (by rw [List.length_drop]; omega)
   have lt:(X1.take Y1.length).length = Y1.length:=by rw [List.length_take]; omega
   have e0:P ++ (D1 ++ (X1 ++ (Y1 ++ (D2 ++ R)))) = (P ++ D1) ++ (X1.take Y1.length ++ (X1.drop Y1.length ++ (Y1 ++ (D2 ++ R)))):=by
    conv => lhs; rw [← List.take_append_drop Y1.length X1]
    simp only [List.append_assoc]
   have e1:(P ++ D1) ++ (Y1 ++ (X1.drop Y1.length ++ (X1.take Y1.length ++ (D2 ++ R)))) = P ++ ((D1 ++ Y1) ++ (X1.drop Y1.length ++ (X1.take Y1.length ++ (D2 ++ R)))):=by simp
   have hlen:((P ++ D1) ++ (X1.take Y1.length ++ (X1.drop Y1.length ++ (Y1 ++ (D2 ++ R))))).length = m:=by rw [← e0]; simp only [List.length_append]; omega
   have hld:(X1.drop Y1.length).length = X1.length - Y1.length:=List.length_drop
   rw [e0]
   refine Z314 ?_; refine Z45 ?_; refine Z308 ?_; refine Z207 ?_; refine Z40 ?_; refine Z323 ?_; refine Z176 ?_; refine Z25 ?_; refine Z176 ?_; refine qn (za1 L 900 (zab b (((P ++ D1) ++ (Y1 ++ (X1.drop Y1.length ++ (X1.take Y1.length ++ (D2 ++ R))))).flatMap ccs ++ rest) tyC) (r:=zab b (((P ++ D1) ++ (X1.take Y1.length ++ (X1.drop Y1.length ++ (Y1 ++ (D2 ++ R))))).flatMap ccs ++ rest) tyC) rfl rfl rfl rfl rfl (fun u H C hH _ hr hC => (by have h:=zo6 (cap:=cap) (a:=mm - X1.length) (e:=mm) (n:=Y1.length) (by rw [List.length_append]; omega) (by omega) lt rfl hlen hm1 fv hH hr hC; exact h))) ?_; refine Z138 ?_; refine Z37 ?_; refine Z212 ?_; refine Z243 ?_
   rw [e1]
   exact yi (x:=((D1, X1), (Y1, D2))) ((D1 ++ Y1, X1.drop Y1.length), (X1.take Y1.length, D2)) ⟨by dsimp only; rw [List.length_append]; omega, by dsimp only; omega, by dsimp only; omega, by dsimp only; omega, by
    dsimp only
    rw [← h5]
    conv => rhs; rw [← List.take_append_drop Y1.length X1]
    simp only [List.append_assoc]⟩ (by dsimp only; omega) ⟨rfl, rfl, rfl, rfl, by dsimp only; rw [lt]; rfl, rfl, trivial⟩
  ·have hs2:IntKind.i64.wrap ((Y1.length:Int) - (X1.length:Int)) = ((Y1.take (Y1.length - X1.length)).length:Int):=zaa (by omega) (by omega) |>.trans (by rw [List.length_take]; omega)
   have hs3:IntKind.i64.wrap ((mm:Int) + (Y1.length:Int)) = ((mm + Y1.length:Nat):Int):=zaa (by omega) (by omega)
   have hs4:IntKind.i64.wrap (((mm + Y1.length:Nat):Int) - (X1.length:Int)) = ((mm + Y1.length - X1.length:Nat):Int):=zaa (by omega) (by omega) |>.trans (by omega)
   have lt:(Y1.take (Y1.length - X1.length)).length = Y1.length - X1.length:=by rw [List.length_take]; omega
   have ld:(Y1.drop (Y1.length - X1.length)).length = X1.length:=by rw [List.length_drop]; omega
   have e0:P ++ (D1 ++ (X1 ++ (Y1 ++ (D2 ++ R)))) = (P ++ D1) ++ (X1 ++ (Y1.take (Y1.length - X1.length) ++ (Y1.drop (Y1.length - X1.length) ++ (D2 ++ R)))):=by
    conv => lhs; rw [← List.take_append_drop (Y1.length - X1.length) Y1]
    simp only [List.append_assoc]
   have e1:(P ++ D1) ++ (Y1.drop (Y1.length - X1.length) ++ (Y1.take (Y1.length - X1.length) ++ (X1 ++ (D2 ++ R)))) = P ++ (D1 ++ (Y1.drop (Y1.length - X1.length) ++ (Y1.take (Y1.length - X1.length) ++ ((X1 ++ D2) ++ R)))):=by simp
   have hlen:((P ++ D1) ++ (X1 ++ (Y1.take (Y1.length - X1.length) ++ (Y1.drop (Y1.length - X1.length) ++ (D2 ++ R))))).length = m:=by rw [← e0]; simp only [List.length_append]; omega
   rw [e0]
   refine Z314 ?_; refine Z45 ?_; refine Z308 ?_; refine Z207 ?_; refine Z32 ?_; refine Z142 ?_; refine Z374 ?_; refine Z176 ?_; refine Z25 ?_; refine Z295 ?_; refine Z231 ?_; refine Z141 ?_; refine qn (za1 L 900 (zab b (((P ++ D1) ++ (Y1.drop (Y1.length - X1.length) ++ (Y1.take (Y1.length - X1.length) ++ (X1 ++ (D2 ++ R))))).flatMap ccs ++ rest) tyC) (r:=zab b (((P ++ D1) ++ (X1 ++ (Y1.take (Y1.length - X1.length) ++ (Y1.drop (Y1.length - X1.length) ++ (D2 ++ R))))).flatMap ccs ++ rest) tyC) rfl rfl rfl rfl rfl (fun u H C hH _ hr hC => (by have h:=zo6 (cap:=cap) (a:=mm - X1.length) (e:=mm + Y1.length - X1.length) (n:=X1.length) (by rw [List.length_append]; omega) (by omega) rfl ld hlen hm1 fv hH hr hC; exact h))) ?_; refine Z138 ?_; refine Z44 ?_; refine Z212 ?_; refine Z243 ?_
   rw [e1]
   exact yi (x:=((D1, X1), (Y1, D2))) ((D1, Y1.drop (Y1.length - X1.length)), (Y1.take (Y1.length - X1.length), X1 ++ D2)) ⟨by dsimp only; omega, by dsimp only; rw [List.length_append]; omega, by dsimp only; omega, by dsimp only; omega, by
    dsimp only
    rw [← h5]
    conv => rhs; rw [← List.take_append_drop (Y1.length - X1.length) Y1]
    simp only [List.append_assoc]⟩ (by dsimp only; omega) ⟨rfl, rfl, rfl, by dsimp only; rw [ld]; rfl, rfl, rfl, trivial⟩
abbrev ORD:Nat:=134
abbrev zjz:Value:=.func (.func ORD) #[] #[]
theorem zdf {x y:CH} {w:World} {B:Heap} (hB:B.Le (hp w)):Ret Tryz.prog ORD ([chv x.1 x.2, chv y.1 y.2] ++ []) w B (fun r _ => r = .int .i64 (zbd x.1 y.1)):=by
 refine yc Tryz.func134 rfl Tryz.ntmps134 (Nat.le_of_ble_eq_true rfl) hB ?_
 refine Z206 ?_; refine Z160 ?_; refine Z19 ?_; refine z7 (zw L (vs:=[_, _, _, _, _, _]) (ql rfl) rfl rfl rfl rfl ⟨_, rfl⟩) rfl ?_; refine Z19 ?_; refine z7 (zw L (vs:=[_, _, _, _, _, _]) (ql rfl) rfl rfl rfl rfl ⟨_, rfl⟩) rfl ?_; refine z7 (zo L rfl rfl (zk rfl) rfl rfl rfl (fun u H hH _ _ => zde (a:=x.1) (b:=y.1) hH)) rfl ?_; refine Z139 ?_
 refine yb L (rs:=[.tmp 4]) rfl (fun _ _ h => h) Since.refl fun u H hH hle => ?_
 rfl
set_option maxHeartbeats 1000000 in
set_option maxRecDepth 20000 in
theorem ins_ret {P X R:List CH} {rest:List Value} {b m cap a e:Nat} (ha:P.length = a) (he:a + X.length = e) (hm:(P ++ (X ++ R)).length = m) (hm1:m ≤ 100000) {w:World} {B:Heap} {C:Nat → Prop} (hB:B.Le (hp w))
  (hr:(zab b ((P ++ (X ++ R)).flatMap ccs ++ rest) tyC).P B w C) (hC:∀ k, C k → k < w.heap.size ∧ B k = none) :
  zb8 Tryz.prog 173 [.slice (some ⟨b, 0, none⟩) m cap, .int .i64 a, .int .i64 e, zjz] w B C (zab b ((P ++ (stC X ++ R)).flatMap ccs ++ rest) tyC):=by
 unfold zb8
 refine zar 900 (zab b ((P ++ (X ++ R)).flatMap ccs ++ rest) tyC) Tryz.func173 rfl Tryz.ntmps173 (Nat.le_of_ble_eq_true rfl) hB hr hC ?_
 rw [za2]
 simp only [List.length_append] at hm
 have hst1:stC (X.take 1) = X.take 1:=by rcases X with _ | ⟨x, X⟩ <;> rfl
 refine Z146 ?_; refine Z1 ?_; refine Z24 ?_; refine Z203 ?_
 refine zak (fun s:Nat => [(0, .is (.slice (some ⟨b, 0, none⟩) m cap)), (1, .is (.int .i64 a)), (2, .is (.int .i64 e)), (3, .is zjz), (8, .is (.int .i64 (a + s:Nat))), (900, .own (zal b ((P ++ (stC (X.take s) ++ (X.drop s ++ R))).flatMap ccs ++ rest) tyC))]) (fun s => 1 ≤ s ∧ s ≤ max X.length 1) (fun s => X.length - s) 1 ⟨Nat.le_refl _, by omega⟩ ⟨rfl, rfl, rfl, rfl, rfl, by rw [hst1, ← List.append_assoc (X.take 1), List.take_append_drop]; rfl, trivial⟩ ?_
 rintro s ⟨hs1, hs2⟩
 by_cases hlt:s < X.length
 ·obtain ⟨x, hx⟩:=zae hlt
  have hsl:(stC (X.take s)).length = s:=by rw [ze1, List.length_take]; omega
  refine Z140 ?_; refine Z17 ?_; refine Z141 ?_; refine Z201 ?_; refine Z173 ?_; refine Z203 ?_
  refine zak (fun t:List CH × List CH => [(0, .is (.slice (some ⟨b, 0, none⟩) m cap)), (1, .is (.int .i64 a)), (2, .is (.int .i64 e)), (3, .is zjz), (8, .is (.int .i64 (a + s:Nat))), (9, .is (.int .i64 (a + t.1.length:Nat))), (900, .own (zal b ((P ++ (t.1 ++ (x :: (t.2 ++ (X.drop (s + 1) ++ R))))).flatMap ccs ++ rest) tyC))])
   (fun t => t.1 ++ t.2 = stC (X.take s) ∧ ∀ z ∈ t.2, zbd x.1 z.1 < 0) (fun t => t.1.length) (stC (X.take s), []) ⟨List.append_nil _, fun z hz => (by cases hz)⟩ ⟨rfl, rfl, rfl, rfl, rfl, by dsimp only; rw [hsl]; rfl, by dsimp only; rw [zfe hx]; rfl, trivial⟩ ?_
  rintro ⟨A, D⟩ ⟨hAD, hD⟩
  dsimp only at hAD hD ⊢
  have hAl:A.length + D.length = s:=by rw [← List.length_append, hAD, hsl]
  have hfin:(∀ y, A.getLast? = some y → ¬ zbd x.1 y.1 < 0) → P ++ (A ++ (x :: (D ++ (X.drop (s + 1) ++ R)))) = P ++ (stC (X.take (s + 1)) ++ (X.drop (s + 1) ++ R)):=fun h => by
   have:=z0x (k:=fun c:CH => c.1) cmpT_ord (x:=x) hAD hD h
   rw [List.take_add_one, hx]
   unfold stC
   show _ = P ++ (zku (fun c:CH => c.1) zbd (X.take s ++ [x]) ++ _)
   rw [← this]; simp
  rcases List.eq_nil_or_concat A with hA | ⟨A', y, hA⟩
  ·subst hA
   rw [hfin (fun y hy => by simp at hy), List.length_nil, Nat.add_zero]
   refine Z369 ?_; refine Z147 ?_; refine Z92 ?_; refine Z246 ?_; refine Z189 ?_; refine Z274 ?_; refine Z167 ?_; refine Z175 ?_; refine Z197 ?_
   exact yi (x:=s) (s + 1) ⟨by omega, by omega⟩ (by omega) ⟨rfl, rfl, rfl, rfl, rfl, rfl, trivial⟩
  ·rw [List.concat_eq_append] at hA
   subst hA
   have hl9:(A' ++ [y]).length = A'.length + 1:=by rw [List.length_append, List.length_singleton]
   rw [hl9] at hAl
   have e0:P ++ ((A' ++ [y]) ++ (x :: (D ++ (X.drop (s + 1) ++ R)))) = (P ++ A') ++ y :: ([] ++ x :: (D ++ (X.drop (s + 1) ++ R))):=by simp
   have l1:(P ++ A').length = a + A'.length:=by rw [List.length_append, ha]
   have l2:(P ++ A').length + 1 + ([]:List CH).length = a + (A' ++ [y]).length:=by rw [l1, hl9]; rfl
   have g1:=ziq (x:=y) (y:=x) (M:=[]) (D:=D ++ (X.drop (s + 1) ++ R)) l1
   have g2:=zio (x:=y) (y:=x) (D:=D ++ (X.drop (s + 1) ++ R)) l2
   have g3:=zqa (x:=y) (y:=x) (D:=D ++ (X.drop (s + 1) ++ R)) l1 l2
   have e1:(P ++ A') ++ x :: ([] ++ y :: (D ++ (X.drop (s + 1) ++ R))) = P ++ (A' ++ (x :: ((y :: D) ++ (X.drop (s + 1) ++ R)))):=by simp
   have hlen:((P ++ A') ++ y :: ([] ++ x :: (D ++ (X.drop (s + 1) ++ R)))).length = m:=by rw [← e0]; simp only [List.length_append, List.length_cons, List.length_nil, List.length_drop]; omega
   have hw1:IntKind.i64.wrap (((a + (A' ++ [y]).length:Nat):Int) - 1) = ((a + A'.length:Nat):Int):=zaa (by omega) (by omega) |>.trans (by omega)
   by_cases hc:zbd x.1 y.1 < 0
   ·rw [e0]
    rw [e1] at g3
    generalize (P ++ A') ++ y :: ([] ++ x :: (D ++ (X.drop (s + 1) ++ R))) = K at *
    have h1:=get_lt g1
    have h2:=get_lt g2
    have q1:=zbz (rest:=rest) g1 (0 + (a + A'.length) * 7) (by omega)
    have q2:=zbz (rest:=rest) g2 (0 + (a + (A' ++ [y]).length) * 7) (by omega)
    have s1:=zdk (rest:=rest) (z:=y) h2 (0 + (a + (A' ++ [y]).length) * 7) (by omega)
    have b1:=zdl (rest:=rest) h2 (0 + (a + (A' ++ [y]).length) * 7) (by omega)
    have h3:a + A'.length < (K.set (a + (A' ++ [y]).length) y).length:=by rw [List.length_set]; exact h1
    have s2:=zdk (rest:=rest) (z:=x) h3 (0 + (a + A'.length) * 7) (by omega)
    have b2:=zdl (rest:=rest) h3 (0 + (a + A'.length) * 7) (by omega)
    rw [g3] at s2
    refine Z369 ?_; refine Z147 ?_; refine Z90 ?_; refine Z310 ?_; refine z8 (qg L _ rfl rfl rfl rfl rfl rfl rfl (by omega)) rfl ?_; refine qp (zao L (q:=900) (vs:=[_, _, _, _, _, _, _]) rfl rfl rfl rfl rfl rfl q2) rfl rfl ?_; refine Z241 ?_; refine z8 (qg L _ rfl rfl rfl rfl rfl rfl rfl (by omega)) rfl ?_; refine qp (zao L (q:=900) (vs:=[_, _, _, _, _, _, _]) rfl rfl rfl rfl rfl rfl q1) rfl rfl ?_; refine z8 (zo L rfl rfl (zk rfl) rfl rfl rfl (fun u H hH _ _ => zdf hH)) rfl ?_; refine Z73 ?_; refine Z261 ?_; refine Z236 ?_; refine qf (id:=6) [(200046, [900]), (200050, [900]), (100051, [900]), (100052, [900])] mixed (by kernel_rfl) ?_; refine Z147 ?_; refine Z241 ?_; refine Z241 ?_; refine z8 (qg L _ rfl rfl rfl rfl rfl rfl rfl (by omega)) rfl ?_; refine qp (zao L (q:=900) (vs:=[_, _, _, _, _, _, _]) rfl rfl rfl rfl rfl rfl q1) rfl rfl ?_; refine Z147 ?_; refine z8 (qg L _ rfl rfl rfl rfl rfl rfl rfl (by omega)) rfl ?_; refine qp (zao L (q:=900) (vs:=[_, _, _, _, _, _, _]) rfl rfl rfl rfl rfl rfl q2) rfl rfl ?_; refine z8 (qg L _ rfl rfl rfl rfl rfl rfl rfl (by omega)) rfl ?_; refine zag (yw L (q:=900) rfl rfl rfl rfl rfl rfl b1 rfl s1) rfl ?_; refine z8 (qg L _ rfl rfl rfl rfl rfl rfl rfl (by omega)) rfl ?_; refine zag (yw L (q:=900) rfl rfl rfl rfl rfl rfl b2 rfl s2) rfl ?_; refine Z282 ?_; refine Z179 ?_; refine Z25 ?_; refine Z156 ?_
    exact yi (x:=(A' ++ [y], D)) (A', y :: D) ⟨by rw [← hAD]; simp, fun z hz => by
     rcases List.mem_cons.1 hz with rfl | hz
     ·exact hc
     ·exact hD z hz⟩ (by dsimp only; omega) ⟨rfl, rfl, rfl, rfl, rfl, rfl, rfl, trivial⟩
   ·have hf:=hfin (fun z hz => by rw [List.getLast?_append] at hz; simp at hz; subst hz; exact hc)
    rw [e0]
    rw [e0] at hf
    have q1:=zbz (rest:=rest) g1 (0 + (a + A'.length) * 7) (by omega)
    have q2:=zbz (rest:=rest) g2 (0 + (a + (A' ++ [y]).length) * 7) (by omega)
    rw [hf] at q1 q2 ⊢
    refine Z369 ?_; refine Z147 ?_; refine Z90 ?_; refine Z310 ?_; refine z8 (qg L _ rfl rfl rfl rfl rfl rfl rfl (by omega)) rfl ?_; refine qp (zao L (q:=900) (vs:=[_, _, _, _, _, _, _]) rfl rfl rfl rfl rfl rfl q2) rfl rfl ?_; refine Z241 ?_; refine z8 (qg L _ rfl rfl rfl rfl rfl rfl rfl (by omega)) rfl ?_; refine qp (zao L (q:=900) (vs:=[_, _, _, _, _, _, _]) rfl rfl rfl rfl rfl rfl q1) rfl rfl ?_; refine z8 (zo L rfl rfl (zk rfl) rfl rfl rfl (fun u H hH _ _ => zdf hH)) rfl ?_; refine Z88 ?_; refine Z274 ?_; refine Z167 ?_; refine Z175 ?_; refine Z197 ?_
    exact yi (x:=s) (s + 1) ⟨by omega, by omega⟩ (by omega) ⟨rfl, rfl, rfl, rfl, rfl, rfl, trivial⟩
 ·have hX:P ++ (stC (X.take s) ++ (X.drop s ++ R)) = P ++ (stC X ++ R):=by
   rw [List.take_of_length_le (by omega), List.drop_eq_nil_of_le (by omega), List.nil_append]
  rw [hX]
  refine Z140 ?_; refine Z17 ?_; refine Z360 ?_; refine Z165 ?_
  exact zbb L 900 (r:=zab b _ tyC) rfl (fun _ _ h => h) Since.refl rfl rfl
end Go.V.L8
set_option maxRecDepth 20000
namespace Go.V
open Go.Proofs Go.RowKit
section
variable {α β:Type} [DecidableEq α] [DecidableEq β] {k:α → β} {c:β → β → Int}
omit [DecidableEq β] in
theorem zsn (ho:Ord3 c) {z y x:β} (h1:¬ c y z < 0) (h2:c y x < 0):c z x < 0:=by
 by_cases h3:c z y < 0
 ·exact ho.tr h3 h2
 ·have:=ho.anti y z
  rw [ho.eq z y (by omega)]; exact h2
omit [DecidableEq β] in
theorem zsl (ho:Ord3 c) {x y z:β} (h1:c y x < 0) (h2:¬ c z x < 0):c y z < 0:=by
 by_cases h3:c x z < 0
 ·exact ho.tr h1 h3
 ·have:=ho.anti x z
  rw [ho.eq z x (by omega)]; exact h1
structure SymI (k:α → β) (c:β → β → Int) (X Y:List α) (a mid lo hi s r:Nat):Prop where
 ls:lo ≤ s
 sr:s ≤ r
 rh:r ≤ hi
 bef:∀ i x y, lo ≤ i → i < s → X[i - a]? = some x → Y[mid - 1 - i]? = some y → ¬ c (k y) (k x) < 0
 aft:∀ i x y, r ≤ i → i < hi → X[i - a]? = some x → Y[mid - 1 - i]? = some y → c (k y) (k x) < 0
structure z36 (X Y:List α) (a mm e mid lo hi:Nat):Prop where
 lx:a + X.length = mm
 ly:mm + Y.length = e
 al:a ≤ lo
 nl:mid + mm ≤ lo + e
 hm:hi ≤ mid
 hx:hi ≤ mm
 lo_:lo = a ∨ mid + mm = lo + e
 hi_:hi = mm ∨ hi = mid
omit [DecidableEq α] [DecidableEq β] in
theorem SymI.start {X Y:List α} {a mid lo hi:Nat} (h:lo ≤ hi):SymI k c X Y a mid lo hi lo hi:=⟨Nat.le_refl _, h, Nat.le_refl _, fun i x y h1 h2 => by omega, fun i x y h1 h2 => by omega⟩
omit [DecidableEq α] [DecidableEq β] in
theorem SymI.up (ho:Ord3 c) {X Y:List α} (hX:Srt k c X) (hY:Srt k c Y) {a mm e mid lo hi s r i:Nat} {x y:α} (hb:z36 X Y a mm e mid lo hi) (h:SymI k c X Y a mid lo hi s r) (h1:s ≤ i) (h2:i < r) (hx:X[i - a]? = some x) (hy:Y[mid - 1 - i]? = some y) (hc:¬ c (k y) (k x) < 0):SymI k c X Y a mid lo hi (i + 1) r:=by
 obtain ⟨b1, b2, b3, b4, b5, b6, _, _⟩:=hb
 obtain ⟨i1, i2, i3, i4, i5⟩:=h
 refine ⟨by omega, by omega, i3, fun j x' y' hj hji hx' hy' hlt => hc ?_, i5⟩
 have e1:=zfc ho hX hx' hx (by omega)
 have e2:=zfc ho hY hy hy' (by omega)
 exact zsn ho e2 (zsl ho hlt e1)
omit [DecidableEq α] [DecidableEq β] in
theorem SymI.down (ho:Ord3 c) {X Y:List α} (hX:Srt k c X) (hY:Srt k c Y) {a mm e mid lo hi s r i:Nat} {x y:α} (hb:z36 X Y a mm e mid lo hi) (h:SymI k c X Y a mid lo hi s r) (h1:s ≤ i) (h2:i < r) (hx:X[i - a]? = some x) (hy:Y[mid - 1 - i]? = some y) (hc:c (k y) (k x) < 0):SymI k c X Y a mid lo hi s i:=by
 obtain ⟨b1, b2, b3, b4, b5, b6, _, _⟩:=hb
 obtain ⟨i1, i2, i3, i4, i5⟩:=h
 refine ⟨by omega, by omega, by omega, i4, fun j x' y' hj hji hx' hy' => ?_⟩
 have e1:=zfc ho hX hx hx' (by omega)
 have e2:=zfc ho hY hy' hy (by omega)
 exact zsn ho e2 (zsl ho hc e1)
theorem zwp (ho:Ord3 c) {X Y:List α} (hX:Srt k c X) (hY:Srt k c Y) {a mm e mid lo hi s:Nat} (hb:z36 X Y a mm e mid lo hi) (h:SymI k c X Y a mid lo hi s s) :
  zku k c (X.take (s - a) ++ Y.take (mid - s)) ++ zku k c (X.drop (s - a) ++ Y.drop (mid - s)) = zku k c (X ++ Y):=by
 obtain ⟨b1, b2, b3, b4, b5, b6, b7, b8⟩:=hb
 obtain ⟨i1, i2, i3, i4, i5⟩:=h
 have hXt:X.take (s - a) ++ X.drop (s - a) = X:=List.take_append_drop _ _
 have hYt:Y.take (mid - s) ++ Y.drop (mid - s) = Y:=List.take_append_drop _ _
 have h12:∀ x ∈ X.drop (s - a), ∀ y ∈ Y.take (mid - s), c (k y) (k x) < 0:=fun x hx y hy => by
  obtain ⟨i, hi⟩:=List.getElem?_of_mem hx
  obtain ⟨j, hj⟩:=List.getElem?_of_mem hy
  have hjl:=get_lt hj
  rw [List.length_take] at hjl
  rw [List.getElem?_drop] at hi
  rw [List.getElem?_take_of_lt (by omega)] at hj
  have hil:=get_lt hi
  obtain ⟨x0, hx0⟩:=zae (l:=X) (i:=s - a) (by omega)
  obtain ⟨y0, hy0⟩:=zae (l:=Y) (i:=mid - 1 - s) (by omega)
  have h0:=i5 s x0 y0 (Nat.le_refl _) (by omega) hx0 hy0
  exact zsn ho (zfc ho hY hj hy0 (by omega)) (zsl ho h0 (zfc ho hX hx0 hi (by omega)))
 have h21:∀ x ∈ X.take (s - a), ∀ y ∈ Y.drop (mid - s), ¬ c (k y) (k x) < 0:=fun x hx y hy hlt => by
  obtain ⟨i, hi⟩:=List.getElem?_of_mem hx
  obtain ⟨j, hj⟩:=List.getElem?_of_mem hy
  have hil:=get_lt hi
  rw [List.length_take] at hil
  rw [List.getElem?_drop] at hj
  rw [List.getElem?_take_of_lt (by omega)] at hi
  have hjl:=get_lt hj
  obtain ⟨x1, hx1⟩:=zae (l:=X) (i:=s - 1 - a) (by omega)
  obtain ⟨y1, hy1⟩:=zae (l:=Y) (i:=mid - s) (by omega)
  have h0:=i4 (s - 1) x1 y1 (by omega) (by omega) hx1 (by rw [show mid - 1 - (s - 1) = mid - s by omega]; exact hy1)
  exact h0 (zsn ho (zfc ho hY hy1 hj (by omega)) (zsl ho hlt (zfc ho hX hi hx1 (by omega))))
 have:=zwt ho (by rw [hXt]; exact hX) (by rw [hYt]; exact hY) h12 h21 (zct ho _) (zct ho _)
 rw [hXt, hYt] at this
 exact zk7 ho this
theorem z0l (ho:Ord3 c) {x:α} {Y:List α} (hY:Srt k c Y) {i:Nat} (h1:∀ j z, j < i → Y[j]? = some z → c (k z) (k x) < 0) (h2:∀ j z, i ≤ j → Y[j]? = some z → ¬ c (k z) (k x) < 0) :
  Y.take i ++ x :: Y.drop i = zku k c ([x] ++ Y):=by
 have hY':Srt k c (Y.take i ++ Y.drop i):=by rw [List.take_append_drop]; exact hY
 have:=zz6 ho (x:=x) hY' (fun z hz => by
  obtain ⟨j, hj⟩:=List.getElem?_of_mem hz
  have hjl:=get_lt hj
  rw [List.length_take] at hjl
  rw [List.getElem?_take_of_lt (by omega)] at hj
  exact h1 j z (by omega) hj) (fun z hz => by
  obtain ⟨j, hj⟩:=List.getElem?_of_mem hz
  rw [List.getElem?_drop] at hj
  exact h2 _ z (by omega) hj)
 rw [List.take_append_drop] at this
 exact zk7 ho this
theorem z0k (ho:Ord3 c) {x:α} {X:List α} (hX:Srt k c X) {i:Nat} (h1:∀ j z, j < i → X[j]? = some z → ¬ c (k x) (k z) < 0) (h2:∀ j z, i ≤ j → X[j]? = some z → c (k x) (k z) < 0) :
  X.take i ++ x :: X.drop i = zku k c (X ++ [x]):=by
 have hX':Srt k c (X.take i ++ X.drop i):=by rw [List.take_append_drop]; exact hX
 have:=zo7 ho (x:=x) hX' (fun z hz => by
  obtain ⟨j, hj⟩:=List.getElem?_of_mem hz
  have hjl:=get_lt hj
  rw [List.length_take] at hjl
  rw [List.getElem?_take_of_lt (by omega)] at hj
  exact h1 j z (by omega) hj) (fun z hz => by
  obtain ⟨j, hj⟩:=List.getElem?_of_mem hz
  rw [List.getElem?_drop] at hj
  exact h2 _ z (by omega) hj)
 rw [List.take_append_drop] at this
 exact zk7 ho this
end
end Go.V
set_option maxRecDepth 20000
namespace Go.V.L8
open Go.Proofs Go.RowKit Go.V Go.V.L2 Go.V.L3 Go.V.L6
theorem zxx {P X D:List CH} {a:Nat} (ha:P.length = a) {j:Nat} {x:CH} (h:X[j]? = some x) (i:Nat) (hi:i = a + j):(P ++ (X ++ D))[i]? = some x:=by
 subst hi ha
 have:=get_lt h
 rw [List.getElem?_append_right (by omega), show P.length + j - P.length = j by omega, List.getElem?_append_left this]; exact h
theorem z01 {P X Y D:List CH} {a mm:Nat} (ha:P.length = a) (hx:a + X.length = mm) {j:Nat} {y:CH} (h:Y[j]? = some y) (i:Nat) (hi:i = mm + j):(P ++ (X ++ (Y ++ D)))[i]? = some y:=by
 have e:P ++ (X ++ (Y ++ D)) = (P ++ X) ++ (Y ++ D):=by simp
 rw [e]
 exact zxx (by rw [List.length_append]; omega) h i hi
abbrev z1s (l:List CH):Prop:=Srt (fun c:CH => c.1) zbd l
theorem zi0 (i j:Nat):((i:Int) + (j:Int)).fdiv (2 ^ min (1:Int).toNat IntKind.u64.bits) = ((i + j) / 2:Nat):=by
 show ((i:Int) + (j:Int)).fdiv 2 = _
 rw [Int.fdiv_eq_ediv_of_nonneg _ (by decide)]
 omega
attribute [local irreducible] V N X VO Par StepOK Has Ret RetL RetO RetT zb8 Src
abbrev SYM:Nat:=174
set_option maxHeartbeats 4000000 in
set_option maxRecDepth 20000 in
theorem zz3 {P Y R:List CH} {x:CH} {rest:List Value} {b m cap a mm e:Nat} (ha:P.length = a) (hmm:a + 1 = mm) (he:mm + Y.length = e) (hY:z1s Y) (hm:(P ++ ([x] ++ (Y ++ R))).length = m) (hm1:m ≤ 100000) {w:World} {B:Heap} {C:Nat → Prop} (hB:B.Le (hp w))
  (hr:(zab b ((P ++ ([x] ++ (Y ++ R))).flatMap ccs ++ rest) tyC).P B w C) (hC:∀ k, C k → k < w.heap.size ∧ B k = none) :
  zb8 Tryz.prog SYM [.slice (some ⟨b, 0, none⟩) m cap, .int .i64 a, .int .i64 mm, .int .i64 e, zjz] w B C (zab b ((P ++ (stC ([x] ++ Y) ++ R)).flatMap ccs ++ rest) tyC):=by
 unfold zb8
 refine zar 900 (zab b ((P ++ ([x] ++ (Y ++ R))).flatMap ccs ++ rest) tyC) Tryz.func174 rfl Tryz.ntmps174 (Nat.le_of_ble_eq_true rfl) hB hr hC ?_
 rw [za2]
 have hm':=hm
 simp only [List.length_append, List.length_singleton] at hm'
 refine Z140 ?_; refine Z14 ?_; refine Z141 ?_; refine Z71 ?_; refine Z305 ?_; refine Z289 ?_; refine Z250 ?_; refine Z144 ?_; refine qk ?_
 refine zak (fun s:Nat × Nat => [(0, .is (.slice (some ⟨b, 0, none⟩) m cap)), (1, .is (.int .i64 a)), (4, .is zjz), (10, .is (.int .i64 s.1)), (11, .is (.int .i64 s.2)), (900, .own (zal b ((P ++ ([x] ++ (Y ++ R))).flatMap ccs ++ rest) tyC))])
  (fun s => mm ≤ s.1 ∧ s.1 ≤ s.2 ∧ s.2 ≤ e ∧ (∀ (j:Nat) (z:CH), j < s.1 - mm → Y[j]? = some z → zbd z.1 x.1 < 0) ∧ ∀ (j:Nat) (z:CH), s.2 - mm ≤ j → Y[j]? = some z → ¬ zbd z.1 x.1 < 0) (fun s => s.2 - s.1) (mm, e)
  ⟨Nat.le_refl _, by dsimp only; omega, Nat.le_refl _, fun j z h => (by dsimp only at h; omega), fun j z h hz => (by have:=get_lt hz; dsimp only at h; omega)⟩ ⟨rfl, rfl, rfl, rfl, rfl, rfl, trivial⟩ ?_
 rintro ⟨i, j⟩ ⟨h1, h2, h3, h4, h5⟩
 dsimp only at h1 h2 h3 h4 h5 ⊢
 by_cases hlt:i < j
 ·have hsh:=zi0 i j
  obtain ⟨h, hh⟩:∃ h, (i + j) / 2 = h:=⟨_, rfl⟩
  rw [hh] at hsh
  obtain ⟨y, hy⟩:=zae (l:=Y) (show h - mm < Y.length by omega)
  have q1:=zbz (rest:=rest) (z01 (X:=[x]) (D:=R) (mm:=mm) ha hmm hy h (by omega)) (0 + h * 7) (by omega)
  have q2:=zbz (rest:=rest) (zxx (X:=[x]) (D:=Y ++ R) ha (j:=0) rfl a (by omega)) (0 + a * 7) (by omega)
  by_cases hc:zbd y.1 x.1 < 0
  ·refine Z233 ?_; refine Z403 ?_; refine Z335 ?_; refine Z24 ?_; refine z7 (zau rfl rfl rfl zbq.1 zbq.2 (wrap_u64 (by omega) (by omega))) rfl ?_; refine Z103 ?_; refine z7 (zau rfl rfl rfl zbr.1 zbr.2 (zaa (by omega) (by omega))) rfl ?_; refine Z144 ?_; refine qf (id:=5) [(200044, [900]), (200048, [900])] mixed (by kernel_rfl) ?_; refine Z180 ?_; refine z8 (qg L _ rfl rfl rfl rfl rfl rfl rfl (by omega)) rfl ?_; refine qp (zao L (q:=900) (vs:=[_, _, _, _, _, _, _]) rfl rfl rfl rfl rfl rfl q1) rfl rfl ?_; refine Z147 ?_; refine z8 (qg L _ rfl rfl rfl rfl rfl rfl rfl (by omega)) rfl ?_; refine qp (zao L (q:=900) (vs:=[_, _, _, _, _, _, _]) rfl rfl rfl rfl rfl rfl q2) rfl rfl ?_; refine z8 (zo L rfl rfl (zk rfl) rfl rfl rfl (fun u H hH _ _ => zdf hH)) rfl ?_; refine Z73 ?_; refine Z210 ?_; refine Z192 ?_; refine Z197 ?_; refine y9 ?_
   exact yi (x:=(i, j)) (h + 1, j) ⟨by dsimp only; omega, by dsimp only; omega, h3, fun k z hk hz => by
    dsimp only at hk
    exact zsn cmpT_ord (zfc cmpT_ord hY hz hy (by omega)) hc, h5⟩ (by dsimp only; omega) ⟨rfl, rfl, rfl, rfl, rfl, rfl, trivial⟩
  ·refine Z233 ?_; refine Z403 ?_; refine Z335 ?_; refine Z24 ?_; refine z7 (zau rfl rfl rfl zbq.1 zbq.2 (wrap_u64 (by omega) (by omega))) rfl ?_; refine Z103 ?_; refine z7 (zau rfl rfl rfl zbr.1 zbr.2 (zaa (by omega) (by omega))) rfl ?_; refine Z144 ?_; refine qf (id:=5) [(200044, [900]), (200048, [900])] mixed (by kernel_rfl) ?_; refine Z180 ?_; refine z8 (qg L _ rfl rfl rfl rfl rfl rfl rfl (by omega)) rfl ?_; refine qp (zao L (q:=900) (vs:=[_, _, _, _, _, _, _]) rfl rfl rfl rfl rfl rfl q1) rfl rfl ?_; refine Z147 ?_; refine z8 (qg L _ rfl rfl rfl rfl rfl rfl rfl (by omega)) rfl ?_; refine qp (zao L (q:=900) (vs:=[_, _, _, _, _, _, _]) rfl rfl rfl rfl rfl rfl q2) rfl rfl ?_; refine z8 (zo L rfl rfl (zk rfl) rfl rfl rfl (fun u H hH _ _ => zdf hH)) rfl ?_; refine Z88 ?_; refine Z178 ?_; refine Z196 ?_; refine Z243 ?_
   exact yi (x:=(i, j)) (i, h) ⟨h1, by dsimp only; omega, by dsimp only; omega, h4, fun k z hk hz hcx => by
    dsimp only at hk
    exact hc (zsn cmpT_ord (zfc cmpT_ord hY hy hz (by omega)) hcx)⟩ (by dsimp only; omega) ⟨rfl, rfl, rfl, rfl, rfl, rfl, trivial⟩
 ·obtain rfl:i = j:=by omega
  have hfin:=z0l (k:=fun c:CH => c.1) cmpT_ord hY h4 h5
  have hal:(Y.take (i - mm)).length = i - mm:=by rw [List.length_take]; omega
  have hYl:(Y.take (i - mm)).length + (Y.drop (i - mm)).length = Y.length:=by rw [← List.length_append, List.take_append_drop]
  have e0:P ++ ([x] ++ (Y ++ R)) = P ++ ([] ++ (x :: (Y.take (i - mm) ++ (Y.drop (i - mm) ++ R)))):=by
   rw [← List.append_assoc (Y.take _), List.take_append_drop]; rfl
  rw [e0]
  have e9:P ++ (Y.take (i - mm) ++ (x :: (Y.drop (i - mm) ++ R))) = P ++ (stC ([x] ++ Y) ++ R):=by
   unfold stC
   rw [← hfin]; simp
  generalize Y.take (i - mm) = A at *
  generalize Y.drop (i - mm) = D at *
  clear hfin h4 h5 e0
  refine Z233 ?_; refine Z211 ?_; refine Z321 ?_; refine Z203 ?_
  refine zak (fun t:Nat => [(0, .is (.slice (some ⟨b, 0, none⟩) m cap)), (10, .is (.int .i64 i)), (13, .is (.int .i64 (a + t:Nat))), (900, .own (zal b ((P ++ (A.take t ++ (x :: (A.drop t ++ (D ++ R))))).flatMap ccs ++ rest) tyC))]) (fun t => t ≤ A.length) (fun t => A.length - t) 0 (Nat.zero_le _) ⟨rfl, rfl, rfl, rfl, trivial⟩ ?_
  rintro t ht
  by_cases htl:t < A.length
  ·obtain ⟨z, hz⟩:=zae htl
   have e0:P ++ (A.take t ++ (x :: (A.drop t ++ (D ++ R)))) = (P ++ A.take t) ++ x :: ([] ++ z :: (A.drop (t + 1) ++ (D ++ R))):=by rw [zfe hz]; simp
   have e1:(P ++ A.take t) ++ z :: ([] ++ x :: (A.drop (t + 1) ++ (D ++ R))) = P ++ (A.take (t + 1) ++ (x :: (A.drop (t + 1) ++ (D ++ R)))):=by rw [List.take_add_one, hz]; simp
   have l1:(P ++ A.take t).length = a + t:=by rw [List.length_append, List.length_take]; omega
   have l2:(P ++ A.take t).length + 1 + ([]:List CH).length = a + t + 1:=by rw [l1]; rfl
   have g1:=ziq (x:=x) (y:=z) (M:=[]) (D:=A.drop (t + 1) ++ (D ++ R)) l1
   have g2:=zio (x:=x) (y:=z) (D:=A.drop (t + 1) ++ (D ++ R)) l2
   have g3:=zo3 (x:=x) (y:=z) (D:=A.drop (t + 1) ++ (D ++ R)) l1 l2
   rw [e0]
   rw [e1] at g3
   generalize (P ++ A.take t) ++ x :: ([] ++ z :: (A.drop (t + 1) ++ (D ++ R))) = K at *
   have k1:=get_lt g1
   have k2:=get_lt g2
   have hKl:a + t + 1 < m:=by
    have:a + 1 + A.length + D.length ≤ m:=by omega
    omega
   have q1:=zbz (rest:=rest) g1 (0 + (a + t) * 7) (by omega)
   have q2:=zbz (rest:=rest) g2 (0 + (a + t + 1) * 7) (by omega)
   have s1:=zdk (rest:=rest) (z:=z) k1 (0 + (a + t) * 7) (by omega)
   have b1:=zdl (rest:=rest) k1 (0 + (a + t) * 7) (by omega)
   have k3:a + t + 1 < (K.set (a + t) z).length:=by rw [List.length_set]; exact k2
   have s2:=zdk (rest:=rest) (z:=x) k3 (0 + (a + t + 1) * 7) (by omega)
   have b2:=zdl (rest:=rest) k3 (0 + (a + t + 1) * 7) (by omega)
   rw [g3] at s2
   have a1:IntKind.i64.wrap (((a + t:Nat):Int) + 1) = ((a + t + 1:Nat):Int):=zaa (by omega) (by omega)
   refine Z140 ?_; refine Z60 ?_; refine Z141 ?_; refine Z71 ?_; refine Z177 ?_; refine Z236 ?_; refine qf (id:=11) [(200070, [900]), (200074, [900]), (100075, [900]), (100076, [900])] mixed (by kernel_rfl) ?_; refine Z310 ?_; refine Z33 ?_; refine Z147 ?_; refine Z33 ?_; refine z8 (qg L _ rfl rfl rfl rfl rfl rfl rfl (by omega)) rfl ?_; refine qp (zao L (q:=900) (vs:=[_, _, _, _, _, _, _]) rfl rfl rfl rfl rfl rfl q2) rfl rfl ?_; refine Z147 ?_; refine z8 (qg L _ rfl rfl rfl rfl rfl rfl rfl (by omega)) rfl ?_; refine qp (zao L (q:=900) (vs:=[_, _, _, _, _, _, _]) rfl rfl rfl rfl rfl rfl q1) rfl rfl ?_; refine z8 (qg L _ rfl rfl rfl rfl rfl rfl rfl (by omega)) rfl ?_; refine zag (yw L (q:=900) rfl rfl rfl rfl rfl rfl b1 rfl s1) rfl ?_; refine z8 (qg L _ rfl rfl rfl rfl rfl rfl rfl (by omega)) rfl ?_; refine zag (yw L (q:=900) rfl rfl rfl rfl rfl rfl b2 rfl s2) rfl ?_; refine Z282 ?_; refine Z292 ?_; refine Z217 ?_
   exact yi (x:=t) (t + 1) (by omega) (by omega) ⟨rfl, rfl, rfl, rfl, trivial⟩
  ·have hA:P ++ (A.take t ++ (x :: (A.drop t ++ (D ++ R)))) = P ++ (stC ([x] ++ Y) ++ R):=by
    rw [List.take_of_length_le (by omega), List.drop_eq_nil_of_le (by omega), List.nil_append, e9]
   rw [hA]
   refine Z140 ?_; refine Z60 ?_; refine Z141 ?_; refine Z71 ?_; refine Z211 ?_
   exact zbi L 900 (r:=zab b _ tyC) rfl (fun _ _ h => h) Since.refl rfl rfl
set_option maxHeartbeats 4000000 in
set_option maxRecDepth 20000 in
theorem zz4 {P X R:List CH} {y:CH} {rest:List Value} {b m cap a mm e:Nat} (ha:P.length = a) (hmm:a + X.length = mm) (hx1:¬ X.length = 1) (he:mm + 1 = e) (hX:z1s X) (hm:(P ++ (X ++ ([y] ++ R))).length = m) (hm1:m ≤ 100000) {w:World} {B:Heap} {C:Nat → Prop} (hB:B.Le (hp w))
  (hr:(zab b ((P ++ (X ++ ([y] ++ R))).flatMap ccs ++ rest) tyC).P B w C) (hC:∀ k, C k → k < w.heap.size ∧ B k = none) :
  zb8 Tryz.prog SYM [.slice (some ⟨b, 0, none⟩) m cap, .int .i64 a, .int .i64 mm, .int .i64 e, zjz] w B C (zab b ((P ++ (stC (X ++ [y]) ++ R)).flatMap ccs ++ rest) tyC):=by
 unfold zb8
 refine zar 900 (zab b ((P ++ (X ++ ([y] ++ R))).flatMap ccs ++ rest) tyC) Tryz.func174 rfl Tryz.ntmps174 (Nat.le_of_ble_eq_true rfl) hB hr hC ?_
 rw [za2]
 have hm':=hm
 simp only [List.length_append, List.length_singleton] at hm'
 refine Z140 ?_; refine Z14 ?_; refine Z141 ?_; refine Z71 ?_; refine Z281 ?_; refine Z86 ?_; refine Z141 ?_; refine Z71 ?_; refine Z305 ?_; refine Z316 ?_; refine Z144 ?_; refine Z267 ?_; refine Z144 ?_; refine qk ?_
 refine zak (fun s:Nat × Nat => [(0, .is (.slice (some ⟨b, 0, none⟩) m cap)), (2, .is (.int .i64 mm)), (4, .is zjz), (14, .is (.int .i64 s.1)), (15, .is (.int .i64 s.2)), (900, .own (zal b ((P ++ (X ++ ([y] ++ R))).flatMap ccs ++ rest) tyC))])
  (fun s => a ≤ s.1 ∧ s.1 ≤ s.2 ∧ s.2 ≤ mm ∧ (∀ (j:Nat) (z:CH), j < s.1 - a → X[j]? = some z → ¬ zbd y.1 z.1 < 0) ∧ ∀ (j:Nat) (z:CH), s.2 - a ≤ j → X[j]? = some z → zbd y.1 z.1 < 0) (fun s => s.2 - s.1) (a, mm)
  ⟨Nat.le_refl _, by dsimp only; omega, Nat.le_refl _, fun j z h => (by dsimp only at h; omega), fun j z h hz => (by have:=get_lt hz; dsimp only at h; omega)⟩ ⟨rfl, rfl, rfl, rfl, rfl, rfl, trivial⟩ ?_
 rintro ⟨i, j⟩ ⟨h1, h2, h3, h4, h5⟩
 dsimp only at h1 h2 h3 h4 h5 ⊢
 by_cases hlt:i < j
 ·have hsh:=zi0 i j
  obtain ⟨h, hh⟩:∃ h, (i + j) / 2 = h:=⟨_, rfl⟩
  rw [hh] at hsh
  obtain ⟨x, hx⟩:=zae (l:=X) (show h - a < X.length by omega)
  have q1:=zbz (rest:=rest) (z01 (Y:=[y]) (D:=R) ha hmm (j:=0) rfl mm (by omega)) (0 + mm * 7) (by omega)
  have q2:=zbz (rest:=rest) (zxx (D:=[y] ++ R) ha hx h (by omega)) (0 + h * 7) (by omega)
  by_cases hc:zbd y.1 x.1 < 0
  ·refine Z140 ?_; refine Z96 ?_; refine Z141 ?_; refine Z403 ?_; refine Z102 ?_; refine Z141 ?_; refine Z24 ?_; refine z7 (zau rfl rfl rfl zbq.1 zbq.2 (wrap_u64 (by omega) (by omega))) rfl ?_; refine Z103 ?_; refine z7 (zau rfl rfl rfl zbr.1 zbr.2 (zaa (by omega) (by omega))) rfl ?_; refine Z144 ?_; refine qf (id:=17) [(200096, [900]), (200100, [900])] mixed (by kernel_rfl) ?_; refine Z180 ?_; refine z8 (qg L _ rfl rfl rfl rfl rfl rfl rfl (by omega)) rfl ?_; refine qp (zao L (q:=900) (vs:=[_, _, _, _, _, _, _]) rfl rfl rfl rfl rfl rfl q1) rfl rfl ?_; refine Z147 ?_; refine z8 (qg L _ rfl rfl rfl rfl rfl rfl rfl (by omega)) rfl ?_; refine qp (zao L (q:=900) (vs:=[_, _, _, _, _, _, _]) rfl rfl rfl rfl rfl rfl q2) rfl rfl ?_; refine z8 (zo L rfl rfl (zk rfl) rfl rfl rfl (fun u H hH _ _ => zdf hH)) rfl ?_; refine Z73 ?_; refine Z63 ?_; refine Z178 ?_; refine Z119 ?_; refine Z1 ?_; refine Z243 ?_
   exact yi (x:=(i, j)) (i, h) ⟨h1, by dsimp only; omega, by dsimp only; omega, h4, fun k z hk hz => by
    dsimp only at hk
    exact zsl cmpT_ord hc (zfc cmpT_ord hX hx hz (by omega))⟩ (by dsimp only; omega) ⟨rfl, rfl, rfl, rfl, rfl, rfl, trivial⟩
  ·refine Z140 ?_; refine Z96 ?_; refine Z141 ?_; refine Z403 ?_; refine Z102 ?_; refine Z141 ?_; refine Z24 ?_; refine z7 (zau rfl rfl rfl zbq.1 zbq.2 (wrap_u64 (by omega) (by omega))) rfl ?_; refine Z103 ?_; refine z7 (zau rfl rfl rfl zbr.1 zbr.2 (zaa (by omega) (by omega))) rfl ?_; refine Z144 ?_; refine qf (id:=17) [(200096, [900]), (200100, [900])] mixed (by kernel_rfl) ?_; refine Z180 ?_; refine z8 (qg L _ rfl rfl rfl rfl rfl rfl rfl (by omega)) rfl ?_; refine qp (zao L (q:=900) (vs:=[_, _, _, _, _, _, _]) rfl rfl rfl rfl rfl rfl q1) rfl rfl ?_; refine Z147 ?_; refine z8 (qg L _ rfl rfl rfl rfl rfl rfl rfl (by omega)) rfl ?_; refine qp (zao L (q:=900) (vs:=[_, _, _, _, _, _, _]) rfl rfl rfl rfl rfl rfl q2) rfl rfl ?_; refine z8 (zo L rfl rfl (zk rfl) rfl rfl rfl (fun u H hH _ _ => zdf hH)) rfl ?_; refine Z88 ?_; refine Z63 ?_; refine Z210 ?_; refine Z299 ?_; refine Z197 ?_; refine y9 ?_
   exact yi (x:=(i, j)) (h + 1, j) ⟨by dsimp only; omega, by dsimp only; omega, h3, fun k z hk hz hcx => by
    dsimp only at hk
    exact hc (zsl cmpT_ord hcx (zfc cmpT_ord hX hz hx (by omega))), h5⟩ (by dsimp only; omega) ⟨rfl, rfl, rfl, rfl, rfl, rfl, trivial⟩
 ·obtain rfl:i = j:=by omega
  have hfin:=z0k (k:=fun c:CH => c.1) cmpT_ord hX h4 h5
  have hal:(X.take (i - a)).length = i - a:=by rw [List.length_take]; omega
  have hXl:(X.take (i - a)).length + (X.drop (i - a)).length = X.length:=by rw [← List.length_append, List.take_append_drop]
  have e0:P ++ (X ++ ([y] ++ R)) = P ++ (X.take (i - a) ++ (X.drop (i - a) ++ (y :: ([] ++ R)))):=by
   rw [← List.append_assoc (X.take _), List.take_append_drop]; rfl
  rw [e0]
  have e9:P ++ (X.take (i - a) ++ (y :: (X.drop (i - a) ++ R))) = P ++ (stC (X ++ [y]) ++ R):=by
   unfold stC
   rw [← hfin]; simp
  generalize X.take (i - a) = A at *
  generalize X.drop (i - a) = D at *
  clear hfin h4 h5 e0
  have hk0:mm = i + D.length:=by omega
  refine Z140 ?_; refine Z96 ?_; refine Z141 ?_; refine Z211 ?_; refine Z140 ?_; refine Z94 ?_; refine Z1 ?_; refine Z203 ?_
  refine zak (fun t:Nat => [(0, .is (.slice (some ⟨b, 0, none⟩) m cap)), (14, .is (.int .i64 i)), (17, .is (.int .i64 (i + t:Nat))), (900, .own (zal b ((P ++ (A ++ (D.take t ++ (y :: (D.drop t ++ R))))).flatMap ccs ++ rest) tyC))]) (fun t => t ≤ D.length) (fun t => t) D.length (Nat.le_refl _) ⟨rfl, rfl, by rw [← hk0]; rfl, by rw [List.take_length, List.drop_length]; rfl, trivial⟩ ?_
  rintro t ht
  rcases t with _ | t
  ·rw [List.take_zero, List.drop_zero, List.nil_append, e9, Nat.add_zero]
   refine Z140 ?_; refine Z116 ?_; refine Z141 ?_; refine Z32 ?_; refine Z183 ?_
   exact zbi L 900 (r:=zab b _ tyC) rfl (fun _ _ h => h) Since.refl rfl rfl
  ·obtain ⟨z, hz⟩:=zae (l:=D) (show t < D.length by omega)
   have e0:P ++ (A ++ (D.take (t + 1) ++ (y :: (D.drop (t + 1) ++ R)))) = (P ++ (A ++ D.take t)) ++ z :: ([] ++ y :: (D.drop (t + 1) ++ R)):=by rw [List.take_add_one, hz]; simp
   have e1:(P ++ (A ++ D.take t)) ++ y :: ([] ++ z :: (D.drop (t + 1) ++ R)) = P ++ (A ++ (D.take t ++ (y :: (D.drop t ++ R)))):=by rw [zfe hz]; simp
   have l1:(P ++ (A ++ D.take t)).length = i + t:=by rw [List.length_append, List.length_append, List.length_take]; omega
   have l2:(P ++ (A ++ D.take t)).length + 1 + ([]:List CH).length = i + (t + 1):=by rw [l1]; rfl
   have g1:=ziq (x:=z) (y:=y) (M:=[]) (D:=D.drop (t + 1) ++ R) l1
   have g2:=zio (x:=z) (y:=y) (D:=D.drop (t + 1) ++ R) l2
   have g3:=zqa (x:=z) (y:=y) (D:=D.drop (t + 1) ++ R) l1 l2
   rw [e0]
   rw [e1] at g3
   generalize (P ++ (A ++ D.take t)) ++ z :: ([] ++ y :: (D.drop (t + 1) ++ R)) = K at *
   have k1:=get_lt g1
   have k2:=get_lt g2
   have hKl:i + (t + 1) < m:=by omega
   have q1:=zbz (rest:=rest) g1 (0 + (i + t) * 7) (by omega)
   have q2:=zbz (rest:=rest) g2 (0 + (i + (t + 1)) * 7) (by omega)
   have s1:=zdk (rest:=rest) (z:=z) k2 (0 + (i + (t + 1)) * 7) (by omega)
   have b1:=zdl (rest:=rest) k2 (0 + (i + (t + 1)) * 7) (by omega)
   have k3:i + t < (K.set (i + (t + 1)) z).length:=by rw [List.length_set]; exact k1
   have s2:=zdk (rest:=rest) (z:=y) k3 (0 + (i + t) * 7) (by omega)
   have b2:=zdl (rest:=rest) k3 (0 + (i + t) * 7) (by omega)
   rw [g3] at s2
   have a1:IntKind.i64.wrap (((i + (t + 1):Nat):Int) - 1) = ((i + t:Nat):Int):=zaa (by omega) (by omega) |>.trans (by omega)
   refine Z140 ?_; refine Z116 ?_; refine Z141 ?_; refine Z40 ?_; refine Z145 ?_; refine Z236 ?_; refine qf (id:=23) [(200122, [900]), (200126, [900]), (100127, [900]), (100128, [900])] mixed (by kernel_rfl) ?_; refine Z147 ?_; refine Z241 ?_; refine Z241 ?_; refine z8 (qg L _ rfl rfl rfl rfl rfl rfl rfl (by omega)) rfl ?_; refine qp (zao L (q:=900) (vs:=[_, _, _, _, _, _, _]) rfl rfl rfl rfl rfl rfl q1) rfl rfl ?_; refine Z147 ?_; refine z8 (qg L _ rfl rfl rfl rfl rfl rfl rfl (by omega)) rfl ?_; refine qp (zao L (q:=900) (vs:=[_, _, _, _, _, _, _]) rfl rfl rfl rfl rfl rfl q2) rfl rfl ?_; refine z8 (qg L _ rfl rfl rfl rfl rfl rfl rfl (by omega)) rfl ?_; refine zag (yw L (q:=900) rfl rfl rfl rfl rfl rfl b1 rfl s1) rfl ?_; refine z8 (qg L _ rfl rfl rfl rfl rfl rfl rfl (by omega)) rfl ?_; refine zag (yw L (q:=900) rfl rfl rfl rfl rfl rfl b2 rfl s2) rfl ?_; refine Z282 ?_; refine zf (id:=22) ?_; refine Z231 ?_; refine Z156 ?_
   exact yi (x:=t + 1) t (by omega) (by omega) ⟨rfl, rfl, rfl, rfl, trivial⟩
end Go.V.L8
set_option maxRecDepth 20000
namespace Go.V.L8
open Go.Proofs Go.RowKit Go.V Go.V.L2 Go.V.L3 Go.V.L6
theorem zvg {l:List CH} (h:l.length = 1):∃ x, l = [x]:=by
 rcases l with _ | ⟨x, _ | ⟨y, l⟩⟩
 ·simp at h
 ·exact ⟨x, rfl⟩
 ·simp at h
theorem zl5 {l:List CH} (h:z1s l):stC l = l:=zwu cmpT_ord h
attribute [local irreducible] V N X VO Par StepOK Has Ret RetL RetO RetT zb8 Src
set_option maxHeartbeats 8000000 in
set_option maxRecDepth 20000 in
theorem ztt (N0:Nat):∀ {P X Y R:List CH} {rest:List Value} {b m cap a mm e:Nat}, X.length + Y.length ≤ N0 → P.length = a → a + X.length = mm → mm + Y.length = e → 0 < X.length → 0 < Y.length → z1s X → z1s Y → (P ++ (X ++ (Y ++ R))).length = m → m ≤ 100000 → ∀ {w:World} {B:Heap} {C:Nat → Prop}, B.Le (hp w) →
  (zab b ((P ++ (X ++ (Y ++ R))).flatMap ccs ++ rest) tyC).P B w C → (∀ k, C k → k < w.heap.size ∧ B k = none) →
  zb8 Tryz.prog SYM [.slice (some ⟨b, 0, none⟩) m cap, .int .i64 a, .int .i64 mm, .int .i64 e, zjz] w B C (zab b ((P ++ (stC (X ++ Y) ++ R)).flatMap ccs ++ rest) tyC):=by
 induction N0 with
 | zero => intro P X Y R rest b m cap a mm e h1 h2 h3 h4 h5; omega
 | succ N0 ih =>
 intro P X Y R rest b m cap a mm e hN ha hmm he hx hy hX hY hm hm1 w B C hB hr hC
 by_cases hx1:X.length = 1
 ·obtain ⟨x, rfl⟩:=zvg hx1
  exact zz3 ha (by simpa using hmm) he hY hm hm1 hB hr hC
 by_cases hy1:Y.length = 1
 ·obtain ⟨y, rfl⟩:=zvg hy1
  exact zz4 ha hmm hx1 (by simpa using he) hX hm hm1 hB hr hC
 unfold zb8
 refine zar 900 (zab b ((P ++ (X ++ (Y ++ R))).flatMap ccs ++ rest) tyC) Tryz.func174 rfl Tryz.ntmps174 (Nat.le_of_ble_eq_true rfl) hB hr hC ?_
 rw [za2]
 have hm':=hm
 simp only [List.length_append] at hm'
 have hsh:=zi0 a e
 obtain ⟨mid, hmid⟩:∃ mid, (a + e) / 2 = mid:=⟨_, rfl⟩
 rw [hmid] at hsh
 have hnn:IntKind.i64.wrap ((mid:Int) + (mm:Int)) = ((mid + mm:Nat):Int):=zaa (by omega) (by omega)
 refine Z140 ?_; refine Z14 ?_; refine Z141 ?_; refine Z71 ?_; refine Z281 ?_; refine Z86 ?_; refine Z141 ?_; refine Z71 ?_; refine Z245 ?_; refine zf (id:=24) ?_; refine Z141 ?_; refine Z24 ?_; refine z7 (zau rfl rfl rfl zbq.1 zbq.2 (wrap_u64 (by omega) (by omega))) rfl ?_; refine Z103 ?_; refine z7 (zau rfl rfl rfl zbr.1 zbr.2 (zaa (by omega) (by omega))) rfl ?_; refine Z144 ?_; refine zf (id:=25) ?_; refine Z295 ?_; refine Z144 ?_; refine zf (id:=26) ?_; refine Z225 ?_
 refine zfb (fun s:Nat × Nat => [(0, .is (.slice (some ⟨b, 0, none⟩) m cap)), (1, .is (.int .i64 a)), (2, .is (.int .i64 mm)), (3, .is (.int .i64 e)), (4, .is zjz), (18, .is (.int .i64 mid)), (19, .is (.int .i64 (mid + mm:Nat))), (20, .is (.int .i64 s.1)), (21, .is (.int .i64 s.2)), (900, .own (zal b ((P ++ (X ++ (Y ++ R))).flatMap ccs ++ rest) tyC))]) (fun s => z36 X Y a mm e mid s.1 s.2 ∧ s.1 ≤ s.2) (fun _ => []) ?rest ?first
 case first =>
  by_cases hgt:mid < mm
  ·have hs:IntKind.i64.wrap (((mid + mm:Nat):Int) - (e:Int)) = ((mid + mm - e:Nat):Int):=zaa (by omega) (by omega) |>.trans (by omega)
   refine zf (id:=27) ?_; refine Z141 ?_; refine Z40 ?_; refine Z154 ?_; refine zf (id:=28) ?_; refine Z212 ?_; refine Z139 ?_; refine zf (id:=29) ?_; refine Z1 ?_; refine Z156 ?_
   exact za6 (mid + mm - e, mid) Since.refl ⟨⟨hmm, he, by dsimp only; omega, by dsimp only; omega, Nat.le_refl _, by dsimp only; omega, .inr (by dsimp only; omega), .inr rfl⟩, by dsimp only; omega⟩ rfl ⟨rfl, rfl, rfl, rfl, rfl, rfl, rfl, rfl, rfl, rfl, trivial⟩
  ·refine zf (id:=27) ?_; refine Z141 ?_; refine Z32 ?_; refine Z142 ?_; refine zh ?_; refine zf (id:=30) ?_; refine Z1 ?_; refine Z139 ?_; refine zf (id:=31) ?_; refine Z1 ?_; refine Z156 ?_
   exact za6 (a, mm) Since.refl ⟨⟨hmm, he, Nat.le_refl _, by dsimp only; omega, by dsimp only; omega, Nat.le_refl _, .inl rfl, .inl rfl⟩, by dsimp only; omega⟩ rfl ⟨rfl, rfl, rfl, rfl, rfl, rfl, rfl, rfl, rfl, rfl, trivial⟩
 case rest =>
 rintro ⟨lo, hi⟩ ⟨hb, hlh⟩
 dsimp only at hb hlh ⊢
 have hp:IntKind.i64.wrap (((mid + mm:Nat):Int) - 1) = ((mid + mm - 1:Nat):Int):=zaa (by omega) (by omega) |>.trans (by omega)
 refine zh ?_; refine zf (id:=32) ?_; refine Z231 ?_; refine Z144 ?_; refine qk ?_
 refine zak (fun s:Nat × Nat => [(0, .is (.slice (some ⟨b, 0, none⟩) m cap)), (1, .is (.int .i64 a)), (2, .is (.int .i64 mm)), (3, .is (.int .i64 e)), (4, .is zjz), (18, .is (.int .i64 mid)), (19, .is (.int .i64 (mid + mm:Nat))), (20, .is (.int .i64 s.1)), (21, .is (.int .i64 s.2)), (22, .is (.int .i64 (mid + mm - 1:Nat))), (900, .own (zal b ((P ++ (X ++ (Y ++ R))).flatMap ccs ++ rest) tyC))])
  (fun s => SymI (fun c:CH => c.1) zbd X Y a mid lo hi s.1 s.2) (fun s => s.2 - s.1) (lo, hi) (SymI.start hlh) ⟨rfl, rfl, rfl, rfl, rfl, rfl, rfl, rfl, rfl, rfl, rfl, trivial⟩ ?_
 rintro ⟨i, j⟩ hI
 dsimp only at hI ⊢
 have hI':=hI
 have hb':=hb
 obtain ⟨b1, b2, b3, b4, b5, b6, _, _⟩:=hb'
 obtain ⟨i1, i2, i3, _, _⟩:=hI'
 by_cases hlt:i < j
 ·have hsc:=zi0 i j
  obtain ⟨c, hc⟩:∃ c, (i + j) / 2 = c:=⟨_, rfl⟩
  rw [hc] at hsc
  obtain ⟨x, hxc⟩:=zae (l:=X) (show c - a < X.length by omega)
  obtain ⟨y, hyc⟩:=zae (l:=Y) (show mid - 1 - c < Y.length by omega)
  have q1:=zbz (rest:=rest) (z01 (D:=R) ha hmm hyc (mid + mm - 1 - c) (by omega)) (0 + (mid + mm - 1 - c) * 7) (by omega)
  have q2:=zbz (rest:=rest) (zxx (D:=Y ++ R) ha hxc c (by omega)) (0 + c * 7) (by omega)
  have hpc:IntKind.i64.wrap (((mid + mm - 1:Nat):Int) - (c:Int)) = ((mid + mm - 1 - c:Nat):Int):=zaa (by omega) (by omega) |>.trans (by omega)
  by_cases hcm:zbd y.1 x.1 < 0
  ·refine Z140 ?_; refine zf (id:=33) ?_; refine Z141 ?_; refine Z403 ?_; refine zf (id:=34) ?_; refine Z141 ?_; refine Z24 ?_; refine z7 (zau rfl rfl rfl zbq.1 zbq.2 (wrap_u64 (by omega) (by omega))) rfl ?_; refine Z103 ?_; refine z7 (zau rfl rfl rfl zbr.1 zbr.2 (zaa (by omega) (by omega))) rfl ?_; refine Z144 ?_; refine qf (id:=35) [(200164, [900]), (200168, [900])] mixed (by kernel_rfl) ?_; refine Z147 ?_; refine Z241 ?_; refine z8 (qg L _ rfl rfl rfl rfl rfl rfl rfl (by omega)) rfl ?_; refine qp (zao L (q:=900) (vs:=[_, _, _, _, _, _, _]) rfl rfl rfl rfl rfl rfl q1) rfl rfl ?_; refine Z147 ?_; refine z8 (qg L _ rfl rfl rfl rfl rfl rfl rfl (by omega)) rfl ?_; refine qp (zao L (q:=900) (vs:=[_, _, _, _, _, _, _]) rfl rfl rfl rfl rfl rfl q2) rfl rfl ?_; refine z8 (zo L rfl rfl (zk rfl) rfl rfl rfl (fun u H hH _ _ => zdf hH)) rfl ?_; refine Z73 ?_; refine Z63 ?_; refine Z178 ?_; refine zf (id:=37) ?_; refine Z1 ?_; refine Z243 ?_
   exact yi (x:=(i, j)) (i, c) (hI.down cmpT_ord hX hY hb (by omega) (by omega) hxc hyc hcm) (by dsimp only; omega) ⟨rfl, rfl, rfl, rfl, rfl, rfl, rfl, rfl, rfl, rfl, rfl, trivial⟩
  ·refine Z140 ?_; refine zf (id:=33) ?_; refine Z141 ?_; refine Z403 ?_; refine zf (id:=34) ?_; refine Z141 ?_; refine Z24 ?_; refine z7 (zau rfl rfl rfl zbq.1 zbq.2 (wrap_u64 (by omega) (by omega))) rfl ?_; refine Z103 ?_; refine z7 (zau rfl rfl rfl zbr.1 zbr.2 (zaa (by omega) (by omega))) rfl ?_; refine Z144 ?_; refine qf (id:=35) [(200164, [900]), (200168, [900])] mixed (by kernel_rfl) ?_; refine Z147 ?_; refine Z241 ?_; refine z8 (qg L _ rfl rfl rfl rfl rfl rfl rfl (by omega)) rfl ?_; refine qp (zao L (q:=900) (vs:=[_, _, _, _, _, _, _]) rfl rfl rfl rfl rfl rfl q1) rfl rfl ?_; refine Z147 ?_; refine z8 (qg L _ rfl rfl rfl rfl rfl rfl rfl (by omega)) rfl ?_; refine qp (zao L (q:=900) (vs:=[_, _, _, _, _, _, _]) rfl rfl rfl rfl rfl rfl q2) rfl rfl ?_; refine z8 (zo L rfl rfl (zk rfl) rfl rfl rfl (fun u H hH _ _ => zdf hH)) rfl ?_; refine Z88 ?_; refine Z63 ?_; refine Z210 ?_; refine zf (id:=36) ?_; refine Z1 ?_; refine Z197 ?_; refine y9 ?_
   exact yi (x:=(i, j)) (c + 1, j) (hI.up cmpT_ord hX hY hb (by omega) (by omega) hxc hyc hcm) (by dsimp only; omega) ⟨rfl, rfl, rfl, rfl, rfl, rfl, rfl, rfl, rfl, rfl, rfl, trivial⟩
 ·obtain rfl:i = j:=by omega
  have hj:=zwp cmpT_ord hX hY hb hI
  have hen:IntKind.i64.wrap (((mid + mm:Nat):Int) - (i:Int)) = ((mid + mm - i:Nat):Int):=zaa (by omega) (by omega) |>.trans (by omega)
  refine Z140 ?_; refine zf (id:=33) ?_; refine Z141 ?_; refine Z248 ?_; refine zf (id:=38) ?_; refine Z212 ?_; refine Z148 ?_
  have eX:X.take (i - a) ++ X.drop (i - a) = X:=List.take_append_drop _ _
  have eY:Y.take (mid - i) ++ Y.drop (mid - i) = Y:=List.take_append_drop _ _
  have lA1:(X.take (i - a)).length = i - a:=by rw [List.length_take]; omega
  have lA2:(X.drop (i - a)).length = mm - i:=by rw [List.length_drop]; omega
  have lB1:(Y.take (mid - i)).length = mid - i:=by rw [List.length_take]; omega
  have lB2:(Y.drop (mid - i)).length = e - (mid + mm - i):=by rw [List.length_drop]; omega
  generalize X.take (i - a) = A1 at *
  generalize X.drop (i - a) = A2 at *
  generalize Y.take (mid - i) = B1 at *
  generalize Y.drop (mid - i) = B2 at *
  change stC (A1 ++ B1) ++ stC (A2 ++ B2) = stC (X ++ Y) at hj
  rw [← hj]
  subst eX eY
  obtain ⟨sA1, sA2, _⟩:=zdy.1 hX
  obtain ⟨sB1, sB2, _⟩:=zdy.1 hY
  clear hI hb hj hX hY
  obtain ⟨en, hend⟩:∃ en, mid + mm - i = en:=⟨_, rfl⟩
  rw [hend] at lB2 ⊢
  have e0:P ++ ((A1 ++ A2) ++ ((B1 ++ B2) ++ R)) = (P ++ A1) ++ (A2 ++ (B1 ++ (B2 ++ R))):=by simp
  have e1:(P ++ A1) ++ (B1 ++ (A2 ++ (B2 ++ R))) = P ++ (A1 ++ (B1 ++ (A2 ++ (B2 ++ R)))):=by simp
  have hlen1:((P ++ A1) ++ (A2 ++ (B1 ++ (B2 ++ R)))).length = m:=by rw [← e0]; exact hm
  have hlen2:(P ++ (A1 ++ (B1 ++ (A2 ++ (B2 ++ R))))).length = m:=by simp only [List.length_append] at hm' ⊢; omega
  have hl3:=ze1 (A1 ++ B1)
  rw [List.length_append] at hl3
  have e3:P ++ (stC (A1 ++ B1) ++ (A2 ++ (B2 ++ R))) = (P ++ stC (A1 ++ B1)) ++ (A2 ++ (B2 ++ R)):=by simp
  have hlen3:((P ++ stC (A1 ++ B1)) ++ (A2 ++ (B2 ++ R))).length = m:=by simp only [List.length_append] at hm' ⊢; omega
  have e4:(P ++ stC (A1 ++ B1)) ++ (stC (A2 ++ B2) ++ R) = P ++ ((stC (A1 ++ B1) ++ stC (A2 ++ B2)) ++ R):=by simp
  simp only [List.length_append] at hm' hmm he hN
  refine zfb (fun _:Unit => [(0, .is (.slice (some ⟨b, 0, none⟩) m cap)), (1, .is (.int .i64 a)), (3, .is (.int .i64 e)), (4, .is zjz), (18, .is (.int .i64 mid)), (20, .is (.int .i64 i)), (24, .is (.int .i64 en)), (900, .own (zal b ((P ++ (A1 ++ (B1 ++ (A2 ++ (B2 ++ R))))).flatMap ccs ++ rest) tyC))]) (fun _ => True) (fun _ => []) ?rest1 ?first1
  case first1 =>
   rw [e0]
   by_cases h1:i < mm
   ·by_cases h2:mm < en
    ·refine zf (id:=39) ?_; refine Z330 ?_; refine Z176 ?_; refine Z7 ?_; refine Z257 ?_; refine zf (id:=40) ?_; refine Z141 ?_; refine Z176 ?_; refine qn (za1 L 900 (zab b (((P ++ A1) ++ (B1 ++ (A2 ++ (B2 ++ R)))).flatMap ccs ++ rest) tyC) (r:=zab b (((P ++ A1) ++ (A2 ++ (B1 ++ (B2 ++ R)))).flatMap ccs ++ rest) tyC) rfl rfl rfl rfl rfl (fun u H C hH _ hr hC => (by have h:=zz9 (cap:=cap) (a:=i) (mm:=mm) (e:=en) (by rw [List.length_append]; omega) (by omega) (by omega) (by omega) (by omega) hlen1 hm1 zjz hH hr hC; exact h))) ?_; refine zi ?_
     rw [e1]
     exact za6 () Since.refl trivial rfl ⟨rfl, rfl, rfl, rfl, rfl, rfl, rfl, rfl, trivial⟩
    ·have hB1:B1 = []:=List.eq_nil_of_length_eq_zero (by omega)
     subst hB1
     have e9:(P ++ A1) ++ (A2 ++ ([] ++ (B2 ++ R))) = P ++ (A1 ++ ([] ++ (A2 ++ (B2 ++ R)))):=by simp
     rw [e9]
     refine zf (id:=39) ?_; refine Z330 ?_; refine Z176 ?_; refine Z10 ?_; refine Z8 ?_; refine Z193 ?_
     exact za6 () Since.refl trivial rfl ⟨rfl, rfl, rfl, rfl, rfl, rfl, rfl, rfl, trivial⟩
   ·have hA2:A2 = []:=List.eq_nil_of_length_eq_zero (by omega)
    subst hA2
    have e9:(P ++ A1) ++ ([] ++ (B1 ++ (B2 ++ R))) = P ++ (A1 ++ (B1 ++ ([] ++ (B2 ++ R)))):=by simp
    rw [e9]
    refine zf (id:=39) ?_; refine Z273 ?_; refine Z264 ?_; refine Z193 ?_
    exact za6 () Since.refl trivial rfl ⟨rfl, rfl, rfl, rfl, rfl, rfl, rfl, rfl, trivial⟩
  case rest1 =>
  rintro _ _
  refine Z140 ?_
  refine zfb (fun _:Unit => [(0, .is (.slice (some ⟨b, 0, none⟩) m cap)), (3, .is (.int .i64 e)), (4, .is zjz), (18, .is (.int .i64 mid)), (24, .is (.int .i64 en)), (900, .own (zal b (((P ++ stC (A1 ++ B1)) ++ (A2 ++ (B2 ++ R))).flatMap ccs ++ rest) tyC))]) (fun _ => True) (fun _ => []) ?rest2 ?first2
  case first2 =>
   rw [← e3]
   by_cases h1:a < i
   ·by_cases h2:i < mid
    ·refine zf (id:=41) ?_; refine Z330 ?_; refine Z176 ?_; refine Z7 ?_; refine Z257 ?_; refine zf (id:=42) ?_; refine Z141 ?_; refine Z176 ?_; refine qn (za1 L 900 (zab b ((P ++ (stC (A1 ++ B1) ++ (A2 ++ (B2 ++ R)))).flatMap ccs ++ rest) tyC) (r:=zab b ((P ++ (A1 ++ (B1 ++ (A2 ++ (B2 ++ R))))).flatMap ccs ++ rest) tyC) rfl rfl rfl rfl rfl (fun u H C hH _ hr hC => (by have h:=ih (cap:=cap) (a:=a) (mm:=i) (e:=mid) (by omega) ha (by omega) (by omega) (by omega) (by omega) sA1 sB1 hlen2 hm1 hH hr hC; exact h))) ?_; refine zi ?_
     exact za6 () Since.refl trivial rfl ⟨rfl, rfl, rfl, rfl, rfl, rfl, trivial⟩
    ·have hB1:B1 = []:=List.eq_nil_of_length_eq_zero (by omega)
     subst hB1
     have e9:P ++ (A1 ++ ([] ++ (A2 ++ (B2 ++ R)))) = P ++ (stC (A1 ++ []) ++ (A2 ++ (B2 ++ R))):=by rw [List.append_nil, zl5 sA1]; rfl
     rw [e9]
     refine zf (id:=41) ?_; refine Z330 ?_; refine Z176 ?_; refine Z10 ?_; refine Z8 ?_; refine Z193 ?_
     exact za6 () Since.refl trivial rfl ⟨rfl, rfl, rfl, rfl, rfl, rfl, trivial⟩
   ·have hA1:A1 = []:=List.eq_nil_of_length_eq_zero (by omega)
    subst hA1
    have e9:P ++ ([] ++ (B1 ++ (A2 ++ (B2 ++ R)))) = P ++ (stC ([] ++ B1) ++ (A2 ++ (B2 ++ R))):=by rw [List.nil_append, List.nil_append, zl5 sB1]
    rw [e9]
    refine zf (id:=41) ?_; refine Z273 ?_; refine Z264 ?_; refine Z193 ?_
    exact za6 () Since.refl trivial rfl ⟨rfl, rfl, rfl, rfl, rfl, rfl, trivial⟩
  case rest2 =>
  rintro _ _
  by_cases h1:mid < en
  ·by_cases h2:en < e
   ·refine zh ?_; refine zf (id:=43) ?_; refine Z330 ?_; refine Z176 ?_; refine Z7 ?_; refine Z257 ?_; refine zf (id:=44) ?_; refine Z141 ?_; refine Z176 ?_; refine qn (za1 L 900 (zab b (((P ++ stC (A1 ++ B1)) ++ (stC (A2 ++ B2) ++ R)).flatMap ccs ++ rest) tyC) (r:=zab b (((P ++ stC (A1 ++ B1)) ++ (A2 ++ (B2 ++ R))).flatMap ccs ++ rest) tyC) rfl rfl rfl rfl rfl (fun u H C hH _ hr hC => (by have h:=ih (cap:=cap) (a:=mid) (mm:=en) (e:=e) (by omega) (by rw [List.length_append]; omega) (by omega) (by omega) (by omega) (by omega) sA2 sB2 hlen3 hm1 hH hr hC; exact h))) ?_; refine zi ?_
    rw [e4]
    exact zbb L 900 (r:=zab b _ tyC) rfl (fun _ _ h => h) Since.refl rfl rfl
   ·have hB2:B2 = []:=List.eq_nil_of_length_eq_zero (by omega)
    subst hB2
    have e9:(P ++ stC (A1 ++ B1)) ++ (A2 ++ ([] ++ R)) = P ++ ((stC (A1 ++ B1) ++ stC (A2 ++ [])) ++ R):=by rw [List.append_nil, zl5 sA2]; simp
    rw [e9]
    refine zh ?_; refine zf (id:=43) ?_; refine Z330 ?_; refine Z176 ?_; refine Z10 ?_; refine Z8 ?_; refine Z193 ?_
    exact zbb L 900 (r:=zab b _ tyC) rfl (fun _ _ h => h) Since.refl rfl rfl
  ·have hA2:A2 = []:=List.eq_nil_of_length_eq_zero (by omega)
   subst hA2
   have e9:(P ++ stC (A1 ++ B1)) ++ ([] ++ (B2 ++ R)) = P ++ ((stC (A1 ++ B1) ++ stC ([] ++ B2)) ++ R):=by rw [List.nil_append, List.nil_append, zl5 sB2]; simp
   rw [e9]
   refine zh ?_; refine zf (id:=43) ?_; refine Z273 ?_; refine Z264 ?_; refine Z193 ?_
   exact zbb L 900 (r:=zab b _ tyC) rfl (fun _ _ h => h) Since.refl rfl rfl
end Go.V.L8
