/- Texts on the way to StoresNil, part 6: one behind another. -/
import Derived.Test.YtcppaheijljnfaaGreatStoresNilM5
import Derived.ProofKit
import Derived.HandedShaped
import Derived.OpenShut
import Derived.Carry
import Derived.Deep.Slices
set_option linter.unusedVariables false
set_option linter.unusedSimpArgs false
set_option maxRecDepth 20000
namespace Go.V.L8
open Go.Proofs Go.RowKit Go.V Go.V.L2 Go.V.L3 Go.V.L6
abbrev chC (n:Nat) (l:List CH):List CH:=chL (fun c:CH => c.1) zbd n l
theorem zi3 {n:Nat} (hn:0 < n) (l:List CH):chC n l = stC (l.take n) ++ chC n (l.drop n):=zm4 hn l
theorem zh3 {n:Nat} (hn:0 < n) {l:List CH} (h:l.length ≤ n):chC n l = stC l:=z08 hn h
theorem z09 {n:Nat} (hn:0 < n) (l:List CH):(chC n l).length = l.length:=zv4 cmpT_ord hn l.length (Nat.le_refl _)
theorem ztw (X Y:List CH):stC (stC X ++ stC Y) = stC (X ++ Y):=zww cmpT_ord X Y
theorem zis (X:List CH):z1s (stC X):=(zct cmpT_ord X).1
attribute [local irreducible] V N X VO Par StepOK Has Ret RetL RetO RetT zb8 Src
set_option maxHeartbeats 8000000 in
set_option maxRecDepth 20000 in
theorem zwx {l:List CH} {rest:List Value} {b m cap:Nat} (hm:l.length = m) (hm1:m ≤ 100000) {w:World} {B:Heap} {C:Nat → Prop} (hB:B.Le (hp w))
  (hr:(zab b (l.flatMap ccs ++ rest) tyC).P B w C) (hC:∀ k, C k → k < w.heap.size ∧ B k = none) :
  zb8 Tryz.prog 160 [.slice (some ⟨b, 0, none⟩) m cap, .int .i64 m, zjz] w B C (zab b ((stC l).flatMap ccs ++ rest) tyC):=by
 unfold zb8
 refine zar 900 (zab b (l.flatMap ccs ++ rest) tyC) Tryz.func160 rfl Tryz.ntmps160 (Nat.le_of_ble_eq_true rfl) hB hr hC ?_
 rw [za2]
 refine Z286 ?_; refine Z195 ?_; refine qk ?_
 refine zak (fun s:Nat × List CH => [(0, .is (.slice (some ⟨b, 0, none⟩) m cap)), (1, .is (.int .i64 m)), (2, .is zjz), (6, .is (.int .i64 20)), (7, .is (.int .i64 s.1)), (8, .is (.int .i64 (s.1 + 20:Nat))), (900, .own (zal b ((s.2 ++ l.drop s.1).flatMap ccs ++ rest) tyC))])
  (fun s => s.2.length = s.1 ∧ s.1 ≤ m ∧ s.2 ++ chC 20 (l.drop s.1) = chC 20 l) (fun s => m - s.1) (0, []) ⟨rfl, Nat.zero_le _, rfl⟩ ⟨rfl, rfl, rfl, rfl, rfl, rfl, rfl, trivial⟩ ?_
 rintro ⟨a, S1⟩ ⟨h1, h2, h3⟩
 dsimp only at h1 h2 h3 ⊢
 have hdl:(l.drop a).length = m - a:=by rw [List.length_drop, hm]
 by_cases hlt:a + 20 ≤ m
 ·have e0:S1 ++ l.drop a = S1 ++ ((l.drop a).take 20 ++ (l.drop a).drop 20):=by rw [List.take_append_drop]
  have e1:S1 ++ (stC ((l.drop a).take 20) ++ (l.drop a).drop 20) = (S1 ++ stC ((l.drop a).take 20)) ++ l.drop (a + 20):=by rw [List.drop_drop, List.append_assoc]
  have hlen:(S1 ++ ((l.drop a).take 20 ++ (l.drop a).drop 20)).length = m:=by rw [← e0, List.length_append]; omega
  have ltk:((l.drop a).take 20).length = 20:=by rw [List.length_take]; omega
  have a1:IntKind.i64.wrap (((a + 20:Nat):Int) + 20) = ((a + 20 + 20:Nat):Int):=zaa (by omega) (by omega)
  rw [e0]
  refine Z314 ?_; refine Z74 ?_; refine Z308 ?_; refine Z207 ?_; refine Z141 ?_; refine qn (za1 L 900 (zab b ((S1 ++ (stC ((l.drop a).take 20) ++ (l.drop a).drop 20)).flatMap ccs ++ rest) tyC) (r:=zab b ((S1 ++ ((l.drop a).take 20 ++ (l.drop a).drop 20)).flatMap ccs ++ rest) tyC) rfl rfl rfl rfl rfl (fun u H C hH _ hr hC => (by have h:=ins_ret (cap:=cap) (a:=a) (e:=a + 20) h1 (by omega) hlen hm1 hH hr hC; exact h))) ?_; refine Z159 ?_; refine Z161 ?_; refine Z139 ?_; refine Z244 ?_; refine Z217 ?_; refine y9 ?_
  rw [e1]
  exact yi (x:=(a, S1)) (a + 20, S1 ++ stC ((l.drop a).take 20)) ⟨by dsimp only; rw [List.length_append, ze1]; omega, hlt, by
   dsimp only
   rw [← h3, zi3 (by omega) (l.drop a), List.drop_drop, List.append_assoc]⟩ (by dsimp only; omega) ⟨rfl, rfl, rfl, rfl, rfl, rfl, rfl, trivial⟩
 ·have e0:S1 ++ l.drop a = S1 ++ (l.drop a ++ []):=by rw [List.append_nil]
  have e1:S1 ++ (stC (l.drop a) ++ []) = chC 20 l:=by rw [List.append_nil, ← h3, zh3 (by omega) (by omega)]
  have hlen:(S1 ++ (l.drop a ++ [])).length = m:=by rw [← e0, List.length_append]; omega
  rw [e0]
  refine Z314 ?_; refine Z70 ?_; refine Z183 ?_; refine Z374 ?_; refine Z232 ?_; refine qn (za1 L 900 (zab b ((S1 ++ (stC (l.drop a) ++ [])).flatMap ccs ++ rest) tyC) (r:=zab b ((S1 ++ (l.drop a ++ [])).flatMap ccs ++ rest) tyC) rfl rfl rfl rfl rfl (fun u H C hH _ hr hC => (by have h:=ins_ret (cap:=cap) (a:=a) (e:=m) h1 (by omega) hlen hm1 hH hr hC; exact h))) ?_; refine Z254 ?_
  rw [e1]
  clear e0 e1 hlen hlt hdl h1 h2 h3
  refine zak (fun s:Nat => [(0, .is (.slice (some ⟨b, 0, none⟩) m cap)), (1, .is (.int .i64 m)), (2, .is zjz), (6, .is (.int .i64 s)), (900, .own (zal b ((chC s l).flatMap ccs ++ rest) tyC))]) (fun s => 0 < s ∧ s ≤ 20 + 2 * m) (fun s => m - s) 20 ⟨by omega, by omega⟩ ⟨rfl, rfl, rfl, rfl, rfl, trivial⟩ ?_
  rintro s ⟨hs0, hs1⟩
  by_cases hsm:s < m
  ·refine Z140 ?_; refine Z328 ?_; refine Z403 ?_; refine Z228 ?_; refine Z53 ?_; refine Z195 ?_; refine qk ?_
   refine zak (fun t:Nat × List CH => [(0, .is (.slice (some ⟨b, 0, none⟩) m cap)), (1, .is (.int .i64 m)), (2, .is zjz), (6, .is (.int .i64 s)), (7, .is (.int .i64 t.1)), (8, .is (.int .i64 (t.1 + 2 * s:Nat))), (900, .own (zal b ((t.2 ++ chC s (l.drop t.1)).flatMap ccs ++ rest) tyC))])
    (fun t => t.2.length = t.1 ∧ t.1 ≤ m ∧ t.2 ++ chC (2 * s) (l.drop t.1) = chC (2 * s) l) (fun t => m - t.1) (0, []) ⟨rfl, Nat.zero_le _, rfl⟩ ⟨rfl, rfl, rfl, rfl, rfl, by dsimp only; rw [Nat.zero_add]; rfl, rfl, trivial⟩ ?_
   rintro ⟨a, S1⟩ ⟨h1, h2, h3⟩
   dsimp only at h1 h2 h3 ⊢
   have hdl:(l.drop a).length = m - a:=by rw [List.length_drop, hm]
   have hcs:=zi3 hs0 (l.drop a)
   by_cases hlt:a + 2 * s ≤ m
   ·have hcs2:=zi3 hs0 ((l.drop a).drop s)
    have e0:S1 ++ chC s (l.drop a) = S1 ++ (stC ((l.drop a).take s) ++ (stC (((l.drop a).drop s).take s) ++ chC s (l.drop (a + 2 * s)))):=by
     rw [hcs, hcs2, List.drop_drop, List.drop_drop, show a + s + s = a + 2 * s by omega]
    have ht2:(l.drop a).take (2 * s) = (l.drop a).take s ++ ((l.drop a).drop s).take s:=by rw [show 2 * s = s + s by omega, List.take_add]
    have e1:S1 ++ (stC (stC ((l.drop a).take s) ++ stC (((l.drop a).drop s).take s)) ++ chC s (l.drop (a + 2 * s))) = (S1 ++ stC ((l.drop a).take (2 * s))) ++ chC s (l.drop (a + 2 * s)):=by rw [ztw, ← ht2, List.append_assoc]
    have l1:(stC ((l.drop a).take s)).length = s:=by rw [ze1, List.length_take]; omega
    have l2:(stC (((l.drop a).drop s).take s)).length = s:=by rw [ze1, List.length_take, List.length_drop]; omega
    have l3:(chC s (l.drop (a + 2 * s))).length = m - (a + 2 * s):=by rw [z09 hs0, List.length_drop, hm]
    have hlen:(S1 ++ (stC ((l.drop a).take s) ++ (stC (((l.drop a).drop s).take s) ++ chC s (l.drop (a + 2 * s))))).length = m:=by simp only [List.length_append]; omega
    have a1:IntKind.i64.wrap ((a:Int) + (s:Int)) = ((a + s:Nat):Int):=zaa (by omega) (by omega)
    have a2:IntKind.i64.wrap (((a + 2 * s:Nat):Int) + 2 * (s:Int)) = ((a + 2 * s + 2 * s:Nat):Int):=zaa (by omega) (by omega)
    rw [e0]
    refine Z140 ?_; refine Z60 ?_; refine Z141 ?_; refine Z74 ?_; refine Z308 ?_; refine Z68 ?_; refine Z232 ?_; refine Z20 ?_; refine Z141 ?_; refine qn (za1 L 900 (zab b ((S1 ++ (stC (stC ((l.drop a).take s) ++ stC (((l.drop a).drop s).take s)) ++ chC s (l.drop (a + 2 * s)))).flatMap ccs ++ rest) tyC) (r:=zab b ((S1 ++ (stC ((l.drop a).take s) ++ (stC (((l.drop a).drop s).take s) ++ chC s (l.drop (a + 2 * s))))).flatMap ccs ++ rest) tyC) rfl rfl rfl rfl rfl (fun u H C hH _ hr hC => (by have h:=ztt _ (cap:=cap) (a:=a) (mm:=a + s) (e:=a + 2 * s) (Nat.le_refl _) h1 (by omega) (by omega) (by omega) (by omega) (zis _) (zis _) hlen hm1 hH hr hC; exact h))) ?_; refine Z159 ?_; refine Z272 ?_; refine Z139 ?_; refine Z86 ?_; refine Z141 ?_; refine Z53 ?_; refine Z217 ?_; refine y9 ?_
    rw [e1]
    exact yi (x:=(a, S1)) (a + 2 * s, S1 ++ stC ((l.drop a).take (2 * s))) ⟨by dsimp only; rw [List.length_append, ze1, List.length_take]; omega, hlt, by
     dsimp only
     rw [← h3, zi3 (by omega) (l.drop a), List.drop_drop, List.append_assoc]⟩ (by dsimp only; omega) ⟨rfl, rfl, rfl, rfl, rfl, rfl, rfl, trivial⟩
   ·have a1:IntKind.i64.wrap ((a:Int) + (s:Int)) = ((a + s:Nat):Int):=zaa (by omega) (by omega)
    have a2:IntKind.i64.wrap ((s:Int) * 2) = ((2 * s:Nat):Int):=zaa (by omega) (by omega) |>.trans (by omega)
    by_cases hlm:a + s < m
    ·have e0:S1 ++ chC s (l.drop a) = S1 ++ (stC ((l.drop a).take s) ++ (stC ((l.drop a).drop s) ++ [])):=by
      rw [hcs, zh3 hs0 (l:=(l.drop a).drop s) (by rw [List.length_drop]; omega), List.append_nil]
     have e1:S1 ++ (stC (stC ((l.drop a).take s) ++ stC ((l.drop a).drop s)) ++ []) = chC (2 * s) l:=by
      rw [ztw, List.take_append_drop, List.append_nil, ← h3, zh3 (n:=2 * s) (by omega) (by omega)]
     have l1:(stC ((l.drop a).take s)).length = s:=by rw [ze1, List.length_take]; omega
     have l2:(stC ((l.drop a).drop s)).length = m - a - s:=by rw [ze1, List.length_drop]; omega
     have hlen:(S1 ++ (stC ((l.drop a).take s) ++ (stC ((l.drop a).drop s) ++ []))).length = m:=by simp only [List.length_append, List.length_nil]; omega
     rw [e0]
     refine Z140 ?_; refine Z60 ?_; refine Z141 ?_; refine Z70 ?_; refine Z183 ?_; refine Z140 ?_; refine Z82 ?_; refine Z295 ?_; refine Z144 ?_; refine Z72 ?_; refine Z141 ?_; refine Z177 ?_; refine Z96 ?_; refine Z141 ?_; refine Z176 ?_; refine qn (za1 L 900 (zab b ((S1 ++ (stC (stC ((l.drop a).take s) ++ stC ((l.drop a).drop s)) ++ [])).flatMap ccs ++ rest) tyC) (r:=zab b ((S1 ++ (stC ((l.drop a).take s) ++ (stC ((l.drop a).drop s) ++ []))).flatMap ccs ++ rest) tyC) rfl rfl rfl rfl rfl (fun u H C hH _ hr hC => (by have h:=ztt _ (cap:=cap) (a:=a) (mm:=a + s) (e:=m) (Nat.le_refl _) h1 (by omega) (by omega) (by omega) (by omega) (zis _) (zis _) hlen hm1 hH hr hC; exact h))) ?_; refine Z138 ?_; refine Z102 ?_; refine Z1 ?_; refine z7 (zuu rfl rfl rfl rfl a2) rfl ?_; refine Z243 ?_
     rw [e1]
     exact yi (x:=s) (2 * s) ⟨by omega, by omega⟩ (by omega) ⟨rfl, rfl, rfl, rfl, rfl, trivial⟩
    ·have e1:S1 ++ chC s (l.drop a) = chC (2 * s) l:=by
      rw [← h3, zh3 hs0 (by omega), zh3 (n:=2 * s) (by omega) (by omega)]
     rw [e1]
     refine Z140 ?_; refine Z60 ?_; refine Z141 ?_; refine Z70 ?_; refine Z183 ?_; refine Z140 ?_; refine Z82 ?_; refine Z295 ?_; refine Z144 ?_; refine Z72 ?_; refine Z360 ?_; refine Z143 ?_; refine Z102 ?_; refine Z1 ?_; refine z7 (zuu rfl rfl rfl rfl a2) rfl ?_; refine Z243 ?_
     exact yi (x:=s) (2 * s) ⟨by omega, by omega⟩ (by omega) ⟨rfl, rfl, rfl, rfl, rfl, trivial⟩
  ·rw [zh3 hs0 (by omega)]
   refine Z140 ?_; refine Z44 ?_; refine Z360 ?_; refine Z165 ?_
   exact zbb L 900 (r:=zab b _ tyC) rfl (fun _ _ h => h) Since.refl rfl rfl
abbrev SSF:Nat:=135
set_option maxHeartbeats 1000000 in
set_option maxRecDepth 20000 in
theorem ztz {l:List CH} {rest:List Value} {b m cap:Nat} (hm:l.length = m) (hm1:m ≤ 100000) {w:World} {B:Heap} {C:Nat → Prop} (hB:B.Le (hp w))
  (hr:(zab b (l.flatMap ccs ++ rest) tyC).P B w C) (hC:∀ k, C k → k < w.heap.size ∧ B k = none) :
  zb8 Tryz.prog SSF [.slice (some ⟨b, 0, none⟩) m cap, zjz] w B C (zab b ((stC l).flatMap ccs ++ rest) tyC):=by
 unfold zb8
 refine zar 900 (zab b (l.flatMap ccs ++ rest) tyC) Tryz.func135 rfl Tryz.ntmps135 (Nat.le_of_ble_eq_true rfl) hB hr hC ?_
 rw [za2]
 refine Z14 ?_; refine Z141 ?_; refine Z75 ?_; refine Z1 ?_; refine qn (za1 L 900 (zab b ((stC l).flatMap ccs ++ rest) tyC) (r:=zab b (l.flatMap ccs ++ rest) tyC) rfl rfl rfl rfl rfl (fun u H C hH _ hr hC => (by have h:=zwx (cap:=cap) hm hm1 hH hr hC; exact h))) ?_; refine zi ?_
 exact zbb L 900 (r:=zab b _ tyC) rfl (fun _ _ h => h) Since.refl rfl rfl
set_option maxRecDepth 20000 in
theorem zxq {w:World} {B:Heap} (hB:B.Le (hp w)):Ret Tryz.prog 173 [.slice none 0 0, .int .i64 0, .int .i64 0, zjz] w B (fun _ _ => True):=by
 refine yc Tryz.func173 rfl Tryz.ntmps173 (Nat.le_of_ble_eq_true rfl) hB ?_
 refine Z146 ?_; refine Z1 ?_; refine Z24 ?_; refine Z203 ?_
 refine zak (fun _:Nat => [(2, .is (.int .i64 0)), (8, .is (.int .i64 1))]) (fun _ => True) (fun s => s) 0 trivial ⟨rfl, rfl, trivial⟩ ?_
 rintro s _
 refine Z140 ?_; refine Z17 ?_; refine Z360 ?_; refine Z165 ?_
 exact zwf L rfl (fun _ _ h => h) Since.refl
set_option maxRecDepth 20000 in
theorem ztv {w:World} {B:Heap} (hB:B.Le (hp w)):Ret Tryz.prog 160 [.slice none 0 0, .int .i64 0, zjz] w B (fun _ _ => True):=by
 refine yc Tryz.func160 rfl Tryz.ntmps160 (Nat.le_of_ble_eq_true rfl) hB ?_
 refine Z286 ?_; refine Z195 ?_; refine qk ?_
 refine zak (fun _:Nat => [(0, .is (.slice none 0 0)), (1, .is (.int .i64 0)), (2, .is zjz), (6, .is (.int .i64 20)), (7, .is (.int .i64 0)), (8, .is (.int .i64 20))]) (fun _ => True) (fun s => s) 0 trivial ⟨rfl, rfl, rfl, rfl, rfl, rfl, trivial⟩ ?_
 rintro s _
 refine Z314 ?_; refine Z70 ?_; refine Z183 ?_; refine Z374 ?_; refine Z232 ?_; refine z7 (yq (φ:=fun _ _ => True) L rfl rfl (zk rfl) rfl rfl rfl (fun _ _ _ _ _ => trivial) (fun u H hH _ _ => zxq hH)) rfl ?_; refine Z254 ?_
 refine zak (fun _:Nat => [(1, .is (.int .i64 0)), (6, .is (.int .i64 20))]) (fun _ => True) (fun s => s) 0 trivial ⟨rfl, rfl, trivial⟩ ?_
 rintro s _
 refine Z140 ?_; refine Z44 ?_; refine Z360 ?_; refine Z165 ?_
 exact zwf L rfl (fun _ _ h => h) Since.refl
set_option maxRecDepth 20000 in
theorem zrz {w:World} {B:Heap} (hB:B.Le (hp w)):Ret Tryz.prog SSF [.slice none 0 0, zjz] w B (fun _ _ => True):=by
 refine yc Tryz.func135 rfl Tryz.ntmps135 (Nat.le_of_ble_eq_true rfl) hB ?_
 refine Z14 ?_; refine Z141 ?_; refine Z75 ?_; refine Z1 ?_; refine z7 (yq (φ:=fun _ _ => True) L rfl rfl (zk rfl) rfl rfl rfl (fun _ _ _ _ _ => trivial) (fun u H hH _ _ => ztv hH)) rfl ?_; refine zi ?_
 exact zwf L rfl (fun _ _ h => h) Since.refl
end Go.V.L8
set_option maxRecDepth 20000
namespace Go.V.L8
open Go.Proofs Go.RowKit Go.V Go.V.L2 Go.V.L3 Go.V.L6
abbrev zC:CH:=((n3, n3), false)
def zvk (l:List CH) (t:U) (z:CH):CH:=l.foldl (fun a c => if c.1 = t then c else a) z
def zgt (l:List CH) (t:U):Option CH:=(l.filter fun c => decide (c.1 = t)).getLast?
theorem zev (c:CH) (l:List CH) (t:U):zgt (c :: l) t = (zgt l t).or (if c.1 = t then some c else none):=by
 unfold zgt
 by_cases h:c.1 = t
 ·rw [if_pos h, List.filter_cons_of_pos (by simpa using h), List.getLast?_cons]
  cases (l.filter fun c => decide (c.1 = t)).getLast? <;> rfl
 ·rw [if_neg h, List.filter_cons_of_neg (by simpa using h)]
  cases (l.filter fun c => decide (c.1 = t)).getLast? <;> rfl
theorem zfw {l:List CH} {t:U} {c:CH} (h:zgt l t = some c):c.1 = t ∧ c ∈ l:=by
 have:=List.mem_of_getLast? h
 rw [List.mem_filter] at this
 exact ⟨by simpa using this.2, this.1⟩
theorem zlm {l:List CH} {t:U}:zgt l t = none ↔ ∀ c ∈ l, c.1 ≠ t:=by
 unfold zgt
 rw [List.getLast?_eq_none_iff, List.filter_eq_nil_iff]
 simp
theorem zq4 (l:List CH) (t:U) (z:CH):zvk l t z = (zgt l t).getD z:=by
 induction l generalizing z with
 | nil => rfl
 | cons c r ih =>
  have:zvk (c :: r) t z = zvk r t (if c.1 = t then c else z):=rfl
  rw [this, ih, zev]
  cases zgt r t with
  | some d => rfl
  | none => by_cases h:c.1 = t <;> simp [h]
theorem zoe {l:List CH} {t:U} {z:CH} (h:∃ c ∈ l, c.1 = t):zgt l t = some (zvk l t z):=by
 rw [zq4]
 cases hk:zgt l t with
 | some d => rfl
 | none => obtain ⟨c, hc, he⟩:=h; exact absurd he (zlm.1 hk c hc)
def zj4 (l:List CH):List CH:=(zji (l.map (·.1))).map fun t => zvk l t zC
theorem zjh {l:List U} {t:U}:t ∈ zji l ↔ t ∈ l:=by unfold zji; rw [zfu]; simp
theorem zty (l:List U):Sst zbd (zji l):=zfp cmpT_ord Sst.nil
theorem zu7 {l:List CH} {c:CH}:c ∈ zj4 l ↔ zgt l c.1 = some c:=by
 unfold zj4
 rw [List.mem_map]
 constructor
 ·rintro ⟨t, ht, rfl⟩
  rw [zjh, List.mem_map] at ht
  have:=zoe (z:=zC) ht
  rw [(zfw this).1]
  exact this
 ·intro h
  have hm:=zfw h
  exact ⟨c.1, zjh.2 (List.mem_map.2 ⟨c, hm.2, rfl⟩), by rw [zq4, h]; rfl⟩
theorem zsi (l:List CH):(zj4 l).map (·.1) = zji (l.map (·.1)):=by
 unfold zj4
 rw [List.map_map]
 conv => rhs; rw [← List.map_id (zji (l.map (·.1)))]
 refine List.map_congr_left fun t ht => ?_
 rw [zjh, List.mem_map] at ht
 exact (zfw (zoe (z:=zC) ht)).1
def zyt (l:List CH):Prop:=Sst zbd (l.map (·.1))
theorem zu6 (l:List CH):zyt (zj4 l):=by unfold zyt; rw [zsi]; exact zty _
theorem zxf {l:List CH} (h:zyt l):l.Pairwise fun a b => a.1 ≠ b.1:=by
 unfold zyt Sst at h
 rw [List.pairwise_map] at h
 exact h.imp fun h1 => cmpT_ord.ne h1
theorem z0q {l m:List CH} (hl:zyt l) (hm:zyt m) (h:∀ c, c ∈ l ↔ c ∈ m):l = m:=by
 have hk:l.map (·.1) = m.map (·.1):=ze3 cmpT_ord hl hm fun t => by
  rw [List.mem_map, List.mem_map]
  exact ⟨fun ⟨c, hc, e⟩ => ⟨c, (h c).1 hc, e⟩, fun ⟨c, hc, e⟩ => ⟨c, (h c).2 hc, e⟩⟩
 have uni:∀ {l:List CH}, zyt l → ∀ a ∈ l, ∀ b ∈ l, a.1 = b.1 → a = b:=fun {l} hn a ha b hb e => by
  by_cases hab:a = b
  ·exact hab
  ·exfalso
   obtain ⟨i, hi⟩:=List.getElem?_of_mem ha
   obtain ⟨j, hj⟩:=List.getElem?_of_mem hb
   obtain ⟨hi', rfl⟩:=List.getElem?_eq_some_iff.1 hi
   obtain ⟨hj', rfl⟩:=List.getElem?_eq_some_iff.1 hj
   have hp:=List.pairwise_iff_getElem.1 (zxf hn)
   rcases Nat.lt_trichotomy i j with h | h | h
   ·exact hp i j hi' hj' h e
   ·subst h; exact hab rfl
   ·exact hp j i hj' hi' h e.symm
 have hlen:l.length = m.length:=by rw [← List.length_map (f:=(·.1)), hk, List.length_map]
 refine List.ext_getElem hlen fun i h1 h2 => ?_
 have e:l[i].1 = m[i].1:=by
  have:=congrArg (·[i]?) hk
  simp only [List.getElem?_map, List.getElem?_eq_getElem h1, List.getElem?_eq_getElem h2, Option.map_some, Option.some.injEq] at this
  exact this
 exact uni hm _ ((h _).1 (List.getElem_mem h1)) _ (List.getElem_mem h2) e
def ze8:List CH → List CH
 | [] => []
 | [c] => [c]
 | c :: d :: r => if zbd c.1 d.1 = 0 then ze8 (d :: r) else c :: ze8 (d :: r)
theorem zsr {l:List CH} {i:Nat} {c:CH} (h:l[i]? = some c):ze8 (l.drop i) = (match l[i + 1]? with | none => [c] | some d => if zbd c.1 d.1 = 0 then [] else [c]) ++ ze8 (l.drop (i + 1)):=by
 have h1:l.drop i = c :: l.drop (i + 1):=zfe h
 rw [h1]
 cases h2:l[i + 1]? with
 | none =>
  have:l.drop (i + 1) = []:=List.drop_eq_nil_of_le (by simpa using h2)
  rw [this]; rfl
 | some d =>
  have h3:l.drop (i + 1) = d :: l.drop (i + 1 + 1):=zfe h2
  rw [h3]
  show (if zbd c.1 d.1 = 0 then _ else _) = (if zbd c.1 d.1 = 0 then _ else _) ++ _
  split <;> rfl
theorem zln:∀ {S:List CH}, Srt (·.1) zbd S → (∀ c ∈ ze8 S, zgt S c.1 = some c) ∧ (∀ x ∈ S, ∃ c ∈ ze8 S, c.1 = x.1) ∧ zyt (ze8 S)
 | [], _ => ⟨fun c hc => (by cases hc), fun c hc => (by cases hc), Sst.nil⟩
 | [c], _ => by
  have e:ze8 [c] = [c]:=rfl
  rw [e]
  refine ⟨fun d hd => ?_, fun x hx => ⟨x, hx, rfl⟩, List.pairwise_singleton _ _⟩
  rw [List.mem_singleton] at hd; subst hd
  rw [zev, if_pos rfl]; rfl
 | c :: d :: r, h => by
  obtain ⟨h1, h2⟩:=List.pairwise_cons.1 h
  obtain ⟨g1, g2, g3⟩:=zln (S:=d :: r) h2
  have e:ze8 (c :: d :: r) = if zbd c.1 d.1 = 0 then ze8 (d :: r) else c :: ze8 (d :: r):=rfl
  by_cases h0:zbd c.1 d.1 = 0
  ·rw [e, if_pos h0]
   have hcd:=cmpT_ord.eq _ _ h0
   refine ⟨fun x hx => by rw [zev, g1 x hx]; rfl, fun x hx => ?_, g3⟩
   rcases List.mem_cons.1 hx with rfl | hx
   ·obtain ⟨y, hy, e⟩:=g2 d (List.mem_cons_self ..)
    exact ⟨y, hy, e.trans hcd.symm⟩
   ·exact g2 x hx
  ·rw [e, if_neg h0]
   have hlt:∀ y ∈ d :: r, zbd c.1 y.1 < 0:=fun y hy => by
    have hcd:zbd c.1 d.1 < 0:=by
     have h3:=h1 d (List.mem_cons_self ..)
     have:=cmpT_ord.anti c.1 d.1
     dsimp only at h3
     omega
    rcases List.mem_cons.1 hy with rfl | hy
    ·exact hcd
    ·have h3:=(List.pairwise_cons.1 h2).1 y hy
     dsimp only at h3
     by_cases h5:zbd d.1 y.1 < 0
     ·exact cmpT_ord.tr hcd h5
     ·have h6:zbd d.1 y.1 = 0:=by have:=cmpT_ord.anti d.1 y.1; omega
      rw [← cmpT_ord.eq _ _ h6]; exact hcd
   refine ⟨fun x hx => ?_, fun x hx => ?_, ?_⟩
   ·rcases List.mem_cons.1 hx with rfl | hx
    ·rw [zev, if_pos rfl, zlm.2 fun y hy e => cmpT_ord.irr x.1 (by rw [← e] ; exact absurd (hlt y hy) (by rw [e]; exact cmpT_ord.irr _))]; rfl
    ·rw [zev, g1 x hx]; rfl
   ·rcases List.mem_cons.1 hx with rfl | hx
    ·exact ⟨x, List.mem_cons_self .., rfl⟩
    ·obtain ⟨y, hy, e⟩:=g2 x hx
     exact ⟨y, List.mem_cons_of_mem _ hy, e⟩
   ·unfold zyt
    rw [List.map_cons]
    refine List.pairwise_cons.2 ⟨fun t ht => ?_, g3⟩
    obtain ⟨y, hy, rfl⟩:=List.mem_map.1 ht
    exact hlt y (zfw (g1 y hy)).2
theorem zvm {l S:List CH} (h:Stb (·.1) zbd l S):ze8 S = zj4 l:=by
 obtain ⟨g1, g2, g3⟩:=zln h.1
 have hK:∀ t, zgt S t = zgt l t:=fun t => by unfold zgt; rw [h.2 t]
 refine z0q g3 (zu6 l) fun c => ?_
 rw [zu7]
 constructor
 ·exact fun hc => by rw [← hK]; exact g1 c hc
 ·intro hc
  rw [← hK] at hc
  obtain ⟨d, hd, e⟩:=g2 c (zfw hc).2
  have:=g1 d hd
  rw [e, hc] at this
  cases this; exact hd
end Go.V.L8
set_option maxRecDepth 20000
namespace Go.V.L8
open Go.Proofs Go.RowKit Go.V Go.V.L2 Go.V.L3 Go.V.L6
theorem _root_.Go.V.Z99 {A B:Prop} (h:B) (t:Wr B → A:=by intro h; refine z8 (yl rfl rfl rfl rfl (decide_eq_false (by omega))) rfl ?_; exact h.h):A:=t ⟨h⟩
theorem _root_.Go.V.Z129 {A B:Prop} (h:B) (t:Wr B → A:=by intro h; refine z8 (yl rfl rfl rfl rfl (decide_eq_true (by omega))) rfl ?_; exact h.h):A:=t ⟨h⟩
theorem zxn (l:List CH):ze8 (stC l) = zj4 l:=zvm (zct cmpT_ord l)
theorem zof:∀ (l:List CH), (ze8 l).length ≤ l.length
 | [] => Nat.le_refl _
 | [c] => Nat.le_refl _
 | c :: d :: r => by
  show (if zbd c.1 d.1 = 0 then ze8 (d :: r) else c :: ze8 (d :: r)).length ≤ _
  have:=zof (d :: r)
  split
  ·simp only [List.length_cons] at this ⊢; omega
  ·simp only [List.length_cons] at this ⊢; omega
attribute [local irreducible] V N X VO Par StepOK Has Ret RetL RetO RetT zb8 Src
set_option maxHeartbeats 1000000 in
theorem zs5 {l:List CH} {fu:Bool} (hz:l.length ≤ 100000) {v:Value} {w:World} {B:Heap} (hB:B.Le (hp w)) (hv:KS tyC l fu v B) :
  RetO Tryz.prog 133 [v] w B (SlR tyC 7 l.length (l.flatMap ccs)):=by
 have hv0:=hv
 have hlen:=zlv l
 have hpl:=zx7 l
 obtain ⟨p, c, rfl⟩:=zap hv
 rcases p with _ | b
 ·obtain ⟨h0, rfl⟩:l.length = 0 ∧ c = 0:=zqg hv
  have hn:l = []:=List.eq_nil_of_length_eq_zero h0
  subst hn
  refine zej Tryz.func133 rfl Tryz.ntmps133 (Nat.le_of_ble_eq_true rfl) hB ?_
  refine Z256 ?_; refine z7 (ze6 rfl rfl rfl rfl z5h rfl) rfl ?_; refine Z263 ?_
  refine zeb 2 tyC 7 rfl ?_
  exact zig rfl (fun _ _ h => h) Since.refl rfl
 ·refine zej Tryz.func133 rfl Tryz.ntmps133 (Nat.le_of_ble_eq_true rfl) hB ?_
  refine Z256 ?_; refine z7 (ze6 rfl rfl rfl rfl z5h rfl) rfl ?_; refine Z162 ?_
  refine zax 0 (KS tyC l fu) rfl SlV.mono hv0 ?_
  refine Z28 ?_; refine z7 (zgj L rfl rfl rfl rfl rfl) rfl ?_; refine Z4 ?_; refine qn (zce L rfl rfl rfl (zh4 rfl) rfl zx4 (by assumption) (by assumption) (by omega) (by omega)) ?_; refine qn (yo (.inr rfl) rfl rfl rfl rfl) ?_; refine Z138 ?_
  rw [Nat.zero_add, List.nil_append]
  exact zig rfl (fun _ _ h => h) Since.refl rfl
set_option maxHeartbeats 8000000 in
set_option maxRecDepth 20000 in
theorem zpu {l m:List CH} {fu:Bool} (hm:zj4 l = m) (hz:l.length ≤ 50000) {v:Value} {w:World} {B:Heap} (hB:B.Le (hp w)) (hv:KS tyC l fu v B) :
  Ret Tryz.prog 90 [v] w B (KS tyC m true):=by
 subst hm
 have hsl:=ze1 l
 refine yc Tryz.func90 rfl Tryz.ntmps90 (Nat.le_of_ble_eq_true rfl) hB ?_
 refine zax 0 (KS tyC l fu) rfl SlV.mono hv ?_
 refine Z182 ?_; refine Z4 ?_; refine z7 (zeg L rfl rfl (zk rfl) rfl rfl rfl (fun u H hH _ _ v1 hv1 => zs5 (by omega) hH hv1)) rfl ?_; refine qn (yo (.inr rfl) rfl rfl rfl rfl) ?_; refine Z159 ?_; refine Z29 ?_; refine Z144 ?_
 refine zgw 3 900 rfl (fun h0 hn => ?_) fun b cap rest hl hmc hcm hcl => ?_
 ·have hl0:l = []:=List.eq_nil_of_length_eq_zero h0
  subst hl0
  refine Z207 ?_; refine z7 (yq (φ:=fun _ _ => True) L rfl rfl (zk rfl) rfl rfl rfl (fun _ _ _ _ _ => trivial) (fun u H hH _ _ => zrz hH)) rfl ?_; refine Z159 ?_
  refine zax 3 (KS tyC [] false) rfl SlV.mono SlV.nil ?_
  refine Z30 ?_; refine Z4 ?_; refine z7 (zba L (kl:=.i64) (pl:=0) 0 0 true rfl rfl rfl rfl rfl rfl ⟨rfl, rfl⟩ ⟨rfl, rfl⟩ (by decide) (by decide) rfl) rfl ?_; refine Z359 ?_; refine Z37 ?_; refine Z395 ?_
  refine zak (fun _:Nat => [(5, .sat (KS tyC [] true)), (15, .sat (KS tyC [] false)), (16, .is (.int .i64 0)), (17, .is (.int .i64 0))]) (fun _ => True) (fun s => s) 0 trivial ⟨rfl, rfl, rfl, rfl, trivial⟩ ?_
  rintro s _
  refine Z374 ?_; refine Z300 ?_; refine Z65 ?_; refine Z4 ?_; refine Z151 ?_; refine Z151 ?_; refine Z122 ?_; refine Z266 ?_
  refine yb L (rs:=[.tmp 2]) rfl (fun _ _ h => h) Since.refl fun u H hH hle => ?_
  exact fun v hv => hv
 ·refine Z207 ?_; refine qn (za1 L 900 (zab b ((stC l).flatMap ccs ++ rest) tyC) (r:=zab b (l.flatMap ccs ++ rest) tyC) rfl rfl rfl rfl rfl (fun u H C hH _ hr hC => (by have h:=ztz (cap:=cap) rfl (by omega) hH hr hC; exact h))) ?_; refine Z159 ?_
  refine zb7 (xs:=(stC l).flatMap ccs) (rest:=rest) (s:=7) 3 900 rfl rfl rfl (by rw [zlv, hsl]) hmc hcm (by
   rw [List.length_append] at hcl ⊢
   rw [zlv] at hcl ⊢
   rw [hsl]; exact hcl) ?_
  rw [← hsl]
  have hkn:=zxn l
  have hkl:=zof (stC l)
  rw [← hkn]
  generalize stC l = S at *
  refine zck 3 rfl ?_
  refine Z30 ?_; refine Z4 ?_; refine z7 (zba L (kl:=.i64) (pl:=0) 0 0 true rfl rfl rfl rfl rfl rfl ⟨rfl, rfl⟩ ⟨rfl, rfl⟩ (by omega) (by omega) rfl) rfl ?_; refine Z359 ?_; refine Z37 ?_; refine Z395 ?_
  refine zyn 5 (SlV tyC 7 [] 0 true) rfl SlV.mono (fun v H h => h) ?_
  refine z45 5 rfl ?_
  refine zak (fun i:Nat × List CH => [(3, .sat (KS tyC S false)), (4, .is zjz), (5, .own (SlG tyC 7 i.2.length (i.2.flatMap ccs))), (15, .sat (KS tyC S false)), (16, .is (.int .i64 S.length)), (17, .is (.int .i64 i.1))]) (fun i => i.1 ≤ S.length ∧ i.2.length ≤ i.1 ∧ i.2 ++ ze8 (S.drop i.1) = ze8 S) (fun i => S.length - i.1) (0, []) ⟨Nat.zero_le _, Nat.le_refl _, rfl⟩ ⟨rfl, rfl, rfl, rfl, rfl, rfl, trivial⟩ ?_
  rintro ⟨i, kp⟩ ⟨h1, h2, h3⟩
  dsimp only at h1 h2 h3 ⊢
  by_cases hlt:i < S.length
  ·obtain ⟨c, hc0⟩:=zae hlt
   have hc:=zik hc0
   have hst:=zsr hc0
   have a1:IntKind.i64.wrap ((i:Int) + 1) = ((i + 1:Nat):Int):=zaa (by omega) (by omega)
   by_cases hlast:i + 1 < S.length
   ·obtain ⟨d, hd0⟩:=zae hlast
    have hd:=zik hd0
    rw [hd0] at hst
    dsimp only at hst
    by_cases heq:zbd c.1 d.1 = 0
    ·rw [if_pos heq, List.nil_append] at hst
     refine Z374 ?_; refine Z219 ?_; refine Z196 ?_; refine z7 (qu L _ rfl rfl rfl rfl rfl rfl rfl (by first | omega | decide) (by assumption)) rfl ?_; refine z7 (yg L (vs:=[_, _, _, _, _, _, _]) rfl rfl rfl rfl rfl ⟨_, rfl⟩) rfl ?_; refine Z260 ?_; refine Z18 ?_; refine Z159 ?_; refine Z87 ?_; refine Z3 ?_; refine Z33 ?_; refine Z38 ?_; refine z8 (qv L rfl rfl rfl rfl) rfl ?_; refine Z89 ?_; refine Z147 ?_; refine z8 (zw L (vs:=[_, _, _, _, _, _, _]) (yk rfl) rfl rfl rfl rfl ⟨_, rfl⟩) rfl ?_; refine Z198 ?_; refine Z33 ?_; refine z8 (qu L _ rfl rfl rfl rfl rfl rfl rfl (by first | omega | decide) (by assumption)) rfl ?_; refine z8 (yg L (vs:=[_, _, _, _, _, _, _]) rfl rfl rfl rfl rfl ⟨_, rfl⟩) rfl ?_; refine z8 (zo L rfl rfl (zk rfl) rfl rfl rfl (fun u H hH _ _ => zdf hH)) rfl ?_; refine Z99 ?_; refine Z205 ?_; refine Z318 ?_; refine Z68 ?_; refine Z404 ?_
     exact yi (x:=(i, kp)) (i + 1, kp) ⟨hlt, by dsimp only; omega, by dsimp only; rw [← hst]; exact h3⟩ (by dsimp only; omega) ⟨rfl, rfl, rfl, rfl, rfl, rfl, trivial⟩
    ·rw [if_neg heq] at hst
     refine Z374 ?_; refine Z219 ?_; refine Z196 ?_; refine z7 (qu L _ rfl rfl rfl rfl rfl rfl rfl (by first | omega | decide) (by assumption)) rfl ?_; refine z7 (yg L (vs:=[_, _, _, _, _, _, _]) rfl rfl rfl rfl rfl ⟨_, rfl⟩) rfl ?_; refine Z260 ?_; refine Z18 ?_; refine Z159 ?_; refine Z87 ?_; refine Z3 ?_; refine Z33 ?_; refine Z38 ?_; refine z8 (qv L rfl rfl rfl rfl) rfl ?_; refine Z89 ?_; refine Z147 ?_; refine z8 (zw L (vs:=[_, _, _, _, _, _, _]) (yk rfl) rfl rfl rfl rfl ⟨_, rfl⟩) rfl ?_; refine Z198 ?_; refine Z33 ?_; refine z8 (qu L _ rfl rfl rfl rfl rfl rfl rfl (by first | omega | decide) (by assumption)) rfl ?_; refine z8 (yg L (vs:=[_, _, _, _, _, _, _]) rfl rfl rfl rfl rfl ⟨_, rfl⟩) rfl ?_; refine z8 (zo L rfl rfl (zk rfl) rfl rfl rfl (fun u H hH _ _ => zdf hH)) rfl ?_; refine Z129 ?_; refine Z261 ?_; refine Z60 ?_; refine qn (yo (.inl rfl) rfl rfl rfl rfl) ?_; refine z7 (zw L (vs:=[_, _, _, _, _, _, _]) (yk rfl) rfl rfl rfl rfl ⟨_, rfl⟩) rfl ?_; refine Z35 ?_; refine qn (zli L (by decide) rfl rfl rfl (zh5 rfl) rfl zx4 rfl rfl (by omega) (by omega)) ?_; refine qn (yo (.inr rfl) rfl rfl rfl rfl) ?_; refine Z237 ?_; refine Z68 ?_; refine Z404 ?_
     exact yi (x:=(i, kp)) (i + 1, kp ++ [c]) ⟨hlt, by dsimp only; rw [List.length_append, List.length_singleton]; omega, by dsimp only; rw [List.append_assoc, ← hst]; exact h3⟩ (by dsimp only; omega) ⟨rfl, rfl, by dsimp only; rw [List.flatMap_append, List.length_append]; rfl, rfl, rfl, rfl, trivial⟩
   ·have hend:i + 1 = S.length:=by omega
    rw [List.getElem?_eq_none (by omega)] at hst
    dsimp only at hst
    refine Z374 ?_; refine Z219 ?_; refine Z196 ?_; refine z7 (qu L _ rfl rfl rfl rfl rfl rfl rfl (by first | omega | decide) (by assumption)) rfl ?_; refine z7 (yg L (vs:=[_, _, _, _, _, _, _]) rfl rfl rfl rfl rfl ⟨_, rfl⟩) rfl ?_; refine Z260 ?_; refine Z18 ?_; refine Z159 ?_; refine Z87 ?_; refine Z3 ?_; refine Z33 ?_; refine Z38 ?_; refine z8 (qv L rfl rfl rfl rfl) rfl ?_; refine Z101 ?_; refine Z246 ?_; refine Z5 ?_; refine Z261 ?_; refine Z60 ?_; refine qn (yo (.inl rfl) rfl rfl rfl rfl) ?_; refine z7 (zw L (vs:=[_, _, _, _, _, _, _]) (yk rfl) rfl rfl rfl rfl ⟨_, rfl⟩) rfl ?_; refine Z35 ?_; refine qn (zli L (by decide) rfl rfl rfl (zh5 rfl) rfl zx4 rfl rfl (by omega) (by omega)) ?_; refine qn (yo (.inr rfl) rfl rfl rfl rfl) ?_; refine Z237 ?_; refine Z68 ?_; refine Z404 ?_
    exact yi (x:=(i, kp)) (i + 1, kp ++ [c]) ⟨hlt, by dsimp only; rw [List.length_append, List.length_singleton]; omega, by dsimp only; rw [List.append_assoc, ← hst]; exact h3⟩ (by dsimp only; omega) ⟨rfl, rfl, by dsimp only; rw [List.flatMap_append, List.length_append]; rfl, rfl, rfl, rfl, trivial⟩
  ·rw [List.drop_eq_nil_of_le (by omega), show ze8 [] = [] from rfl, List.append_nil] at h3
   subst h3
   refine z3r 5 rfl ?_
   refine Z374 ?_; refine Z300 ?_; refine Z65 ?_; refine Z4 ?_; refine Z151 ?_; refine Z151 ?_; refine Z122 ?_; refine Z266 ?_
   refine yb L (rs:=[.tmp 2]) rfl (fun _ _ h => h) Since.refl fun u H hH hle => ?_
   exact fun v hv => hv
end Go.V.L8
set_option maxRecDepth 20000
namespace Go.V.L2
open Go.Proofs Go.RowKit Go.V
theorem _root_.Go.V.Z69 {A B:Prop} (h:B) (t:Wr B → A:=by intro h; refine z8 (qu L 0 rfl rfl rfl rfl rfl rfl rfl (by first | omega | decide) (by assumption)) rfl ?_; exact h.h):A:=t ⟨h⟩
theorem _root_.Go.V.Z76 {A B:Prop} (h:B) (t:Wr B → A:=by intro h; refine z7 (qu L 0 rfl rfl rfl rfl rfl rfl rfl (by first | omega | decide) (by assumption)) rfl ?_; exact h.h):A:=t ⟨h⟩
theorem _root_.Go.V.Z367 {A B:Prop} (h:B) (t:Wr B → A:=by intro h; refine Z43 ?_; refine Z151 ?_; exact h.h):A:=t ⟨h⟩
theorem _root_.Go.V.Z368 {A B:Prop} (h:B) (t:Wr B → A:=by intro h; refine Z38 ?_; refine Z69 ?_; exact h.h):A:=t ⟨h⟩
theorem _root_.Go.V.Z386 {A B:Prop} (h:B) (t:Wr B → A:=by intro h; refine Z32 ?_; refine Z1 ?_; exact h.h):A:=t ⟨h⟩
theorem _root_.Go.V.Z387 {A B:Prop} (h:B) (t:Wr B → A:=by intro h; refine Z140 ?_; refine Z367 ?_; exact h.h):A:=t ⟨h⟩
theorem _root_.Go.V.Z388 {A B:Prop} (h:B) (t:Wr B → A:=by intro h; refine Z242 ?_; refine Z65 ?_; exact h.h):A:=t ⟨h⟩
theorem _root_.Go.V.Z393 {A B:Prop} (h:B) (t:Wr B → A:=by intro h; refine zh ?_; refine Z82 ?_; exact h.h):A:=t ⟨h⟩
theorem _root_.Go.V.Z405 {A B:Prop} (h:B) (t:Wr B → A:=by intro h; refine Z44 ?_; refine Z144 ?_; exact h.h):A:=t ⟨h⟩
theorem _root_.Go.V.Z406 {A B:Prop} (h:B) (t:Wr B → A:=by intro h; refine Z405 ?_; refine Z351 ?_; exact h.h):A:=t ⟨h⟩
theorem _root_.Go.V.Z407 {A B:Prop} (h:B) (t:Wr B → A:=by intro h; refine Z406 ?_; refine Z151 ?_; exact h.h):A:=t ⟨h⟩
theorem _root_.Go.V.Z408 {A B:Prop} (h:B) (t:Wr B → A:=by intro h; refine Z383 ?_; refine Z267 ?_; exact h.h):A:=t ⟨h⟩
theorem _root_.Go.V.Z409 {A B:Prop} (h:B) (t:Wr B → A:=by intro h; refine Z4 ?_; refine Z76 ?_; exact h.h):A:=t ⟨h⟩
theorem zrw {φ:Value → Heap → Prop} {a tv:Value} {H:Heap} (h:φ tv H):TupS [φ, fun v _ => v = a] (.tuple #[tv, a]) H :=
 ⟨[tv, a], rfl, rfl, fun i ψ x hi hx => by
  rcases i with _ | _ | i
  ·simp at hi hx; subst hi hx; exact h
  ·simp at hi hx; subst hi hx; rfl
  ·simp at hi⟩
theorem zrv {φ:Value → Heap → Prop} {a:Value} (h:Kn.mono (.sat φ)):Kn.mono (.sat (TupS [φ, fun v _ => v = a])):=TupS.mono fun ψ hψ => by
 rcases List.mem_cons.1 hψ with rfl | hψ
 ·exact h
 ·rw [List.mem_singleton] at hψ
  subst hψ
  exact fun _ _ _ h _ => h
theorem zda {α:Type} {c:α → α → Int} {f:Bool → Bool → Bool}:∀ (n:Nat) (l m:List α), l.length + m.length ≤ n → (zeh c f n l m).length ≤ l.length + m.length
 | 0, _, _, _ => by simp [zeh]
 | n + 1, [], [], _ => by simp [zeh]
 | n + 1, a :: l, [], h => by
  have:=zda (c:=c) (f:=f) n l [] (by simp only [List.length_cons, List.length_nil] at h ⊢; omega)
  simp only [zeh, List.length_append, List.length_cons, List.length_nil] at this ⊢
  split <;> simp only [List.length_cons, List.length_nil] <;> omega
 | n + 1, [], b :: m, h => by
  have:=zda (c:=c) (f:=f) n [] m (by simp only [List.length_cons, List.length_nil] at h ⊢; omega)
  simp only [zeh, List.length_append, List.length_cons, List.length_nil] at this ⊢
  split <;> simp only [List.length_cons, List.length_nil] <;> omega
 | n + 1, a :: l, b :: m, h => by
  simp only [List.length_cons] at h
  have h1:=zda (c:=c) (f:=f) n l (b :: m) (by simp only [List.length_cons]; omega)
  have h2:=zda (c:=c) (f:=f) n (a :: l) m (by simp only [List.length_cons]; omega)
  have h3:=zda (c:=c) (f:=f) n l m (by omega)
  simp only [List.length_cons] at h1 h2
  simp only [zeh]
  split
  ·rw [List.length_append]; split <;> simp only [List.length_cons, List.length_nil] <;> omega
  ·split
   ·rw [List.length_append]; split <;> simp only [List.length_cons, List.length_nil] <;> omega
   ·rw [List.length_append]; split <;> simp only [List.length_cons, List.length_nil] <;> omega
def z2t (f:Bool → Bool → Bool) (l m:List U):List U × Int :=
 if 4096 < l.length ∨ 4096 < m.length then ([], 3) else if (isB l && isB m) = true then (zeh zbd f (l.length + m.length) l m, 0) else ([], 18)
abbrev LE (r:List U × Int):Value → Heap → Prop:=TupS [US r.1 true, fun v _ => v = .int .i64 r.2]
theorem LE.mono {r:List U × Int}:Kn.mono (.sat (LE r)):=zrv SlV.mono
theorem zl2 (a:U) (l:List U):(((a :: l).flatMap ucs).drop (1 * 6)).take (((a :: l).length - 1) * 6) = l.flatMap ucs:=by
 rw [List.flatMap_cons, List.drop_left' (by rfl), List.length_cons, Nat.add_sub_cancel, List.take_of_length_le (Nat.le_of_eq (zch zl0 l))]
theorem zi8 {κ:Kap} {s:Nat} {out:List U} {t:U} (h:κ s = some (.own (SlR tyU 6 (out.length + 1) (out.flatMap ucs ++ [.string t.1.1.1, .string t.1.1.2, .string t.1.2, .string t.2.1.1, .string t.2.1.2, .string t.2.2])))):κ s = some (.own (SlR tyU 6 (out ++ [t]).length ((out ++ [t]).flatMap ucs))):=by
 rw [h, List.flatMap_append, List.length_append]; simp [ucs]
attribute [local irreducible] V N X VO Par StepOK Has Ret RetL Src
set_option maxHeartbeats 4000000 in
theorem zu9 {f:Bool → Bool → Bool} {tf:Nat} (hfn:L.fn tf = some ()) (hf:∀ (p q:Bool) (u:World) (H:Heap), H.Le (hp u) → Ret Tryz.prog tf [.bool p, .bool q] u H (fun v _ => v = .bool (f p q))) {l m:List U} {fa fb:Bool}
  {r:List U × Int} (hr:z2t f l m = r) {v v2:Value} {w:World} {B:Heap} (hB:B.Le (hp w)) (hv:US l fa v B) (hv2:US m fb v2 B) :
  Ret Tryz.prog 131 [v, v2, .func (.func tf) #[] #[]] w B (LE r):=by
 subst hr
 unfold z2t
 refine yc Tryz.func131 rfl Tryz.ntmps131 (Nat.le_of_ble_eq_true rfl) hB ?_
 refine zax 0 (US l fa) rfl SlV.mono hv ?_
 refine zax 1 (US m fb) rfl SlV.mono hv2 ?_
 by_cases z1:4096 < l.length
 ·rw [if_pos (.inl z1)]
  refine Z251 ?_; refine Z270 ?_; refine Z40 ?_; refine Z264 ?_; refine Z208 ?_; refine Z186 ?_
  refine yb L (rs:=[.tmp 6, .tmp 7]) rfl (fun _ _ h => h) Since.refl fun u H hH hle => ?_
  exact zrw SlV.nil
 ·by_cases z2:4096 < m.length
  ·rw [if_pos (.inr z2)]
   refine Z251 ?_; refine Z270 ?_; refine Z386 ?_; refine Z151 ?_; refine Z40 ?_; refine Z8 ?_; refine Z208 ?_; refine Z186 ?_
   refine yb L (rs:=[.tmp 6, .tmp 7]) rfl (fun _ _ h => h) Since.refl fun u H hH hle => ?_
   exact zrw SlV.nil
  ·rw [if_neg (by omega)]
   cases h1:isB l
   ·rw [if_neg (by simp)]
    refine Z251 ?_; refine Z270 ?_; refine Z386 ?_; refine Z151 ?_; refine Z302 ?_; refine Z168 ?_; refine Z28 ?_; refine Z4 ?_; refine z7 (zo L rfl rfl (zk rfl) rfl rfl rfl (fun u H hH _ _ v1 hv1 => zja (by omega) h1 hH hv1)) rfl ?_; refine Z52 ?_; refine Z264 ?_; refine Z323 ?_; refine Z186 ?_
    refine yb L (rs:=[.tmp 6, .tmp 7]) rfl (fun _ _ h => h) Since.refl fun u H hH hle => ?_
    exact zrw SlV.nil
   ·cases h2:isB m
    ·rw [if_neg (by simp)]
     refine Z251 ?_; refine Z270 ?_; refine Z386 ?_; refine Z151 ?_; refine Z302 ?_; refine Z168 ?_; refine Z28 ?_; refine Z4 ?_; refine z7 (zo L rfl rfl (zk rfl) rfl rfl rfl (fun u H hH _ _ v1 hv1 => zja (by omega) h1 hH hv1)) rfl ?_; refine Z52 ?_; refine Z1 ?_; refine Z4 ?_; refine z7 (zo L rfl rfl (zk rfl) rfl rfl rfl (fun u H hH _ _ v1 hv1 => zja (by omega) h2 hH hv1)) rfl ?_; refine Z287 ?_; refine Z323 ?_; refine Z186 ?_
     refine yb L (rs:=[.tmp 6, .tmp 7]) rfl (fun _ _ h => h) Since.refl fun u H hH hle => ?_
     exact zrw SlV.nil
    ·rw [if_pos (by rfl)]
     refine Z251 ?_; refine Z270 ?_; refine Z386 ?_; refine Z151 ?_; refine Z302 ?_; refine Z168 ?_; refine Z28 ?_; refine Z4 ?_; refine z7 (zo L rfl rfl (zk rfl) rfl rfl rfl (fun u H hH _ _ v1 hv1 => zja (by omega) h1 hH hv1)) rfl ?_; refine Z52 ?_; refine Z1 ?_; refine Z4 ?_; refine z7 (zo L rfl rfl (zk rfl) rfl rfl rfl (fun u H hH _ _ v1 hv1 => zja (by omega) h2 hH hv1)) rfl ?_; refine Z287 ?_; refine Z162 ?_; refine Z37 ?_; refine Z144 ?_; refine qk ?_
     refine zyn 0 (US l false) rfl SlV.mono (fun _ _ h => h.nofu) ?_
     refine zyn 1 (US m false) rfl SlV.mono (fun _ _ h => h.nofu) ?_
     refine zeb 8 tyU 6 rfl ?_
     refine zak (fun s:Nat × List U × List U × List U => [(0, .sat (US s.2.1 false)), (1, .sat (US s.2.2.1 false)), (2, .is (.func (.func tf) #[] #[])), (8, .own (SlR tyU 6 s.2.2.2.length (s.2.2.2.flatMap ucs)))])
      (fun s => s.2.1.length + s.2.2.1.length ≤ s.1 ∧ s.2.2.2 ++ zeh zbd f s.1 s.2.1 s.2.2.1 = zeh zbd f (l.length + m.length) l m ∧ s.2.2.2.length + s.2.1.length + s.2.2.1.length ≤ 8192) (fun s => s.1) (l.length + m.length, l, m, []) ⟨Nat.le_refl _, rfl, by simp only [List.length_nil]; omega⟩ ⟨rfl, rfl, rfl, rfl, trivial⟩ ?_
     generalize zeh zbd f (l.length + m.length) l m = R
     clear h1 h2 z1 z2 hv hv2
     rintro ⟨n, x, y, out⟩ ⟨hn, hR, hz⟩
     dsimp only at hn hR hz ⊢
     rcases x with _ | ⟨a, x⟩
     ·rcases y with _ | ⟨b, y⟩
      ·have hR:out = R:=by rw [← hR]; cases n <;> simp [zeh]
       subst hR
       have l0:([]:List U).length = 0:=rfl
       refine Z387 ?_; refine Z386 ?_; refine Z151 ?_; refine Z302 ?_; refine Z183 ?_; refine zh ?_
       refine zck 8 rfl ?_
       refine zf (id:=22) ?_; refine Z4 ?_; refine Z151 ?_; refine Z151 ?_; refine Z122 ?_; refine Z51 ?_; refine Z139 ?_
       refine yb L (rs:=[.tmp 6, .tmp 7]) rfl (fun _ _ h => h) Since.refl fun u H hH hle => ?_
       exact fun v hv => zrw hv
      ·have l0:([]:List U).length = 0:=rfl
       have lb:(b :: y).length = y.length + 1:=rfl
       have hb:=zgk (l:=b :: y) (i:=0) (t:=b) rfl
       have tb:=zl2 b y
       rcases n with _ | n
       ·simp only [List.length_cons, List.length_nil] at hn; omega
       cases hft:f false true
       ·have hR:out ++ zeh zbd f n [] y = R:=by rw [← hR]; simp [zeh, hft]
        have hfv:∀ (u:World) (H:Heap), H.Le (hp u) → Ret Tryz.prog tf [.bool false, .bool true] u H (fun v _ => v = .bool false):=fun u H h => by have:=hf false true u H h; rwa [hft] at this
        refine Z387 ?_; refine Z386 ?_; refine Z151 ?_; refine Z40 ?_; refine Z257 ?_; refine Z230 ?_; refine Z407 ?_; refine Z336 ?_; refine Z68 ?_; refine Z379 ?_; refine Z393 ?_; refine z7 (yv (cs:=[_, _, _, _, _, _]) rfl rfl zfg rfl rfl) rfl ?_; refine Z408 ?_; refine Z40 ?_; refine Z145 ?_; refine Z96 ?_; refine Z409 ?_; refine z7 (yg L (vs:=[_, _, _, _, _, _]) rfl rfl rfl rfl rfl ⟨_, rfl⟩) rfl ?_; refine Z18 ?_; refine Z191 ?_; refine Z299 ?_; refine Z259 ?_; refine Z119 ?_; refine Z4 ?_; refine z7 (zba L (kh:=.i64) (ph:=0) (km:=.i64) (pm:=0) 1 _ false rfl rfl rfl rfl rfl ⟨rfl, rfl⟩ ⟨rfl, rfl⟩ (fun h => by cases h) (by omega) (by omega) (by assumption)) rfl ?_; refine Z402 ?_; refine Z334 ?_; refine Z70 ?_; refine Z1 ?_; refine Z41 ?_; refine z7 (zo L rfl rfl (zk rfl) rfl rfl hfn (fun u H hH _ _ => hfv u H hH)) rfl ?_; refine Z193 ?_; refine y9 ?_
        exact yi (x:=(n + 1, [], b :: y, out)) (n, [], y, out) ⟨by simp only [List.length_cons, List.length_nil] at hn ⊢; omega, hR, by simp only [List.length_cons, List.length_nil, List.length_append] at hz ⊢; omega⟩ (by dsimp only; omega) ⟨rfl, rfl, rfl, rfl, trivial⟩
       ·have hR:out ++ [b] ++ zeh zbd f n [] y = R:=by rw [← hR]; simp [zeh, hft]
        have hfv:∀ (u:World) (H:Heap), H.Le (hp u) → Ret Tryz.prog tf [.bool false, .bool true] u H (fun v _ => v = .bool true):=fun u H h => by have:=hf false true u H h; rwa [hft] at this
        refine Z387 ?_; refine Z386 ?_; refine Z151 ?_; refine Z40 ?_; refine Z257 ?_; refine Z230 ?_; refine Z407 ?_; refine Z336 ?_; refine Z68 ?_; refine Z379 ?_; refine Z393 ?_; refine z7 (yv (cs:=[_, _, _, _, _, _]) rfl rfl zfg rfl rfl) rfl ?_; refine Z408 ?_; refine Z40 ?_; refine Z145 ?_; refine Z96 ?_; refine Z409 ?_; refine z7 (yg L (vs:=[_, _, _, _, _, _]) rfl rfl rfl rfl rfl ⟨_, rfl⟩) rfl ?_; refine Z18 ?_; refine Z191 ?_; refine Z299 ?_; refine Z259 ?_; refine Z119 ?_; refine Z4 ?_; refine z7 (zba L (kh:=.i64) (ph:=0) (km:=.i64) (pm:=0) 1 _ false rfl rfl rfl rfl rfl ⟨rfl, rfl⟩ ⟨rfl, rfl⟩ (fun h => by cases h) (by omega) (by omega) (by assumption)) rfl ?_; refine Z402 ?_; refine Z334 ?_; refine Z70 ?_; refine Z1 ?_; refine Z41 ?_; refine z7 (zo L rfl rfl (zk rfl) rfl rfl hfn (fun u H hH _ _ => hfv u H hH)) rfl ?_; refine Z145 ?_; refine Z116 ?_; refine qn (yo (.inl rfl) rfl rfl rfl rfl) ?_; refine z7 (zw L (vs:=[_, _, _, _, _, _]) (yk rfl) rfl rfl rfl rfl ⟨_, rfl⟩) rfl ?_; refine Z317 ?_; refine qn (yo (.inr rfl) rfl rfl rfl rfl) ?_; refine zi ?_; refine y9 ?_
        exact yi (x:=(n + 1, [], b :: y, out)) (n, [], y, out ++ [b]) ⟨by simp only [List.length_cons, List.length_nil] at hn ⊢; omega, hR, by simp only [List.length_cons, List.length_nil, List.length_append] at hz ⊢; omega⟩ (by dsimp only; omega) ⟨rfl, rfl, rfl, zi8 rfl, trivial⟩
     ·have la:(a :: x).length = x.length + 1:=rfl
      have ha:=zgk (l:=a :: x) (i:=0) (t:=a) rfl
      have ta:=zl2 a x
      rcases y with _ | ⟨b, y⟩
      ·have l0:([]:List U).length = 0:=rfl
       rcases n with _ | n
       ·simp only [List.length_cons, List.length_nil] at hn; omega
       cases hft:f true false
       ·have hR:out ++ zeh zbd f n x [] = R:=by rw [← hR]; simp [zeh, hft]
        have hfv:∀ (u:World) (H:Heap), H.Le (hp u) → Ret Tryz.prog tf [.bool true, .bool false] u H (fun v _ => v = .bool false):=fun u H h => by have:=hf true false u H h; rwa [hft] at this
        refine Z387 ?_; refine Z40 ?_; refine Z264 ?_; refine Z308 ?_; refine Z407 ?_; refine Z388 ?_; refine Z151 ?_; refine Z336 ?_; refine Z86 ?_; refine Z379 ?_; refine Z393 ?_; refine z7 (yv (cs:=[_, _, _, _, _, _]) rfl rfl zfg rfl rfl) rfl ?_; refine Z408 ?_; refine Z32 ?_; refine Z142 ?_; refine zh ?_; refine Z102 ?_; refine Z409 ?_; refine z7 (yg L (vs:=[_, _, _, _, _, _]) rfl rfl rfl rfl rfl ⟨_, rfl⟩) rfl ?_; refine Z252 ?_; refine Z400 ?_; refine z7 (zba L (kh:=.i64) (ph:=0) (km:=.i64) (pm:=0) 1 _ false rfl rfl rfl rfl rfl ⟨rfl, rfl⟩ ⟨rfl, rfl⟩ (fun h => by cases h) (by omega) (by omega) (by assumption)) rfl ?_; refine Z359 ?_; refine Z299 ?_; refine Z47 ?_; refine Z162 ?_; refine Z334 ?_; refine Z74 ?_; refine Z1 ?_; refine Z47 ?_; refine z7 (zo L rfl rfl (zk rfl) rfl rfl hfn (fun u H hH _ _ => hfv u H hH)) rfl ?_; refine Z193 ?_; refine y9 ?_
        exact yi (x:=(n + 1, a :: x, [], out)) (n, x, [], out) ⟨by simp only [List.length_cons, List.length_nil] at hn ⊢; omega, hR, by simp only [List.length_cons, List.length_nil, List.length_append] at hz ⊢; omega⟩ (by dsimp only; omega) ⟨rfl, rfl, rfl, rfl, trivial⟩
       ·have hR:out ++ [a] ++ zeh zbd f n x [] = R:=by rw [← hR]; simp [zeh, hft]
        have hfv:∀ (u:World) (H:Heap), H.Le (hp u) → Ret Tryz.prog tf [.bool true, .bool false] u H (fun v _ => v = .bool true):=fun u H h => by have:=hf true false u H h; rwa [hft] at this
        refine Z387 ?_; refine Z40 ?_; refine Z264 ?_; refine Z308 ?_; refine Z407 ?_; refine Z388 ?_; refine Z151 ?_; refine Z336 ?_; refine Z86 ?_; refine Z379 ?_; refine Z393 ?_; refine z7 (yv (cs:=[_, _, _, _, _, _]) rfl rfl zfg rfl rfl) rfl ?_; refine Z408 ?_; refine Z32 ?_; refine Z142 ?_; refine zh ?_; refine Z102 ?_; refine Z409 ?_; refine z7 (yg L (vs:=[_, _, _, _, _, _]) rfl rfl rfl rfl rfl ⟨_, rfl⟩) rfl ?_; refine Z252 ?_; refine Z400 ?_; refine z7 (zba L (kh:=.i64) (ph:=0) (km:=.i64) (pm:=0) 1 _ false rfl rfl rfl rfl rfl ⟨rfl, rfl⟩ ⟨rfl, rfl⟩ (fun h => by cases h) (by omega) (by omega) (by assumption)) rfl ?_; refine Z359 ?_; refine Z299 ?_; refine Z47 ?_; refine Z162 ?_; refine Z334 ?_; refine Z74 ?_; refine Z1 ?_; refine Z47 ?_; refine z7 (zo L rfl rfl (zk rfl) rfl rfl hfn (fun u H hH _ _ => hfv u H hH)) rfl ?_; refine Z145 ?_; refine Z116 ?_; refine qn (yo (.inl rfl) rfl rfl rfl rfl) ?_; refine z7 (zw L (vs:=[_, _, _, _, _, _]) (yk rfl) rfl rfl rfl rfl ⟨_, rfl⟩) rfl ?_; refine Z317 ?_; refine qn (yo (.inr rfl) rfl rfl rfl rfl) ?_; refine zi ?_; refine y9 ?_
        exact yi (x:=(n + 1, a :: x, [], out)) (n, x, [], out ++ [a]) ⟨by simp only [List.length_cons, List.length_nil] at hn ⊢; omega, hR, by simp only [List.length_cons, List.length_nil, List.length_append] at hz ⊢; omega⟩ (by dsimp only; omega) ⟨rfl, rfl, rfl, zi8 rfl, trivial⟩
      ·have lb:(b :: y).length = y.length + 1:=rfl
       have hb:=zgk (l:=b :: y) (i:=0) (t:=b) rfl
       have tb:=zl2 b y
       by_cases c1:zbd a b < 0
       ·rcases n with _ | n
        ·simp only [List.length_cons, List.length_nil] at hn; omega
        cases hft:f true false
        ·have hR:out ++ zeh zbd f n x (b :: y) = R:=by rw [← hR]; simp [zeh, c1, hft]
         have hfv:∀ (u:World) (H:Heap), H.Le (hp u) → Ret Tryz.prog tf [.bool true, .bool false] u H (fun v _ => v = .bool false):=fun u H h => by have:=hf true false u H h; rwa [hft] at this
         refine Z387 ?_; refine Z40 ?_; refine Z264 ?_; refine Z308 ?_; refine Z407 ?_; refine Z388 ?_; refine Z151 ?_; refine Z366 ?_; refine Z87 ?_; refine Z368 ?_; refine z8 (yg L (vs:=[_, _, _, _, _, _]) rfl rfl rfl rfl rfl ⟨_, rfl⟩) rfl ?_; refine Z368 ?_; refine z8 (yg L (vs:=[_, _, _, _, _, _]) rfl rfl rfl rfl rfl ⟨_, rfl⟩) rfl ?_; refine z8 (zo L rfl rfl (zk rfl) rfl rfl rfl (fun u H hH _ _ => zde hH)) rfl ?_; refine Z39 ?_; refine Z282 ?_; refine Z393 ?_; refine z7 (yv (cs:=[_, _, _, _, _, _]) rfl rfl zfg rfl rfl) rfl ?_; refine Z408 ?_; refine Z32 ?_; refine Z142 ?_; refine zh ?_; refine Z102 ?_; refine Z409 ?_; refine z7 (yg L (vs:=[_, _, _, _, _, _]) rfl rfl rfl rfl rfl ⟨_, rfl⟩) rfl ?_; refine Z252 ?_; refine Z400 ?_; refine z7 (zba L (kh:=.i64) (ph:=0) (km:=.i64) (pm:=0) 1 _ false rfl rfl rfl rfl rfl ⟨rfl, rfl⟩ ⟨rfl, rfl⟩ (fun h => by cases h) (by omega) (by omega) (by assumption)) rfl ?_; refine Z359 ?_; refine Z299 ?_; refine Z47 ?_; refine Z162 ?_; refine Z334 ?_; refine Z74 ?_; refine Z1 ?_; refine Z47 ?_; refine z7 (zo L rfl rfl (zk rfl) rfl rfl hfn (fun u H hH _ _ => hfv u H hH)) rfl ?_; refine Z193 ?_; refine y9 ?_
         exact yi (x:=(n + 1, a :: x, b :: y, out)) (n, x, (b :: y), out) ⟨by simp only [List.length_cons, List.length_nil] at hn ⊢; omega, hR, by simp only [List.length_cons, List.length_nil, List.length_append] at hz ⊢; omega⟩ (by dsimp only; omega) ⟨rfl, rfl, rfl, rfl, trivial⟩
        ·have hR:out ++ [a] ++ zeh zbd f n x (b :: y) = R:=by rw [← hR]; simp [zeh, c1, hft]
         have hfv:∀ (u:World) (H:Heap), H.Le (hp u) → Ret Tryz.prog tf [.bool true, .bool false] u H (fun v _ => v = .bool true):=fun u H h => by have:=hf true false u H h; rwa [hft] at this
         refine Z387 ?_; refine Z40 ?_; refine Z264 ?_; refine Z308 ?_; refine Z407 ?_; refine Z388 ?_; refine Z151 ?_; refine Z366 ?_; refine Z87 ?_; refine Z368 ?_; refine z8 (yg L (vs:=[_, _, _, _, _, _]) rfl rfl rfl rfl rfl ⟨_, rfl⟩) rfl ?_; refine Z368 ?_; refine z8 (yg L (vs:=[_, _, _, _, _, _]) rfl rfl rfl rfl rfl ⟨_, rfl⟩) rfl ?_; refine z8 (zo L rfl rfl (zk rfl) rfl rfl rfl (fun u H hH _ _ => zde hH)) rfl ?_; refine Z39 ?_; refine Z282 ?_; refine Z393 ?_; refine z7 (yv (cs:=[_, _, _, _, _, _]) rfl rfl zfg rfl rfl) rfl ?_; refine Z408 ?_; refine Z32 ?_; refine Z142 ?_; refine zh ?_; refine Z102 ?_; refine Z409 ?_; refine z7 (yg L (vs:=[_, _, _, _, _, _]) rfl rfl rfl rfl rfl ⟨_, rfl⟩) rfl ?_; refine Z252 ?_; refine Z400 ?_; refine z7 (zba L (kh:=.i64) (ph:=0) (km:=.i64) (pm:=0) 1 _ false rfl rfl rfl rfl rfl ⟨rfl, rfl⟩ ⟨rfl, rfl⟩ (fun h => by cases h) (by omega) (by omega) (by assumption)) rfl ?_; refine Z359 ?_; refine Z299 ?_; refine Z47 ?_; refine Z162 ?_; refine Z334 ?_; refine Z74 ?_; refine Z1 ?_; refine Z47 ?_; refine z7 (zo L rfl rfl (zk rfl) rfl rfl hfn (fun u H hH _ _ => hfv u H hH)) rfl ?_; refine Z145 ?_; refine Z116 ?_; refine qn (yo (.inl rfl) rfl rfl rfl rfl) ?_; refine z7 (zw L (vs:=[_, _, _, _, _, _]) (yk rfl) rfl rfl rfl rfl ⟨_, rfl⟩) rfl ?_; refine Z317 ?_; refine qn (yo (.inr rfl) rfl rfl rfl rfl) ?_; refine zi ?_; refine y9 ?_
         exact yi (x:=(n + 1, a :: x, b :: y, out)) (n, x, (b :: y), out ++ [a]) ⟨by simp only [List.length_cons, List.length_nil] at hn ⊢; omega, hR, by simp only [List.length_cons, List.length_nil, List.length_append] at hz ⊢; omega⟩ (by dsimp only; omega) ⟨rfl, rfl, rfl, zi8 rfl, trivial⟩
       ·by_cases c2:0 < zbd a b
        ·rcases n with _ | n
         ·simp only [List.length_cons, List.length_nil] at hn; omega
         cases hft:f false true
         ·have hR:out ++ zeh zbd f n (a :: x) y = R:=by rw [← hR]; simp [zeh, c1, c2, hft]
          have hfv:∀ (u:World) (H:Heap), H.Le (hp u) → Ret Tryz.prog tf [.bool false, .bool true] u H (fun v _ => v = .bool false):=fun u H h => by have:=hf false true u H h; rwa [hft] at this
          refine Z387 ?_; refine Z40 ?_; refine Z264 ?_; refine Z308 ?_; refine Z407 ?_; refine Z388 ?_; refine Z151 ?_; refine Z366 ?_; refine Z87 ?_; refine Z368 ?_; refine z8 (yg L (vs:=[_, _, _, _, _, _]) rfl rfl rfl rfl rfl ⟨_, rfl⟩) rfl ?_; refine Z368 ?_; refine z8 (yg L (vs:=[_, _, _, _, _, _]) rfl rfl rfl rfl rfl ⟨_, rfl⟩) rfl ?_; refine z8 (zo L rfl rfl (zk rfl) rfl rfl rfl (fun u H hH _ _ => zde hH)) rfl ?_; refine Z39 ?_; refine Z282 ?_; refine Z393 ?_; refine z7 (yv (cs:=[_, _, _, _, _, _]) rfl rfl zfg rfl rfl) rfl ?_; refine Z408 ?_; refine Z40 ?_; refine Z145 ?_; refine Z96 ?_; refine Z409 ?_; refine z7 (yg L (vs:=[_, _, _, _, _, _]) rfl rfl rfl rfl rfl ⟨_, rfl⟩) rfl ?_; refine Z18 ?_; refine Z191 ?_; refine Z299 ?_; refine Z259 ?_; refine Z119 ?_; refine Z4 ?_; refine z7 (zba L (kh:=.i64) (ph:=0) (km:=.i64) (pm:=0) 1 _ false rfl rfl rfl rfl rfl ⟨rfl, rfl⟩ ⟨rfl, rfl⟩ (fun h => by cases h) (by omega) (by omega) (by assumption)) rfl ?_; refine Z402 ?_; refine Z334 ?_; refine Z70 ?_; refine Z1 ?_; refine Z41 ?_; refine z7 (zo L rfl rfl (zk rfl) rfl rfl hfn (fun u H hH _ _ => hfv u H hH)) rfl ?_; refine Z193 ?_; refine y9 ?_
          exact yi (x:=(n + 1, a :: x, b :: y, out)) (n, (a :: x), y, out) ⟨by simp only [List.length_cons, List.length_nil] at hn ⊢; omega, hR, by simp only [List.length_cons, List.length_nil, List.length_append] at hz ⊢; omega⟩ (by dsimp only; omega) ⟨rfl, rfl, rfl, rfl, trivial⟩
         ·have hR:out ++ [b] ++ zeh zbd f n (a :: x) y = R:=by rw [← hR]; simp [zeh, c1, c2, hft]
          have hfv:∀ (u:World) (H:Heap), H.Le (hp u) → Ret Tryz.prog tf [.bool false, .bool true] u H (fun v _ => v = .bool true):=fun u H h => by have:=hf false true u H h; rwa [hft] at this
          refine Z387 ?_; refine Z40 ?_; refine Z264 ?_; refine Z308 ?_; refine Z407 ?_; refine Z388 ?_; refine Z151 ?_; refine Z366 ?_; refine Z87 ?_; refine Z368 ?_; refine z8 (yg L (vs:=[_, _, _, _, _, _]) rfl rfl rfl rfl rfl ⟨_, rfl⟩) rfl ?_; refine Z368 ?_; refine z8 (yg L (vs:=[_, _, _, _, _, _]) rfl rfl rfl rfl rfl ⟨_, rfl⟩) rfl ?_; refine z8 (zo L rfl rfl (zk rfl) rfl rfl rfl (fun u H hH _ _ => zde hH)) rfl ?_; refine Z39 ?_; refine Z282 ?_; refine Z393 ?_; refine z7 (yv (cs:=[_, _, _, _, _, _]) rfl rfl zfg rfl rfl) rfl ?_; refine Z408 ?_; refine Z40 ?_; refine Z145 ?_; refine Z96 ?_; refine Z409 ?_; refine z7 (yg L (vs:=[_, _, _, _, _, _]) rfl rfl rfl rfl rfl ⟨_, rfl⟩) rfl ?_; refine Z18 ?_; refine Z191 ?_; refine Z299 ?_; refine Z259 ?_; refine Z119 ?_; refine Z4 ?_; refine z7 (zba L (kh:=.i64) (ph:=0) (km:=.i64) (pm:=0) 1 _ false rfl rfl rfl rfl rfl ⟨rfl, rfl⟩ ⟨rfl, rfl⟩ (fun h => by cases h) (by omega) (by omega) (by assumption)) rfl ?_; refine Z402 ?_; refine Z334 ?_; refine Z70 ?_; refine Z1 ?_; refine Z41 ?_; refine z7 (zo L rfl rfl (zk rfl) rfl rfl hfn (fun u H hH _ _ => hfv u H hH)) rfl ?_; refine Z145 ?_; refine Z116 ?_; refine qn (yo (.inl rfl) rfl rfl rfl rfl) ?_; refine z7 (zw L (vs:=[_, _, _, _, _, _]) (yk rfl) rfl rfl rfl rfl ⟨_, rfl⟩) rfl ?_; refine Z317 ?_; refine qn (yo (.inr rfl) rfl rfl rfl rfl) ?_; refine zi ?_; refine y9 ?_
          exact yi (x:=(n + 1, a :: x, b :: y, out)) (n, (a :: x), y, out ++ [b]) ⟨by simp only [List.length_cons, List.length_nil] at hn ⊢; omega, hR, by simp only [List.length_cons, List.length_nil, List.length_append] at hz ⊢; omega⟩ (by dsimp only; omega) ⟨rfl, rfl, rfl, zi8 rfl, trivial⟩
        ·rcases n with _ | n
         ·simp only [List.length_cons, List.length_nil] at hn; omega
         cases hft:f true true
         ·have hR:out ++ zeh zbd f n x y = R:=by rw [← hR]; simp [zeh, c1, c2, hft]
          have hfv:∀ (u:World) (H:Heap), H.Le (hp u) → Ret Tryz.prog tf [.bool true, .bool true] u H (fun v _ => v = .bool false):=fun u H h => by have:=hf true true u H h; rwa [hft] at this
          refine Z387 ?_; refine Z40 ?_; refine Z264 ?_; refine Z308 ?_; refine Z407 ?_; refine Z388 ?_; refine Z151 ?_; refine Z366 ?_; refine Z87 ?_; refine Z368 ?_; refine z8 (yg L (vs:=[_, _, _, _, _, _]) rfl rfl rfl rfl rfl ⟨_, rfl⟩) rfl ?_; refine Z368 ?_; refine z8 (yg L (vs:=[_, _, _, _, _, _]) rfl rfl rfl rfl rfl ⟨_, rfl⟩) rfl ?_; refine z8 (zo L rfl rfl (zk rfl) rfl rfl rfl (fun u H hH _ _ => zde hH)) rfl ?_; refine Z39 ?_; refine Z282 ?_; refine Z393 ?_; refine z7 (yv (cs:=[_, _, _, _, _, _]) rfl rfl zfg rfl rfl) rfl ?_; refine Z408 ?_; refine Z32 ?_; refine Z142 ?_; refine zh ?_; refine Z102 ?_; refine Z409 ?_; refine z7 (yg L (vs:=[_, _, _, _, _, _]) rfl rfl rfl rfl rfl ⟨_, rfl⟩) rfl ?_; refine Z252 ?_; refine Z400 ?_; refine z7 (zba L (kh:=.i64) (ph:=0) (km:=.i64) (pm:=0) 1 _ false rfl rfl rfl rfl rfl ⟨rfl, rfl⟩ ⟨rfl, rfl⟩ (fun h => by cases h) (by omega) (by omega) (by assumption)) rfl ?_; refine Z359 ?_; refine Z299 ?_; refine Z259 ?_; refine Z119 ?_; refine Z4 ?_; refine z7 (zba L (kh:=.i64) (ph:=0) (km:=.i64) (pm:=0) 1 _ false rfl rfl rfl rfl rfl ⟨rfl, rfl⟩ ⟨rfl, rfl⟩ (fun h => by cases h) (by omega) (by omega) (by assumption)) rfl ?_; refine Z402 ?_; refine Z334 ?_; refine Z74 ?_; refine Z1 ?_; refine Z41 ?_; refine z7 (zo L rfl rfl (zk rfl) rfl rfl hfn (fun u H hH _ _ => hfv u H hH)) rfl ?_; refine Z193 ?_; refine y9 ?_
          exact yi (x:=(n + 1, a :: x, b :: y, out)) (n, x, y, out) ⟨by simp only [List.length_cons, List.length_nil] at hn ⊢; omega, hR, by simp only [List.length_cons, List.length_nil, List.length_append] at hz ⊢; omega⟩ (by dsimp only; omega) ⟨rfl, rfl, rfl, rfl, trivial⟩
         ·have hR:out ++ [a] ++ zeh zbd f n x y = R:=by rw [← hR]; simp [zeh, c1, c2, hft]
          have hfv:∀ (u:World) (H:Heap), H.Le (hp u) → Ret Tryz.prog tf [.bool true, .bool true] u H (fun v _ => v = .bool true):=fun u H h => by have:=hf true true u H h; rwa [hft] at this
          refine Z387 ?_; refine Z40 ?_; refine Z264 ?_; refine Z308 ?_; refine Z407 ?_; refine Z388 ?_; refine Z151 ?_; refine Z366 ?_; refine Z87 ?_; refine Z368 ?_; refine z8 (yg L (vs:=[_, _, _, _, _, _]) rfl rfl rfl rfl rfl ⟨_, rfl⟩) rfl ?_; refine Z368 ?_; refine z8 (yg L (vs:=[_, _, _, _, _, _]) rfl rfl rfl rfl rfl ⟨_, rfl⟩) rfl ?_; refine z8 (zo L rfl rfl (zk rfl) rfl rfl rfl (fun u H hH _ _ => zde hH)) rfl ?_; refine Z39 ?_; refine Z282 ?_; refine Z393 ?_; refine z7 (yv (cs:=[_, _, _, _, _, _]) rfl rfl zfg rfl rfl) rfl ?_; refine Z408 ?_; refine Z32 ?_; refine Z142 ?_; refine zh ?_; refine Z102 ?_; refine Z409 ?_; refine z7 (yg L (vs:=[_, _, _, _, _, _]) rfl rfl rfl rfl rfl ⟨_, rfl⟩) rfl ?_; refine Z252 ?_; refine Z400 ?_; refine z7 (zba L (kh:=.i64) (ph:=0) (km:=.i64) (pm:=0) 1 _ false rfl rfl rfl rfl rfl ⟨rfl, rfl⟩ ⟨rfl, rfl⟩ (fun h => by cases h) (by omega) (by omega) (by assumption)) rfl ?_; refine Z359 ?_; refine Z299 ?_; refine Z259 ?_; refine Z119 ?_; refine Z4 ?_; refine z7 (zba L (kh:=.i64) (ph:=0) (km:=.i64) (pm:=0) 1 _ false rfl rfl rfl rfl rfl ⟨rfl, rfl⟩ ⟨rfl, rfl⟩ (fun h => by cases h) (by omega) (by omega) (by assumption)) rfl ?_; refine Z402 ?_; refine Z334 ?_; refine Z74 ?_; refine Z1 ?_; refine Z41 ?_; refine z7 (zo L rfl rfl (zk rfl) rfl rfl hfn (fun u H hH _ _ => hfv u H hH)) rfl ?_; refine Z145 ?_; refine Z116 ?_; refine qn (yo (.inl rfl) rfl rfl rfl rfl) ?_; refine z7 (zw L (vs:=[_, _, _, _, _, _]) (yk rfl) rfl rfl rfl rfl ⟨_, rfl⟩) rfl ?_; refine Z317 ?_; refine qn (yo (.inr rfl) rfl rfl rfl rfl) ?_; refine zi ?_; refine y9 ?_
          exact yi (x:=(n + 1, a :: x, b :: y, out)) (n, x, y, out ++ [a]) ⟨by simp only [List.length_cons, List.length_nil] at hn ⊢; omega, hR, by simp only [List.length_cons, List.length_nil, List.length_append] at hz ⊢; omega⟩ (by dsimp only; omega) ⟨rfl, rfl, rfl, zi8 rfl, trivial⟩
end Go.V.L2
set_option maxRecDepth 20000
namespace Go.V.L2
open Go.Proofs Go.RowKit Go.V
abbrev fWo:Bool → Bool → Bool:=fun _ b => !b
attribute [local irreducible] V N X VO Par StepOK Has Ret RetL RetO Src
theorem z02 (p q:Bool) (w:World) (B:Heap) (hB:B.Le (hp w)):Ret Tryz.prog 132 [.bool p, .bool q] w B (fun v _ => v = .bool (fWo p q)):=by
 refine yc Tryz.func132 rfl Tryz.ntmps132 (Nat.le_of_ble_eq_true rfl) hB ?_
 refine Z286 ?_; refine Z52 ?_; refine Z139 ?_
 refine yb L (rs:=[.tmp 4]) rfl (fun _ _ h => h) Since.refl fun u H hH hle => ?_
 rfl
theorem zh6 {l m:List U} {fa fb:Bool} {r:List U × Int} {v v2:Value} {w:World} {B:Heap} (hr:z2t fWo l m = r) (hB:B.Le (hp w)) (hv:US l fa v B) (hv2:US m fb v2 B):Ret Tryz.prog 89 [v, v2] w B (LE r):=by
 refine yc Tryz.func89 rfl Tryz.ntmps89 (Nat.le_of_ble_eq_true rfl) hB ?_
 refine zax 0 (US l fa) rfl SlV.mono hv ?_
 refine zax 1 (US m fb) rfl SlV.mono hv2 ?_
 refine Z251 ?_; refine Z160 ?_; refine Z384 ?_; refine z7 (yq (φ:=LE r) L rfl rfl (zk rfl) rfl rfl rfl LE.mono (fun u H hH _ _ v1 h1 v2 h2 => zu9 rfl z02 hr hH h1 h2)) rfl ?_; refine z7 (zgp rfl rfl rfl rfl SlV.mono) rfl ?_; refine Z325 ?_; refine Z139 ?_
 refine yb L (rs:=[.tmp 4, .tmp 5]) rfl (fun _ _ h => h) Since.refl fun u H hH hle => ?_
 exact fun v hv => zrw hv
end Go.V.L2
set_option maxRecDepth 20000
namespace Go.V.L8
open Go.Proofs Go.RowKit Go.V Go.V.L2 Go.V.L3 Go.V.L6
def z34 (a b:List U):List CH:=zj4 ((zeh zbd fWo (a.length + b.length) a b).map (fun t => (t, true)) ++ (zeh zbd fWo (b.length + a.length) b a).map (fun t => (t, false)))
end Go.V.L8
set_option maxRecDepth 20000
namespace Go.V.L8
open Go.Proofs Go.RowKit Go.V Go.V.L2 Go.V.L3 Go.V.L6
attribute [local irreducible] V N X VO Par StepOK Has Ret RetL RetO RetT zb8 Src
end Go.V.L8
set_option maxRecDepth 20000
namespace Go.V.L8
open Go.Proofs Go.RowKit Go.V Go.V.L2 Go.V.L3 Go.V.L6
attribute [local irreducible] V N X VO Par StepOK Has Ret RetL RetO RetT zb8 Src
end Go.V.L8
set_option maxRecDepth 20000
namespace Go.V.L8
open Go.Proofs Go.RowKit Go.V Go.V.L2 Go.V.L3 Go.V.L6
attribute [local irreducible] V N X VO Par StepOK Has Ret RetL RetO RetT zb8 Src
end Go.V.L8
set_option maxRecDepth 20000
namespace Go.V.L8
open Go.Proofs Go.RowKit Go.V Go.V.L2 Go.V.L3 Go.V.L6
attribute [local irreducible] V N X VO Par StepOK Has Ret RetL RetO RetT zb8 Src
end Go.V.L8
set_option maxRecDepth 20000
namespace Go.V.L8
open Go.Proofs Go.RowKit Go.V Go.V.L2 Go.V.L3 Go.V.L6
theorem zyz (a b:List U):(zeh zbd fWo (a.length + b.length) a b).length ≤ a.length + b.length:=zda _ _ _ (Nat.le_refl _)
theorem zu8 {a b:List U} (la:a.length ≤ 4096) (lb:b.length ≤ 4096) (sa:Sst zbd a) (sb:Sst zbd b):z2t fWo a b = (zeh zbd fWo (a.length + b.length) a b, 0):=by
 unfold z2t
 have h1:isB a = true:=decide_eq_true sa
 have h2:isB b = true:=decide_eq_true sb
 rw [if_neg (by omega), h1, h2, if_pos (by decide)]
attribute [local irreducible] V N X VO Par StepOK Has Ret RetL RetO RetT zb8 Src
set_option maxHeartbeats 4000000 in
theorem zoo {a b:List U} {m:List CH} (la:a.length ≤ 4096) (lb:b.length ≤ 4096) (sa:Sst zbd a) (sb:Sst zbd b) (hr:z34 a b = m) {av bv:Value} {w:World} {B:Heap} (hB:B.Le (hp w)) (ha:SetV a av B) (hb:SetV b bv B) :
  Ret Tryz.prog 59 [av, bv] w B (KS tyC m true):=by
 subst hr
 obtain ⟨f1, p1, k1, q1, rfl, hp1⟩:=ha.shape
 obtain ⟨f2, p2, k2, q2, rfl, hp2⟩:=hb.shape
 have w1:=zu8 la lb sa sb
 have w2:=zu8 lb la sb sa
 have l1:=zyz a b
 have l2:=zyz b a
 have hbp:z34 a b = zj4 ((zeh zbd fWo (a.length + b.length) a b).map (fun t => (t, true)) ++ (zeh zbd fWo (b.length + a.length) b a).map (fun t => (t, false))):=rfl
 rw [hbp]
 generalize zeh zbd fWo (a.length + b.length) a b = G at *
 generalize zeh zbd fWo (b.length + a.length) b a = K at *
 have mG:Kn.mono (.sat (US G true)):=SlV.mono
 have mK:Kn.mono (.sat (US K true)):=SlV.mono
 refine yc Tryz.func59 rfl Tryz.ntmps59 (Nat.le_of_ble_eq_true rfl) hB ?_
 refine Z206 ?_; refine Z377 ?_; refine z8 (zw L (vs:=[_, _, _, _]) (ql rfl) rfl rfl rfl rfl ⟨_, rfl⟩) rfl ?_; refine z8 (yq (φ:=US a true) L rfl rfl (zk rfl) rfl rfl rfl SlV.mono (fun u H hH hle _ => zjk (by omega) hH (ha.le hle))) rfl ?_; refine z8 (zw L (vs:=[_, _, _, _]) (ql rfl) rfl rfl rfl rfl ⟨_, rfl⟩) rfl ?_; refine z8 (yq (φ:=US b true) L rfl rfl (zk rfl) rfl rfl rfl SlV.mono (fun u H hH hle _ => zjk (by omega) hH (hb.le hle))) rfl ?_; refine Z91 ?_; refine Z91 ?_; refine Z301 ?_; refine Z29 ?_; refine Z384 ?_; refine z7 (yq (φ:=LE (G, 0)) L rfl rfl (zk rfl) rfl rfl rfl LE.mono (fun u H hH _ _ v1 h1 v2 h2 => zh6 w1 hH h1 h2)) rfl ?_; refine Z350 ?_; refine Z144 ?_; refine Z28 ?_; refine Z384 ?_; refine z7 (yq (φ:=LE (K, 0)) L rfl rfl (zk rfl) rfl rfl rfl LE.mono (fun u H hH _ _ v1 h1 v2 h2 => zh6 w2 hH h1 h2)) rfl ?_; refine Z350 ?_; refine Z144 ?_; refine Z30 ?_; refine Z148 ?_
 refine zeb 11 tyC 7 rfl ?_
 refine Z37 ?_; refine Z395 ?_
 refine zak (fun i:Nat => [(9, .sat (US K true)), (11, .own (SlR tyC 7 ((G.take i).map fun t => ((t, true):CH)).length (((G.take i).map fun t => ((t, true):CH)).flatMap ccs))), (32, .sat (US G true)), (33, .is (.int .i64 G.length)), (34, .is (.int .i64 i))]) (fun i => i ≤ G.length) (fun i => G.length - i) 0 (Nat.zero_le _) ⟨rfl, rfl, rfl, rfl, rfl, trivial⟩ ?_
 rintro i hi
 have hli:((G.take i).map fun t => ((t, true):CH)).length ≤ 8192:=by rw [List.length_map, List.length_take]; omega
 by_cases hlt:i < G.length
 ·obtain ⟨t, ht⟩:=zae hlt
  have hct:=zgk ht
  have e1:((G.take (i + 1)).map fun t => ((t, true):CH)) = ((G.take i).map fun t => ((t, true):CH)) ++ [(t, true)]:=by rw [List.take_add_one, ht, List.map_append]; rfl
  refine Z374 ?_; refine Z219 ?_; refine Z44 ?_; refine z7 (qu L _ rfl rfl rfl rfl rfl rfl rfl (by first | omega | decide) (by assumption)) rfl ?_; refine z7 (yg L (vs:=[_, _, _, _, _, _]) rfl rfl rfl rfl rfl ⟨_, rfl⟩) rfl ?_; refine Z199 ?_; refine Z138 ?_; refine Z57 ?_; refine qn (yo (.inl rfl) rfl rfl rfl rfl) ?_; refine z7 (zw L (vs:=[_, _, _, _, _, _]) (yk rfl) rfl rfl rfl rfl ⟨_, rfl⟩) rfl ?_; refine z7 (yv (cs:=[_, _, _, _, _, _, _]) rfl rfl zpc rfl rfl) rfl ?_; refine Z35 ?_; refine Z107 ?_; refine qn (yo (.inr rfl) rfl rfl rfl rfl) ?_; refine Z237 ?_; refine Z60 ?_; refine Z320 ?_
  exact yi (x:=i) (i + 1) hlt (by omega) ⟨rfl, by rw [e1]; exact zgu rfl, rfl, rfl, rfl, trivial⟩
 ·obtain rfl:i = G.length:=by omega
  rw [List.take_length]
  have lG:(G.map fun t => ((t, true):CH)).length ≤ 8192:=by rw [List.length_map]; omega
  refine Z374 ?_; refine Z278 ?_; refine Z140 ?_; refine Z68 ?_; refine Z395 ?_
  refine zak (fun j:Nat => [(11, .own (SlR tyC 7 ((G.map fun t => ((t, true):CH)) ++ ((K.take j).map fun t => ((t, false):CH))).length (((G.map fun t => ((t, true):CH)) ++ ((K.take j).map fun t => ((t, false):CH))).flatMap ccs))), (44, .sat (US K true)), (45, .is (.int .i64 K.length)), (46, .is (.int .i64 j))]) (fun j => j ≤ K.length) (fun j => K.length - j) 0 (Nat.zero_le _) ⟨by rw [List.take_zero, List.map_nil, List.append_nil]; rfl, rfl, rfl, rfl, trivial⟩ ?_
  rintro j hj
  have hlj:((G.map fun t => ((t, true):CH)) ++ ((K.take j).map fun t => ((t, false):CH))).length ≤ 16384:=by rw [List.length_append, List.length_map, List.length_map, List.length_take]; omega
  by_cases hjl:j < K.length
  ·obtain ⟨t, ht⟩:=zae hjl
   have hct:=zgk ht
   have e1:((G.map fun t => ((t, true):CH)) ++ ((K.take (j + 1)).map fun t => ((t, false):CH))) = ((G.map fun t => ((t, true):CH)) ++ ((K.take j).map fun t => ((t, false):CH))) ++ [(t, false)]:=by rw [List.take_add_one, ht, List.map_append, List.append_assoc]; rfl
   refine zh ?_; refine Z65 ?_; refine Z219 ?_; refine Z86 ?_; refine z7 (qu L _ rfl rfl rfl rfl rfl rfl rfl (by first | omega | decide) (by assumption)) rfl ?_; refine z7 (yg L (vs:=[_, _, _, _, _, _]) rfl rfl rfl rfl rfl ⟨_, rfl⟩) rfl ?_; refine Z199 ?_; refine Z138 ?_; refine Z82 ?_; refine qn (yo (.inl rfl) rfl rfl rfl rfl) ?_; refine z7 (zw L (vs:=[_, _, _, _, _, _]) (yk rfl) rfl rfl rfl rfl ⟨_, rfl⟩) rfl ?_; refine z7 (yv (cs:=[_, _, _, _, _, _, _]) rfl rfl zpc rfl rfl) rfl ?_; refine Z35 ?_; refine Z107 ?_; refine qn (yo (.inr rfl) rfl rfl rfl rfl) ?_; refine Z237 ?_; refine Z72 ?_; refine Z320 ?_
   exact yi (x:=j) (j + 1) hjl (by omega) ⟨by rw [e1]; exact zgu rfl, rfl, rfl, rfl, trivial⟩
  ·obtain rfl:j = K.length:=by omega
   rw [List.take_length]
   rw [List.take_length] at hlj
   refine zck 11 rfl ?_
   refine zh ?_; refine Z65 ?_; refine Z300 ?_; refine Z96 ?_; refine Z4 ?_; refine z7 (yq (φ:=KS tyC (zj4 ((G.map fun t => ((t, true):CH)) ++ (K.map fun t => ((t, false):CH)))) true) L rfl rfl (zk rfl) rfl rfl rfl SlV.mono (fun u H hH _ _ v1 h1 => zpu rfl (by omega) hH h1)) rfl ?_; refine Z266 ?_
   refine yb L (rs:=[.tmp 4]) rfl (fun _ _ h => h) Since.refl fun u H hH hle => ?_
   exact fun v hv => hv
end Go.V.L8
set_option maxRecDepth 20000
namespace Go.V.L10
open Go.Proofs Go.RowKit Go.V Go.V.L2 Go.V.L8 Go.V.L6
theorem zqc (S:Sto):zgx fun (x:Nat × Value × Ent) (H:Heap) => MapOK x.2.2 S.R ∧ EsV x.2.2 H ∧ PsV (zaj S.P) x.2.1 H:=fun _ _ _ ⟨h1, h2, h3⟩ hle => ⟨h1, h2.le hle, h3.le hle⟩
abbrev StG (b:Nat) (S:Sto):GR:=GEx (fun x:Nat × Value × Ent => StO b S.R.length x.1 x.2.1 S.P.length x.2.2) (fun x H => MapOK x.2.2 S.R ∧ EsV x.2.2 H ∧ PsV (zaj S.P) x.2.1 H) (zqc S)
theorem zl4 (b:Nat) (S:Sto):(StG b S).res = ExR (fun x:Nat × Value × Ent => (StO b S.R.length x.1 x.2.1 S.P.length x.2.2).res) (fun x H => MapOK x.2.2 S.R ∧ EsV x.2.2 H ∧ PsV (zaj S.P) x.2.1 H) (zqc S):=rfl
theorem zfo {S:Sto} {b m:Nat} {s:Value} {es:Ent} {B:Heap} (hm:MapOK es S.R) (hes:EsV es B) (hps:PsV (zaj S.P) s B):∀ (v:Value) H u C, B.Le H → (StO b S.R.length m s S.P.length es).res.P v H u C → (StG b S).res.P v H u C:=fun _ _ _ _ hle h => ⟨(m, s, es), ⟨hm, hes.le hle, hps.le hle⟩, h⟩
theorem EsV.snoc {es:Ent} {H:Heap} (h:EsV es H) {k:Int} {t:List U} {v:Value} (hv:SetV t v H):EsV (es ++ [(k, (t, v))]) H:=fun e he => by
 rcases List.mem_append.1 he with he | he
 ·exact h e he
 ·rw [List.mem_singleton.1 he]; exact hv
theorem zd1 {P:Program} {f:FuncId} {args:List Value} {w:World} {B:Heap} {C:Nat → Prop} {r:GR} {v:Value} (h:RetY P f args w B C r (fun x _ => x = v)):zdn P f args w B C r v:=RetL.mono h fun _ _ _ _ hp => hp
attribute [local irreducible] V N X VO Par StepOK Has Ret RetL RetO RetT zb8 zdn RetY Src
set_option maxHeartbeats 4000000 in
set_option maxRecDepth 20000 in
theorem zep {S S':Sto} {b:Nat} {l cs:List CH} {rev e:Int} {fl fc:Bool} (hI:z3v S) (hR:S.R.length ≤ 100000) (hn:S.R.length ≠ 0) (zl:∀ c ∈ l, TM c.1) (zc:∀ c ∈ cs, TM c.1) (ll:l.length ≤ 9223372036854775807) (lc:cs.length ≤ 9223372036854775807) (hw:zen S l cs = (S', rev, e)) {lv cv:Value} {w:World} {B:Heap} {C:Nat → Prop} (hB:B.Le (hp w))
  (hl:KS tyM l fl lv B) (hc:KS tyC cs fc cv B) (hr:(StG b S).P B w C) (hC:∀ k, C k → k < w.heap.size ∧ B k = none) :
  RetY Tryz.prog 19 [.pointer (some ⟨b, 0, none⟩), lv, cv] w B C (StG b S') (fun v _ => v = .tuple #[.int .u64 rev, .int .i64 e]):=by
 unfold RetY
 refine zar 900 (StG b S) Tryz.func19 rfl Tryz.ntmps19 (Nat.le_of_ble_eq_true rfl) hB hr hC ?_
 refine zax 1 (KS tyM l fl) rfl SlV.mono hl ?_
 refine zax 2 (KS tyC cs fc) rfl SlV.mono hc ?_
 rw [zl4]
 refine zey 900 rfl fun x H hs0 hφ => ?_
 obtain ⟨m, s, es⟩:=x
 obtain ⟨hm, hes, hps⟩:=hφ
 dsimp only at hm hes hps ⊢
 obtain ⟨ps, pc, rfl⟩:=zap hps
 obtain ⟨t0, ht0⟩:∃ t0, kpt S.R S.R.length = some t0:=Option.isSome_iff_exists.1 hI.last
 have hA:atS S 0 = (t0, 0):=by unfold atS; rw [if_pos rfl, ht0]
 have ht4:=hI.tl _ _ ht0
 obtain ⟨⟨t1, made, e1⟩, hwr⟩:∃ x, zec t0 l cs = x:=⟨_, rfl⟩
 unfold zen at hw
 rw [hA, hwr] at hw
 dsimp only at hw
 refine Z251 ?_; refine Z397 ?_; refine yr (zb2 L 900 (WithP t0 0) (r:=StO b S.R.length m _ S.P.length es) rfl rfl rfl rfl rfl WithP.mono (fun u H2 C2 hH hle hr2 hC2 => by have h:=zfn (S:=S) (r:=0) hm hn (hes.le hle) hH hr2 hC2; rw [hA] at h; exact h)) ?_; refine zbl 14 rfl fun v1 H1 hs1 hp1 => ?_; obtain ⟨sv, rfl, hsv⟩:=hp1; obtain ⟨f1, p1, f2, p2, rfl, hpl⟩:=hsv.shape; refine Z309 ?_; refine Z148 ?_; refine Z175 ?_; refine Z234 ?_; refine Z30 ?_; refine z7 (zw L (vs:=[_, _, _, _]) (yk rfl) rfl rfl rfl rfl ⟨_, rfl⟩) rfl ?_; refine Z384 ?_; refine z7 (yq L rfl rfl (zk rfl) rfl rfl rfl WriteP.mono (fun u H2 hH hle _ v1 h1 v2 h2 => ztd zl zc ll lc ht4 hwr hH (hsv.le hle) h1 h2)) rfl ?_; refine zbl 24 rfl fun v3 H3 hs3 hp3 => ?_; obtain ⟨tv, mv, rfl, htv, hmv⟩:=hp3; obtain ⟨f3, p3, f4, p4, rfl, hpl4⟩:=htv.shape; refine Z172 ?_; refine Z13 ?_; refine Z298 ?_; refine Z225 ?_
 have hs13:=hs1.trans hs3
 have hes3:=hes.le hs13.le
 have hps3:=hps.le hs13.le
 by_cases he:e1 = 0
 ·subst he
  rw [if_pos rfl] at hw
  have hlen:=hm.len
  have hkl:=hI.kl
  rw [zfm]
  refine zf4 900 901 rfl (zaw _) ?_
  by_cases hk:1024 ≤ (za8 S.R).length
  ·rw [if_pos hk] at hw
   cases hw
   refine Z179 ?_; refine Z240 ?_; refine Z196 ?_; refine Z262 ?_; refine yr (zph (q:=901) (vc:=vcE) mpS rfl rfl rfl rfl rfl) ?_; refine Z305 ?_; refine Z57 ?_; refine Z186 ?_
   refine zb3 900 901 rfl rfl (zaw _) ?_
   refine zcj 900 (StG b S).res rfl (zfo hm hes3 hps3) ?_
   exact zbx L 900 (r:=StG b S) (rs:=[.tmp 6, .tmp 7]) rfl (fun _ _ h => h) (hs0.trans hs13) rfl rfl (fun H hle => rfl)
  ·rw [if_neg hk] at hw
   cases hw
   have hadd:=hm.add t1 (.agg #[f3, .pointer p3, f4, .pointer p4])
   have hwn:IntKind.u64.wrap ((S.R.length:Int) + 1) = ((S.R.length + 1:Nat):Int):=wrap_u64 (by omega) (by omega)
   have hln:(S.R ++ [some t1]).length = S.R.length + 1:=by rw [List.length_append]; rfl
   refine Z179 ?_; refine Z240 ?_; refine Z196 ?_; refine Z262 ?_; refine yr (zph (q:=901) (vc:=vcE) mpS rfl rfl rfl rfl rfl) ?_; refine Z281 ?_; refine Z280 ?_; refine Z262 ?_; refine Z20 ?_; refine Z245 ?_; refine Z272 ?_; refine Z262 ?_; refine Z20 ?_; refine Z202 ?_; refine zcl (yw L (q:=900) (cs':=stc (S.R.length + 1) m (.slice ps (zaj S.P).length pc) S.P.length) rfl rfl rfl rfl rfl rfl rfl rfl rfl) ?_; refine Z159 ?_
   refine qf (id:=12) [(200053, [900]), (200057, [900]), (100053, [901])] mixed (by kernel_rfl) ?_; refine Z184 ?_; refine Z67 ?_; refine Z184 ?_; refine Z67 ?_; refine z8 (zw L (vs:=[_, _, _, _]) (yk rfl) rfl rfl rfl rfl ⟨_, rfl⟩) rfl ?_; refine zag (zsa (q:=901) (vc:=vcE) ((S.R.length + 1:Nat):Int) (t1, .agg #[f3, .pointer p3, f4, .pointer p4]) mpS kyS rfl rfl rfl rfl rfl rfl hadd.2) rfl ?_; refine Z301 ?_
   refine Z316 ?_; refine Z262 ?_; refine Z186 ?_
   refine zb3 900 901 rfl rfl (zaw _) ?_
   refine zcj 900 (StG b ⟨S.R ++ [some t1], S.P⟩).res rfl (fun v H u C hle h => zfo (S:=⟨S.R ++ [some t1], S.P⟩) (by have h2:=hadd.1; rw [hadd.2] at h2; exact h2) (hes3.snoc htv) hps3 v H u C hle (by dsimp only; rw [hln]; exact h)) ?_
   exact zbx L 900 (r:=StG b ⟨S.R ++ [some t1], S.P⟩) (rs:=[.tmp 6, .tmp 7]) rfl (fun _ _ h => h) (hs0.trans hs13) rfl rfl (fun H hle => rfl)
 ·rw [if_neg he] at hw
  cases hw
  refine Z179 ?_; refine Z222 ?_; refine Z192 ?_; refine Z186 ?_
  refine zcj 900 (StG b S).res rfl (zfo hm hes3 hps3) ?_
  exact zbx L 900 (r:=StG b S) (rs:=[.tmp 6, .tmp 7]) rfl (fun _ _ h => h) (hs0.trans hs13) rfl rfl (fun H hle => rfl)
set_option maxHeartbeats 4000000 in
set_option maxRecDepth 20000 in
theorem zjl {S:Sto} {b f:Nat} {r:Int} {P':List Int} {e:Int} (hn:S.R.length ≠ 0) (hk:(kpt S.R r).isSome = true) (hfn:L.fn f = some ()) (hf:∀ {s:Value} {u:World} {H:Heap}, H.Le (hp u) → PsV (zaj S.P) s H → Ret Tryz.prog f [pnv s S.P.length, .int .u64 r] u H (PinP P' e)) {w:World} {B:Heap} {C:Nat → Prop} (hB:B.Le (hp w))
  (hr:(StG b S).P B w C) (hC:∀ k, C k → k < w.heap.size ∧ B k = none) :
  RetY Tryz.prog 50 [.pointer (some ⟨b, 0, none⟩), .int .u64 r, .func (.func f) #[] #[]] w B C (StG b (if e = 0 then ⟨S.R, P'⟩ else S)) (fun v _ => v = .int .i64 e):=by
 unfold RetY
 refine zar 900 (StG b S) Tryz.func50 rfl Tryz.ntmps50 (Nat.le_of_ble_eq_true rfl) hB hr hC ?_
 rw [zl4]
 refine zey 900 rfl fun x H hs0 hφ => ?_
 obtain ⟨m, s, es⟩:=x
 obtain ⟨hm, hes, hps⟩:=hφ
 dsimp only at hm hes hps ⊢
 obtain ⟨ps, pc, rfl⟩:=zap hps
 rw [zfm]
 refine zf4 900 901 rfl (zaw _) ?_
 have hg:=hm.get r
 obtain ⟨⟨t0, sv⟩, hgk⟩:∃ x, ze7 r es = some x:=by
  rw [← hg, Option.isSome_map] at hk
  exact Option.isSome_iff_exists.1 hk
 have hsv:SetV t0 sv H:=hes _ (ziv hgk)
 obtain ⟨f1, p1, f2, p2, rfl, hpl⟩:=hsv.shape
 have q1:(ze7 r es).elim nilSet vcE = .agg #[f1, .pointer p1, f2, .pointer p2]:=by rw [hgk]; rfl
 have q2:(ze7 r es).isSome = true:=by rw [hgk]; rfl
 refine Z256 ?_; refine yr (zay L 900 (Φ:=fun H => H b = some (.cells (stc S.R.length m _ S.P.length).toArray tyS)) (c:=.bool false) rfl rfl (zk rfl) rfl rfl rfl rfl rfl zj7 (fun u H hH hle hb => zcw hn hb hH)) ?_; refine Z168 ?_; refine Z173 ?_; refine Z262 ?_; refine Z1 ?_; refine yr (zdw (q:=901) (vc:=vcE) r mpS kyS zrS rfl rfl rfl rfl rfl q1 q2) ?_; refine Z309 ?_; refine Z144 ?_; refine Z161 ?_; refine Z52 ?_; refine Z162 ?_; refine Z284 ?_; refine Z202 ?_; refine yr (zao L (q:=900) (vs:=[_, _]) rfl rfl rfl rfl rfl rfl ⟨_, rfl⟩) ?_; refine Z1 ?_; refine z7 (yq (φ:=PinP P' e) L rfl rfl (zk rfl) rfl (cap:=[]) rfl hfn PinP.mono (fun u H2 hH hle _ => hf hH (hps.le hle))) rfl ?_; refine zbl 31 rfl fun v1 H1 hs1 hp1 => ?_; obtain ⟨s2, rfl, hs2⟩:=hp1; obtain ⟨p5, c5, rfl⟩:=zap hs2; refine Z352 ?_; refine Z148 ?_
 by_cases he:e = 0
 ·subst he
  rw [if_pos rfl]
  refine Z196 ?_; refine Z288 ?_; refine Z228 ?_; refine z7 (zw L (vs:=[_, _]) (yk rfl) rfl rfl rfl rfl ⟨_, rfl⟩) rfl ?_; refine Z202 ?_; refine zcl (yw L (q:=900) (cs':=stc S.R.length m (.slice p5 (zaj P').length c5) P'.length) rfl rfl rfl rfl rfl rfl rfl rfl rfl) ?_; refine Z159 ?_; refine Z280 ?_; refine Z139 ?_
  refine zb3 900 901 rfl rfl (zaw _) ?_
  refine zcj 900 (StG b ⟨S.R, P'⟩).res rfl (zfo (S:=⟨S.R, P'⟩) hm (hes.le hs1.le) hs2) ?_
  exact zbx L 900 (r:=StG b ⟨S.R, P'⟩) (rs:=[.tmp 6]) rfl (fun _ _ h => h) (hs0.trans hs1) rfl rfl (fun H hle => rfl)
 ·rw [if_neg he]
  refine Z196 ?_; refine Z245 ?_; refine Z280 ?_; refine Z139 ?_
  refine zb3 900 901 rfl rfl (zaw _) ?_
  refine zcj 900 (StG b S).res rfl (zfo hm (hes.le hs1.le) (hps.le hs1.le)) ?_
  exact zbx L 900 (r:=StG b S) (rs:=[.tmp 6]) rfl (fun _ _ h => h) (hs0.trans hs1) rfl rfl (fun H hle => rfl)
set_option maxHeartbeats 4000000 in
theorem zh9 {S:Sto} {b:Nat} {r:Int} {fv:Value} (hn:S.R.length ≠ 0) (hk:¬ (kpt S.R r).isSome = true) {w:World} {B:Heap} {C:Nat → Prop} (hB:B.Le (hp w))
  (hr:(StG b S).P B w C) (hC:∀ k, C k → k < w.heap.size ∧ B k = none) :
  RetY Tryz.prog 50 [.pointer (some ⟨b, 0, none⟩), .int .u64 r, fv] w B C (StG b S) (fun v _ => v = .int .i64 14):=by
 refine RetY.ex hr fun x hφ hr => ?_
 obtain ⟨m, s, es⟩:=x
 obtain ⟨hm, hes, hps⟩:=hφ
 dsimp only at hm hes hps hr ⊢
 unfold RetY
 refine zar 900 (StO b S.R.length m s S.P.length es) Tryz.func50 rfl Tryz.ntmps50 (Nat.le_of_ble_eq_true rfl) hB hr hC ?_
 rw [zfm]
 refine zf4 900 901 rfl (zaw _) ?_
 have hg:=hm.get r
 have hgk:ze7 r es = none:=by
  rw [← hg, Option.isSome_map] at hk
  cases h:ze7 r es with
  | none => rfl
  | some y => rw [h] at hk; exact absurd rfl hk
 have q1:(ze7 r es).elim nilSet vcE = nilSet:=by rw [hgk]; rfl
 have q2:(ze7 r es).isSome = false:=by rw [hgk]; rfl
 refine Z256 ?_; refine yr (zay L 900 (Φ:=fun H => H b = some (.cells (stc S.R.length m _ S.P.length).toArray tyS)) (c:=.bool false) rfl rfl (zk rfl) rfl rfl rfl rfl rfl zj7 (fun u H hH hle hb => zcw hn hb hH)) ?_; refine Z168 ?_; refine Z173 ?_; refine Z262 ?_; refine Z1 ?_; refine yr (zdw (q:=901) (vc:=vcE) r mpS kyS zrS rfl rfl rfl rfl rfl q1 q2) ?_; refine Z352 ?_; refine Z144 ?_; refine Z161 ?_; refine Z52 ?_; refine Z154 ?_; refine Z37 ?_; refine Z139 ?_
 refine zb3 900 901 rfl rfl (zaw _) ?_
 exact zbx L 900 (r:=StO b S.R.length m s S.P.length es) (rs:=[.tmp 6]) rfl (fun _ _ h => h) Since.refl rfl rfl (fun H hle => rfl)
theorem zl7 {S S':Sto} {b:Nat} {r e:Int} (hn:S.R.length ≠ 0) (hz:S.P.length ≤ 1000) (hpn:zn0 S r false = (S', e)) {w:World} {B:Heap} {C:Nat → Prop} (hB:B.Le (hp w)) (hr:(StG b S).P B w C) (hC:∀ k, C k → k < w.heap.size ∧ B k = none) :
  RetY Tryz.prog 20 [.pointer (some ⟨b, 0, none⟩), .int .u64 r] w B C (StG b S') (fun v _ => v = .int .i64 e):=by
 unfold zn0 at hpn
 unfold RetY
 refine zar 900 (StG b S) Tryz.func20 rfl Tryz.ntmps20 (Nat.le_of_ble_eq_true rfl) hB hr hC ?_
 by_cases hk:(kpt S.R r).isSome = true
 ·rw [if_pos hk] at hpn
  rw [if_neg (by decide)] at hpn
  cases hpn
  have hr0:r ≠ 0:=by have:=zfd hk; omega
  refine Z331 ?_; refine qn (zai L 900 (StG b ⟨S.R, S.P ++ [r]⟩) (.int .i64 0) (r:=StG b S) rfl rfl rfl rfl rfl (fun u H2 C2 hH hle hr2 hC2 => by have h:=zjl (P':=S.P ++ [r]) (e:=0) hn hk rfl (fun hH hv => z0e hr0 hz hH hv) hH hr2 hC2; rw [if_pos rfl] at h; exact zd1 h)) ?_; refine Z139 ?_
  exact zbx L 900 (r:=StG b ⟨S.R, S.P ++ [r]⟩) (rs:=[.tmp 4]) rfl (fun _ _ h => h) Since.refl rfl rfl (fun H hle => rfl)
 ·rw [if_neg hk] at hpn
  cases hpn
  refine Z331 ?_; refine yr (zft L 900 (.int .i64 14) (r:=StG b S) rfl rfl rfl rfl rfl (fun u H2 C2 hH hle hr2 hC2 => zh9 hn hk hH hr2 hC2)) ?_; refine Z139 ?_
  exact zbx L 900 (r:=StG b S) (rs:=[.tmp 4]) rfl (fun _ _ h => h) Since.refl rfl rfl (fun H hle => rfl)
theorem zhn {S S':Sto} {b:Nat} {r e:Int} (hn:S.R.length ≠ 0) (hz:S.P.length ≤ 1000) (hpn:zn0 S r true = (S', e)) {w:World} {B:Heap} {C:Nat → Prop} (hB:B.Le (hp w)) (hr:(StG b S).P B w C) (hC:∀ k, C k → k < w.heap.size ∧ B k = none) :
  RetY Tryz.prog 39 [.pointer (some ⟨b, 0, none⟩), .int .u64 r] w B C (StG b S') (fun v _ => v = .int .i64 e):=by
 unfold zn0 at hpn
 unfold RetY
 refine zar 900 (StG b S) Tryz.func39 rfl Tryz.ntmps39 (Nat.le_of_ble_eq_true rfl) hB hr hC ?_
 by_cases hk:(kpt S.R r).isSome = true
 ·rw [if_pos hk] at hpn
  rw [if_pos rfl] at hpn
  obtain ⟨⟨P', e'⟩, hu⟩:∃ x, zfl S.P r = x:=⟨_, rfl⟩
  rw [hu] at hpn
  dsimp only at hpn
  have hS:S' = (if ((e':Nat):Int) = 0 then ⟨S.R, P'⟩ else S) ∧ e = ((e':Nat):Int):=by
   by_cases h0:e' = 0
   ·subst h0; rw [if_pos rfl] at hpn; rw [if_pos (show ((0:Nat):Int) = 0 from rfl)]; cases hpn; exact ⟨rfl, rfl⟩
   ·rw [if_neg h0] at hpn; rw [if_neg (by omega)]; cases hpn; exact ⟨rfl, rfl⟩
  obtain ⟨rfl, rfl⟩:=hS
  refine Z331 ?_; refine qn (zai L 900 (StG b (if ((e':Nat):Int) = 0 then ⟨S.R, P'⟩ else S)) (.int .i64 e') (r:=StG b S) rfl rfl rfl rfl rfl (fun u H2 C2 hH hle hr2 hC2 => zd1 (zjl (P':=P') (e:=e') hn hk rfl (fun hH hv => zto hu hz hH hv) hH hr2 hC2))) ?_; refine Z139 ?_
  exact zbx L 900 (r:=StG b (if ((e':Nat):Int) = 0 then ⟨S.R, P'⟩ else S)) (rs:=[.tmp 4]) rfl (fun _ _ h => h) Since.refl rfl rfl (fun H hle => rfl)
 ·rw [if_neg hk] at hpn
  cases hpn
  refine Z331 ?_; refine yr (zft L 900 (.int .i64 14) (r:=StG b S) rfl rfl rfl rfl rfl (fun u H2 C2 hH hle hr2 hC2 => zh9 hn hk hH hr2 hC2)) ?_; refine Z139 ?_
  exact zbx L 900 (r:=StG b S) (rs:=[.tmp 4]) rfl (fun _ _ h => h) Since.refl rfl rfl (fun H hle => rfl)
end Go.V.L10
set_option maxRecDepth 20000
namespace Go.V.L10
open Go.Proofs Go.RowKit Go.V
theorem _root_.Go.V.Z410 {A B:Prop} (h:B) (t:Wr B → A:=by intro h; refine Z56 ?_; refine Z1 ?_; exact h.h):A:=t ⟨h⟩
theorem zs3 {l:List Int} {i:Nat} {x r:Int} (h:l[i]? = some x):(l.take (i + 1)).count r = (l.take i).count r + if x = r then 1 else 0:=by
 rw [zbj h, List.count_append, List.count_singleton]
 congr 1
 by_cases e:x = r <;> simp [e]
theorem z3g {l:List Int} {i:Nat} {r:Int}:(l.take i).count r ≤ l.length:=Nat.le_trans List.count_le_length (by rw [List.length_take]; omega)
def nxF (last n x:Int):Int:=if last < x ∧ (n = 0 ∨ x < n) then x else n
def nxS (last:Int) (l:List Int):Int:=l.foldl (nxF last) 0
theorem zxd {last:Int} {l:List Int} {i:Nat} {x:Int} (h:l[i]? = some x):nxS last (l.take (i + 1)) = nxF last (nxS last (l.take i)) x:=by
 unfold nxS; rw [zbj h, List.foldl_append]; rfl
theorem zxc {last:Int} (h0:0 ≤ last) (l:List Int):(nxS last l = 0 ∧ ∀ x ∈ l, ¬ last < x) ∨ (nxS last l ∈ l ∧ last < nxS last l ∧ ∀ x ∈ l, last < x → nxS last l ≤ x):=by
 have key:∀ (m:List Int) (n:Int) (seen:List Int), ((n = 0 ∧ ∀ x ∈ seen, ¬ last < x) ∨ (n ∈ seen ∧ last < n ∧ ∀ x ∈ seen, last < x → n ≤ x)) → ((m.foldl (nxF last) n = 0 ∧ ∀ x ∈ seen ++ m, ¬ last < x) ∨ (m.foldl (nxF last) n ∈ seen ++ m ∧ last < m.foldl (nxF last) n ∧ ∀ x ∈ seen ++ m, last < x → m.foldl (nxF last) n ≤ x)):=by
  intro m
  induction m with
  | nil => intro n seen h; simpa using h
  | cons y m ih =>
   intro n seen h
   have h1:=ih (nxF last n y) (seen ++ [y]) (by
    unfold nxF
    by_cases hc:last < y ∧ (n = 0 ∨ y < n)
    ·rw [if_pos hc]
     refine .inr ⟨by simp, hc.1, fun x hx hl => ?_⟩
     rcases List.mem_append.1 hx with hx | hx
     ·rcases h with ⟨_, h3⟩ | ⟨_, h3, h4⟩
      ·exact absurd hl (h3 x hx)
      ·have:=h4 x hx hl; rcases hc.2 with h5 | h5 <;> omega
     ·rw [List.mem_singleton.1 hx]; exact Int.le_refl _
    ·rw [if_neg hc]
     rcases h with ⟨h2, h3⟩ | ⟨h2, h3, h4⟩
     ·refine .inl ⟨h2, fun x hx => ?_⟩
      rcases List.mem_append.1 hx with hx | hx
      ·exact h3 x hx
      ·rw [List.mem_singleton.1 hx]; exact fun hl => hc ⟨hl, .inl h2⟩
     ·refine .inr ⟨List.mem_append_left _ h2, h3, fun x hx hl => ?_⟩
      rcases List.mem_append.1 hx with hx | hx
      ·exact h4 x hx hl
      ·rw [List.mem_singleton.1 hx] at hl ⊢
       rcases Int.lt_or_le y n with h5 | h5
       ·exact absurd ⟨hl, .inr h5⟩ hc
       ·exact h5)
   simpa using h1
 simpa [nxS] using key l 0 [] (.inl ⟨rfl, fun x hx => by cases hx⟩)
def zg5 (h:List Int) (k:Nat):Int:=if k = 0 then 0 else (h[k - 1]?).getD 0
theorem zsp {h:List Int} {k:Nat} {x:Int} (hx:h[k]? = some x):zg5 h (k + 1) = x:=by
 unfold zg5
 rw [if_neg (by omega), Nat.add_sub_cancel, hx]; rfl
theorem zpp {L0:List Int} {i j:Nat} {x y:Int} (hi:(zan L0)[i]? = some x) (hj:(zan L0)[j]? = some y) (hij:i < j):x < y:=by
 have h1:=List.pairwise_iff_getElem.1 (za9 L0) i j (get_lt hi) (get_lt hj) hij
 rw [zea hi, zea hj] at h1
 exact zyf.1 h1
theorem zvj {L0:List Int} (hp:∀ x ∈ L0, 0 < x) {k:Nat} {x:Int} (hx:(zan L0)[k]? = some x):zg5 (zan L0) k < x:=by
 unfold zg5
 by_cases h:k = 0
 ·rw [if_pos h]; exact hp x (za0.1 (List.mem_of_getElem? hx))
 ·rw [if_neg h]
  have hk:k - 1 < (zan L0).length:=by have:=get_lt hx; omega
  rw [List.getElem?_eq_getElem hk]
  exact zpp (List.getElem?_eq_getElem hk) hx (by omega)
theorem zxm {L0:List Int} (hp:∀ x ∈ L0, 0 < x) {k:Nat} (hk:k ≤ (zan L0).length):0 ≤ zg5 (zan L0) k:=by
 unfold zg5
 by_cases h:k = 0
 ·rw [if_pos h]; exact Int.le_refl _
 ·rw [if_neg h]
  have hk2:k - 1 < (zan L0).length:=by omega
  rw [List.getElem?_eq_getElem hk2]
  exact Int.le_of_lt (hp _ (za0.1 (List.getElem_mem hk2)))
theorem zxe {L0:List Int} (hp:∀ x ∈ L0, 0 < x) {k:Nat} (hk:k ≤ (zan L0).length):(nxS (zg5 (zan L0) k) L0 = 0 ∧ k = (zan L0).length) ∨ (nxS (zg5 (zan L0) k) L0 ≠ 0 ∧ (zan L0)[k]? = some (nxS (zg5 (zan L0) k) L0)):=by
 rcases zxc (zxm hp hk) L0 with ⟨h1, h2⟩ | ⟨h1, h2, h3⟩
 ·refine .inl ⟨h1, ?_⟩
  by_cases hlt:k < (zan L0).length
  ·obtain ⟨x, hx⟩:=zae hlt
   exact absurd (zvj hp hx) (h2 x (za0.1 (List.mem_of_getElem? hx)))
  ·omega
 ·generalize hn:nxS (zg5 (zan L0) k) L0 = n at *
  refine .inr ⟨fun e => by have:=hp _ h1; omega, ?_⟩
  obtain ⟨j, hj⟩:=List.getElem?_of_mem (za0.2 h1)
  have hjk:k ≤ j:=by
   rcases Nat.lt_or_ge j k with hlt | hge
   ·have:n ≤ zg5 (zan L0) k:=by
     unfold zg5
     have hk2:k - 1 < (zan L0).length:=by omega
     rw [if_neg (by omega), List.getElem?_eq_getElem hk2]
     by_cases e:j = k - 1
     ·subst e; rw [zea hj]; exact Int.le_refl _
     ·exact Int.le_of_lt (zpp hj (List.getElem?_eq_getElem hk2) (by omega))
    omega
   ·exact hge
  obtain ⟨x, hx⟩:=zae (show k < (zan L0).length by have:=get_lt hj; omega)
  have h4:=h3 x (za0.1 (List.mem_of_getElem? hx)) (zvj hp hx)
  by_cases e:j = k
  ·subst e; exact hj
  ·have:=zpp hx hj (by omega); omega
theorem zel {φ:Value → Heap → Prop} {a tv:Value} {H:Heap} (h:φ tv H):TupS [φ, fun v _ => v = a] (.tuple #[tv, a]) H:=by
 refine ⟨[tv, a], rfl, rfl, fun i φ' x hi hx => ?_⟩
 rcases i with _ | _ | i
 ·cases hi; cases hx; exact h
 ·cases hi; cases hx; rfl
 ·cases hi
theorem zfs {φ:Value → Heap → Prop} {a:Value} (h:Kn.mono (.sat φ)):Kn.mono (.sat (TupS [φ, fun v _ => v = a])):=TupS.mono fun ψ hψ => by
 simp only [List.mem_cons, List.mem_nil_iff, or_false] at hψ
 rcases hψ with rfl | rfl
 ·exact h
 ·exact fun _ _ _ h _ => h
attribute [local irreducible] V N X VO Par StepOK Has Ret RetL RetO RetT zb8 zdn Src
theorem zdv {l:List Int} {r:Int} {fu:Bool} {c:Nat} (hc:l.count r = c) (hz:l.length ≤ 100000) {v:Value} {w:World} {B:Heap} (hB:B.Le (hp w)) (hv:RsV l fu v B) :
  Ret Tryz.prog 35 [v, .int .u64 r] w B (fun v _ => v = .int .i64 (c:Nat)):=by
 subst hc
 refine yc Tryz.func35 rfl Tryz.ntmps35 (Nat.le_of_ble_eq_true rfl) hB ?_
 refine zax 0 (RsV l fu) rfl SlV.mono hv ?_
 refine Z182 ?_; refine Z148 ?_; refine Z378 ?_
 refine zak (fun s:Nat × Nat => [(0, .sat (RsV l fu)), (1, .is (.int .u64 r)), (5, .is (.int .i64 s.2)), (6, .is (.int .i64 s.1))]) (fun s => s.1 ≤ l.length ∧ s.2 = (l.take s.1).count r) (fun s => l.length - s.1) (0, 0) ⟨Nat.zero_le _, rfl⟩ ⟨rfl, rfl, rfl, rfl, trivial⟩ ?_
 rintro ⟨i, c⟩ ⟨hi, hc⟩
 dsimp only at hi hc ⊢
 have hcl:(l.take i).count r ≤ l.length:=z3g
 by_cases hlt:i < l.length
 ·obtain ⟨x, hx⟩:=zae hlt
  have hq:=zih hx
  have hs:=zs3 (r:=r) hx
  have hwi:IntKind.i64.wrap ((i:Int) + 1) = ((i + 1:Nat):Int):=zaa (by omega) (by omega)
  have hwc:IntKind.i64.wrap ((c:Int) + 1) = ((c + 1:Nat):Int):=zaa (by omega) (by omega)
  by_cases hxr:x = r
  ·rw [if_pos hxr] at hs
   refine Z258 ?_; refine Z214 ?_; refine Z37 ?_; refine Z194 ?_; refine z7 (qu L _ rfl rfl rfl rfl rfl rfl rfl (by first | omega | decide) (by assumption)) rfl ?_; refine Z410 ?_; refine Z288 ?_; refine Z192 ?_; refine Z217 ?_; refine Z167 ?_; refine Z363 ?_
   exact yi (x:=(i, c)) (i + 1, c + 1) ⟨hlt, by dsimp only; omega⟩ (by dsimp only; omega) ⟨rfl, rfl, rfl, rfl, trivial⟩
  ·rw [if_neg hxr] at hs
   refine Z258 ?_; refine Z214 ?_; refine Z37 ?_; refine Z194 ?_; refine z7 (qu L _ rfl rfl rfl rfl rfl rfl rfl (by first | omega | decide) (by assumption)) rfl ?_; refine Z410 ?_; refine Z15 ?_; refine Z221 ?_; refine Z363 ?_
   exact yi (x:=(i, c)) (i + 1, c) ⟨hlt, by dsimp only; omega⟩ (by dsimp only; omega) ⟨rfl, rfl, rfl, rfl, trivial⟩
 ·obtain rfl:i = l.length:=by omega
  rw [List.take_length] at hc
  subst hc
  refine Z258 ?_; refine Z294 ?_; refine Z196 ?_; refine Z139 ?_
  refine yb L (rs:=[.tmp 4]) rfl (fun _ _ h => h) Since.refl fun u H hH hle => ?_
  rfl
set_option maxHeartbeats 2000000 in
set_option maxRecDepth 10000 in
theorem znw {l:List Int} {fu:Bool} (hpos:∀ x ∈ l, 0 < x) (hz:l.length ≤ 100000) {v:Value} {w:World} {B:Heap} (hB:B.Le (hp w)) (hv:RsV l fu v B) :
  Ret Tryz.prog 57 [v] w B (RsV (zan l) false):=by
 have hhl:(zan l).length ≤ 100000:=Nat.le_trans (zbu l) hz
 refine yc Tryz.func57 rfl Tryz.ntmps57 (Nat.le_of_ble_eq_true rfl) hB ?_
 refine zax 0 (RsV l fu) rfl SlV.mono hv ?_
 refine Z182 ?_; refine Z144 ?_; refine Z378 ?_
 refine zeb 3 zin 1 rfl ?_
 refine zak (fun k:Nat => [(0, .sat (RsV l fu)), (3, .own (SlR zin 1 ((zan l).take k).length (((zan l).take k).map (Value.int .u64)))), (4, .is (.int .u64 (zg5 (zan l) k)))]) (fun k => k ≤ (zan l).length) (fun k => (zan l).length - k) 0 (Nat.zero_le _) ⟨rfl, rfl, rfl, trivial⟩ ?_
 rintro k hk
 have hspec:=zxe hpos hk
 obtain ⟨last, hlast⟩:∃ x, x = zg5 (zan l) k:=⟨_, rfl⟩
 have hln:((zan l).take k).length = k:=by rw [List.length_take]; omega
 rw [← hlast] at hspec ⊢
 refine Z152 ?_; refine Z28 ?_; refine Z148 ?_; refine Z30 ?_; refine Z203 ?_
 refine zak (fun i:Nat => [(0, .sat (RsV l fu)), (3, .own (SlR zin 1 ((zan l).take k).length (((zan l).take k).map (Value.int .u64)))), (4, .is (.int .u64 last)), (5, .is (.int .u64 (nxS last (l.take i)))), (6, .is (.int .i64 i))]) (fun i => i ≤ l.length) (fun i => l.length - i) 0 (Nat.zero_le _) ⟨rfl, rfl, rfl, rfl, rfl, trivial⟩ ?_
 rintro i hi
 by_cases hlt:i < l.length
 ·obtain ⟨x, hx⟩:=zae hlt
  have hq:=zih hx
  have hs:=zxd (last:=last) hx
  have hwi:IntKind.i64.wrap ((i:Int) + 1) = ((i + 1:Nat):Int):=zaa (by omega) (by omega)
  generalize nxS last (l.take i) = nx at hs ⊢
  unfold nxF at hs
  by_cases h1:last < x
  ·by_cases h2:nx = 0
   ·rw [if_pos ⟨h1, .inl h2⟩] at hs
    refine Z140 ?_; refine Z179 ?_; refine Z214 ?_; refine Z44 ?_; refine Z194 ?_; refine z7 (qu L _ rfl rfl rfl rfl rfl rfl rfl (by first | omega | decide) (by assumption)) rfl ?_; refine Z410 ?_; refine Z40 ?_; refine Z141 ?_; refine Z26 ?_; refine Z291 ?_; refine Z223 ?_; refine Z257 ?_; refine Z57 ?_; refine Z194 ?_; refine z7 (qu L _ rfl rfl rfl rfl rfl rfl rfl (by first | omega | decide) (by assumption)) rfl ?_; refine Z56 ?_; refine Z379 ?_; refine Z192 ?_; refine Z217 ?_
    exact yi (x:=i) (i + 1) hlt (by omega) ⟨rfl, rfl, rfl, by rw [hs]; rfl, rfl, trivial⟩
   ·by_cases h3:x < nx
    ·rw [if_pos ⟨h1, .inr h3⟩] at hs
     refine Z140 ?_; refine Z179 ?_; refine Z214 ?_; refine Z44 ?_; refine Z194 ?_; refine z7 (qu L _ rfl rfl rfl rfl rfl rfl rfl (by first | omega | decide) (by assumption)) rfl ?_; refine Z410 ?_; refine Z40 ?_; refine Z141 ?_; refine Z15 ?_; refine Z1 ?_; refine Z194 ?_; refine z7 (qu L _ rfl rfl rfl rfl rfl rfl rfl (by first | omega | decide) (by assumption)) rfl ?_; refine Z410 ?_; refine Z7 ?_; refine Z8 ?_; refine Z257 ?_; refine Z57 ?_; refine Z194 ?_; refine z7 (qu L _ rfl rfl rfl rfl rfl rfl rfl (by first | omega | decide) (by assumption)) rfl ?_; refine Z56 ?_; refine Z379 ?_; refine Z192 ?_; refine Z217 ?_
     exact yi (x:=i) (i + 1) hlt (by omega) ⟨rfl, rfl, rfl, by rw [hs]; rfl, rfl, trivial⟩
    ·rw [if_neg (fun h => h.2.elim h2 h3)] at hs
     refine Z140 ?_; refine Z179 ?_; refine Z214 ?_; refine Z44 ?_; refine Z194 ?_; refine z7 (qu L _ rfl rfl rfl rfl rfl rfl rfl (by first | omega | decide) (by assumption)) rfl ?_; refine Z410 ?_; refine Z40 ?_; refine Z141 ?_; refine Z15 ?_; refine Z1 ?_; refine Z194 ?_; refine z7 (qu L _ rfl rfl rfl rfl rfl rfl rfl (by first | omega | decide) (by assumption)) rfl ?_; refine Z410 ?_; refine Z10 ?_; refine Z394 ?_; refine Z221 ?_; refine Z192 ?_; refine Z217 ?_
     exact yi (x:=i) (i + 1) hlt (by omega) ⟨rfl, rfl, rfl, by rw [hs]; rfl, rfl, trivial⟩
  ·rw [if_neg (fun h => h1 h.1)] at hs
   refine Z140 ?_; refine Z179 ?_; refine Z214 ?_; refine Z44 ?_; refine Z194 ?_; refine z7 (qu L _ rfl rfl rfl rfl rfl rfl rfl (by first | omega | decide) (by assumption)) rfl ?_; refine Z410 ?_; refine Z32 ?_; refine Z343 ?_; refine Z158 ?_; refine Z223 ?_; refine Z221 ?_; refine Z192 ?_; refine Z217 ?_
   exact yi (x:=i) (i + 1) hlt (by omega) ⟨rfl, rfl, rfl, by rw [hs]; rfl, rfl, trivial⟩
 ·obtain rfl:i = l.length:=by omega
  rw [List.take_length]
  generalize nxS last l = nx at hspec ⊢
  rcases hspec with ⟨h1, h2⟩ | ⟨h1, h2⟩
  ·subst h2
   rw [List.take_length]
   refine zck 3 rfl ?_
   refine Z140 ?_; refine Z179 ?_; refine Z151 ?_; refine Z211 ?_; refine Z140 ?_; refine Z280 ?_; refine Z305 ?_; refine Z68 ?_; refine Z4 ?_; refine Z266 ?_
   refine yb L (rs:=[.tmp 2]) rfl (fun _ _ h => h) Since.refl fun u H hH hle => ?_
   exact fun v hv => hv
  ·have hlt2:=get_lt h2
   refine Z140 ?_; refine Z179 ?_; refine Z151 ?_; refine Z211 ?_; refine Z140 ?_; refine Z280 ?_; refine Z245 ?_; refine Z65 ?_; refine qn (yo (.inl rfl) rfl rfl rfl rfl) ?_; refine Z1 ?_; refine Z35 ?_; refine Z109 ?_; refine qn (yo (.inr rfl) rfl rfl rfl rfl) ?_; refine Z138 ?_; refine Z86 ?_; refine Z1 ?_; refine Z243 ?_
   exact yi (x:=k) (k + 1) hlt2 (by omega) ⟨rfl, by rw [zbj h2]; exact zmd, by rw [zsp h2]; rfl, trivial⟩
theorem zqi {l:List Int} {x:Int} {fu:Bool} {v:Value} {H:Heap} (h:SlV zin 1 (l.map (Value.int .u64) ++ [Value.int .u64 x]) (l.length + 1) fu v H):RsV (l ++ [x]) fu v H:=by
 unfold RsV; rw [List.map_append, List.length_append]; exact h
abbrev RP2 (l:List Int) (e:Int):Value → Heap → Prop:=TupS [RsV l false, fun v _ => v = .int .i64 e]
theorem zqk {l:List Int} {e:Int}:Kn.mono (.sat (RP2 l e)):=zfs SlV.mono
set_option maxHeartbeats 1000000 in
theorem zw1 {l:List Int} {r:Int} {fu:Bool} (hr:r ≠ 0) (hpos:∀ x ∈ l, 0 < x) (hz:l.length ≤ 1000) {v:Value} {w:World} {B:Heap} (hB:B.Le (hp w)) (hv:RsV l fu v B) :
  Ret Tryz.prog 85 [v, .int .u64 r] w B (RP2 (l ++ [r]) 0):=by
 obtain ⟨c, hc⟩:∃ c, l.count r = c:=⟨_, rfl⟩
 have hcz:c ≤ 1000:=by rw [← hc]; exact Nat.le_trans List.count_le_length hz
 have hhl:(zan l).length ≤ 1000:=Nat.le_trans (zbu l) hz
 have hlen:(l.map (Value.int .u64)).length = l.length * 1:=by simp
 have hpl:=zme l
 refine yc Tryz.func85 rfl Tryz.ntmps85 (Nat.le_of_ble_eq_true rfl) hB ?_
 refine zax 0 (RsV l fu) rfl SlV.mono hv ?_
 by_cases h0:c = 0
 ·refine Z251 ?_; refine Z188 ?_; refine Z245 ?_; refine Z28 ?_; refine Z194 ?_; refine z7 (zo L rfl rfl (zk rfl) rfl rfl rfl (fun u H hH hle _ v1 h1 => zdv hc (by omega) hH h1)) rfl ?_; refine Z148 ?_; refine Z161 ?_; refine Z47 ?_; refine Z141 ?_; refine Z26 ?_; refine Z1 ?_; refine Z4 ?_; refine z7 (yq (φ:=RsV (zan l) false) L rfl rfl (zk rfl) rfl rfl rfl SlV.mono (fun u H hH hle _ v1 h1 => znw hpos (by omega) hH h1)) rfl ?_; refine Z11 ?_; refine Z47 ?_; refine Z394 ?_; refine Z162 ?_; refine Z43 ?_; refine Z4 ?_; refine z7 (zc0 L rfl rfl rfl (zh4 rfl) rfl zx3 hlen hpl (by omega) (by omega)) rfl ?_; refine Z1 ?_; refine Z35 ?_; refine Z109 ?_; refine qn (yo (.inr rfl) rfl rfl rfl rfl) ?_; refine Z139 ?_
  refine zck 4 rfl ?_
  refine yb L (rs:=[.tmp 4, .tmp 5]) rfl (fun _ _ h => h) Since.refl fun u H hH hle => ?_
  exact fun v hv => zel (zqi hv)
 ·refine Z251 ?_; refine Z188 ?_; refine Z245 ?_; refine Z28 ?_; refine Z194 ?_; refine z7 (zo L rfl rfl (zk rfl) rfl rfl rfl (fun u H hH hle _ v1 h1 => zdv hc (by omega) hH h1)) rfl ?_; refine Z148 ?_; refine Z161 ?_; refine Z47 ?_; refine Z141 ?_; refine Z15 ?_; refine Z319 ?_; refine Z8 ?_; refine Z162 ?_; refine Z43 ?_; refine Z4 ?_; refine z7 (zc0 L rfl rfl rfl (zh4 rfl) rfl zx3 hlen hpl (by omega) (by omega)) rfl ?_; refine Z1 ?_; refine Z35 ?_; refine Z109 ?_; refine qn (yo (.inr rfl) rfl rfl rfl rfl) ?_; refine Z139 ?_
  refine zck 4 rfl ?_
  refine yb L (rs:=[.tmp 4, .tmp 5]) rfl (fun _ _ h => h) Since.refl fun u H hH hle => ?_
  exact fun v hv => zel (zqi hv)
theorem zxy {l:List Int} {i:Nat} {r:Int} (h:∀ x ∈ l.take i, x ≠ r) (hx:l[i]? = some r):l.erase r = l.take i ++ l.drop (i + 1):=by
 have hi:=get_lt hx
 have e:l = l.take i ++ r :: l.drop (i + 1):=by
  rw [show r :: l.drop (i + 1) = l.drop i by rw [List.drop_eq_getElem_cons hi, zea hx], List.take_append_drop]
 conv => lhs; rw [e]
 rw [List.erase_append_right _ (fun hm => h _ hm rfl), List.erase_cons_head]
set_option maxHeartbeats 1000000 in
theorem zr4 {l l1:List Int} {r:Int} {e:Nat} {fu:Bool} (hr:zfl l r = (l1, e)) (hz:l.length ≤ 1000) {v:Value} {w:World} {B:Heap} (hB:B.Le (hp w)) (hv:RsV l fu v B) :
  Ret Tryz.prog 86 [v, .int .u64 r] w B (RP2 l1 e):=by
 unfold zfl at hr
 refine yc Tryz.func86 rfl Tryz.ntmps86 (Nat.le_of_ble_eq_true rfl) hB ?_
 refine zax 0 (RsV l fu) rfl SlV.mono hv ?_
 refine Z251 ?_; refine Z155 ?_; refine Z203 ?_
 refine zak (fun i:Nat => [(0, .sat (RsV l fu)), (1, .is (.int .u64 r)), (4, .is (.slice none 0 0)), (5, .is (.int .i64 0)), (6, .is (.int .i64 i))]) (fun i => i ≤ l.length ∧ ∀ x ∈ l.take i, x ≠ r) (fun i => l.length - i) 0 ⟨Nat.zero_le _, fun x hx => by cases hx⟩ ⟨rfl, rfl, rfl, rfl, rfl, trivial⟩ ?_
 rintro i ⟨hi, hn⟩
 by_cases hlt:i < l.length
 ·obtain ⟨x, hx⟩:=zae hlt
  have hq:=zih hx
  have hwi:IntKind.i64.wrap ((i:Int) + 1) = ((i + 1:Nat):Int):=zaa (by omega) (by omega)
  by_cases hxr:x = r
  ·subst hxr
   have hc:¬ l.count x = 0:=by have:=List.count_pos_iff.2 (List.mem_of_getElem? hx); omega
   rw [if_neg hc] at hr
   cases hr
   have he:=zxy hn hx
   have q1:((l.map (Value.int .u64)).drop (0 * 1)).take ((i - 0) * 1) = (l.take i).map (Value.int .u64):=by simp
   have q2:((l.map (Value.int .u64)).drop ((i + 1) * 1)).take ((l.length - (i + 1)) * 1) = (l.drop (i + 1)).map (Value.int .u64):=by
    rw [Nat.mul_one, Nat.mul_one, ← List.map_drop, List.take_of_length_le (by simp)]
   have hl1:((l.take i).map (Value.int .u64)).length = (i - 0) * 1:=by rw [List.length_map, List.length_take]; omega
   have hl2:((l.drop (i + 1)).map (Value.int .u64)).length = (l.length - (i + 1)) * 1:=by rw [List.length_map, List.length_drop]; omega
   have hp1:=zme (l.take i)
   have hp2:=zme (l.drop (i + 1))
   have hlen:i - 0 + (l.length - (i + 1)) = (l.erase x).length:=by rw [he, List.length_append, List.length_take, List.length_drop]; omega
   refine Z293 ?_; refine Z214 ?_; refine Z30 ?_; refine Z194 ?_; refine z7 (qu L _ rfl rfl rfl rfl rfl rfl rfl (by first | omega | decide) (by assumption)) rfl ?_; refine Z410 ?_; refine Z305 ?_; refine qf (id:=5) [(27, [22]), (4, [27])] mixed (by kernel_rfl) ?_; refine Z198 ?_; refine z8 (zba L (kl:=.i64) (pl:=0) (km:=.i64) (pm:=0) 0 i false rfl rfl rfl rfl rfl rfl ⟨rfl, rfl⟩ (fun h => by cases h) (by omega) (by omega) q1) rfl ?_; refine z8 (zc0 L rfl rfl rfl (zh4 rfl) rfl zx3 hl1 hp1 (by omega) (by omega)) rfl ?_; refine Z198 ?_; refine Z33 ?_; refine z8 (zba L (kh:=.i64) (ph:=0) (km:=.i64) (pm:=0) (i + 1) l.length false rfl rfl rfl rfl rfl ⟨rfl, rfl⟩ ⟨rfl, rfl⟩ (fun h => by cases h) (by omega) (by omega) q2) rfl ?_; refine za4 (zce L rfl rfl rfl (zh4 rfl) rfl zx3 hl2 hp2 (by omega) (by omega)) rfl rfl ?_; refine za4 (yo (.inr rfl) rfl rfl rfl rfl) rfl rfl ?_; refine Z185 ?_
   rw [← List.map_append, ← he, hlen]
   refine zck 4 rfl ?_
   refine yb L (rs:=[.tmp 4, .tmp 5]) rfl (fun _ _ h => h) Since.refl fun u H hH hle => ?_
   exact fun v hv => zel hv
  ·refine Z293 ?_; refine Z214 ?_; refine Z30 ?_; refine Z194 ?_; refine z7 (qu L _ rfl rfl rfl rfl rfl rfl rfl (by first | omega | decide) (by assumption)) rfl ?_; refine Z410 ?_; refine Z15 ?_; refine Z221 ?_; refine Z173 ?_; refine Z217 ?_
   exact yi (x:=i) (i + 1) ⟨hlt, fun y hy => by
    rw [zbj hx] at hy
    rcases List.mem_append.1 hy with hy | hy
    ·exact hn y hy
    ·rw [List.mem_singleton.1 hy]; exact hxr⟩ (by omega) ⟨rfl, rfl, rfl, rfl, rfl, trivial⟩
 ·obtain rfl:i = l.length:=by omega
  rw [List.take_length] at hn
  rw [if_pos (List.count_eq_zero.2 fun hm => hn r hm rfl)] at hr
  cases hr
  refine Z293 ?_; refine Z294 ?_; refine Z43 ?_; refine Z186 ?_
  refine yb L (rs:=[.tmp 4, .tmp 5]) rfl (fun _ _ h => h) Since.refl fun u H hH hle => ?_
  exact zel SlV.nil
theorem zvt {l R:List Int} {keep i:Nat} {x:Int} (h:R[i]? = some x):(List.filter (fun r => decide (l.count r = 0)) ((R.take (i + 1)).take (R.length - keep))) = (List.filter (fun r => decide (l.count r = 0)) ((R.take i).take (R.length - keep))) ++ if l.count x = 0 ∧ keep < R.length - i then [x] else []:=by
 rw [List.take_take, List.take_take]
 by_cases hk:keep < R.length - i
 ·rw [Nat.min_eq_right (show i + 1 ≤ R.length - keep by omega), Nat.min_eq_right (show i ≤ R.length - keep by omega), zbj h, List.filter_append]
  congr 1
  by_cases h0:l.count x = 0
  ·rw [if_pos ⟨h0, hk⟩]; simp [h0]
  ·rw [if_neg (fun h => h0 h.1)]; simp [h0]
 ·rw [Nat.min_eq_left (show R.length - keep ≤ i + 1 by omega), Nat.min_eq_left (show R.length - keep ≤ i by omega), if_neg (fun h => hk h.2), List.append_nil]
set_option maxHeartbeats 1000000 in
set_option maxRecDepth 10000 in
theorem zt2 {l R:List Int} {keep:Nat} {fu fr:Bool} (hz:l.length ≤ 100000) (hR:R.length ≤ 100000) (hkp:keep ≤ 100000) {v1 v2:Value} {w:World} {B:Heap} (hB:B.Le (hp w)) (hv:RsV l fu v1 B) (hr:RsV R fr v2 B) :
  Ret Tryz.prog 87 [v1, v2, .int .i64 keep] w B (RsV (zdb l R keep) false):=by
 have hgo:zdb l R keep = (R.take (R.length - keep)).filter fun r => decide (l.count r = 0):=rfl
 rw [hgo]
 clear hgo
 refine yc Tryz.func87 rfl Tryz.ntmps87 (Nat.le_of_ble_eq_true rfl) hB ?_
 refine zax 0 (RsV l fu) rfl SlV.mono hv ?_
 refine zax 1 (RsV R fr) rfl SlV.mono hr ?_
 refine Z182 ?_; refine Z148 ?_
 refine zeb 7 zin 1 rfl ?_
 refine Z378 ?_
 refine zak (fun y:Nat × List Int => [(0, .sat (RsV l fu)), (1, .sat (RsV R fr)), (2, .is (.int .i64 keep)), (7, .own (SlR zin 1 y.2.length (y.2.map (Value.int .u64)))), (8, .is (.int .i64 y.1))])
  (fun y => y.1 ≤ R.length ∧ y.2 = List.filter (fun r => decide (l.count r = 0)) ((R.take y.1).take (R.length - keep))) (fun y => R.length - y.1) (0, []) ⟨Nat.zero_le _, by simp⟩ ⟨rfl, rfl, rfl, rfl, rfl, trivial⟩ ?_
 rintro ⟨i, out⟩ ⟨hi, hout⟩
 dsimp only at hi hout ⊢
 have hol:out.length ≤ i:=by rw [hout]; exact Nat.le_trans (List.length_filter_le ..) (by rw [List.length_take, List.length_take]; omega)
 by_cases hlt:i < R.length
 ·obtain ⟨x, hx⟩:=zae hlt
  have hq:=zih hx
  have hs:=zvt (l:=l) (keep:=keep) hx
  obtain ⟨c, hc⟩:∃ c, l.count x = c:=⟨_, rfl⟩
  have hcz:c ≤ 100000:=by rw [← hc]; exact Nat.le_trans List.count_le_length hz
  have hwi:IntKind.i64.wrap ((i:Int) + 1) = ((i + 1:Nat):Int):=zaa (by omega) (by omega)
  have hws:IntKind.i64.wrap ((R.length:Int) - (i:Int)) = ((R.length - i:Nat):Int):=zaa (by omega) (by omega) |>.trans (by omega)
  rw [hc] at hs
  by_cases h0:c = 0
  ·by_cases hk:keep < R.length - i
   ·rw [if_pos ⟨h0, hk⟩, ← hout] at hs
    refine Z258 ?_; refine Z214 ?_; refine Z37 ?_; refine Z399 ?_; refine z7 (qu L _ rfl rfl rfl rfl rfl rfl rfl (by first | omega | decide) (by assumption)) rfl ?_; refine Z56 ?_; refine z7 (zo L rfl rfl (zk rfl) rfl rfl rfl (fun u H hH hle _ v1 h1 => zdv hc hz hH h1)) rfl ?_; refine Z26 ?_; refine Z1 ?_; refine Z151 ?_; refine Z231 ?_; refine Z1 ?_; refine Z40 ?_; refine Z257 ?_; refine Z43 ?_; refine qn (yo (.inl rfl) rfl rfl rfl rfl) ?_; refine Z194 ?_; refine z7 (qu L _ rfl rfl rfl rfl rfl rfl rfl (by first | omega | decide) (by assumption)) rfl ?_; refine Z56 ?_; refine Z35 ?_; refine Z109 ?_; refine qn (yo (.inr rfl) rfl rfl rfl rfl) ?_; refine Z237 ?_; refine Z363 ?_
    exact yi (x:=(i, out)) (i + 1, out ++ [x]) ⟨hlt, hs.symm⟩ (by dsimp only; omega) ⟨rfl, rfl, rfl, zmd, rfl, trivial⟩
   ·rw [if_neg (fun h => hk h.2), List.append_nil, ← hout] at hs
    refine Z258 ?_; refine Z214 ?_; refine Z37 ?_; refine Z399 ?_; refine z7 (qu L _ rfl rfl rfl rfl rfl rfl rfl (by first | omega | decide) (by assumption)) rfl ?_; refine Z56 ?_; refine z7 (zo L rfl rfl (zk rfl) rfl rfl rfl (fun u H hH hle _ v1 h1 => zdv hc hz hH h1)) rfl ?_; refine Z26 ?_; refine Z1 ?_; refine Z151 ?_; refine Z231 ?_; refine Z1 ?_; refine Z302 ?_; refine Z221 ?_; refine Z363 ?_
    exact yi (x:=(i, out)) (i + 1, out) ⟨hlt, hs.symm⟩ (by dsimp only; omega) ⟨rfl, rfl, rfl, rfl, rfl, trivial⟩
  ·rw [if_neg (fun h => h0 h.1), List.append_nil, ← hout] at hs
   refine Z258 ?_; refine Z214 ?_; refine Z37 ?_; refine Z399 ?_; refine z7 (qu L _ rfl rfl rfl rfl rfl rfl rfl (by first | omega | decide) (by assumption)) rfl ?_; refine Z56 ?_; refine z7 (zo L rfl rfl (zk rfl) rfl rfl rfl (fun u H hH hle _ v1 h1 => zdv hc hz hH h1)) rfl ?_; refine Z15 ?_; refine Z291 ?_; refine Z223 ?_; refine Z221 ?_; refine Z363 ?_
   exact yi (x:=(i, out)) (i + 1, out) ⟨hlt, hs.symm⟩ (by dsimp only; omega) ⟨rfl, rfl, rfl, rfl, rfl, trivial⟩
 ·obtain rfl:i = R.length:=by omega
  rw [List.take_length] at hout
  rw [← hout]
  refine zck 7 rfl ?_
  refine Z258 ?_; refine Z294 ?_; refine Z44 ?_; refine Z4 ?_; refine Z266 ?_
  refine yb L (rs:=[.tmp 6]) rfl (fun _ _ h => h) Since.refl fun u H hH hle => ?_
  exact fun v hv => hv
def b01 (b:Bool):Int:=if b then 1 else 0
set_option maxHeartbeats 1000000 in
theorem zer {a b:List Int} {f:Bool} {fa fb:Bool} (hf:decide (a = b) = f) (ha:a.length ≤ 100000) (hb:b.length ≤ 100000) {v1 v2:Value} {w:World} {B:Heap} (hB:B.Le (hp w)) (h1:RsV a fa v1 B) (h2:RsV b fb v2 B) :
  Ret Tryz.prog 22 [v1, v2] w B (fun v _ => v = .int .i64 (b01 f)):=by
 subst hf
 refine yc Tryz.func22 rfl Tryz.ntmps22 (Nat.le_of_ble_eq_true rfl) hB ?_
 refine zax 0 (RsV a fa) rfl SlV.mono h1 ?_
 refine zax 1 (RsV b fb) rfl SlV.mono h2 ?_
 by_cases hl:a.length = b.length
 ·refine Z313 ?_; refine Z151 ?_; refine Z240 ?_; refine Z28 ?_; refine Z203 ?_
  refine zak (fun i:Nat => [(0, .sat (RsV a fa)), (1, .sat (RsV b fb)), (5, .is (.int .i64 i))]) (fun i => i ≤ a.length ∧ a.take i = b.take i) (fun i => a.length - i) 0 ⟨Nat.zero_le _, rfl⟩ ⟨rfl, rfl, rfl, trivial⟩ ?_
  rintro i ⟨hi, ht⟩
  by_cases hlt:i < a.length
  ·obtain ⟨x, hx⟩:=zae hlt
   obtain ⟨y, hy⟩:=zae (show i < b.length by omega)
   have hc1:=zih hx
   have hc2:=zih hy
   have hwk:IntKind.i64.wrap ((i:Int) + 1) = ((i + 1:Nat):Int):=zaa (by omega) (by omega)
   by_cases hxy:x = y
   ·refine Z346 ?_; refine Z198 ?_; refine z8 (qu L _ rfl rfl rfl rfl rfl rfl rfl (by first | omega | decide) (by assumption)) rfl ?_; refine Z110 ?_; refine Z198 ?_; refine z8 (qu L _ rfl rfl rfl rfl rfl rfl rfl (by first | omega | decide) (by assumption)) rfl ?_; refine Z110 ?_; refine Z99 ?_; refine Z178 ?_; refine Z318 ?_; refine Z179 ?_; refine Z217 ?_
    exact yi (x:=i) (i + 1) ⟨hlt, by rw [zbj hx, zbj hy, ht, hxy]⟩ (by omega) ⟨rfl, rfl, rfl, trivial⟩
   ·rw [decide_eq_false (z1f hx hy hxy)]
    refine Z346 ?_; refine Z198 ?_; refine z8 (qu L _ rfl rfl rfl rfl rfl rfl rfl (by first | omega | decide) (by assumption)) rfl ?_; refine Z110 ?_; refine Z198 ?_; refine z8 (qu L _ rfl rfl rfl rfl rfl rfl rfl (by first | omega | decide) (by assumption)) rfl ?_; refine Z110 ?_; refine Z129 ?_; refine Z210 ?_; refine zh ?_; refine Z375 ?_
    refine yb L (rs:=[.tmp 4]) rfl (fun _ _ h => h) Since.refl fun u H hH hle => ?_
    rfl
  ·obtain rfl:i = a.length:=by omega
   have hab:a = b:=by rw [List.take_length, hl, List.take_length] at ht; exact ht
   rw [decide_eq_true hab]
   refine Z216 ?_; refine Z294 ?_; refine Z376 ?_
   refine yb L (rs:=[.tmp 4]) rfl (fun _ _ h => h) Since.refl fun u H hH hle => ?_
   rfl
 ·rw [decide_eq_false (zvh hl)]
  refine Z313 ?_; refine Z151 ?_; refine Z45 ?_; refine Z263 ?_
  refine yb L (rs:=[.tmp 4]) rfl (fun _ _ h => h) Since.refl fun u H hH hle => ?_
  rfl
end Go.V.L10
set_option maxRecDepth 20000
namespace Go.V.L10
open Go.Proofs Go.RowKit Go.V Go.V.L2 Go.V.L8 Go.V.L6
def z1q (es:Ent) (l:List Int):Ent:=l.foldl (fun e g => zsk g e) es
theorem zvy {es:Ent} {l:List Int} {i:Nat} {g:Int} (h:l[i]? = some g):z1q es (l.take (i + 1)) = zsk g (z1q es (l.take i)):=by unfold z1q; rw [zbj h, List.foldl_append]; rfl
theorem MapOK.dels:∀ {l:List Int} {es:Ent} {R:List (Option (List U))}, MapOK es R → (∀ g ∈ l, 0 < g) → MapOK (z1q es l) (clrL R l)
 | [], _, _, h, _ => h
 | g :: l, _, _, h, hg => MapOK.dels (l:=l) (h.del (hg g (List.mem_cons_self ..))) fun x hx => hg x (List.mem_cons_of_mem _ hx)
theorem EsV.dels:∀ {l:List Int} {es:Ent} {H:Heap}, EsV es H → EsV (z1q es l) H
 | [], _, _, h => h
 | g :: l, _, _, h => EsV.dels (l:=l) fun e he => h e ((zmr g _).subset he)
theorem zxv {P0:List Int} {R:List (Option (List U))} {k:Nat}:∀ g ∈ zdb P0 (za8 R) k, 0 < g:=fun g hg => by
 unfold zdb at hg
 have h1:=List.mem_of_mem_take (List.mem_filter.1 hg).1
 exact (zfd (zd6.1 h1)).1
theorem SetV.sst {l:List U} {v:Value} {H:Heap} (h:SetV l v H):Sst zbd l:=by
 obtain ⟨_, _, _, _, ht, _⟩:=h
 exact ht.st
theorem zei {b n m t:Nat} {s:Value} {es:Ent}:∀ v H u C, (StO b n m s t es).res.P v H u C → joinH H u C b = some (.cells (stc n m s t).toArray tyS):=by rw [zfm]; exact zvf
theorem zyd {b n m t:Nat} {s:Value} {es:Ent}:∀ v H u C, (StO b n m s t es).res.P v H u C → u.heap[b]? = some (.cells (stc n m s t).toArray tyS):=by rw [zfm]; exact zwa
def zrd (S:Sto) (a b:Int):List CH × Int:=if (atS S a).2 = 0 then (if (atS S b).2 = 0 then (z34 (atS S a).1 (atS S b).1, 0) else ([], (atS S b).2)) else ([], (atS S a).2)
theorem zp1 {S:Sto} (hI:z3v S) (r:Int):(atS S r).1.length ≤ 4096:=by
 unfold atS
 split
 ·rename_i t h; exact hI.tl _ _ h
 ·exact Nat.zero_le _
attribute [local irreducible] V N X VO Par StepOK Has Ret RetL RetO RetT zb8 zdn RetY Src
abbrev zwh (g:List Int) (e:Int):Value → Heap → Prop:=TupS [RsV g true, fun v _ => v = .int .i64 e]
set_option maxHeartbeats 4000000 in
set_option maxRecDepth 20000 in
theorem zed {S:Sto} {b:Nat} {keep:Int} (hn:S.R.length ≠ 0) (hz:S.P.length ≤ 100000) (hR:S.R.length ≤ 100000) {w:World} {B:Heap} {C:Nat → Prop} (hB:B.Le (hp w)) (hr:(StG b S).P B w C) (hC:∀ k, C k → k < w.heap.size ∧ B k = none) :
  RetY Tryz.prog 21 [.pointer (some ⟨b, 0, none⟩), .int .i64 keep] w B C (StG b (zdd S keep).1) (zwh (zdd S keep).2.1 (zdd S keep).2.2):=by
 unfold RetY
 refine zar 900 (StG b S) Tryz.func21 rfl Tryz.ntmps21 (Nat.le_of_ble_eq_true rfl) hB hr hC ?_
 rw [zl4]
 refine zey 900 rfl fun x H hs0 hφ => ?_
 obtain ⟨m, s, es⟩:=x
 obtain ⟨hm, hes, hps⟩:=hφ
 dsimp only at hm hes hps ⊢
 obtain ⟨ps, pc, rfl⟩:=zap hps
 have hlen:=hm.len
 have hkl:=zdj S.R
 by_cases hk1:keep < 1
 ·have hS:zdd S keep = (S, [], 4):=by unfold zdd; rw [if_neg (by omega)]
  rw [hS]
  refine Z146 ?_; refine Z195 ?_; refine Z332 ?_; refine yr (zay L 900 (Φ:=fun H => H b = some (.cells (stc S.R.length m (.slice ps (zaj S.P).length pc) S.P.length).toArray tyS)) (c:=.bool false) rfl rfl (zk rfl) rfl rfl rfl rfl rfl zei (fun u H hH hle hb => zcw hn hb hH)) ?_; refine Z213 ?_; refine Z173 ?_; refine Z7 ?_; refine Z187 ?_; refine Z8 ?_; refine Z247 ?_; refine Z276 ?_; refine Z186 ?_
  refine zcj 900 (StG b S).res rfl (zfo hm hes hps) ?_
  exact zbx L 900 (r:=StG b S) (rs:=[.tmp 4, .tmp 5]) rfl (fun _ _ h => h) hs0 rfl rfl (fun H hle => zel SlV.nil)
 ·by_cases hk2:1024 < keep
  ·have hS:zdd S keep = (S, [], 4):=by unfold zdd; rw [if_neg (by omega)]
   rw [hS]
   refine Z146 ?_; refine Z195 ?_; refine Z332 ?_; refine yr (zay L 900 (Φ:=fun H => H b = some (.cells (stc S.R.length m (.slice ps (zaj S.P).length pc) S.P.length).toArray tyS)) (c:=.bool false) rfl rfl (zk rfl) rfl rfl rfl rfl rfl zei (fun u H hH hle hb => zcw hn hb hH)) ?_; refine Z213 ?_; refine Z173 ?_; refine Z10 ?_; refine Z141 ?_; refine Z40 ?_; refine Z8 ?_; refine Z247 ?_; refine Z276 ?_; refine Z186 ?_
   refine zcj 900 (StG b S).res rfl (zfo hm hes hps) ?_
   exact zbx L 900 (r:=StG b S) (rs:=[.tmp 4, .tmp 5]) rfl (fun _ _ h => h) hs0 rfl rfl (fun H hle => zel SlV.nil)
  ·obtain ⟨k, rfl⟩:∃ k:Nat, keep = (k:Int):=⟨keep.toNat, by omega⟩
   have hS:zdd S k = (⟨clrL S.R (zdb S.P (za8 S.R) k), S.P⟩, zdb S.P (za8 S.R) k, 0):=by unfold zdd; rw [if_pos (by omega)]; rfl
   rw [hS]
   have hgp:∀ x ∈ zdb S.P (za8 S.R) k, 0 < x:=zxv
   have hgl:(zdb S.P (za8 S.R) k).length ≤ 100000:=by
    unfold zdb
    refine Nat.le_trans (List.length_filter_le ..) ?_
    rw [List.length_take]; omega
   generalize hg:zdb S.P (za8 S.R) k = g at hgp hgl
   refine Z146 ?_; refine Z195 ?_; refine Z332 ?_; refine yr (zay L 900 (Φ:=fun H => H b = some (.cells (stc S.R.length m (.slice ps (zaj S.P).length pc) S.P.length).toArray tyS)) (c:=.bool false) rfl rfl (zk rfl) rfl rfl rfl rfl rfl zei (fun u H hH hle hb => zcw hn hb hH)) ?_; refine Z213 ?_; refine Z173 ?_; refine Z10 ?_; refine Z141 ?_; refine Z302 ?_; refine Z190 ?_; refine Z318 ?_; refine zh ?_
   refine qf (id:=5) [(200022, [900]), (200024, [900])] mixed (by kernel_rfl) ?_; refine Z184 ?_; refine qp (zux L (q:=900) (vs:=[_, _]) rfl rfl zyd rfl rfl rfl rfl ⟨_, rfl⟩) rfl rfl ?_; refine Z3 ?_; refine qp (zb2 L 900 (RsV (za8 S.R) true) (r:=StO b S.R.length m _ S.P.length es) rfl rfl rfl rfl rfl SlV.mono (fun u H2 C2 hH hle hr2 hC2 => (ziz hm hn (by omega) hH hr2 hC2).pubY ziw)) rfl rfl ?_; refine Z3 ?_; refine z8 (yq (φ:=RsV g true) L rfl rfl (zk rfl) rfl rfl rfl SlV.mono (fun u H2 hH hle _ v1 h1 => by rw [← hg]; exact zxu hz (by omega) (by omega) hH (hps.le hle) h1)) rfl ?_; refine Z381 ?_; refine Z140 ?_
   rw [zfm]
   refine zf4 900 901 rfl (zaw _) ?_
   refine Z367 ?_; refine Z283 ?_
   refine zak (fun y:Nat × Ent => [(0, .is (.pointer (some ⟨b, 0, none⟩))), (6, .sat (RsV g true)), (27, .sat (RsV g true)), (28, .is (.int .i64 g.length)), (29, .is (.int .i64 y.1)), (900, .own (zal b (stc S.R.length m (.slice ps (zaj S.P).length pc) S.P.length) tyS)), (901, .own (zk1 m .u64 vcE y.2))])
    (fun y => y.1 ≤ g.length ∧ y.2 = z1q es (g.take y.1)) (fun y => g.length - y.1) (0, es) ⟨Nat.zero_le _, rfl⟩ ⟨rfl, rfl, rfl, rfl, rfl, rfl, rfl, trivial⟩ ?_
   rintro ⟨i, ec⟩ ⟨hi, hec⟩
   dsimp only at hi hec ⊢
   by_cases hlt:i < g.length
   ·obtain ⟨x, hx⟩:=zae hlt
    have hc:=zih hx
    have hnx:=zvy (es:=es) hx
    have hwk:IntKind.i64.wrap ((i:Int) + 1) = ((i + 1:Nat):Int):=zaa (by omega) (by omega)
    refine zh ?_; refine Z44 ?_; refine Z219 ?_; refine Z57 ?_; refine z7 (qu L _ rfl rfl rfl rfl rfl rfl rfl (by first | omega | decide) (by assumption)) rfl ?_; refine Z56 ?_; refine Z139 ?_; refine Z280 ?_; refine Z262 ?_; refine Z1 ?_; refine zcl (zse (q:=901) (vc:=vcE) x mpS kyS rfl rfl rfl rfl rfl) ?_; refine Z237 ?_; refine Z68 ?_; refine Z404 ?_
    exact yi (x:=(i, ec)) (i + 1, zsk x ec) ⟨hlt, by rw [hnx, hec]⟩ (by dsimp only; omega) ⟨rfl, rfl, rfl, rfl, rfl, rfl, rfl, trivial⟩
   ·obtain rfl:i = g.length:=by omega
    rw [List.take_length] at hec
    subst hec
    refine zh ?_; refine Z44 ?_; refine Z300 ?_; refine Z65 ?_; refine Z4 ?_; refine Z51 ?_; refine Z139 ?_
    refine zb3 900 901 rfl rfl (zaw _) ?_
    refine zcj 900 (StG b ⟨clrL S.R g, S.P⟩).res rfl (fun v H u C hle h => zfo (S:=⟨clrL S.R g, S.P⟩) (hm.dels hgp) hes.dels hps v H u C hle (by dsimp only; rw [zd9]; exact h)) ?_
    exact zbx L 900 (r:=StG b ⟨clrL S.R g, S.P⟩) (rs:=[.tmp 4, .tmp 5]) rfl (fun _ _ h => h) hs0 rfl rfl (fun H hle => fun v hv => zel hv)
abbrev z5p (l:List CH) (e:Int):Value → Heap → Prop:=TupS [KS tyC l true, fun v _ => v = .int .i64 e]
set_option maxHeartbeats 4000000 in
set_option maxRecDepth 20000 in
theorem zr1 {S:Sto} {b:Nat} {p q:Int} (hI:z3v S) (hn:S.R.length ≠ 0) {w:World} {B:Heap} {C:Nat → Prop} (hB:B.Le (hp w)) (hr:(StG b S).P B w C) (hC:∀ k, C k → k < w.heap.size ∧ B k = none) :
  RetY Tryz.prog 28 [.pointer (some ⟨b, 0, none⟩), .int .u64 p, .int .u64 q] w B C (StG b S) (z5p (zrd S p q).1 (zrd S p q).2):=by
 refine RetY.ex hr fun x hφ hr => ?_
 obtain ⟨m, s, es⟩:=x
 obtain ⟨hm, hes, hps⟩:=hφ
 dsimp only at hm hes hps hr ⊢
 unfold RetY
 refine zar 900 (StO b S.R.length m s S.P.length es) Tryz.func28 rfl Tryz.ntmps28 (Nat.le_of_ble_eq_true rfl) hB hr hC ?_
 have la:=zp1 hI p
 have lb:=zp1 hI q
 unfold zrd
 obtain ⟨⟨ta, ea⟩, ha⟩:∃ x, atS S p = x:=⟨_, rfl⟩
 obtain ⟨⟨tb, eb⟩, hb⟩:∃ x, atS S q = x:=⟨_, rfl⟩
 rw [ha] at la ⊢
 rw [hb] at lb ⊢
 dsimp only at la lb ⊢
 refine Z251 ?_; refine Z160 ?_; refine Z141 ?_; refine yr (zb2 L 900 (WithP ta ea) (r:=StO b S.R.length m _ S.P.length es) rfl rfl rfl rfl rfl WithP.mono (fun u H2 C2 hH hle hr2 hC2 => by have h:=zfn (S:=S) (r:=p) hm hn (hes.le hle) hH hr2 hC2; rw [ha] at h; exact h)) ?_; refine zbl 14 rfl fun v1 H1 hs1 hp1 => ?_; obtain ⟨sv, rfl, hsv⟩:=hp1; obtain ⟨f1, p1, f2, p2, rfl, hpl⟩:=hsv.shape; refine Z309 ?_; refine Z148 ?_
 by_cases h1:ea = 0
 ·subst h1
  rw [if_pos rfl]
  have hes1:=hes.le hs1.le
  refine Z175 ?_; refine Z234 ?_; refine Z335 ?_; refine yr (zb2 L 900 (WithP tb eb) (r:=StO b S.R.length m _ S.P.length es) rfl rfl rfl rfl rfl WithP.mono (fun u H2 C2 hH hle hr2 hC2 => by have h:=zfn (S:=S) (r:=q) hm hn (hes1.le hle) hH hr2 hC2; rw [hb] at h; exact h)) ?_; refine zbl 23 rfl fun v2 H2 hs2 hp2 => ?_; obtain ⟨sw, rfl, hsw⟩:=hp2; obtain ⟨f3, p3, f4, p4, rfl, hpl2⟩:=hsw.shape; refine Z309 ?_; refine Z148 ?_
  by_cases h2:eb = 0
  ·subst h2
   rw [if_pos rfl]
   refine Z179 ?_; refine Z234 ?_; refine Z44 ?_; refine z7 (zw L (vs:=[_, _, _, _]) (yk rfl) rfl rfl rfl rfl ⟨_, rfl⟩) rfl ?_; refine z7 (zw L (vs:=[_, _, _, _]) (yk rfl) rfl rfl rfl rfl ⟨_, rfl⟩) rfl ?_; refine z7 (yq (φ:=KS tyC (z34 ta tb) true) L rfl rfl (zk rfl) rfl rfl rfl SlV.mono (fun u H3 hH hle _ => zoo la lb hsv.sst hsw.sst rfl hH (hsv.le (hs2.le.trans hle)) (hsw.le hle))) rfl ?_; refine Z51 ?_; refine Z139 ?_
   exact zbx L 900 (r:=StO b S.R.length m s S.P.length es) (rs:=[.tmp 6, .tmp 7]) rfl (fun _ _ h => h) (hs1.trans hs2) rfl rfl (fun H hle => fun v hv => zel hv)
  ·rw [if_neg h2]
   refine Z179 ?_; refine Z222 ?_; refine Z192 ?_; refine Z186 ?_
   exact zbx L 900 (r:=StO b S.R.length m s S.P.length es) (rs:=[.tmp 6, .tmp 7]) rfl (fun _ _ h => h) (hs1.trans hs2) rfl rfl (fun H hle => zel SlV.nil)
 ·rw [if_neg h1]
  refine Z175 ?_; refine Z222 ?_; refine Z173 ?_; refine Z186 ?_
  exact zbx L 900 (r:=StO b S.R.length m s S.P.length es) (rs:=[.tmp 6, .tmp 7]) rfl (fun _ _ h => h) hs1 rfl rfl (fun H hle => zel SlV.nil)
end Go.V.L10
set_option maxRecDepth 20000
namespace Go.V
open Go.RowKit
def zp4 {X:Type} (vf:X → Value) (g:X → GR):Res where
 P v H u C:=∃ x, v = vf x ∧ (g x).P H u C
 st:=fun ⟨x, h1, h2⟩ a b c d => ⟨x, h1, (g x).st h2 a b c d⟩
abbrev zyx {X:Type} (vf:X → Value) (g:X → GR) (ty:TypeId):Res:=zp4 (fun p:Nat × X => .pointer (some ⟨p.1, 0, none⟩)) fun p => zyw (zab p.1 (zat (vf p.2)) ty) (g p.2)
section
variable {P:Program} {F:Fr} {B:Heap} {O:Boxes} {n:Nat} {ops:Array Oper} {κ:Kap} {d:Nat} {ty:TypeId} {pos:String} {aft:Array Edge} {g:Option (Nat × Bool)} {Q:Exit → Act → World → Prop} {a:Act} {u:World} {os:List Oper}
theorem znu {t:TypeId} {parts:Array (Nat × Operand)} {places:List (Nat × Nat)} {z cs:List Value} {vs:List (Nat × Value)} {a:Act} {u:World} {H:Heap} {fp:Nat → Nat → Prop} (e:Env F B O κ ⟨some d, .build t parts, ty, pos, aft, g⟩ a u H fp)
  (hp:PL P t places z) (hv:evP κ parts.toList = some vs) (hc:zhe places z vs = some cs):(execOp a.eval ⟨some d, .build t parts, ty, pos, aft, g⟩).run P u = .ok (.value (.agg cs.toArray)) u:=by
 have hm:=zm1 e parts.toList vs (fun p hp' => by simp [Op.operands]; exact ⟨p.1, by simpa using hp'⟩) hv
 obtain ⟨zv, hz1, hz2⟩:=hp.zr
 have hbt:P.built t vs = some cs.toArray:=by
  have hpl:=hp.pl
  unfold plI at hpl
  unfold zrI at hz1
  split at hz1
  ·rename_i it hit
   unfold Program.built
   split at hpl
   ·rename_i fs hu
    simp only [hit, hu, hz1, hpl]
    rw [zbw, hz2]
    exact zcz (fun i p h => by simpa using h) vs z cs hc
   ·rename_i m el hu
    split at hpl
    ·rename_i ie hie
     simp only [hit, hu, hz1, hie]
     cases hpl
     rw [zbw, hz2]
     exact zcz (fun i p h => by
      rw [List.getElem?_map] at h
      cases hr:(List.range m)[i]? with
      | none => rw [hr] at h; cases h
      | some j =>
       rw [hr] at h
       have:j = i:=by
        have:=List.getElem?_eq_some_iff.1 hr
        obtain ⟨h1, h2⟩:=this
        simpa using h2.symm
       subst this
       simpa using h) vs z cs hc
    ·cases hpl
   ·cases hpl
  ·cases hz1
 have hr:=run_build (P:=P) u t vs.toArray cs.toArray (by simpa using hbt)
 have harr:(parts.map fun (p:Nat × Operand) => (p.1, a.eval p.2)) = vs.toArray:=by
  rw [← hm, ← List.map_toArray, Array.toArray_toList]
 simp only [execOp, Sem.run_bind]
 show Result.andThen ((Instr.build t (parts.map fun (p:Nat × Operand) => (p.1, a.eval p.2))).run P u) _ = _
 rw [harr, hr]
 rfl
theorem zlh {X:Type} {q:Nat} {vf:X → Value} {gg:X → GR} {t:TypeId} {parts:Array (Nat × Operand)} {places:List (Nat × Nat)} {z:List Value} (vs:X → List (Nat × Value)) (cs:X → List Value) (hq:κ q = some (.own (zp4 vf gg))) (hn:Nat.blt d n = true) (hg:gK ops κ ⟨some d, .build t parts, ty, pos, aft, g⟩ = some true)
  (hne:Nat.beq q d = false) (hp:PL P t places z) (hv:∀ x, evP (upd κ q (.is (vf x))) parts.toList = some (vs x)) (hc:∀ x, zhe places z (vs x) = some (cs x)):StepOK2 P F B n ops O κ ⟨some d, .build t parts, ty, pos, aft, g⟩ q zd5 d (.own (zp4 (fun x => .agg (cs x).toArray) gg)):=by
 rintro κ' a u hlk hks ⟨H, fp, hh⟩
 unfold After
 rw [if_pos (zaf hh hlk hg)]
 have hk':κ' q = some (.own (zp4 vf gg)):=hks.trans hq
 obtain ⟨⟨x, hx, hown⟩, hM⟩:=hh.slot q _ hk'
 have e:=(hh.name q).env (κ:=upd κ q (.is (vf x))) (ops:=ops) (o:=⟨some d, .build t parts, ty, pos, aft, g⟩) fun s hs => by
  by_cases h:s = q
  ·subst h; rw [zad, zad, hx]
  ·rw [zac _ _ h, zac _ _ h]; exact hlk s hs
 rw [znu e hp (hv x) (hc x)]
 simp only [Upon]
 exact ⟨H, _, hh.usePut (C:=fp q) hk' ⟨Keep.refl _ _, hh.sub, Heap.Le.refl _, fun _ _ _ => rfl⟩ (by simp [Act.put]) rfl (fun t ht => zam ht) (by rw [zaq (by rw [hh.size]; exact zk hn)]; exact ⟨x, rfl, hown⟩) fun k hk => ⟨.inl hk, (hM k hk).1, (hM k hk).2.1⟩⟩
theorem Has.holdRf {X:Type} {t q:Nat} {vf:X → Value} {gg:X → GR} (hk:κ t = some (.own (zp4 vf gg))) (h:Has F B O n κ a u):∃ x, Has F B O n (upd (upd (upd κ t zd5) q (.own (gg x).res)) t (.is (vf x))) a u:=by
 obtain ⟨H, fp, h⟩:=h
 obtain ⟨⟨x, hv, hx⟩, hM⟩:=h.slot t _ hk
 have h2:=h.usePut (d:=q) (a':=a) (r':=(gg x).res) (C:=fp t) hk ⟨Keep.refl _ _, h.sub, Heap.Le.refl _, fun _ _ _ => rfl⟩ rfl rfl (fun _ _ => rfl) hx fun k hk => ⟨.inl hk, (hM k hk).1, (hM k hk).2.1⟩
 have h3:=h2.name t
 rw [hv] at h3
 exact ⟨x, H, _, h3⟩
theorem zi6 (t q:Nat) {X:Type} {vf:X → Value} {gg:X → GR} {c:Code} (hk:κ t = some (.own (zp4 vf gg))) (h:∀ x, V P F B n O (upd (upd (upd κ t zd5) q (.own (gg x).res)) t (.is (vf x))) c Q):V P F B n O κ c Q:=fun a u hh => let ⟨x, h'⟩:=hh.holdRf (q:=q) hk; h x a u h'
theorem zte (t q:Nat) {X:Type} {vf:X → Value} {gg:X → GR} (hk:κ t = some (.own (zp4 vf gg))) (h:∀ x, VO P F B n O ops (upd (upd (upd κ t zd5) q (.own (gg x).res)) t (.is (vf x))) os Q):VO P F B n O ops κ os Q:=fun a u hh => let ⟨x, h'⟩:=hh.holdRf (q:=q) hk; h x a u h'
theorem Has.packRf {X:Type} {t q:Nat} {vf:X → Value} {gg:X → GR} (x:X) (hk:κ q = some (.own (gg x).res)) (ht:κ t = some (.is (vf x))) (h:Has F B O n κ a u):Has F B O n (upd (upd κ q zd5) t (.own (zp4 vf gg))) a u:=by
 obtain ⟨H, fp, h⟩:=h
 obtain ⟨hx, hM⟩:=h.slot q _ hk
 have hv:a.eval (.tmp t) = vf x:=h.slot t _ ht
 exact ⟨H, _, h.usePut (d:=t) (a':=a) (r':=zp4 vf gg) (C:=fp q) hk ⟨Keep.refl _ _, h.sub, Heap.Le.refl _, fun _ _ _ => rfl⟩ rfl rfl (fun _ _ => rfl) ⟨x, hv, hx⟩ fun k hk => ⟨.inl hk, (hM k hk).1, (hM k hk).2.1⟩⟩
theorem zro (t q:Nat) {X:Type} (vf:X → Value) (gg:X → GR) {c:Code} (x:X) (hk:κ q = some (.own (gg x).res)) (ht:κ t = some (.is (vf x))) (h:V P F B n O (upd (upd κ q zd5) t (.own (zp4 vf gg))) c Q):V P F B n O κ c Q:=fun a u hh => h a u (hh.packRf x hk ht)
theorem StepOK.turn {o:Oper} {r r':Res} (h:StepOK P F B n ops O κ o d (.own r)) (hr:∀ v H u C, B.Le H → r.P v H u C → r'.P v H u C):StepOK P F B n ops O κ o d (.own r') :=
 fun κ' a u hl hh => After.mono (fun a' u' h2 => by have:=h2.turnO (t:=d) (r':=r') (zad ..) hr; rwa [zbe] at this) (h κ' a u hl hh)
theorem StepOK2.turn {o:Oper} {q:Nat} {k1:Kn} {r r':Res} (h:StepOK2 P F B n ops O κ o q k1 d (.own r)) (hr:∀ v H u C, B.Le H → r.P v H u C → r'.P v H u C):StepOK2 P F B n ops O κ o q k1 d (.own r') :=
 fun κ' a u hl hq hh => After.mono (fun a' u' h2 => by have:=h2.turnO (t:=d) (r':=r') (zad ..) hr; rwa [zbe] at this) (h κ' a u hl hq hh)
abbrev z49 (s m:Nat) (xs:List Value):Type:={p:Nat × Nat × List Value // m ≤ p.2.1 ∧ p.2.1 ≤ maxLen ∧ (xs ++ p.2.2).length = p.2.1 * s}
abbrev z55 (e:TypeId) (s m:Nat) (xs:List Value):Res:=zp4 (fun p:z49 s m xs => .slice (some ⟨p.1.1, 0, none⟩) m p.1.2.1) fun p => zab p.1.1 (xs ++ p.1.2.2) e
theorem zy4 {e:TypeId} {s m:Nat} {xs:List Value} (hm:m ≠ 0):∀ v H u C, B.Le H → (SlR e s m xs).P v H u C → (z55 e s m xs).P v H u C:=fun _ _ _ _ _ ⟨_, h⟩ => by
 rcases h with ⟨h0, _⟩ | ⟨b, cap, rest, h1, h2, h3, h4, h5, h6⟩
 ·exact absurd h0 hm
 ·exact ⟨⟨(b, cap, rest), h3, h4, h5⟩, h1, h2, h6⟩
theorem zlg (L:Tabs P) {X:Type} {t t':TypeId} {s q:Nat} {ag:Bool} {z:Nat} {cs:List Value} {vf:X → Value} {gg:X → GR} (hq:κ q = some (.own (zp4 vf gg))) (hf:∀ x, (zat (vf x)).length = z ∧ (zat (vf x)).all zbp = true)
  (hg:gK ops κ ⟨none, .store t (.tmp s) (.tmp q), ty, pos, aft, g⟩ = some true) (hk:κ s = some (.own (zez cs t'))) (hl:L.ld t = some (ag, z)) (hcs:cs.length = z) (hne:Nat.beq q s = false) :
  StepOK2 P F B n ops O κ ⟨none, .store t (.tmp s) (.tmp q), ty, pos, aft, g⟩ q zd5 s (.own (zyx vf gg t')):=by
 have hne':q ≠ s:=Nat.ne_of_beq_eq_false hne
 rintro κ' a u hlk hks ⟨H, fp, hh⟩
 unfold After
 rw [if_pos (zaf hh hlk hg)]
 have hkq:κ' q = some (.own (zp4 vf gg)):=hks.trans hq
 have hkss:κ' s = some (.own (zez cs t')):=(hlk s (zdg (by simp [Op.operands]))).trans hk
 obtain ⟨⟨x, hx, hown⟩, hMq⟩:=hh.slot q _ hkq
 have h0:=hh.usePut (d:=q) (a':=a) (r':=(gg x).res) (C:=fp q) hkq ⟨Keep.refl _ _, hh.sub, Heap.Le.refl _, fun _ _ _ => rfl⟩ rfl rfl (fun _ _ => rfl) hown fun k hk => ⟨.inl hk, (hMq k hk).1, (hMq k hk).2.1⟩
 rw [zbe] at h0
 have hks0:upd κ' q (.own (gg x).res) s = some (.own (zez cs t')):=by rw [zac _ _ (Ne.symm hne')]; exact hkss
 obtain ⟨⟨b, hes, hb, hC⟩, hM⟩:=h0.slot s _ hks0
 have hrun:(execOp a.eval ⟨none, .store t (.tmp s) (.tmp q), ty, pos, aft, g⟩).run P u = .ok .skip (u.setRow b (zat (vf x)).toArray):=by
  simp only [execOp, hes, hx, Instr.storeAt, Instr.sureAddr, Sem.run_bind, Sem.run_pure, Result.andThen_ok]
  have:=zb0 (P:=P) (off:=0) (v:=vf x) (Tabs.ld_spec hl) hb (hf x).1 (by omega) (hf x).2
  rw [this, List.drop_of_length_le (by omega)]
  simp
 rw [hrun]
 simp only [Upon, Act.put]
 have hset:=setRow_heap u b cs.toArray (zat (vf x)).toArray t' (0, 0) hb
 have hbm:=hM b ((hC b).2 rfl)
 have h1:=h0.usePut (d:=s) (a':=a) (r':=zez (zat (vf x)) t') (C:=fun k => k = b) hks0 (zbn h0.sub hb ((hC b).2 rfl) hbm.2.1 _) rfl rfl (fun _ _ => rfl) ⟨b, hes, hset, fun _ => Iff.rfl⟩ (fun k hk => by
  subst hk; exact ⟨.inl ((hC k).2 rfl), by rw [setRow_size]; exact hbm.1, hbm.2.1⟩)
 rw [zbe] at h1
 have h2:Has F B O n _ a _:=⟨H, _, h1⟩
 have h3:=h2.join2 (q:=s) (g1:=q) (r1:=zez (zat (vf x)) t') (r2:=(gg x).res) (Ne.symm hne') (zaw _) (zad ..) (by rw [zac _ _ hne', zad])
 have h4:=h3.turnO (t:=s) (r:=zf6 (zez (zat (vf x)) t') (gg x).res) (r':=zyx vf gg t') (zad ..) fun v H u C _ ⟨C1, C2, ⟨b, g1, g2, g3⟩, g4, g5, g6⟩ => ⟨(b, x), g1, C1, C2, ⟨g2, g3⟩, g4, g5, g6⟩
 have he:upd (upd (upd (upd (upd κ' q (.own (gg x).res)) s (.own (zez (zat (vf x)) t'))) q zd5) s (.own (zf6 (zez (zat (vf x)) t') (gg x).res))) s (.own (zyx vf gg t')) = upd (upd κ' q zd5) s (.own (zyx vf gg t')):=by
  funext k
  by_cases h5:k = s
  ·subst h5; rw [zad, zad]
  ·rw [zac _ _ h5, zac _ _ h5, zac _ _ h5]
   by_cases h6:k = q
   ·subst h6; rw [zad, zad]
   ·rw [zac _ _ h6, zac _ _ h5, zac _ _ h6, zac _ _ h6]
 rw [he] at h4
 exact h4
variable {Y:Type} {kd:IntKind} {vc:Y → Value} {l:List (Int × Y)}
end
end Go.V
set_option maxRecDepth 20000
namespace Go.V.L10
open Go.Proofs Go.RowKit Go.V Go.V.L2 Go.V.L8 Go.V.L6
abbrev zff (b:Nat):Value:=.pointer (some ⟨b, 0, none⟩)
abbrev z48 (S:Sto):Res:=zp4 zff fun b => StG b S
theorem zvc {Y:Type}:MapOK ([]:List (Int × (List U × Y))) []:=⟨List.nodup_nil, fun r => by
 cases h:kpt ([]:List (Option (List U))) r with
 | none => rfl
 | some t => have:=zfd (R:=[]) (r:=r) (by rw [h]; rfl); simp at this; omega⟩
theorem zvd:MapOK [((1:Int), (([]:List U), nilSet))] newS.R:=by
 have h:=(zvc (Y:=Value)).add [] nilSet
 have h2:=h.1
 rw [h.2] at h2
 exact h2
attribute [local irreducible] V N X VO Par StepOK Has Ret RetL RetO RetT zb8 zdn RetY Src
set_option maxHeartbeats 2000000 in
set_option maxRecDepth 20000 in
theorem zqf {w:World} {B:Heap} (hB:B.Le (hp w)):RetO Tryz.prog 18 [] w B (z48 newS):=by
 refine zej Tryz.func18 rfl Tryz.ntmps18 (Nat.le_of_ble_eq_true rfl) hB ?_
 refine Z182 ?_; refine z7 (zpg (hint:=none) .u64 vcE rfl rfl) rfl ?_; refine ztf 1 901 rfl fun m => ?_; refine z7 (yv (cs:=[_, _, _, _]) rfl rfl ztb rfl rfl) rfl ?_; refine zcl (zsb (q:=901) (vc:=vcE) 1 ([], nilSet) mpS kyS rfl rfl rfl rfl rfl rfl rfl) ?_; refine Z1 ?_; refine z7 (yv (cs:=[_, _, _, _]) rfl rfl z5u rfl rfl) rfl ?_; refine Z104 ?_; refine qn (yo (.inr rfl) rfl rfl rfl rfl) ?_; refine Z138 ?_
 refine zrp 0 900 rfl fun b => ?_
 refine zb3 900 901 rfl rfl (zaw (z5e m .u64 vcE [((1:Int), (([]:List U), nilSet))])) ?_
 refine zcj 900 (StG b newS).res rfl (fun v H u C hle h => zfo (S:=newS) (s:=.slice none 0 0) (m:=m) (B:=B) zvd (fun e he => by rw [List.mem_singleton.1 he]; exact SetV.nil) SlV.nil v H u C hle h) ?_
 refine zro 0 900 zff (fun b => StG b newS) b rfl rfl ?_
 exact zig rfl (fun _ _ h => h) Since.refl rfl
end Go.V.L10
set_option maxRecDepth 20000
namespace Go.V.L10
open Go.Proofs Go.RowKit Go.V Go.V.L2 Go.V.L8 Go.V.L6
def z58 (rs:List Int):Prop:=(0 :: rs).Pairwise (· < ·)
instance (rs:List Int):Decidable (z58 rs):=inferInstanceAs (Decidable ((0 :: rs).Pairwise (· < ·)))
attribute [local irreducible] V N X VO Par StepOK Has Ret RetL RetO RetT zb8 zdn RetY Src
end Go.V.L10
set_option maxRecDepth 20000
namespace Go.V.L10
open Go.Proofs Go.RowKit Go.V Go.V.L2 Go.V.L8 Go.V.L6
theorem z52 {α:Type} {p:α → Bool} {l:List α} {i:Nat} {x:α} (h:l[i]? = some x) (hx:p x = true) (hb:∀ (j:Nat) y, j < i → l[j]? = some y → p y = false):l.findIdx? p = some i:=by
 rw [List.findIdx?_eq_some_iff_getElem]
 have hi:i < l.length:=get_lt h
 rw [List.getElem?_eq_getElem hi] at h
 cases h
 exact ⟨hi, hx, fun j hj => by simp [hb j _ hj (List.getElem?_eq_getElem (by omega))]⟩
theorem z51 {α:Type} {p:α → Bool} {l:List α} (hb:∀ (j:Nat) y, l[j]? = some y → p y = false):l.findIdx? p = none:=by
 rw [List.findIdx?_eq_none_iff]
 intro x hx
 obtain ⟨j, hj⟩:=List.getElem?_of_mem hx
 exact hb j x hj
def z4v:Option Nat → Int
 | some i => i
 | none => -1
theorem zxr {α:Type} {p:α → Bool} {l:List α}:decide (0 ≤ z4v (l.findIdx? p)) = l.any p:=by
 cases hf:l.findIdx? p with
 | none =>
  rw [List.findIdx?_eq_none_iff] at hf
  have:l.any p = false:=List.any_eq_false.2 fun x hx => by simpa using hf x hx
  rw [this]; rfl
 | some i =>
  rw [List.findIdx?_eq_some_iff_getElem] at hf
  obtain ⟨hi, hx, _⟩:=hf
  rw [List.any_eq_true.2 ⟨_, List.getElem_mem hi, hx⟩]
  exact decide_eq_true (Int.natCast_nonneg _)
attribute [local irreducible] V N X VO Par StepOK Has Ret RetL RetO RetT zb8 zdn RetY Src
theorem zlt {a b:List Int} {f:Bool} {fa fb:Bool} (hf:decide (a = b) = f) (ha:a.length ≤ 100000) {v1 v2:Value} {w:World} {B:Heap} (hB:B.Le (hp w)) (h1:RsV a fa v1 B) (h2:RsV b fb v2 B) :
  Ret Tryz.prog 64 [v1, v2] w B (fun v _ => v = .bool f):=by
 subst hf
 refine yc Tryz.func64 rfl Tryz.ntmps64 (Nat.le_of_ble_eq_true rfl) hB ?_
 refine zax 0 (RsV a fa) rfl SlV.mono h1 ?_
 refine zax 1 (RsV b fb) rfl SlV.mono h2 ?_
 by_cases hl:a.length = b.length
 ·refine Z313 ?_; refine Z151 ?_; refine Z240 ?_; refine Z28 ?_; refine Z395 ?_
  refine zak (fun i:Nat => [(0, .sat (RsV a fa)), (1, .sat (RsV b fb)), (12, .is (.int .i64 a.length)), (13, .is (.int .i64 i))]) (fun i => i ≤ a.length ∧ a.take i = b.take i) (fun i => a.length - i) 0 ⟨Nat.zero_le _, rfl⟩ ⟨rfl, rfl, rfl, rfl, trivial⟩ ?_
  rintro i ⟨hi, ht⟩
  by_cases hlt:i < a.length
  ·obtain ⟨x, hx⟩:=zae hlt
   obtain ⟨y, hy⟩:=zae (show i < b.length by omega)
   have hc1:=zih hx
   have hc2:=zih hy
   have hwk:IntKind.i64.wrap ((i:Int) + 1) = ((i + 1:Nat):Int):=zaa (by omega) (by omega)
   by_cases hxy:x = y
   ·refine Z342 ?_; refine Z144 ?_; refine Z84 ?_; refine Z198 ?_; refine z8 (qu L _ rfl rfl rfl rfl rfl rfl rfl (by first | omega | decide) (by assumption)) rfl ?_; refine Z110 ?_; refine Z198 ?_; refine z8 (qu L _ rfl rfl rfl rfl rfl rfl rfl (by first | omega | decide) (by assumption)) rfl ?_; refine Z110 ?_; refine Z99 ?_; refine Z178 ?_; refine Z318 ?_; refine Z57 ?_; refine Z404 ?_
    exact yi (x:=i) (i + 1) ⟨hlt, by rw [zbj hx, zbj hy, ht, hxy]⟩ (by omega) ⟨rfl, rfl, rfl, rfl, trivial⟩
   ·rw [decide_eq_false (z1f hx hy hxy)]
    refine Z342 ?_; refine Z144 ?_; refine Z84 ?_; refine Z198 ?_; refine z8 (qu L _ rfl rfl rfl rfl rfl rfl rfl (by first | omega | decide) (by assumption)) rfl ?_; refine Z110 ?_; refine Z198 ?_; refine z8 (qu L _ rfl rfl rfl rfl rfl rfl rfl (by first | omega | decide) (by assumption)) rfl ?_; refine Z110 ?_; refine Z129 ?_; refine Z210 ?_; refine zh ?_; refine Z375 ?_
    refine yb L (rs:=[.tmp 4]) rfl (fun _ _ h => h) Since.refl fun u H hH hle => ?_
    rfl
  ·obtain rfl:i = a.length:=by omega
   have hab:a = b:=by rw [List.take_length, hl, List.take_length] at ht; exact ht
   rw [decide_eq_true hab]
   refine Z276 ?_; refine Z300 ?_; refine Z60 ?_; refine Z139 ?_
   refine yb L (rs:=[.tmp 4]) rfl (fun _ _ h => h) Since.refl fun u H hH hle => ?_
   rfl
 ·rw [decide_eq_false (zvh hl)]
  refine Z313 ?_; refine Z151 ?_; refine Z45 ?_; refine Z263 ?_
  refine yb L (rs:=[.tmp 4]) rfl (fun _ _ h => h) Since.refl fun u H hH hle => ?_
  rfl
theorem zq6 {l:List Int} {fu:Bool} {p:Int → Bool} {f:Nat} {cap:List Value} (hfn:L.fn f = some ()) (hlm:l.length ≤ 100000) {v:Value} {w:World} {B:Heap} (hf:∀ r ∈ l, ∀ (u:World) (H:Heap), B.Le H → H.Le (hp u) → Ret Tryz.prog f ([.int .u64 r] ++ cap) u H (fun x _ => x = .bool (p r))) (hv:RsV l fu v B) (hB:B.Le (hp w)) :
  Ret Tryz.prog 96 [v, .func (.func f) #[] cap.toArray] w B (fun r _ => r = .int .i64 (z4v (l.findIdx? p))):=by
 refine yc Tryz.func96 rfl Tryz.ntmps96 (Nat.le_of_ble_eq_true rfl) hB ?_
 refine zax 0 (RsV l fu) rfl SlV.mono hv ?_
 refine Z313 ?_; refine Z283 ?_
 refine zak (fun i:Nat => [(0, .sat (RsV l fu)), (1, .is (.func (.func f) #[] cap.toArray)), (7, .is (.int .i64 l.length)), (8, .is (.int .i64 i))]) (fun i => i ≤ l.length ∧ ∀ (j:Nat) y, j < i → l[j]? = some y → p y = false) (fun i => l.length - i) 0 ⟨Nat.zero_le _, fun j _ h => absurd h (Nat.not_lt_zero _)⟩ ⟨rfl, rfl, rfl, rfl, trivial⟩ ?_
 rintro i ⟨h1, h2⟩
 by_cases hlt:i < l.length
 ·obtain ⟨x, hx⟩:=zae hlt
  have hc:=zih hx
  have hmx:=List.mem_of_getElem? hx
  have hwk:IntKind.i64.wrap ((i:Int) + 1) = ((i + 1:Nat):Int):=zaa (by omega) (by omega)
  cases hb:p x with
  | true =>
   rw [z52 hx hb h2]
   refine zh ?_; refine Z29 ?_; refine Z219 ?_; refine Z173 ?_; refine Z144 ?_; refine Z161 ?_; refine Z194 ?_; refine z7 (qu L _ rfl rfl rfl rfl rfl rfl rfl (by first | omega | decide) (by assumption)) rfl ?_; refine Z56 ?_; refine z7 (zo (cap:=cap) L rfl rfl (zk rfl) rfl rfl hfn (fun u H hH hle _ => hb ▸ hf x hmx u H hle hH)) rfl ?_; refine Z154 ?_; refine Z179 ?_; refine Z139 ?_
   refine yb L (rs:=[.tmp 4]) rfl (fun _ _ h => h) Since.refl fun u H hH hle => ?_
   rfl
  | false =>
   refine zh ?_; refine Z29 ?_; refine Z219 ?_; refine Z173 ?_; refine Z144 ?_; refine Z161 ?_; refine Z194 ?_; refine z7 (qu L _ rfl rfl rfl rfl rfl rfl rfl (by first | omega | decide) (by assumption)) rfl ?_; refine Z56 ?_; refine z7 (zo (cap:=cap) L rfl rfl (zk rfl) rfl rfl hfn (fun u H hH hle _ => hb ▸ hf x hmx u H hle hH)) rfl ?_; refine Z221 ?_; refine Z43 ?_; refine Z404 ?_
   exact yi (x:=i) (i + 1) ⟨hlt, fun j y hj hy => by
    rcases Nat.lt_or_ge j i with h | h
    ·exact h2 j y h hy
    ·have:j = i:=by omega
     subst this; rw [hx] at hy; cases hy; exact hb⟩ (by omega) ⟨rfl, rfl, rfl, rfl, trivial⟩
 ·rw [z51 (fun j y hy => h2 j y (by have:=get_lt hy; omega) hy)]
  refine zh ?_; refine Z29 ?_; refine Z300 ?_; refine Z375 ?_
  refine yb L (rs:=[.tmp 4]) rfl (fun _ _ h => h) Since.refl fun u H hH hle => ?_
  rfl
theorem zor {l:List Int} {fu:Bool} {p:Int → Bool} {f:Nat} {cap:List Value} {b:Bool} (hb:l.any p = b) (hfn:L.fn f = some ()) (hlm:l.length ≤ 100000) {v:Value} {w:World} {B:Heap} (hf:∀ r ∈ l, ∀ (u:World) (H:Heap), B.Le H → H.Le (hp u) → Ret Tryz.prog f ([.int .u64 r] ++ cap) u H (fun x _ => x = .bool (p r))) (hv:RsV l fu v B) (hB:B.Le (hp w)) :
  Ret Tryz.prog 65 [v, .func (.func f) #[] cap.toArray] w B (fun r _ => r = .bool b):=by
 rw [← zxr] at hb
 generalize hJ:z4v (l.findIdx? p) = J at *
 subst hb
 refine yc Tryz.func65 rfl Tryz.ntmps65 (Nat.le_of_ble_eq_true rfl) hB ?_
 by_cases h0:0 ≤ J
 ·rw [decide_eq_true h0]
  refine Z331 ?_; refine z7 (zo L rfl rfl (zk rfl) rfl rfl rfl (fun u H hH hle _ => hJ ▸ zq6 hfn hlm (fun r hr u2 H2 hle2 hH2 => hf r hr u2 H2 (hle.trans hle2) hH2) (hv.le hle) hH)) rfl ?_; refine Z41 ?_; refine Z139 ?_
  refine yb L (rs:=[.tmp 4]) rfl (fun _ _ h => h) Since.refl fun u H hH hle => ?_
  rfl
 ·rw [decide_eq_false h0]
  refine Z331 ?_; refine z7 (zo L rfl rfl (zk rfl) rfl rfl rfl (fun u H hH hle _ => hJ ▸ zq6 hfn hlm (fun r hr u2 H2 hle2 hH2 => hf r hr u2 H2 (hle.trans hle2) hH2) (hv.le hle) hH)) rfl ?_; refine Z47 ?_; refine Z139 ?_
  refine yb L (rs:=[.tmp 4]) rfl (fun _ _ h => h) Since.refl fun u H hH hle => ?_
  rfl
end Go.V.L10
set_option maxRecDepth 20000
namespace Go.V.L10
open Go.Proofs Go.RowKit Go.V Go.V.L2 Go.V.L8 Go.V.L6
abbrev z5g:TypeId:=89
abbrev z4b:TypeId:=32
abbrev zk0:=Option (List U) × Value
def rrc (z:zk0):List Value:=[.bool z.1.isSome, z.2]
theorem zhp (z:zk0):(rrc z).length = 2:=rfl
def RowOK (zs:List zk0) (H:Heap):Prop:=∀ z ∈ zs, US (z.1.getD []) false z.2 H
theorem RowOK.le {zs:List zk0} {H H':Heap} (h:RowOK zs H) (hle:H.Le H'):RowOK zs H':=fun z hz => (h z hz).le hle
abbrev RwV (zs:List zk0):Value → Heap → Prop:=SlV z5g 2 (zs.flatMap rrc) zs.length false
def RlV (R:List (Option (List U))):Value → Heap → Prop:=fun v H => ∃ zs:List zk0, zs.map (·.1) = R ∧ RowOK zs H ∧ RwV zs v H
theorem RlV.le {R:List (Option (List U))} {v:Value} {H H':Heap} (h:RlV R v H) (hle:H.Le H'):RlV R v H':=let ⟨zs, h1, h2, h3⟩:=h; ⟨zs, h1, h2.le hle, h3.le hle⟩
def RsS (S:Sto):Value → Heap → Prop:=fun v H => ∃ lv pv, v = .agg #[lv, pv] ∧ RlV S.R lv H ∧ RsV S.P false pv H
theorem RsS.mono {S:Sto}:Kn.mono (.sat (RsS S)):=fun _ _ _ ⟨lv, pv, h1, h2, h3⟩ hle => ⟨lv, pv, h1, h2.le hle, h3.le hle⟩
theorem RsS.le {S:Sto} {v:Value} {H H':Heap} (h:RsS S v H) (hle:H.Le H'):RsS S v H':=RsS.mono _ _ _ h hle
theorem zr5 {zs:List zk0} {i:Nat} {z:zk0} (h:zs[i]? = some z):((zs.flatMap rrc).drop (i * 2)).take 2 = [.bool z.1.isSome, z.2]:=zdc zhp zs i z h
theorem zqj {zs:List zk0} {H:Heap} (h:RowOK zs H):(zs.flatMap rrc).all zbp = true:=by
 rw [List.all_eq_true]
 intro x hx
 obtain ⟨z, hz, hx⟩:=List.mem_flatMap.1 hx
 obtain ⟨p, c, hs⟩:=zap (h z hz)
 unfold rrc at hx
 rw [hs] at hx
 simp only [List.mem_cons, List.mem_nil_iff, or_false] at hx
 rcases hx with rfl | rfl <;> rfl
theorem zld {zs:List zk0} {R:List (Option (List U))} (h:zs.map (·.1) = R) {i:Nat} {o:Option (List U)} (ho:R[i]? = some o):∃ v, zs[i]? = some (o, v):=by
 rw [← h, List.getElem?_map] at ho
 cases hz:zs[i]? with
 | none => rw [hz] at ho; cases ho
 | some z => rw [hz] at ho; cases ho; exact ⟨z.2, rfl⟩
def zj9 (R:List (Option (List U))) (i:Nat):List Int:=((List.range i).filter fun i => ((R[i]?).join).isSome).map fun i => ((i + 1:Nat):Int)
theorem zsq {R:List (Option (List U))} {i:Nat}:zj9 R (i + 1) = zj9 R i ++ if ((R[i]?).join).isSome = true then [((i + 1:Nat):Int)] else []:=by
 unfold zj9
 rw [List.range_succ, List.filter_append, List.map_append]
 congr 1
 by_cases h:((R[i]?).join).isSome = true
 ·rw [if_pos h]; simp [h]
 ·rw [if_neg h]; simp [h]
theorem zj8 (R:List (Option (List U))) (i:Nat):(zj9 R i).length ≤ i:=by
 unfold zj9
 rw [List.length_map]
 exact Nat.le_trans (List.length_filter_le ..) (by simp)
abbrev z31 (t:List U) (e:Int):Value → Heap → Prop:=TupS [US t false, fun v _ => v = .int .i64 e]
attribute [local irreducible] V N X VO Par StepOK Has Ret RetL RetO RetT zb8 zdn RetY Src
theorem zr6 {w:World} {B:Heap} (hB:B.Le (hp w)):Ret Tryz.prog 42 [] w B (RsS newS):=by
 refine yc Tryz.func42 rfl Tryz.ntmps42 (Nat.le_of_ble_eq_true rfl) hB ?_
 refine Z315 ?_; refine Z159 ?_; refine Z17 ?_; refine z7 (yv (cs:=[_, _]) rfl rfl z4e rfl rfl) rfl ?_; refine Z35 ?_; refine zbl 2 rfl fun v1 H1 hs1 hv1 => ?_; obtain ⟨d1, rfl, hd1⟩:=hv1; refine z7 (yv (cs:=[_, _]) rfl rfl z2a rfl rfl) rfl ?_; refine Z252 ?_
 refine yb L (rs:=[.cell 0 32]) rfl (fun _ _ h => h) hs1 fun u H hH hle => ?_
 exact ⟨_, yk rfl, rfl, _, _, rfl, ⟨[(some [], .slice none 0 0)], rfl, fun z hz => by rw [List.mem_singleton.1 hz]; exact SlV.nil, (SlB.toV (n:=1) ⟨d1, rfl, hle _ _ hd1⟩ rfl).nofu⟩, SlV.nil⟩
theorem ze4 {R:List (Option (List U))} {zs:List zk0} (hzs:zs.map (·.1) = R) (hR:R.length ≤ 100000) {lv pv:Value} (hpv:∃ p k c, pv = .slice p k c) {w:World} {B:Heap} (hB:B.Le (hp w)) (hl:RwV zs lv B) :
  Ret Tryz.prog 34 [.agg #[lv, pv]] w B (RsV (za8 R) false):=by
 have hzl:zs.length = R.length:=by rw [← hzs, List.length_map]
 obtain ⟨p, c, rfl⟩:=zap hl
 obtain ⟨p2, k2, c2, rfl⟩:=hpv
 refine yc Tryz.func34 rfl Tryz.ntmps34 (Nat.le_of_ble_eq_true rfl) hB ?_
 refine Z285 ?_; refine Z148 ?_
 refine zeb 3 zin 1 rfl ?_
 refine Z378 ?_
 refine zak (fun y:Nat => [(1, .sat (At [.slice p zs.length c, .slice p2 k2 c2] z4b 0)), (3, .own (SlR zin 1 (zj9 R y).length ((zj9 R y).map (Value.int .u64)))), (4, .is (.int .i64 y))])
  (fun y => y ≤ R.length) (fun y => R.length - y) 0 (Nat.zero_le _) ⟨rfl, rfl, rfl, trivial⟩ ?_
 rintro i hi
 dsimp only at hi ⊢
 have htl:=zj8 R i
 by_cases hlt:i < R.length
 ·obtain ⟨o, ho⟩:=zae hlt
  obtain ⟨v, hv⟩:=zld hzs ho
  have hc:=zr5 hv
  have hwk:IntKind.i64.wrap ((i:Int) + 1) = ((i + 1:Nat):Int):=zaa (by omega) (by omega)
  have hwu:IntKind.u64.wrap ((i + 1:Nat):Int) = ((i + 1:Nat):Int):=wrap_u64 (by omega) (by omega)
  have hs:=zsq (R:=R) (i:=i)
  rw [ho] at hs
  cases o with
  | none =>
   have hs2:zj9 R (i + 1) = zj9 R i:=hs.trans (List.append_nil _)
   refine Z258 ?_; refine Z275 ?_; refine Z201 ?_; refine Z37 ?_; refine Z220 ?_; refine Z1 ?_; refine z7 (qu L _ rfl rfl rfl rfl rfl rfl rfl (by first | omega | decide) (by assumption)) rfl ?_; refine Z365 ?_; refine Z221 ?_; refine Z363 ?_
   exact yi (x:=i) (i + 1) hlt (by omega) ⟨rfl, by rw [hs2]; rfl, rfl, trivial⟩
  | some t =>
   have hs2:zj9 R (i + 1) = zj9 R i ++ [((i + 1:Nat):Int)]:=hs
   refine Z258 ?_; refine Z275 ?_; refine Z201 ?_; refine Z37 ?_; refine Z220 ?_; refine Z1 ?_; refine z7 (qu L _ rfl rfl rfl rfl rfl rfl rfl (by first | omega | decide) (by assumption)) rfl ?_; refine Z365 ?_; refine Z145 ?_; refine Z43 ?_; refine qn (yo (.inl rfl) rfl rfl rfl rfl) ?_; refine Z1 ?_; refine Z20 ?_; refine z7 (zau rfl rfl rfl zbh.1 zbh.2 (wrap_u64 (by omega) (by omega))) rfl ?_; refine Z35 ?_; refine Z109 ?_; refine qn (yo (.inr rfl) rfl rfl rfl rfl) ?_; refine Z237 ?_; refine Z363 ?_
   exact yi (x:=i) (i + 1) hlt (by omega) ⟨rfl, by rw [hs2]; exact zmd, rfl, trivial⟩
 ·obtain rfl:i = R.length:=by omega
  refine Z258 ?_; refine Z275 ?_; refine Z248 ?_
  refine zck 3 rfl ?_
  refine Z44 ?_; refine Z4 ?_; refine Z266 ?_
  refine yb L (rs:=[.tmp 2]) rfl (fun _ _ h => h) Since.refl fun u H hH hle => ?_
  exact fun v hv => hv
set_option maxHeartbeats 1000000 in
theorem zt8 {S:Sto} {r:Int} (hn:S.R.length ≠ 0) (hr0:0 ≤ r) (hr1:r < 18446744073709551616) (hz:S.R.length ≤ 1000000000) {v:Value} {w:World} {B:Heap} (hB:B.Le (hp w)) (hv:RsS S v B) :
  Ret Tryz.prog 27 [v, .int .u64 r] w B (z31 (atS S r).1 (atS S r).2):=by
 obtain ⟨lv, pv, rfl, ⟨zs, hzs, hrow, hlv⟩, hpv⟩:=hv
 have hzl:zs.length = S.R.length:=by rw [← hzs, List.length_map]
 obtain ⟨p, c, rfl⟩:=zap hlv
 obtain ⟨p2, c2, rfl⟩:=zap hpv
 obtain ⟨k, hk⟩:∃ k:Nat, (k:Int) = if r = 0 then (S.R.length:Int) else r:=⟨(if r = 0 then (S.R.length:Int) else r).toNat, by split <;> omega⟩
 have hat:atS S r = match kpt S.R k with | some t => (t, 0) | none => ([], 14):=by rw [hk]; rfl
 have hk1:1 ≤ k:=by split at hk <;> omega
 obtain ⟨j, rfl⟩:∃ j, k = j + 1:=⟨k - 1, by omega⟩
 have hwl:IntKind.u64.wrap ((zs.length:Nat):Int) = ((zs.length:Nat):Int):=wrap_u64 (by omega) (by omega)
 have hws:IntKind.u64.wrap (((j + 1:Nat):Int) - 1) = ((j:Nat):Int):=(wrap_u64 (by omega) (by split at hk <;> omega)).trans (by omega)
 rw [zfx] at hat
 by_cases hr:r = 0
 ·rw [if_pos hr] at hk
  subst hr
  have hjl:j < S.R.length:=by omega
  obtain ⟨o, ho⟩:=zae hjl
  obtain ⟨v, hv⟩:=zld hzs ho
  have hc:=zr5 hv
  have hjz:zs.length = j + 1:=by omega
  rw [ho] at hat
  have hws2:IntKind.u64.wrap (((zs.length:Nat):Int) - 1) = ((j:Nat):Int):=by rw [hjz]; exact hws
  cases o with
  | none =>
   rw [hat]
   refine yc Tryz.func27 rfl Tryz.ntmps27 (Nat.le_of_ble_eq_true rfl) hB ?_
   refine Z329 ?_; refine Z188 ?_; refine Z288 ?_; refine Z29 ?_; refine Z275 ?_; refine z7 (zau rfl rfl rfl zbh.1 zbh.2 (wrap_u64 (by omega) (by omega))) rfl ?_; refine Z333 ?_; refine Z275 ?_; refine z7 (zau rfl rfl rfl zbh.1 zbh.2 (wrap_u64 (by omega) (by omega))) rfl ?_; refine Z386 ?_; refine Z220 ?_; refine Z231 ?_; refine z7 (qu L _ rfl rfl rfl rfl rfl rfl rfl (by first | omega | decide) (by assumption)) rfl ?_; refine Z365 ?_; refine Z287 ?_; refine Z323 ?_; refine Z186 ?_
   refine yb L (rs:=[.tmp 4, .tmp 5]) rfl (fun _ _ h => h) Since.refl fun u H hH hle => ?_
   exact zel SlV.nil
  | some t =>
   have hrz:US t false v B:=hrow (some t, v) (List.mem_of_getElem? hv)
   obtain ⟨p3, c3, rfl⟩:=zap hrz
   rw [hat]
   refine yc Tryz.func27 rfl Tryz.ntmps27 (Nat.le_of_ble_eq_true rfl) hB ?_
   refine Z329 ?_; refine Z188 ?_; refine Z288 ?_; refine Z29 ?_; refine Z275 ?_; refine z7 (zau rfl rfl rfl zbh.1 zbh.2 (wrap_u64 (by omega) (by omega))) rfl ?_; refine Z333 ?_; refine Z275 ?_; refine z7 (zau rfl rfl rfl zbh.1 zbh.2 (wrap_u64 (by omega) (by omega))) rfl ?_; refine Z386 ?_; refine Z220 ?_; refine Z231 ?_; refine z7 (qu L _ rfl rfl rfl rfl rfl rfl rfl (by first | omega | decide) (by assumption)) rfl ?_; refine Z365 ?_; refine Z287 ?_; refine Z162 ?_; refine Z37 ?_; refine Z220 ?_; refine Z231 ?_; refine z7 (qu L _ rfl rfl rfl rfl rfl rfl rfl (by first | omega | decide) (by assumption)) rfl ?_; refine Z365 ?_; refine Z186 ?_
   refine yb L (rs:=[.tmp 4, .tmp 5]) rfl (fun _ _ h => h) Since.refl fun u H hH hle => ?_
   exact zel (hrz.le hle)
 ·rw [if_neg hr] at hk
  subst hk
  by_cases hjl:j < S.R.length
  ·obtain ⟨o, ho⟩:=zae hjl
   obtain ⟨v, hv⟩:=zld hzs ho
   have hc:=zr5 hv
   rw [ho] at hat
   cases o with
   | none =>
    rw [hat]
    refine yc Tryz.func27 rfl Tryz.ntmps27 (Nat.le_of_ble_eq_true rfl) hB ?_
    refine Z329 ?_; refine Z188 ?_; refine Z281 ?_; refine Z173 ?_; refine Z275 ?_; refine z7 (zau rfl rfl rfl zbh.1 zbh.2 (wrap_u64 (by omega) (by omega))) rfl ?_; refine Z386 ?_; refine Z220 ?_; refine Z231 ?_; refine z7 (qu L _ rfl rfl rfl rfl rfl rfl rfl (by first | omega | decide) (by assumption)) rfl ?_; refine Z365 ?_; refine Z287 ?_; refine Z323 ?_; refine Z186 ?_
    refine yb L (rs:=[.tmp 4, .tmp 5]) rfl (fun _ _ h => h) Since.refl fun u H hH hle => ?_
    exact zel SlV.nil
   | some t =>
    have hrz:US t false v B:=hrow (some t, v) (List.mem_of_getElem? hv)
    obtain ⟨p3, c3, rfl⟩:=zap hrz
    rw [hat]
    refine yc Tryz.func27 rfl Tryz.ntmps27 (Nat.le_of_ble_eq_true rfl) hB ?_
    refine Z329 ?_; refine Z188 ?_; refine Z281 ?_; refine Z173 ?_; refine Z275 ?_; refine z7 (zau rfl rfl rfl zbh.1 zbh.2 (wrap_u64 (by omega) (by omega))) rfl ?_; refine Z386 ?_; refine Z220 ?_; refine Z231 ?_; refine z7 (qu L _ rfl rfl rfl rfl rfl rfl rfl (by first | omega | decide) (by assumption)) rfl ?_; refine Z365 ?_; refine Z287 ?_; refine Z162 ?_; refine Z37 ?_; refine Z220 ?_; refine Z231 ?_; refine z7 (qu L _ rfl rfl rfl rfl rfl rfl rfl (by first | omega | decide) (by assumption)) rfl ?_; refine Z365 ?_; refine Z186 ?_
    refine yb L (rs:=[.tmp 4, .tmp 5]) rfl (fun _ _ h => h) Since.refl fun u H hH hle => ?_
    exact zel (hrz.le hle)
  ·rw [List.getElem?_eq_none (by omega)] at hat
   rw [hat]
   refine yc Tryz.func27 rfl Tryz.ntmps27 (Nat.le_of_ble_eq_true rfl) hB ?_
   refine Z329 ?_; refine Z188 ?_; refine Z281 ?_; refine Z173 ?_; refine Z275 ?_; refine z7 (zau rfl rfl rfl zbh.1 zbh.2 (wrap_u64 (by omega) (by omega))) rfl ?_; refine Z40 ?_; refine Z343 ?_; refine Z223 ?_; refine Z323 ?_; refine Z186 ?_
   refine yb L (rs:=[.tmp 4, .tmp 5]) rfl (fun _ _ h => h) Since.refl fun u H hH hle => ?_
   exact zel SlV.nil
end Go.V.L10
set_option maxRecDepth 20000
namespace Go.V.L10
open Go.Proofs Go.RowKit Go.V Go.V.L2 Go.V.L8 Go.V.L6
theorem _root_.Go.V.Z370 {A B:Prop} (h:B) (t:Wr B → A:=by intro h; refine Z46 ?_; refine z8 (StepOK.seeV (qd L (ql rfl) rfl rfl rfl rfl) (by assumption)) rfl ?_; exact h.h):A:=t ⟨h⟩
theorem zy8 {φ:Value → Heap → Prop} {a v:Value} {H:Heap} (h:TupS [φ, fun v _ => v = a] v H):∃ tv, v = .tuple #[tv, a] ∧ φ tv H:=by
 obtain ⟨vs, rfl, hl, hp⟩:=h
 match vs, hl with
 | [x, y], _ =>
  have h2:=hp 1 _ y rfl rfl
  exact ⟨x, by rw [← h2], hp 0 _ x rfl rfl⟩
abbrev Wr10P (S:Sto) (rev e:Int):Value → Heap → Prop:=TupS [RsS S, fun v _ => v = .int .u64 rev, fun v _ => v = .int .i64 e]
theorem z4c {φ:Value → Heap → Prop} {a b v:Value} {H:Heap} (h:φ v H):TupS [φ, fun v _ => v = a, fun v _ => v = b] (.tuple #[v, a, b]) H:=by
 refine ⟨[v, a, b], rfl, rfl, fun i ψ x hi hx => ?_⟩
 rcases i with _ | _ | _ | i
 ·cases hi; cases hx; exact h
 ·cases hi; cases hx; rfl
 ·cases hi; cases hx; rfl
 ·cases hi
theorem Wr10P.mono {S:Sto} {rev e:Int}:Kn.mono (.sat (Wr10P S rev e)):=TupS.mono fun ψ hψ => by
 simp only [List.mem_cons, List.mem_nil_iff, or_false] at hψ
 rcases hψ with rfl | rfl | rfl
 ·exact RsS.mono
 ·exact fun _ _ _ h _ => h
 ·exact fun _ _ _ h _ => h
attribute [local irreducible] V N X VO Par StepOK Has Ret RetL RetO RetT zb8 zdn RetY Src
set_option maxHeartbeats 4000000 in
set_option maxRecDepth 20000 in
theorem zno {S S':Sto} {l cs:List CH} {rev e:Int} {fl fc:Bool} (hI:z3v S) (hR:S.R.length ≤ 100000) (hn:S.R.length ≠ 0) (hss:∀ r t, kpt S.R r = some t → Sst zbd t ∧ ∀ x ∈ t, TZ x) (zl:∀ c ∈ l, TM c.1) (zc:∀ c ∈ cs, TM c.1) (ll:l.length ≤ 9223372036854775807) (lc:cs.length ≤ 9223372036854775807) (hw:zen S l cs = (S', rev, e)) {v lv cv:Value} {w:World} {B:Heap} (hB:B.Le (hp w)) (hv:RsS S v B) (hl:KS tyM l fl lv B) (hc:KS tyC cs fc cv B) :
  Ret Tryz.prog 53 [v, lv, cv] w B (Wr10P S' rev e):=by
 obtain ⟨rv, pv, rfl, ⟨zs, hzs, hrow, hrv⟩, hpv⟩:=hv
 have hzl:zs.length = S.R.length:=by rw [← hzs, List.length_map]
 obtain ⟨p, c, rfl⟩:=zap hrv
 obtain ⟨p2, c2, rfl⟩:=zap hpv
 obtain ⟨t0, ht0⟩:∃ t0, kpt S.R S.R.length = some t0:=Option.isSome_iff_exists.1 hI.last
 have hA:atS S 0 = (t0, 0):=by unfold atS; rw [if_pos rfl, ht0]
 have ht4:=hI.tl _ _ ht0
 have hts:=hss _ _ ht0
 obtain ⟨⟨t1, made, e1⟩, hwr⟩:∃ x, zec t0 l cs = x:=⟨_, rfl⟩
 unfold zen at hw
 rw [hA, hwr] at hw
 dsimp only at hw
 obtain ⟨j, hj⟩:∃ j, zs.length = j + 1:=⟨zs.length - 1, by omega⟩
 have hws:IntKind.i64.wrap (((zs.length:Nat):Int) - 1) = ((j:Nat):Int):=(zaa (by omega) (by omega)).trans (by omega)
 obtain ⟨v0, hv0⟩:∃ v, zs[j]? = some (some t0, v):=zld hzs (by
  obtain ⟨o, ho⟩:=zae (show j < S.R.length by omega)
  have h2:S.R.length = j + 1:=by omega
  rw [h2, zfx, ho] at ht0
  cases o with
  | none => cases ht0
  | some t => cases ht0; exact ho)
 have hrz:US t0 false v0 B:=hrow (some t0, v0) (List.mem_of_getElem? hv0)
 obtain ⟨p3, c3, rfl⟩:=zap hrz
 have hc0:=zr5 hv0
 have hkl:=zj8 S.R S.R.length
 refine yc Tryz.func53 rfl Tryz.ntmps53 (Nat.le_of_ble_eq_true rfl) hB ?_
 refine zax 1 (KS tyM l fl) rfl SlV.mono hl ?_
 refine zax 2 (KS tyC cs fc) rfl SlV.mono hc ?_
 refine Z157 ?_; refine Z260 ?_; refine Z160 ?_; refine Z220 ?_; refine Z275 ?_; refine Z25 ?_; refine z7 (qu L _ rfl rfl rfl rfl rfl rfl rfl (by first | omega | decide) (by assumption)) rfl ?_; refine Z365 ?_; refine Z384 ?_; refine z7 (yq (φ:=RWriteP t1 made e1) L rfl rfl (zk rfl) rfl rfl rfl RWriteP.mono (fun u H hH hle _ v1 h1 v2 h2 => zo8 zl zc ll lc ht4 hts.1 hts.2 hwr hH (hrz.le hle) h1 h2)) rfl ?_; refine zbl 25 rfl fun v1 H1 hs1 hp1 => ?_; obtain ⟨tv, mv, rfl, htv, hmv⟩:=hp1; obtain ⟨p4, c4, rfl⟩:=zap htv; refine Z172 ?_; refine Z13 ?_; refine Z2 ?_; refine Z225 ?_
 have hrow1:=hrow.le hs1.le
 have hrv1:=hrv.le hs1.le
 have hpv1:=hpv.le hs1.le
 by_cases he:e1 = 0
 ·subst he
  rw [if_pos rfl] at hw
  by_cases hk:1024 ≤ (za8 S.R).length
  ·rw [if_pos hk] at hw
   cases hw
   refine Z175 ?_; refine Z26 ?_; refine Z1 ?_; refine z7 (zw L (vs:=[_, _]) (ql rfl) rfl rfl rfl rfl ⟨_, rfl⟩) rfl ?_; refine z7 (yq (φ:=RsV (za8 S.R) false) L rfl rfl (zk rfl) rfl rfl rfl SlV.mono (fun u H hH hle _ => ze4 hzs (by omega) ⟨_, _, _, rfl⟩ hH (hrv1.le hle))) rfl ?_; refine Z11 ?_; refine Z41 ?_; refine Z257 ?_; refine Z28 ?_; refine Z148 ?_; refine Z161 ?_; refine Z222 ?_; refine Z37 ?_; refine z7 (zw L (vs:=[_, _]) (ql rfl) rfl rfl rfl rfl ⟨_, rfl⟩) rfl ?_; refine Z1 ?_; refine Z18 ?_; refine Z186 ?_
   refine yb L (rs:=[.cell 6 32, .tmp 7, .tmp 8]) rfl (fun _ _ h => h) hs1 fun u H hH hle => ?_
   exact ⟨_, yk rfl, rfl, z4c ⟨_, _, rfl, ⟨zs, hzs, hrow1.le hle, hrv1.le hle⟩, hpv1.le hle⟩⟩
  ·rw [if_neg hk] at hw
   cases hw
   have hlen:(zs.flatMap rrc).length = zs.length * 2:=zch zhp zs
   have hpl:=zqj hrow
   have hwu:IntKind.u64.wrap ((zs.length + 1:Nat):Int) = ((S.R.length + 1:Nat):Int):=(wrap_u64 (by omega) (by omega)).trans (by omega)
   refine Z175 ?_; refine Z26 ?_; refine Z1 ?_; refine z7 (zw L (vs:=[_, _]) (ql rfl) rfl rfl rfl rfl ⟨_, rfl⟩) rfl ?_; refine z7 (yq (φ:=RsV (za8 S.R) false) L rfl rfl (zk rfl) rfl rfl rfl SlV.mono (fun u H hH hle _ => ze4 hzs (by omega) ⟨_, _, _, rfl⟩ hH (hrv1.le hle))) rfl ?_; refine Z11 ?_; refine Z47 ?_; refine Z8 ?_; refine Z168 ?_; refine Z161 ?_; refine Z234 ?_
   refine qf (id:=6) [(47, [43]), (50, [47]), (100012, [50])] mixed (by kernel_rfl) ?_; refine Z370 ?_; refine z8 (zc0 L rfl rfl rfl (zh4 rfl) rfl z4z hlen hpl (by omega) (by omega)) rfl ?_; refine Z3 ?_; refine z8 (yv (cs:=[_, _]) rfl rfl z4e rfl rfl) rfl ?_; refine Z121 ?_; refine za4 (StepOK2.turn (zce (q:=43) L rfl rfl rfl (zh5 rfl) rfl z4z rfl rfl (by omega) (by omega)) (zy4 (Nat.succ_ne_zero _))) rfl rfl ?_; refine Z224 ?_; refine za4 (zlh (q:=47) (X:=z49 2 (zs.length + 1) _) (fun x => [(0, .slice (some ⟨x.1.1, 0, none⟩) (zs.length + 1) x.1.2.1), (1, .slice p2 S.P.length c2)]) (fun x => [.slice (some ⟨x.1.1, 0, none⟩) (zs.length + 1) x.1.2.1, .slice p2 S.P.length c2]) rfl rfl rfl rfl z2a (fun _ => rfl) (fun _ => by rfl)) rfl rfl ?_; refine z8 (yf L rfl rfl rfl rfl) rfl ?_; refine za4 (zlg L (q:=50) rfl (fun _ => by exact ⟨rfl, rfl⟩) rfl rfl rfl rfl rfl) rfl rfl ?_; refine Z301 ?_
   refine zi6 12 902 rfl fun x => ?_
   obtain ⟨b12, ⟨b47, cap, rest⟩, hcap, _, hfl⟩:=x
   dsimp only at hcap hfl ⊢
   rw [zoj]
   refine zf4 902 903 rfl (zaw _) ?_
   refine zzq 903 rfl fun H2 hs2 _ hb47 => ?_
   refine qf (id:=7) [(200051, [902]), (200053, [902])] mixed (by kernel_rfl) ?_; refine qp (zao L (q:=902) (vs:=[_, _]) rfl rfl rfl rfl rfl rfl ⟨_, rfl⟩) rfl rfl ?_; refine Z27 ?_; refine qp (qq L (q:=902) rfl rfl rfl rfl rfl rfl) rfl rfl ?_; refine z8 (zmn L rfl rfl rfl rfl) rfl ?_; refine z8 (zau rfl rfl rfl zbh.1 zbh.2 (wrap_u64 (by omega) (by omega))) rfl ?_; refine Z111 ?_; refine Z39 ?_; refine Z185 ?_
   refine yb L (rs:=[.cell 6 32, .tmp 7, .tmp 8]) rfl (fun _ _ h => h) (hs1.trans hs2) fun u H hH hle => ?_
   have hrow2:RowOK (zs ++ [(some t1, .slice p4 t1.length c4)]) H2:=fun z hz => by
    rcases List.mem_append.1 hz with hz | hz
    ·exact (hrow1.le hs2.le) z hz
    ·rw [List.mem_singleton.1 hz]; exact htv.le hs2.le
   have hfm:(zs ++ [(some t1, Value.slice p4 t1.length c4)]).flatMap rrc = zs.flatMap rrc ++ [.bool true, .slice p4 t1.length c4]:=by rw [List.flatMap_append]; rfl
   have hrv2:RwV (zs ++ [(some t1, .slice p4 t1.length c4)]) (.slice (some ⟨b47, 0, none⟩) (zs.length + 1) cap) H2:=by
    unfold RwV
    rw [hfm, List.length_append, List.length_singleton]
    exact ⟨by rw [List.length_append, hlen]; simp; omega, .inr ⟨b47, 0, cap, _, _, _, rfl, hb47, (by show (((zs.flatMap rrc ++ ([.bool true, .slice p4 t1.length c4]:List Value)) ++ rest).drop 0).take _ = _; rw [List.drop_zero]; exact List.take_left), hcap, fun h => by cases h⟩⟩
   rw [show S.R.length + 1 = zs.length + 1 by omega]
   exact ⟨_, yk rfl, rfl, z4c ⟨_, _, rfl, ⟨_, by rw [List.map_append, hzs]; rfl, hrow2.le hle, hrv2.le hle⟩, (hpv1.le hs2.le).le hle⟩⟩
 ·rw [if_neg he] at hw
  cases hw
  refine Z175 ?_; refine Z15 ?_; refine Z319 ?_; refine Z168 ?_; refine Z161 ?_; refine Z222 ?_; refine Z37 ?_; refine z7 (zw L (vs:=[_, _]) (ql rfl) rfl rfl rfl rfl ⟨_, rfl⟩) rfl ?_; refine Z1 ?_; refine Z18 ?_; refine Z186 ?_
  refine yb L (rs:=[.cell 6 32, .tmp 7, .tmp 8]) rfl (fun _ _ h => h) hs1 fun u H hH hle => ?_
  exact ⟨_, yk rfl, rfl, z4c ⟨_, _, rfl, ⟨zs, hzs, hrow1.le hle, hrv1.le hle⟩, hpv1.le hle⟩⟩
abbrev Pn10P (S:Sto) (e:Int):Value → Heap → Prop:=TupS [RsS S, fun v _ => v = .int .i64 e]
theorem Pn10P.mono {S:Sto} {e:Int}:Kn.mono (.sat (Pn10P S e)):=zfs RsS.mono
set_option maxHeartbeats 1000000 in
set_option maxRecDepth 20000 in
theorem zlc {S S':Sto} {r e:Int} {un:Bool} (hR:S.R.length ≤ 1000000000) (hr0:0 ≤ r) (hr1:r < 18446744073709551616) (hz:S.P.length ≤ 1000) (hpos:∀ x ∈ S.P, 0 < x) (hpn:zn0 S r un = (S', e)) {v:Value} {w:World} {B:Heap} (hB:B.Le (hp w)) (hv:RsS S v B) :
  Ret Tryz.prog 54 [v, .int .u64 r, .bool un] w B (Pn10P S' e):=by
 obtain ⟨rv, pv, rfl, ⟨zs, hzs, hrow, hrv⟩, hpv⟩:=hv
 have hzl:zs.length = S.R.length:=by rw [← hzs, List.length_map]
 obtain ⟨p, c, rfl⟩:=zap hrv
 obtain ⟨p2, c2, rfl⟩:=zap hpv
 have hwl:IntKind.u64.wrap ((zs.length:Nat):Int) = ((zs.length:Nat):Int):=wrap_u64 (by omega) (by omega)
 unfold zn0 at hpn
 by_cases hk:(kpt S.R r).isSome = true
 ·rw [if_pos hk] at hpn
  obtain ⟨k0, k1⟩:=zfd hk
  obtain ⟨j, rfl⟩:∃ j:Nat, r = ((j + 1:Nat):Int):=⟨(r - 1).toNat, by omega⟩
  have hws:IntKind.u64.wrap (((j + 1:Nat):Int) - 1) = ((j:Nat):Int):=(wrap_u64 (by omega) (by omega)).trans (by omega)
  rw [zfx] at hk
  obtain ⟨o, ho⟩:=zae (show j < S.R.length by omega)
  rw [ho] at hk
  cases o with
  | none => cases hk
  | some t =>
   obtain ⟨v, hv⟩:=zld hzs ho
   have hc:=zr5 hv
   obtain ⟨⟨P1, e1⟩, hu⟩:∃ x, zfl S.P ((j + 1:Nat):Int) = x:=⟨_, rfl⟩
   refine yc Tryz.func54 rfl Tryz.ntmps54 (Nat.le_of_ble_eq_true rfl) hB ?_
   refine Z357 ?_; refine Z188 ?_; refine Z15 ?_; refine Z141 ?_; refine Z275 ?_; refine z7 (zau rfl rfl rfl zbh.1 zbh.2 (wrap_u64 (by omega) (by omega))) rfl ?_; refine Z302 ?_; refine Z1 ?_; refine Z220 ?_; refine Z231 ?_; refine z7 (qu L _ rfl rfl rfl rfl rfl rfl rfl (by first | omega | decide) (by assumption)) rfl ?_; refine Z365 ?_; refine Z287 ?_; refine Z162 ?_; refine Z28 ?_; refine Z220 ?_; refine Z1 ?_; refine z7 (yq (φ:=RP2 (S.P ++ [((j + 1:Nat):Int)]) 0) L rfl rfl (zk rfl) rfl rfl rfl zqk (fun u H hH hle _ v1 h1 => zw1 (by omega) hpos hz hH h1)) rfl ?_; refine zbl 35 rfl fun v1 H1 hs1 hp1 => ?_; obtain ⟨tv, rfl, htv⟩:=zy8 hp1; obtain ⟨p4, c4, rfl⟩:=zap htv; refine Z347 ?_
   have hrow1:=hrow.le hs1.le
   have hrv1:=hrv.le hs1.le
   have hpv1:=hpv.le hs1.le
   cases un with
   | false =>
    rw [if_neg (by decide)] at hpn
    cases hpn
    refine Z161 ?_; refine Z168 ?_; refine Z192 ?_; refine Z234 ?_; refine Z57 ?_; refine Z181 ?_; refine Z1 ?_; refine z7 (yv (cs:=[_, _]) rfl rfl z2a rfl rfl) rfl ?_; refine Z235 ?_
    refine yb L (rs:=[.cell 6 32, .tmp 7]) rfl (fun _ _ h => h) hs1 fun u H hH hle => ?_
    exact ⟨_, yk rfl, rfl, zel ⟨_, _, rfl, ⟨zs, hzs, hrow1.le hle, hrv1.le hle⟩, htv.le hle⟩⟩
   | true =>
    rw [if_pos rfl, hu] at hpn
    dsimp only at hpn
    refine Z161 ?_; refine Z145 ?_; refine Z37 ?_; refine Z220 ?_; refine Z1 ?_; refine z7 (yq (φ:=RP2 P1 e1) L rfl rfl (zk rfl) rfl rfl rfl zqk (fun u H hH hle _ v1 h1 => zr4 hu hz hH h1)) rfl ?_; refine zbl 43 rfl fun v1 H2 hs2 hp2 => ?_; obtain ⟨uv, rfl, huv⟩:=zy8 hp2; obtain ⟨p5, c5, rfl⟩:=zap huv; refine Z347 ?_
    have hrow2:=hrow1.le hs2.le
    have hrv2:=hrv1.le hs2.le
    have hpv2:=hpv1.le hs2.le
    by_cases h0:e1 = 0
    ·subst h0
     rw [if_pos rfl] at hpn
     cases hpn
     refine Z192 ?_; refine Z234 ?_; refine Z57 ?_; refine Z181 ?_; refine Z1 ?_; refine z7 (yv (cs:=[_, _]) rfl rfl z2a rfl rfl) rfl ?_; refine Z235 ?_
     refine yb L (rs:=[.cell 6 32, .tmp 7]) rfl (fun _ _ h => h) (hs1.trans hs2) fun u H hH hle => ?_
     exact ⟨_, yk rfl, rfl, zel ⟨_, _, rfl, ⟨zs, hzs, hrow2.le hle, hrv2.le hle⟩, huv.le hle⟩⟩
    ·rw [if_neg h0] at hpn
     cases hpn
     refine Z192 ?_; refine Z222 ?_; refine Z44 ?_; refine z7 (zw L (vs:=[_, _]) (ql rfl) rfl rfl rfl rfl ⟨_, rfl⟩) rfl ?_; refine Z1 ?_; refine Z235 ?_
     refine yb L (rs:=[.cell 6 32, .tmp 7]) rfl (fun _ _ h => h) (hs1.trans hs2) fun u H hH hle => ?_
     exact ⟨_, yk rfl, rfl, zel ⟨_, _, rfl, ⟨zs, hzs, hrow2.le hle, hrv2.le hle⟩, hpv2.le hle⟩⟩
 ·rw [if_neg hk] at hpn
  cases hpn
  by_cases hr:r = 0
  ·refine yc Tryz.func54 rfl Tryz.ntmps54 (Nat.le_of_ble_eq_true rfl) hB ?_
   refine Z357 ?_; refine Z188 ?_; refine Z26 ?_; refine Z291 ?_; refine Z223 ?_; refine Z343 ?_; refine Z223 ?_; refine Z208 ?_; refine z7 (zw L (vs:=[_, _]) (ql rfl) rfl rfl rfl rfl ⟨_, rfl⟩) rfl ?_; refine Z235 ?_
   refine yb L (rs:=[.cell 6 32, .tmp 7]) rfl (fun _ _ h => h) Since.refl fun u H hH hle => ?_
   exact ⟨_, yk rfl, rfl, zel ⟨_, _, rfl, ⟨zs, hzs, hrow.le hle, hrv.le hle⟩, hpv.le hle⟩⟩
  ·obtain ⟨j, rfl⟩:∃ j:Nat, r = ((j + 1:Nat):Int):=⟨(r - 1).toNat, by omega⟩
   have hws:IntKind.u64.wrap (((j + 1:Nat):Int) - 1) = ((j:Nat):Int):=(wrap_u64 (by omega) (by omega)).trans (by omega)
   by_cases hjl:j < S.R.length
   ·rw [zfx] at hk
    obtain ⟨o, ho⟩:=zae hjl
    rw [ho] at hk
    cases o with
    | some t => exact absurd rfl hk
    | none =>
     obtain ⟨v, hv⟩:=zld hzs ho
     have hc:=zr5 hv
     refine yc Tryz.func54 rfl Tryz.ntmps54 (Nat.le_of_ble_eq_true rfl) hB ?_
     refine Z357 ?_; refine Z188 ?_; refine Z15 ?_; refine Z141 ?_; refine Z275 ?_; refine z7 (zau rfl rfl rfl zbh.1 zbh.2 (wrap_u64 (by omega) (by omega))) rfl ?_; refine Z302 ?_; refine Z1 ?_; refine Z220 ?_; refine Z231 ?_; refine z7 (qu L _ rfl rfl rfl rfl rfl rfl rfl (by first | omega | decide) (by assumption)) rfl ?_; refine Z365 ?_; refine Z287 ?_; refine Z208 ?_; refine z7 (zw L (vs:=[_, _]) (ql rfl) rfl rfl rfl rfl ⟨_, rfl⟩) rfl ?_; refine Z235 ?_
     refine yb L (rs:=[.cell 6 32, .tmp 7]) rfl (fun _ _ h => h) Since.refl fun u H hH hle => ?_
     exact ⟨_, yk rfl, rfl, zel ⟨_, _, rfl, ⟨zs, hzs, hrow.le hle, hrv.le hle⟩, hpv.le hle⟩⟩
   ·refine yc Tryz.func54 rfl Tryz.ntmps54 (Nat.le_of_ble_eq_true rfl) hB ?_
    refine Z357 ?_; refine Z188 ?_; refine Z15 ?_; refine Z141 ?_; refine Z275 ?_; refine z7 (zau rfl rfl rfl zbh.1 zbh.2 (wrap_u64 (by omega) (by omega))) rfl ?_; refine Z40 ?_; refine Z8 ?_; refine Z343 ?_; refine Z223 ?_; refine Z208 ?_; refine z7 (zw L (vs:=[_, _]) (ql rfl) rfl rfl rfl rfl ⟨_, rfl⟩) rfl ?_; refine Z235 ?_
    refine yb L (rs:=[.cell 6 32, .tmp 7]) rfl (fun _ _ h => h) Since.refl fun u H hH hle => ?_
    exact ⟨_, yk rfl, rfl, zel ⟨_, _, rfl, ⟨zs, hzs, hrow.le hle, hrv.le hle⟩, hpv.le hle⟩⟩
end Go.V.L10
set_option maxRecDepth 20000
namespace Go.V.L10
open Go.Proofs Go.RowKit Go.V Go.V.L2 Go.V.L8 Go.V.L6
theorem zq9 {α:Type} {f:α → List Value} {l:List α} {i:Nat} {x:α} (h:l[i]? = some x) (rest:List Value):l.flatMap f ++ rest = (l.take i).flatMap f ++ (f x ++ ((l.drop (i + 1)).flatMap f ++ rest)):=by
 have hi:=get_lt h
 have e:l = l.take i ++ x :: l.drop (i + 1):=by
  rw [show x :: l.drop (i + 1) = l.drop i by rw [List.drop_eq_getElem_cons hi, zea h], List.take_append_drop]
 conv => lhs; rw [e, List.flatMap_append, List.flatMap_cons]
 simp only [List.append_assoc]
theorem z29 {α:Type} {f:α → List Value} {s:Nat} (hf:∀ a, (f a).length = s) {l:List α} {i:Nat} {x:α} (h:l[i]? = some x) (y:α) (rest:List Value):(l.flatMap f ++ rest).take (0 + i * s) ++ (f y ++ (l.flatMap f ++ rest).drop (0 + i * s + s)) = (l.set i y).flatMap f ++ rest:=by
 have hi:=get_lt h
 have hl:((l.take i).flatMap f).length = i * s:=by rw [zch hf, List.length_take, Nat.min_eq_left (Nat.le_of_lt hi)]
 have hs:(l.set i y)[i]? = some y:=by rw [List.getElem?_set_self hi]
 rw [zq9 h rest, zq9 hs rest, List.take_set_of_le (Nat.le_refl _), List.drop_set_of_lt (Nat.lt_succ_self i)]
 have hx:=hf x
 generalize (l.take i).flatMap f = A at hl ⊢
 generalize (l.drop (i + 1)).flatMap f ++ rest = T
 have e1:(A ++ (f x ++ T)).take (0 + i * s) = A:=by rw [Nat.zero_add, ← hl]; exact List.take_left
 have e2:(A ++ (f x ++ T)).drop (0 + i * s + s) = T:=by
  rw [← List.append_assoc, Nat.zero_add, ← hl]
  exact List.drop_left' (by rw [List.length_append, hx])
 rw [e1, e2]
def z07 (zs:List zk0) (g:Int):List zk0:=zs.set (g - 1).toNat (none, .slice none 0 0)
def zh2 (zs:List zk0) (l:List Int):List zk0:=l.foldl z07 zs
theorem zs4 {zs:List zk0} {l:List Int} {i:Nat} {g:Int} (h:l[i]? = some g):zh2 zs (l.take (i + 1)) = z07 (zh2 zs (l.take i)) g:=by
 unfold zh2; rw [zbj h, List.foldl_append]; rfl
theorem zya (zs:List zk0) (g:Int):(z07 zs g).map (·.1) = clr (zs.map (·.1)) g:=by unfold z07 clr; rw [List.map_set]
theorem zkl:∀ (l:List Int) (zs:List zk0), (zh2 zs l).map (·.1) = clrL (zs.map (·.1)) l
 | [], _ => rfl
 | g :: l, zs => by
  have:=zkl l (z07 zs g)
  rw [zya] at this
  exact this
theorem zv0 (l:List Int) (zs:List zk0):(zh2 zs l).length = zs.length:=by
 have:=congrArg List.length (zkl l zs)
 rw [List.length_map, zd9, List.length_map] at this
 exact this
theorem RowOK.clr {zs:List zk0} {H:Heap} (h:RowOK zs H) (g:Int):RowOK (z07 zs g) H:=fun z hz => by
 rcases List.mem_or_eq_of_mem_set hz with hz | rfl
 ·exact h z hz
 ·exact SlV.nil
theorem RowOK.clrL:∀ {l:List Int} {zs:List zk0} {H:Heap}, RowOK zs H → RowOK (zh2 zs l) H
 | [], _, _, h => h
 | g :: l, _, _, h => RowOK.clrL (l:=l) (h.clr g)
attribute [local irreducible] V N X VO Par StepOK Has Ret RetL RetO RetT zb8 zdn RetY Src
def Cl10P (S:Sto) (g:List Int) (e:Int):Value → Heap → Prop:=fun v H => ∃ sv gv, v = .tuple #[sv, gv, .int .i64 e] ∧ RsS S sv H ∧ RsV g false gv H
set_option maxHeartbeats 1000000 in
set_option maxRecDepth 20000 in
theorem zkv {S:Sto} {keep:Int} (hn:S.R.length ≠ 0) (hR:S.R.length ≤ 100000) (hz:S.P.length ≤ 100000) {v:Value} {w:World} {B:Heap} (hB:B.Le (hp w)) (hv:RsS S v B) :
  Ret Tryz.prog 55 [v, .int .i64 keep] w B (Cl10P (zdd S keep).1 (zdd S keep).2.1 (zdd S keep).2.2):=by
 obtain ⟨rv, pv, rfl, ⟨zs, hzs, hrow, hrv⟩, hpv⟩:=hv
 have hzl:zs.length = S.R.length:=by rw [← hzs, List.length_map]
 obtain ⟨p, c, rfl⟩:=zap hrv
 obtain ⟨p2, c2, rfl⟩:=zap hpv
 have hkl:=zj8 S.R S.R.length
 by_cases hk1:keep < 1
 ·have hS:zdd S keep = (S, [], 4):=by unfold zdd; rw [if_neg (by omega)]
  rw [hS]
  refine yc Tryz.func55 rfl Tryz.ntmps55 (Nat.le_of_ble_eq_true rfl) hB ?_
  refine Z157 ?_; refine Z260 ?_; refine Z188 ?_; refine Z7 ?_; refine Z187 ?_; refine Z8 ?_; refine Z208 ?_; refine z7 (zw L (vs:=[_, _]) (ql rfl) rfl rfl rfl rfl ⟨_, rfl⟩) rfl ?_; refine Z18 ?_; refine Z186 ?_
  refine yb L (rs:=[.cell 4 32, .tmp 5, .tmp 6]) rfl (fun _ _ h => h) Since.refl fun u H hH hle => ?_
  exact ⟨_, yk rfl, rfl, _, _, rfl, ⟨_, _, rfl, ⟨zs, hzs, hrow.le hle, hrv.le hle⟩, hpv.le hle⟩, SlV.nil⟩
 ·by_cases hk2:1024 < keep
  ·have hS:zdd S keep = (S, [], 4):=by unfold zdd; rw [if_neg (by omega)]
   rw [hS]
   refine yc Tryz.func55 rfl Tryz.ntmps55 (Nat.le_of_ble_eq_true rfl) hB ?_
   refine Z157 ?_; refine Z260 ?_; refine Z188 ?_; refine Z10 ?_; refine Z141 ?_; refine Z40 ?_; refine Z8 ?_; refine Z208 ?_; refine z7 (zw L (vs:=[_, _]) (ql rfl) rfl rfl rfl rfl ⟨_, rfl⟩) rfl ?_; refine Z18 ?_; refine Z186 ?_
   refine yb L (rs:=[.cell 4 32, .tmp 5, .tmp 6]) rfl (fun _ _ h => h) Since.refl fun u H hH hle => ?_
   exact ⟨_, yk rfl, rfl, _, _, rfl, ⟨_, _, rfl, ⟨zs, hzs, hrow.le hle, hrv.le hle⟩, hpv.le hle⟩, SlV.nil⟩
  ·obtain ⟨k, rfl⟩:∃ k:Nat, keep = (k:Int):=⟨keep.toNat, by omega⟩
   have hS:zdd S k = (⟨clrL S.R (zdb S.P (za8 S.R) k), S.P⟩, zdb S.P (za8 S.R) k, 0):=by unfold zdd; rw [if_pos (by omega)]; rfl
   rw [hS]
   have hgp:∀ x ∈ zdb S.P (za8 S.R) k, 0 < x ∧ x ≤ S.R.length:=fun x hx => by
    unfold zdb at hx
    exact zfd (zd6.1 (List.mem_of_mem_take (List.mem_filter.1 hx).1))
   have hgl:(zdb S.P (za8 S.R) k).length ≤ 100000:=by
    unfold zdb
    refine Nat.le_trans (List.length_filter_le ..) ?_
    rw [List.length_take]
    have:(za8 S.R).length ≤ S.R.length:=hkl
    omega
   generalize hg:zdb S.P (za8 S.R) k = g at hgp hgl
   have hlen:(zs.flatMap rrc).length = zs.length * 2:=zch zhp zs
   have hpl:=zqj hrow
   refine yc Tryz.func55 rfl Tryz.ntmps55 (Nat.le_of_ble_eq_true rfl) hB ?_
   refine Z157 ?_; refine Z260 ?_; refine Z188 ?_; refine Z10 ?_; refine Z141 ?_; refine Z302 ?_; refine Z162 ?_
   refine Z85 ?_; refine Z370 ?_; refine z8 (zw L (vs:=[_, _]) (ql rfl) rfl rfl rfl rfl ⟨_, rfl⟩) rfl ?_; refine z8 (yq (φ:=RsV (za8 S.R) false) L rfl rfl (zk rfl) rfl rfl rfl SlV.mono (fun u H hH hle _ => ze4 hzs (by omega) ⟨_, _, _, rfl⟩ hH (hrv.le hle))) rfl ?_; refine Z3 ?_; refine z8 (yq (φ:=RsV g false) L rfl rfl (zk rfl) rfl rfl rfl SlV.mono (fun u H hH hle _ v1 h1 v2 h2 => by rw [← hg]; exact zt2 hz (Nat.le_trans hkl hR) (by omega) hH h1 h2)) rfl ?_; refine Z91 ?_; refine Z301 ?_
   refine qf (id:=4) [(28, [25]), (100008, [28])] mixed (by kernel_rfl) ?_; refine Z370 ?_; refine z8 (StepOK.turn (zc0 L rfl rfl rfl (zh4 rfl) rfl z4z hlen hpl (by omega) (by omega)) (zy4 (by omega))) rfl ?_; refine Z224 ?_; refine za4 (zlh (q:=25) (X:=z49 2 zs.length _) (fun x => [(0, .slice (some ⟨x.1.1, 0, none⟩) zs.length x.1.2.1), (1, .slice p2 S.P.length c2)]) (fun x => [.slice (some ⟨x.1.1, 0, none⟩) zs.length x.1.2.1, .slice p2 S.P.length c2]) rfl rfl rfl rfl z2a (fun _ => rfl) (fun _ => by rfl)) rfl rfl ?_; refine z8 (yf L rfl rfl rfl rfl) rfl ?_; refine za4 (zlg L (q:=28) rfl (fun _ => by exact ⟨rfl, rfl⟩) rfl rfl rfl rfl rfl) rfl rfl ?_; refine Z150 ?_; refine Z140 ?_
   refine zi6 8 902 rfl fun x => ?_
   obtain ⟨b8, ⟨b25, cap, rest⟩, hcap, _, hfl⟩:=x
   try dsimp only at hcap hfl ⊢
   rw [zoj]
   refine zf4 902 903 rfl (zaw _) ?_
   refine Z37 ?_; refine Z203 ?_
   refine zak (fun y:Nat => [(4, .own (zez [.slice none 0 0, .slice none 0 0] z4b)), (7, .sat (RsV g false)), (8, .is (.pointer (some ⟨b8, 0, none⟩))), (9, .is (.int .i64 y)), (902, .own (zal b8 [.slice (some ⟨b25, 0, none⟩) zs.length cap, .slice p2 S.P.length c2] z4b)), (903, .own (zal b25 ((zh2 zs (g.take y)).flatMap rrc ++ rest) z5g))])
    (fun y => y ≤ g.length) (fun y => g.length - y) 0 (Nat.zero_le _) ⟨rfl, rfl, rfl, rfl, rfl, rfl, trivial⟩ ?_
   rintro i hi
   try dsimp only at hi ⊢
   have hzc:=zv0 (g.take i) zs
   by_cases hlt:i < g.length
   ·obtain ⟨x, hx⟩:=zae hlt
    have hc:=zih hx
    have hxp:=hgp x (List.mem_of_getElem? hx)
    obtain ⟨j, rfl⟩:∃ j:Nat, x = ((j + 1:Nat):Int):=⟨(x - 1).toNat, by omega⟩
    have hws:IntKind.u64.wrap (((j + 1:Nat):Int) - 1) = ((j:Nat):Int):=(wrap_u64 (by omega) (by omega)).trans (by omega)
    have hwk:IntKind.i64.wrap ((i:Int) + 1) = ((i + 1:Nat):Int):=zaa (by omega) (by omega)
    obtain ⟨z0, hz0⟩:=zae (show j < (zh2 zs (g.take i)).length by omega)
    have hst:=z29 zhp hz0 (none, .slice none 0 0) rest
    have hble:Nat.ble (0 + j * 2 + 2) ((zh2 zs (g.take i)).flatMap rrc ++ rest).length = true:=Nat.ble_eq_true_of_le (by rw [List.length_append, zch zhp]; omega)
    have hnx:(zh2 zs (g.take i)).set j (none, .slice none 0 0) = zh2 zs (g.take (i + 1)):=by
     rw [zs4 hx]; unfold z07; congr 1; omega
    rw [hnx] at hst
    refine Z140 ?_; refine Z192 ?_; refine Z151 ?_; refine Z177 ?_; refine Z236 ?_
    refine qf (id:=8) [(200036, [902]), (100043, [903])] mixed (by kernel_rfl) ?_; refine Z27 ?_; refine qp (qq L (q:=902) rfl rfl rfl rfl rfl rfl) rfl rfl ?_; refine Z198 ?_; refine z8 (qu L _ rfl rfl rfl rfl rfl rfl rfl (by first | omega | decide) (by assumption)) rfl ?_; refine Z110 ?_; refine Z58 ?_; refine z8 (yv (cs:=[_, _]) rfl rfl z4e rfl rfl) rfl ?_; refine z8 (qg L _ rfl rfl rfl rfl rfl rfl rfl (by omega)) rfl ?_; refine zag (yw L (q:=903) rfl rfl rfl rfl rfl rfl hble rfl hst) rfl ?_; refine Z282 ?_; refine Z196 ?_; refine Z217 ?_
    exact yi (x:=i) (i + 1) hlt (by omega) ⟨rfl, rfl, rfl, rfl, rfl, rfl, trivial⟩
   ·obtain rfl:i = g.length:=by omega
    rw [List.take_length] at hzc ⊢
    refine Z140 ?_; refine Z192 ?_; refine Z294 ?_
    refine zzq 903 rfl fun H2 hs2 _ hb25 => ?_
    refine Z60 ?_; refine yr (zao L (q:=902) (vs:=[_, _]) rfl rfl rfl rfl rfl rfl ⟨_, rfl⟩) ?_; refine Z4 ?_; refine Z18 ?_; refine Z51 ?_; refine Z139 ?_
    refine yb L (rs:=[.cell 4 32, .tmp 5, .tmp 6]) rfl (fun _ _ h => h) hs2 fun u H hH hle => ?_
    have hrw:RwV (zh2 zs g) (.slice (some ⟨b25, 0, none⟩) zs.length cap) H2:=by
     unfold RwV
     rw [hzc]
     refine ⟨by rw [zch zhp, hzc], .inr ⟨b25, 0, cap, _, _, _, rfl, hb25, ?_, hcap, fun h => by cases h⟩⟩
     show (((zh2 zs g).flatMap rrc ++ rest).drop 0).take _ = _
     rw [List.drop_zero]
     exact List.take_left
    exact ⟨_, yk rfl, rfl, fun gv hgv => ⟨_, _, rfl, ⟨_, _, rfl, ⟨_, by rw [zkl, hzs], ((hrow.le hs2.le).clrL).le hle, hrw.le hle⟩, (hpv.le hs2.le).le hle⟩, hgv⟩⟩
end Go.V.L10
set_option maxRecDepth 20000
namespace Go.V.L10
open Go.Proofs Go.RowKit Go.V Go.V.L2 Go.V.L8 Go.V.L6
abbrev zz2:TypeId:=34
abbrev zz1:TypeId:=70
def BhG (pb b:Nat) (S:Sto):GR:=GEx (fun x:Value × Value => zab pb [zff b, x.1, x.2] zz2) (fun x H => RlV S.R x.1 H ∧ RsV S.P false x.2 H) fun _ _ _ ⟨h1, h2⟩ hle => ⟨h1.le hle, h2.le hle⟩
theorem zpz (pb b:Nat) (S:Sto):(BhG pb b S).res = ExR (fun x:Value × Value => zal pb [zff b, x.1, x.2] zz2) (fun x H => RlV S.R x.1 H ∧ RsV S.P false x.2 H) (fun _ _ _ ⟨h1, h2⟩ hle => ⟨h1.le hle, h2.le hle⟩):=rfl
abbrev BoG (pb b:Nat) (S:Sto):GR:=zyw (BhG pb b S) (StG b S)
theorem zpy (pb b:Nat) (S:Sto):(BoG pb b S).res = zf6 (BhG pb b S).res (StG b S).res:=rfl
theorem zkp {pb b:Nat} {S:Sto} {lv pv:Value} {B:Heap} (h1:RlV S.R lv B) (h2:RsV S.P false pv B):∀ (v:Value) H u C, B.Le H → (zal pb [zff b, lv, pv] zz2).P v H u C → (BhG pb b S).res.P v H u C:=fun _ _ _ _ hle h => ⟨(lv, pv), ⟨h1.le hle, h2.le hle⟩, h⟩
theorem zi4 {b:Nat} {S:Sto} {lv pv:Value} {cs:List Value} {H:Heap} (h:StP (fun c _ => c = [zff b, lv, pv]) (RsS S) 1 2 cs H):∃ lv' pv', cs = [zff b, lv', pv'] ∧ RlV S.R lv' H ∧ RsV S.P false pv' H:=by
 obtain ⟨c, v, rfl, ⟨l2, p2, rfl, h1, h2⟩, rfl⟩:=h
 exact ⟨l2, p2, rfl, h1, h2⟩
theorem zg0 {S:Sto} {v:Value} {H:Heap} (h:RsS S v H):(zat v).length = 2 ∧ (zat v).all zbp = true:=by
 obtain ⟨lv, pv, rfl, ⟨zs, _, _, h1⟩, h2⟩:=h
 obtain ⟨p, c, rfl⟩:=zap h1
 obtain ⟨p2, c2, rfl⟩:=zap h2
 exact ⟨rfl, rfl⟩
def OvV (o:OO) (v:Value) (H:Heap):Prop:=∃ mv cv, v = .agg #[.int .u8 o.wh, mv, cv, .int .u8 o.rv, .int .i64 o.kp] ∧ PS3 o.ms false mv H ∧ PS3 o.cs false cv H
structure OOK (o:OO):Prop where
 wh:o.wh ≤ 255
 rv:o.rv ≤ 255
 ms:∀ c ∈ o.ms, c.1 ≤ 255 ∧ c.2.1 ≤ 255 ∧ c.2.2 ≤ 255
 cs:∀ c ∈ o.cs, c.1 ≤ 255 ∧ c.2.1 ≤ 255 ∧ c.2.2 ≤ 255
 lm:o.ms.length ≤ 9223372036854775807
 lc:o.cs.length ≤ 9223372036854775807
theorem OOK.rev {o:OO} (h:OOK o):0 ≤ o.rev ∧ o.rev < 18446744073709551616:=by
 have:=h.rv
 unfold OO.rev
 split <;> omega
attribute [local irreducible] V N X VO Par StepOK Has Ret RetL RetO RetT zb8 zdn RetY Src
theorem rev_ret {o:OO} (ho:OOK o) {mv cv:Value} (hp1:zbp mv = true) (hp2:zbp cv = true) {w:World} {B:Heap} (hB:B.Le (hp w)) :
  Ret Tryz.prog 36 [.agg #[.int .u8 o.wh, mv, cv, .int .u8 o.rv, .int .i64 o.kp]] w B (fun v _ => v = .int .u64 o.rev):=by
 have hrv:=ho.rv
 unfold OO.rev
 refine yc Tryz.func36 rfl Tryz.ntmps36 (Nat.le_of_ble_eq_true rfl) hB ?_
 by_cases h:o.rv = 255
 ·rw [if_pos h]
  refine Z344 ?_; refine Z181 ?_; refine Z26 ?_; refine Z263 ?_
  refine yb L (rs:=[.tmp 2]) rfl (fun _ _ h => h) Since.refl fun u H hH hle => ?_
  rfl
 ·rw [if_neg h]
  have hwu:IntKind.u64.wrap (o.rv:Int) = (o.rv:Int):=wrap_u64 (by omega) (by omega)
  refine Z344 ?_; refine Z181 ?_; refine Z245 ?_; refine Z322 ?_; refine z7 (zau rfl rfl rfl zzh.1 zzh.2 (wrap_u64 (by omega) (by omega))) rfl ?_; refine Z139 ?_
  refine yb L (rs:=[.tmp 2]) rfl (fun _ _ h => h) Since.refl fun u H hH hle => ?_
  rfl
end Go.V.L10
set_option maxRecDepth 20000
namespace Go.V.L10
open Go.Proofs Go.RowKit Go.V Go.V.L2 Go.V.L8 Go.V.L6
theorem _root_.Go.V.Z411 {A B:Prop} (h:B) (t:Wr B → A:=by intro h; refine z8 (qh rfl rfl rfl rfl) rfl ?_; refine z8 (qh rfl rfl rfl rfl) rfl ?_; exact h.h):A:=t ⟨h⟩
abbrev z56:Nat:=23
abbrev Cl10S (S:Sto) (g:List Int) (e:Int):Value → Heap → Prop:=TupS [RsS S, RsV g false, fun v _ => v = .int .i64 e]
theorem Cl10S.mono {S:Sto} {g:List Int} {e:Int}:Kn.mono (.sat (Cl10S S g e)):=TupS.mono fun ψ hψ => by
 simp only [List.mem_cons, List.mem_nil_iff, or_false] at hψ
 rcases hψ with rfl | rfl | rfl
 ·exact RsS.mono
 ·exact SlV.mono
 ·exact fun _ _ _ h _ => h
theorem Cl10P.tup {S:Sto} {g:List Int} {e:Int} {v:Value} {H:Heap} (h:Cl10P S g e v H):Cl10S S g e v H:=by
 obtain ⟨a, b, rfl, h1, h2⟩:=h
 refine ⟨[a, b, .int .i64 e], rfl, rfl, fun i ψ x hi hx => ?_⟩
 rcases i with _ | _ | _ | i
 ·cases hi; cases hx; exact h1
 ·cases hi; cases hx; exact h2
 ·cases hi; cases hx; rfl
 ·cases hi
attribute [local irreducible] V N X VO Par StepOK Has Ret RetL RetO RetT zb8 zdn RetY Src
set_option maxHeartbeats 4000000 in
set_option maxRecDepth 20000 in
theorem z3e {S:Sto} {n pb b:Nat} {o:OO} (hj:JJ n S) (hn:n ≤ 100) (ho:OOK o) {ov:Value} {w:World} {B:Heap} {C:Nat → Prop} (hB:B.Le (hp w)) (hov:OvV o ov B) (hr:(BoG pb b S).P B w C) (hC:∀ k, C k → k < w.heap.size ∧ B k = none) :
  RetY Tryz.prog z56 [zff pb, ov] w B C (BoG pb b (doS S o)) (fun v _ => v = .int .i64 1):=by
 obtain ⟨mv, cv, rfl, hmv, hcv⟩:=hov
 obtain ⟨p1, c1, rfl⟩:=zap hmv
 obtain ⟨p2, c2, rfl⟩:=zap hcv
 have hI:=hj.I hn
 have hne:=hj.ne
 have hR:=hj.hR
 have hP:=hj.hP
 have hem:Int.tmod ((o.wh:Nat):Int) 8 = ((o.wh % 8:Nat):Int):=rfl
 have hrev:=ho.rev
 unfold RetY
 refine zar 900 (BoG pb b S) Tryz.func23 rfl Tryz.ntmps23 (Nat.le_of_ble_eq_true rfl) hB hr hC ?_
 rw [zpy]
 refine zf4 900 901 rfl (zaw _) ?_
 rw [zpz]
 refine zey 900 rfl fun x H hs0 hφ => ?_
 obtain ⟨lv, pv⟩:=x
 obtain ⟨hl, hpv⟩:=hφ
 dsimp only at hl hpv ⊢
 replace hmv:=hmv.le hs0.le
 replace hcv:=hcv.le hs0.le
 have hss:RsS S (.agg #[lv, pv]) H:=⟨lv, pv, rfl, hl, hpv⟩
 have hk8:o.wh % 8 < 8:=Nat.mod_lt _ (by omega)
 unfold doS
 generalize o.wh % 8 = k at hem hk8 ⊢
 refine Z285 ?_; refine Z144 ?_; refine Z29 ?_; refine Z148 ?_; refine Z322 ?_; refine Z80 ?_; refine Z254 ?_; refine Z140 ?_
 refine zfb (fun _:Unit => [(0, .is (zff pb)), (3, .sat (At [.int .u8 o.wh, .slice p1 o.ms.length c1, .slice p2 o.cs.length c2, .int .u8 o.rv, .int .i64 o.kp] zz1 0)), (4, .is (.int .i64 0)), (5, .is (.int .i64 0)), (6, .is (.int .i64 0)), (13, .is (.int .u8 k)), (49, .is (.bool (decide (k < 4)))), (900, .own (zal pb [zff b, lv, pv] zz2)), (901, .own (StG b S).res)]) (fun _ => True) (fun _ => []) ?two ?one
 case one =>
  by_cases h0:k = 0
  ·subst h0
   refine Z60 ?_; refine Z336 ?_; refine zz ?_
   exact za6 () Since.refl trivial rfl ⟨rfl, rfl, rfl, rfl, rfl, rfl, rfl, rfl, rfl, trivial⟩
  ·by_cases h1:k = 1
   ·subst h1
    refine Z60 ?_; refine Z242 ?_; refine Z68 ?_; refine Z336 ?_; refine zz ?_
    exact za6 () Since.refl trivial rfl ⟨rfl, rfl, rfl, rfl, rfl, rfl, rfl, rfl, rfl, trivial⟩
   ·by_cases h2:k = 2
    ·subst h2
     refine Z60 ?_; refine Z242 ?_; refine Z68 ?_; refine Z388 ?_; refine Z336 ?_; refine zz ?_
     exact za6 () Since.refl trivial rfl ⟨rfl, rfl, rfl, rfl, rfl, rfl, rfl, rfl, rfl, trivial⟩
    ·by_cases h3:k = 3
     ·subst h3
      refine Z60 ?_; refine Z242 ?_; refine Z68 ?_; refine Z388 ?_; refine Z366 ?_; refine Z86 ?_; refine Z26 ?_; refine Z156 ?_
      exact za6 () Since.refl trivial rfl ⟨rfl, rfl, rfl, rfl, rfl, rfl, rfl, rfl, rfl, trivial⟩
     ·refine Z60 ?_; refine Z242 ?_; refine Z68 ?_; refine Z388 ?_; refine Z366 ?_; refine Z86 ?_; refine Z15 ?_; refine Z156 ?_
      rw [decide_eq_false (show ¬ k < 4 by omega)]
      exact za6 () Since.refl trivial rfl ⟨rfl, rfl, rfl, rfl, rfl, rfl, rfl, rfl, rfl, trivial⟩
 rintro _ _
 by_cases h4:k < 4
 ·rw [decide_eq_true h4]
  obtain ⟨⟨S', rev, e⟩, hw⟩:∃ x, zen S (dOf o.ms) (dOf o.cs) = x:=⟨_, rfl⟩
  rw [if_pos h4, hw]
  dsimp only
  have hm1:=RsS.mono (S:=S')
  refine Z12 ?_; refine Z393 ?_; refine Z195 ?_
  refine qf (id:=14) [(200058, [900]), (65, [901])] mixed (by kernel_rfl) ?_; refine Z184 ?_; refine Z67 ?_; refine Z46 ?_; refine z8 (zw L (vs:=[_]) (ql rfl) rfl rfl rfl rfl ⟨_, rfl⟩) rfl ?_; refine z8 (yq (φ:=KS tyM (dOf o.ms) false) L rfl rfl (zk rfl) rfl rfl rfl SlV.mono (fun u H hH hle _ => zmp rfl ho.ms ho.lm hH (hmv.le hle))) rfl ?_; refine Z46 ?_; refine z8 (zw L (vs:=[_]) (ql rfl) rfl rfl rfl rfl ⟨_, rfl⟩) rfl ?_; refine z8 (yq (φ:=KS tyC (dOf o.cs) false) L rfl rfl (zk rfl) rfl rfl rfl SlV.mono (fun u H hH hle _ => zki rfl ho.cs ho.lc hH (hcv.le hle))) rfl ?_; refine za4 (zai L 901 (StG b S') (.tuple #[.int .u64 rev, .int .i64 e]) (r:=StG b S) rfl rfl rfl rfl rfl (fun u H2 C2 hH hle hr2 hC2 v1 h1 v2 h2 => zd1 (zep hI (by omega) hne (zre _) (zre _) (Nat.le_trans (zh1 _) (by omega)) (Nat.le_trans (zh1 _) (by omega)) hw hH h1 h2 hr2 hC2))) rfl rfl ?_; refine Z3 ?_; refine Z411 ?_; refine Z327 ?_
  refine qf (id:=15) [(200073, [900]), (100085, [900])] mixed (by kernel_rfl) ?_; refine Z324 ?_; refine qp (zao L (q:=900) (vs:=[_, _]) rfl rfl rfl rfl rfl rfl ⟨_, rfl⟩) rfl rfl ?_; refine Z46 ?_; refine z8 (zw L (vs:=[_]) (ql rfl) rfl rfl rfl rfl ⟨_, rfl⟩) rfl ?_; refine z8 (yq (φ:=KS tyM (dOf o.ms) false) L rfl rfl (zk rfl) rfl rfl rfl SlV.mono (fun u H hH hle _ => zmp rfl ho.ms ho.lm hH (hmv.le hle))) rfl ?_; refine Z46 ?_; refine z8 (zw L (vs:=[_]) (ql rfl) rfl rfl rfl rfl ⟨_, rfl⟩) rfl ?_; refine z8 (yq (φ:=KS tyC (dOf o.cs) false) L rfl rfl (zk rfl) rfl rfl rfl SlV.mono (fun u H hH hle _ => zki rfl ho.cs ho.lc hH (hcv.le hle))) rfl ?_; refine z8 (yq (φ:=Wr10P S' rev e) L rfl rfl (zk rfl) rfl rfl rfl Wr10P.mono (fun u H hH hle _ v1 h1 v2 h2 => zno hI (by omega) hne hj.ss (zre _) (zre _) (Nat.le_trans (zh1 _) (by omega)) (Nat.le_trans (zh1 _) (by omega)) hw hH (hss.le hle) h1 h2)) rfl ?_; refine Z38 ?_; refine Z112 ?_; refine Z120 ?_; refine Z120 ?_; refine Z171 ?_; refine zag (zga L (q:=900) RsS.mono rfl rfl rfl rfl rfl (fun _ _ h => zg0 h) (Nat.le_of_ble_eq_true rfl)) rfl ?_; refine Z327 ?_
  refine zey 900 rfl fun cs' H1 hs1 hφ => ?_
  obtain ⟨lv', pv', rfl, hl', hpv'⟩:=zi4 hφ
  refine Z102 ?_; refine Z141 ?_; refine Z21 ?_; refine Z221 ?_; refine Z140 ?_; refine Z339 ?_; refine Z234 ?_; refine zf (id:=27) ?_; refine Z139 ?_
  refine zcj 900 (BhG pb b S').res rfl (zkp hl' hpv') ?_
  refine zb3 900 901 rfl rfl (zaw (StG b S')) ?_
  exact zbx L 900 (r:=BoG pb b S') (rs:=[.tmp 4]) rfl (fun _ _ h => h) (hs0.trans hs1) rfl rfl (fun H hle => rfl)
 ·rw [decide_eq_false h4, if_neg h4]
  refine Z9 ?_
  refine zh ?_
  refine zh ?_
  refine zfb (fun _:Unit => [(0, .is (zff pb)), (3, .sat (At [.int .u8 o.wh, .slice p1 o.ms.length c1, .slice p2 o.cs.length c2, .int .u8 o.rv, .int .i64 o.kp] zz1 0)), (4, .is (.int .i64 0)), (5, .is (.int .i64 0)), (6, .is (.int .i64 0)), (13, .is (.int .u8 k)), (89, .is (.bool (decide (k < 6)))), (900, .own (zal pb [zff b, lv, pv] zz2)), (901, .own (StG b S).res)]) (fun _ => True) (fun _ => []) ?two2 ?one2
  case one2 =>
   by_cases h5:k = 4
   ·subst h5
    refine Z100 ?_; refine Z336 ?_; refine zz ?_
    exact za6 () Since.refl trivial rfl ⟨rfl, rfl, rfl, rfl, rfl, rfl, rfl, rfl, rfl, trivial⟩
   ·by_cases h6:k = 5
    ·subst h6
     refine Z100 ?_; refine Z366 ?_; refine Z119 ?_; refine Z26 ?_; refine Z156 ?_
     exact za6 () Since.refl trivial rfl ⟨rfl, rfl, rfl, rfl, rfl, rfl, rfl, rfl, rfl, trivial⟩
    ·refine Z100 ?_; refine Z366 ?_; refine Z119 ?_; refine Z15 ?_; refine Z156 ?_
     rw [decide_eq_false (show ¬ k < 6 by omega)]
     exact za6 () Since.refl trivial rfl ⟨rfl, rfl, rfl, rfl, rfl, rfl, rfl, rfl, rfl, trivial⟩
  rintro _ _
  by_cases h6:k < 6
  ·rw [decide_eq_true h6, if_pos h6]
   obtain ⟨⟨S', e⟩, hw⟩:∃ x, zn0 S o.rev false = x:=⟨_, rfl⟩
   rw [hw]
   dsimp only
   have hm1:=RsS.mono (S:=S')
   refine Z12 ?_; refine zh ?_; refine qf (id:=20) [(200095, [900]), (98, [901])] mixed (by kernel_rfl) ?_; refine Z184 ?_; refine Z67 ?_; refine z8 (zw L (vs:=[_, _, _, _, _]) (ql rfl) rfl rfl rfl rfl ⟨_, rfl⟩) rfl ?_; refine z8 (zo L rfl rfl (zk rfl) rfl rfl rfl (fun u H hH _ _ => rev_ret ho rfl rfl hH)) rfl ?_; refine za4 (zai L 901 (StG b S') (.int .i64 e) (r:=StG b S) rfl rfl rfl rfl rfl (fun u H2 C2 hH hle hr2 hC2 => zd1 (zl7 hne (by omega) hw hH hr2 hC2))) rfl rfl ?_; refine Z185 ?_
   refine qf (id:=21) [(200104, [900]), (100111, [900])] mixed (by kernel_rfl) ?_; refine Z324 ?_; refine qp (zao L (q:=900) (vs:=[_, _]) rfl rfl rfl rfl rfl rfl ⟨_, rfl⟩) rfl rfl ?_; refine z8 (zw L (vs:=[_, _, _, _, _]) (ql rfl) rfl rfl rfl rfl ⟨_, rfl⟩) rfl ?_; refine z8 (zo L rfl rfl (zk rfl) rfl rfl rfl (fun u H hH _ _ => rev_ret ho rfl rfl hH)) rfl ?_; refine z8 (yq (φ:=Pn10P S' e) L rfl rfl (zk rfl) rfl rfl rfl Pn10P.mono (fun u H hH hle _ => zlc (by omega) hrev.1 hrev.2 (by omega) hj.pos hw hH (hss.le hle))) rfl ?_; refine Z38 ?_; refine Z112 ?_; refine Z120 ?_; refine Z171 ?_; refine zag (zga L (q:=900) RsS.mono rfl rfl rfl rfl rfl (fun _ _ h => zg0 h) (Nat.le_of_ble_eq_true rfl)) rfl ?_; refine Z39 ?_; refine Z282 ?_; refine Z140 ?_
   refine zey 900 rfl fun cs' H1 hs1 hφ => ?_
   obtain ⟨lv', pv', rfl, hl', hpv'⟩:=zi4 hφ
   refine Z339 ?_; refine Z234 ?_; refine zf (id:=27) ?_; refine Z139 ?_
   refine zcj 900 (BhG pb b S').res rfl (zkp hl' hpv') ?_
   refine zb3 900 901 rfl rfl (zaw (StG b S')) ?_
   exact zbx L 900 (r:=BoG pb b S') (rs:=[.tmp 4]) rfl (fun _ _ h => h) (hs0.trans hs1) rfl rfl (fun H hle => rfl)
  ·rw [decide_eq_false h6, if_neg h6]
   by_cases h7:k = 6
   ·rw [if_pos h7]
    refine Z9 ?_; refine zh ?_; refine zf (id:=22) ?_; refine Z336 ?_; refine zh ?_
    obtain ⟨⟨S', e⟩, hw⟩:∃ x, zn0 S o.rev true = x:=⟨_, rfl⟩
    rw [hw]
    dsimp only
    have hm1:=RsS.mono (S:=S')
    refine qf (id:=23) [(200117, [900]), (120, [901])] mixed (by kernel_rfl) ?_; refine Z184 ?_; refine Z67 ?_; refine z8 (zw L (vs:=[_, _, _, _, _]) (ql rfl) rfl rfl rfl rfl ⟨_, rfl⟩) rfl ?_; refine z8 (zo L rfl rfl (zk rfl) rfl rfl rfl (fun u H hH _ _ => rev_ret ho rfl rfl hH)) rfl ?_; refine za4 (zai L 901 (StG b S') (.int .i64 e) (r:=StG b S) rfl rfl rfl rfl rfl (fun u H2 C2 hH hle hr2 hC2 => zd1 (zhn hne (by omega) hw hH hr2 hC2))) rfl rfl ?_; refine Z185 ?_
    refine qf (id:=24) [(200126, [900]), (100133, [900])] mixed (by kernel_rfl) ?_; refine Z324 ?_; refine qp (zao L (q:=900) (vs:=[_, _]) rfl rfl rfl rfl rfl rfl ⟨_, rfl⟩) rfl rfl ?_; refine z8 (zw L (vs:=[_, _, _, _, _]) (ql rfl) rfl rfl rfl rfl ⟨_, rfl⟩) rfl ?_; refine z8 (zo L rfl rfl (zk rfl) rfl rfl rfl (fun u H hH _ _ => rev_ret ho rfl rfl hH)) rfl ?_; refine z8 (yq (φ:=Pn10P S' e) L rfl rfl (zk rfl) rfl rfl rfl Pn10P.mono (fun u H hH hle _ => zlc (by omega) hrev.1 hrev.2 (by omega) hj.pos hw hH (hss.le hle))) rfl ?_; refine Z38 ?_; refine Z112 ?_; refine Z120 ?_; refine Z171 ?_; refine zag (zga L (q:=900) RsS.mono rfl rfl rfl rfl rfl (fun _ _ h => zg0 h) (Nat.le_of_ble_eq_true rfl)) rfl ?_; refine Z39 ?_; refine Z282 ?_; refine Z140 ?_
    refine zey 900 rfl fun cs' H1 hs1 hφ => ?_
    obtain ⟨lv', pv', rfl, hl', hpv'⟩:=zi4 hφ
    refine Z339 ?_; refine Z234 ?_; refine zf (id:=27) ?_; refine Z139 ?_
    refine zcj 900 (BhG pb b S').res rfl (zkp hl' hpv') ?_
    refine zb3 900 901 rfl rfl (zaw (StG b S')) ?_
    exact zbx L 900 (r:=BoG pb b S') (rs:=[.tmp 4]) rfl (fun _ _ h => h) (hs0.trans hs1) rfl rfl (fun H hle => rfl)
   ·rw [if_neg h7]
    refine Z9 ?_; refine zh ?_; refine zf (id:=22) ?_; refine Z242 ?_
    obtain ⟨⟨S', g, e⟩, hw⟩:∃ x, zdd S o.kp = x:=⟨_, rfl⟩
    rw [hw]
    dsimp only
    have hm1:=RsS.mono (S:=S')
    have hm2:Kn.mono (.sat (RsV g true)):=SlV.mono
    have hm3:Kn.mono (.sat (RsV g false)):=SlV.mono
    have hgl:g.length ≤ 100000:=by
     have h1:=congrArg (fun x => x.2.1.length) hw
     dsimp only at h1
     rw [← h1]
     unfold zdd
     split
     ·refine Nat.le_trans (List.length_filter_le ..) ?_
      rw [List.length_take]
      have:=zdj S.R
      omega
     ·exact Nat.zero_le _
    refine Z30 ?_; refine Z195 ?_
    refine qf (id:=5) [(200018, [900]), (21, [901])] mixed (by kernel_rfl) ?_; refine Z184 ?_; refine Z67 ?_; refine Z224 ?_; refine za4 (zg3 L 901 (StG b S') (zwh g e) (r:=StG b S) rfl rfl rfl rfl rfl (zfs SlV.mono) (fun u H2 C2 hH hle hr2 hC2 => by have h:=zed (keep:=o.kp) hne (by omega) (by omega) hH hr2 hC2; rw [hw] at h; exact h)) rfl rfl ?_; refine Z38 ?_; refine Z112 ?_; refine Z120 ?_; refine Z91 ?_; refine Z249 ?_
    refine qf (id:=6) [(200029, [900]), (100037, [900])] mixed (by kernel_rfl) ?_; refine Z324 ?_; refine qp (zao L (q:=900) (vs:=[_, _]) rfl rfl rfl rfl rfl rfl ⟨_, rfl⟩) rfl rfl ?_; refine Z224 ?_; refine z8 (yq (φ:=Cl10S S' g e) L rfl rfl (zk rfl) rfl rfl rfl Cl10S.mono (fun u H hH hle _ => Ret.mono (by have h:=zkv (keep:=o.kp) hne (by omega) (by omega) hH (hss.le hle); rw [hw] at h; exact h) fun v H' _ h => Cl10P.tup h)) rfl ?_; refine Z38 ?_; refine Z112 ?_; refine Z112 ?_; refine Z120 ?_; refine Z171 ?_; refine zag (zga L (q:=900) RsS.mono rfl rfl rfl rfl rfl (fun _ _ h => zg0 h) (Nat.le_of_ble_eq_true rfl)) rfl ?_; refine Z91 ?_; refine Z249 ?_
    refine zey 900 rfl fun cs' H1 hs1 hφ => ?_
    obtain ⟨lv', pv', rfl, hl', hpv'⟩:=zi4 hφ
    refine Z44 ?_; refine Z384 ?_; refine z7 (zo L rfl rfl (zk rfl) rfl rfl rfl (fun u H hH hle _ v1 h1 v2 h2 => zer (f:=true) (decide_eq_true rfl) hgl hgl hH h1 h2)) rfl ?_; refine Z132 ?_; refine Z1 ?_; refine Z4 ?_; refine z7 (zu1 L rfl rfl rfl rfl) rfl ?_; refine Z151 ?_; refine Z21 ?_; refine Z8 ?_; refine Z221 ?_; refine Z140 ?_; refine Z339 ?_; refine Z234 ?_; refine zf (id:=27) ?_; refine Z139 ?_
    refine zcj 900 (BhG pb b S').res rfl (zkp hl' hpv') ?_
    refine zb3 900 901 rfl rfl (zaw (StG b S')) ?_
    exact zbx L 900 (r:=BoG pb b S') (rs:=[.tmp 4]) rfl (fun _ _ h => h) (hs0.trans hs1) rfl rfl (fun H hle => rfl)
end Go.V.L10
set_option maxRecDepth 20000
namespace Go.V.L10
open Go.Proofs Go.RowKit Go.V Go.V.L2 Go.V.L8 Go.V.L6
theorem zy6 {R:List (Option (List U))} {lv:Value} {H:Heap} (h:RlV R lv H):∃ p c, lv = .slice p R.length c:=by
 obtain ⟨zs, h1, _, h3⟩:=h
 obtain ⟨p, c, h4⟩:=zap h3
 rw [← h1, List.length_map]
 exact ⟨p, c, h4⟩
abbrev z57 (S:Sto):Res:=zp4 (fun p:Nat × Nat => zff p.1) fun p => BoG p.1 p.2 S
attribute [local irreducible] V N X VO Par StepOK Has Ret RetL RetO RetT zb8 zdn RetY Src
theorem zxh {w:World} {B:Heap} (hB:B.Le (hp w)):RetO Tryz.prog 10 [] w B (z57 newS):=by
 refine zej Tryz.func10 rfl Tryz.ntmps10 (Nat.le_of_ble_eq_true rfl) hB ?_
 refine Z182 ?_; refine z7 (zeg L rfl rfl (zk rfl) rfl rfl rfl (fun u H hH hle _ => zqf hH)) rfl ?_; refine zte 1 901 rfl fun b => ?_; refine z7 (yq (φ:=RsS newS) L rfl rfl (zk rfl) rfl rfl rfl RsS.mono (fun u H hH hle _ => zr6 hH)) rfl ?_; refine zbl 2 rfl fun v1 H1 hs1 hv1 => ?_; obtain ⟨lv, pv, rfl, h1, h2⟩:=hv1; obtain ⟨p1, c1, rfl⟩:=zy6 h1; obtain ⟨p2, c2, rfl⟩:=zap h2; refine z7 (yv (cs:=[_, _, _]) rfl rfl z5w rfl rfl) rfl ?_; refine Z104 ?_; refine qn (yo (.inr rfl) rfl rfl rfl rfl) ?_; refine Z138 ?_
 refine zrp 0 900 rfl fun pb => ?_
 refine zcj 900 (BhG pb b newS).res rfl (zkp h1 h2) ?_
 refine zb3 900 901 rfl rfl (zaw (StG b newS)) ?_
 refine zro 0 900 (fun p:Nat × Nat => zff p.1) (fun p => BoG p.1 p.2 newS) (pb, b) rfl rfl ?_
 exact zig rfl (fun _ _ h => h) hs1 rfl
set_option maxHeartbeats 4000000 in
set_option maxRecDepth 20000 in
theorem zv9 {S:Sto} {n pb b:Nat} (hj:JJ n S) (hn:n ≤ 100) {w:World} {B:Heap} {C:Nat → Prop} (hB:B.Le (hp w)) (hr:(BoG pb b S).P B w C) (hC:∀ k, C k → k < w.heap.size ∧ B k = none) :
  RetY Tryz.prog 24 [zff pb] w B C (BoG pb b S) (fun v _ => v = .int .i64 1):=by
 have hne:=hj.ne
 have hR:=hj.hR
 have hP:=hj.hP
 have hkl:=zdj S.R
 have hhl:=zbu S.P
 unfold RetY
 refine zar 900 (BoG pb b S) Tryz.func24 rfl Tryz.ntmps24 (Nat.le_of_ble_eq_true rfl) hB hr hC ?_
 rw [zpy]
 refine zf4 900 901 rfl (zaw _) ?_
 rw [zpz, zl4]
 refine zey 900 rfl fun x H0 hs0 hφ => ?_
 refine zey 901 rfl fun y H hs1 hψ => ?_
 obtain ⟨lv, pv⟩:=x
 obtain ⟨hl, hpv⟩:=hφ
 obtain ⟨m, s, es⟩:=y
 obtain ⟨hm, hes, hps⟩:=hψ
 dsimp only at hl hpv hm hes hps ⊢
 replace hl:=hl.le hs1.le
 replace hpv:=hpv.le hs1.le
 obtain ⟨ps, pc, rfl⟩:=zap hps
 obtain ⟨p1, c1, rfl⟩:=zy6 hl
 obtain ⟨p2, c2, rfl⟩:=zap hpv
 have hs01:=hs0.trans hs1
 have hlen:=hm.len
 have hwl:IntKind.u64.wrap ((S.R.length:Nat):Int) = ((S.R.length:Nat):Int):=wrap_u64 (by omega) (by omega)
 have hss:RsS S (.agg #[.slice p1 S.R.length c1, .slice p2 S.P.length c2]) H:=⟨_, _, rfl, hl, hpv⟩
 obtain ⟨zs, hzs, hrow, hrv⟩:=hl
 refine Z286 ?_; refine Z262 ?_; refine yr (zb2 L 901 (RsV (za8 S.R) true) (r:=StO b S.R.length m (.slice ps (zaj S.P).length pc) S.P.length es) rfl rfl rfl rfl rfl SlV.mono (fun u H2 C2 hH hle hr2 hC2 => (ziz hm hne (by omega) hH hr2 hC2).pubY ziw)) ?_; refine Z359 ?_
 refine qf (id:=2) [(200017, [900]), (200018, [901]), (200023, [900]), (200032, [900]), (200048, [900]), (200049, [901]), (200055, [900]), (200063, [900]), (200064, [901]), (200070, [900])] mixed (by kernel_rfl) ?_; refine Z184 ?_; refine Z67 ?_; refine qp (zay L 901 (Φ:=fun H => H b = some (.cells (stc S.R.length m (.slice ps (zaj S.P).length pc) S.P.length).toArray tyS)) (c:=.int .u64 S.R.length) rfl rfl (zk rfl) rfl rfl rfl rfl rfl zei (fun u H hH hle hb => zlj hne hb hH)) rfl rfl ?_; refine Z307 ?_; refine Z67 ?_; refine z8 (zmn L rfl rfl rfl rfl) rfl ?_; refine z8 (zau rfl rfl rfl zbh.1 zbh.2 (wrap_u64 (by omega) (by omega))) rfl ?_; refine Z99 ?_; refine Z3 ?_; refine Z38 ?_; refine Z184 ?_; refine qp (zao L (q:=900) (vs:=[_, _]) rfl rfl rfl rfl rfl rfl ⟨_, rfl⟩) rfl rfl ?_; refine z8 (yq (φ:=RsV (za8 S.R) false) L rfl rfl (zk rfl) rfl rfl rfl SlV.mono (fun u H hH hle _ => ze4 hzs (by omega) ⟨_, _, _, rfl⟩ hH (hrv.le hle))) rfl ?_; refine z8 (zo L rfl rfl (zk rfl) rfl rfl rfl (fun u H hH hle _ v1 h1 v2 h2 => zer (f:=true) (decide_eq_true rfl) (by omega) (by omega) hH h1 h2)) rfl ?_; refine z8 (yd rfl rfl rfl rfl rfl) rfl ?_; refine Z34 ?_; refine Z3 ?_; refine Z38 ?_; refine z8 (zu1 L rfl rfl rfl rfl) rfl ?_; refine Z38 ?_; refine z8 (qv L rfl rfl rfl rfl) rfl ?_; refine Z99 ?_; refine Z34 ?_; refine Z324 ?_; refine Z67 ?_; refine qp (zay L 901 (Φ:=fun H => H b = some (.cells (stc S.R.length m (.slice ps (zaj S.P).length pc) S.P.length).toArray tyS)) (c:=pnv (.slice ps (zaj S.P).length pc) S.P.length) rfl rfl (zk rfl) rfl rfl rfl rfl rfl zei (fun u H hH hle hb => pins_ret ⟨_, _, _, rfl⟩ hne hb hH)) rfl rfl ?_; refine z8 (zo L rfl rfl (zk rfl) rfl rfl rfl (fun u H hH hle _ => ztq ⟨rfl, rfl⟩ hH)) rfl ?_; refine Z307 ?_; refine Z67 ?_; refine z8 (zmn L rfl rfl rfl rfl) rfl ?_; refine Z99 ?_; refine Z34 ?_; refine Z324 ?_; refine Z67 ?_; refine qp (zay L 901 (Φ:=fun H => H b = some (.cells (stc S.R.length m (.slice ps (zaj S.P).length pc) S.P.length).toArray tyS)) (c:=pnv (.slice ps (zaj S.P).length pc) S.P.length) rfl rfl (zk rfl) rfl rfl rfl rfl rfl zei (fun u H hH hle hb => pins_ret ⟨_, _, _, rfl⟩ hne hb hH)) rfl rfl ?_; refine z8 (yq (φ:=RsV (zan S.P) true) L rfl rfl (zk rfl) rfl rfl rfl SlV.mono (fun u H hH hle _ => zxs (by omega) hH (hps.le hle))) rfl ?_; refine Z307 ?_; refine Z67 ?_; refine z8 (yq (φ:=RsV (zan S.P) false) L rfl rfl (zk rfl) rfl rfl rfl SlV.mono (fun u H hH hle _ => znw hj.pos (by omega) hH (hpv.le hle))) rfl ?_; refine z8 (zo L rfl rfl (zk rfl) rfl rfl rfl (fun u H hH hle _ v1 h1 v2 h2 => zer (f:=true) (decide_eq_true rfl) (by omega) (by omega) hH h1 h2)) rfl ?_; refine z8 (yd rfl rfl rfl rfl rfl) rfl ?_; refine Z205 ?_; refine Z166 ?_
 refine Z30 ?_; refine Z203 ?_
 have hwd:IntKind.i64.wrap ((S.R.length:Int) + 1) = ((S.R.length + 1:Nat):Int):=zaa (by omega) (by omega)
 have hum:Kn.mono (.sat (RsV S.P false)):=SlV.mono
 refine zak (fun i:Nat => [(0, .is (zff pb)), (3, .sat (RsV (za8 S.R) true)), (4, .is (.int .i64 i)), (900, .own (zal pb [zff b, .slice p1 S.R.length c1, .slice p2 S.P.length c2] zz2)), (901, .own (StO b S.R.length m (.slice ps (zaj S.P).length pc) S.P.length es).res)]) (fun i => i ≤ S.R.length + 2) (fun i => S.R.length + 2 - i) 0 (Nat.zero_le _) ⟨rfl, rfl, rfl, rfl, rfl, trivial⟩ ?_
 rintro i hi
 by_cases hlt:i ≤ S.R.length + 1
 ·have hwk:IntKind.i64.wrap ((i:Int) + 1) = ((i + 1:Nat):Int):=zaa (by omega) (by omega)
  have hwu:IntKind.u64.wrap (i:Int) = (i:Int):=wrap_u64 (by omega) (by omega)
  obtain ⟨⟨t0, e0⟩, hat⟩:∃ x, atS S (i:Int) = x:=⟨_, rfl⟩
  have ht0:t0.length ≤ 4096:=by have:=zp1 (hj.I hn) (i:Int); rw [hat] at this; exact this
  have hum2:Kn.mono (.sat (US t0 false)):=SlV.mono
  refine Z140 ?_; refine Z244 ?_; refine Z202 ?_; refine Z42 ?_; refine Z64 ?_; refine Z75 ?_; refine Z20 ?_; refine Z74 ?_; refine Z145 ?_; refine Z170 ?_; refine Z196 ?_; refine Z262 ?_; refine Z1 ?_; refine z7 (zau rfl rfl rfl zbh.1 zbh.2 (wrap_u64 (by omega) (by omega))) rfl ?_; refine yr (zb2 L 901 (WithP t0 e0) (r:=(StO b S.R.length m (.slice ps (zaj S.P).length pc) S.P.length es)) rfl rfl rfl rfl rfl WithP.mono (fun u H2 C2 hH hle hr2 hC2 => by have h:=zfn (S:=S) (r:=(i:Int)) hm hne (hes.le hle) hH hr2 hC2; rw [hat] at h; exact h)) ?_; refine zbl 93 rfl fun v1 H1 hs2 hp1 => ?_; obtain ⟨sv, rfl, hsv⟩:=hp1; obtain ⟨f1, p3, f2, p4, rfl, hpl⟩:=hsv.shape; refine Z309 ?_; refine Z144 ?_
  have hpsB:=hps.le hs2.le
  have hpvB:=hpv.le hs2.le
  refine Z228 ?_; refine Z202 ?_; refine yr (zao L (q:=900) (vs:=[_, _]) rfl rfl rfl rfl rfl rfl ⟨_, rfl⟩) ?_; refine Z1 ?_; refine z7 (zau rfl rfl rfl zbh.1 zbh.2 (wrap_u64 (by omega) (by omega))) rfl ?_; refine z7 (yq (φ:=z31 t0 e0) L rfl rfl (zk rfl) rfl rfl rfl (zfs SlV.mono) (fun u H hH hle _ => by have h:=zt8 (S:=S) (r:=(i:Int)) hne (by omega) (by omega) (by omega) hH (hss.le (hs2.le.trans hle)); rw [hat] at h; exact h)) rfl ?_; refine Z350 ?_; refine Z144 ?_
  refine qf (id:=9) [(200120, [900]), (200121, [901]), (200129, [900])] mixed (by kernel_rfl) ?_; refine Z147 ?_; refine Z99 ?_; refine Z3 ?_; refine z8 (zw L (vs:=[_, _, _, _]) (yk rfl) rfl rfl rfl rfl ⟨_, rfl⟩) rfl ?_; refine z8 (yq (φ:=US t0 true) L rfl rfl (zk rfl) rfl rfl rfl SlV.mono (fun u H hH hle _ => zjk (by omega) hH (hsv.le hle))) rfl ?_; refine Z38 ?_; refine z8 (zo L rfl rfl (zk rfl) rfl rfl rfl (fun u H hH hle _ v1 h1 v2 h2 => zho (by omega) (by omega) (if_pos rfl) hH h1 h2)) rfl ?_; refine Z89 ?_; refine Z34 ?_; refine Z324 ?_; refine Z67 ?_; refine qp (zay L 901 (Φ:=fun H => H b = some (.cells (stc S.R.length m (.slice ps (zaj S.P).length pc) S.P.length).toArray tyS)) (c:=pnv (.slice ps (zaj S.P).length pc) S.P.length) rfl rfl (zk rfl) rfl rfl rfl rfl rfl zei (fun u H hH hle hb => pins_ret ⟨_, _, _, rfl⟩ hne hb hH)) rfl rfl ?_; refine Z3 ?_; refine z8 (zau rfl rfl rfl zbh.1 zbh.2 (wrap_u64 (by omega) (by omega))) rfl ?_; refine z8 (zo L rfl rfl (zk rfl) rfl rfl rfl (fun u H hH hle _ => L10.count_ret (by omega) hH (hps.le (hs2.le.trans hle)))) rfl ?_; refine Z307 ?_; refine Z67 ?_; refine Z3 ?_; refine z8 (zau rfl rfl rfl zbh.1 zbh.2 (wrap_u64 (by omega) (by omega))) rfl ?_; refine z8 (zo L rfl rfl (zk rfl) rfl rfl rfl (fun u H hH hle _ => zdv rfl (by omega) hH (hpvB.le hle))) rfl ?_; refine Z99 ?_; refine Z205 ?_; refine Z318 ?_; refine Z192 ?_; refine Z217 ?_
  exact zhh (x:=i) (i + 1) hs2 (by omega) (by omega) ⟨rfl, rfl, rfl, rfl, rfl, trivial⟩
 ·refine Z140 ?_; refine Z244 ?_; refine Z202 ?_; refine Z42 ?_; refine Z64 ?_; refine Z75 ?_; refine Z20 ?_; refine Z70 ?_; refine Z183 ?_; refine zh ?_; refine Z65 ?_; refine Z139 ?_
  refine zcj 900 (BhG pb b S).res rfl (zkp ⟨zs, hzs, hrow, hrv⟩ hpv) ?_
  refine zcj 901 (StG b S).res rfl (zfo hm hes hps) ?_
  refine zb3 900 901 rfl rfl (zaw (StG b S)) ?_
  exact zbx L 900 (r:=BoG pb b S) (rs:=[.tmp 2]) rfl (fun _ _ h => h) hs01 rfl rfl (fun H hle => rfl)
end Go.V.L10
set_option maxRecDepth 20000
namespace Go.V.L10
open Go.Proofs Go.RowKit Go.V Go.V.L2 Go.V.L8 Go.V.L6
theorem _root_.Go.V.Z290 {A B:Prop} (h:B) (t:Wr B → A:=by intro h; refine Z21 ?_; refine Z200 ?_; exact h.h):A:=t ⟨h⟩
theorem zma {S:Sto} {b:Nat} {r:Int} (hn:S.R.length ≠ 0) {w:World} {B:Heap} {C:Nat → Prop} (hB:B.Le (hp w)) (hr:(StG b S).P B w C) (hC:∀ k, C k → k < w.heap.size ∧ B k = none) :
  RetY Tryz.prog 13 [zff b, .int .u64 r] w B C (StG b S) (WithP (atS S r).1 (atS S r).2) :=
 RetY.ex hr fun _ ⟨hm, hes, _⟩ hr => zfn hm hn hes hB hr hC
theorem znl {S:Sto} {b:Nat} (hn:S.R.length ≠ 0) (hz:(za8 S.R).length ≤ 100000) {w:World} {B:Heap} {C:Nat → Prop} (hB:B.Le (hp w)) (hr:(StG b S).P B w C) (hC:∀ k, C k → k < w.heap.size ∧ B k = none) :
  RetY Tryz.prog 12 [zff b] w B C (StG b S) (RsV (za8 S.R) true) :=
 RetY.ex hr fun _ ⟨hm, _, _⟩ hr => (ziz hm hn (by rw [hm.len]; exact hz) hB hr hC).pubY ziw
theorem zq0 {b:Nat} {S:Sto}:∀ v H u C, (StG b S).res.P v H u C → ∃ m s, (∃ p k c, s = .slice p k c) ∧ joinH H u C b = some (.cells (stc S.R.length m s S.P.length).toArray tyS):=fun v H u C ⟨⟨m, s, es⟩, ⟨_, _, hp⟩, h⟩ => by
 obtain ⟨p, c, rfl⟩:=zap hp
 exact ⟨m, _, ⟨_, _, _, rfl⟩, zei v H u C h⟩
attribute [local irreducible] V N X VO Par StepOK Has Ret RetL RetO RetT zb8 zdn RetY Src
abbrev s1:Sto:=⟨[some [], some [d0]], []⟩
abbrev s2:Sto:=⟨[some [], some [d0], some [d2]], []⟩
abbrev s3:Sto:=⟨[some [], some [d0], some [d2]], [2]⟩
abbrev s4:Sto:=⟨[none, some [d0], some [d2]], [2]⟩
abbrev s5:Sto:=⟨[none, some [d0], some [d2], some [d2]], [2]⟩
abbrev s6:Sto:=⟨[none, some [d0], some [d2], some [d2]], []⟩
abbrev s7:Sto:=⟨[none, none, none, some [d2]], []⟩
theorem z20:zen newS [] [(d0, false)] = (s1, 2, 0):=by kernel_rfl
theorem z2z:zen s1 [(d0, false)] [(d2, false), (d0, true)] = (s2, 3, 0):=by kernel_rfl
theorem z4m:zen s2 [(d0, false)] [] = (s2, 0, 13):=by kernel_rfl
theorem z4q:atS s2 2 = ([d0], 0):=by kernel_rfl
theorem z4s:atS s2 0 = ([d2], 0):=by kernel_rfl
theorem z4p:atS s2 4 = ([], 14):=by kernel_rfl
theorem z5j:zn0 s2 2 false = (s3, 0):=by kernel_rfl
theorem z23:zdd s3 1 = (s4, [1], 0):=by kernel_rfl
theorem z5z:za8 s4.R = [2, 3]:=by kernel_rfl
theorem z4r:atS s4 1 = ([], 14):=by kernel_rfl
theorem z2y:zen s4 [] [] = (s5, 4, 0):=by kernel_rfl
theorem z21:zn0 s5 2 true = (s6, 0):=by kernel_rfl
theorem z4n:zn0 s6 2 true = (s6, 8):=by kernel_rfl
theorem z22:zdd s6 1 = (s7, [2, 3], 0):=by kernel_rfl
theorem z50:zrd s7 4 0 = ([], 0):=by kernel_rfl
theorem z4o:zdd s7 0 = (s7, [], 4):=by kernel_rfl
theorem z5y:zn0 s7 0 false = (s7, 14):=by kernel_rfl
theorem z4t {n:Nat} {S S':Sto} {l cs:List CH} {r e:Int} (h:JJ n S) (hn:n ≤ 100) (hc:∀ c ∈ cs, TZ c.1 ∧ tE c.1 = 0) (hl:cs.length ≤ 30) (hw:zen S l cs = (S', r, e)):JJ (n + 1) S':=by
 have h1:=zq5 h hn (l:=l) hc hl
 rw [hw] at h1
 exact h1
theorem z5k {n:Nat} {S S':Sto} {r e:Int} {un:Bool} (h:JJ n S) (hw:zn0 S r un = (S', e)):JJ (n + 1) S':=by
 have h1:=zvo h r un
 rw [hw] at h1
 exact h1
theorem z5l {n:Nat} {S S':Sto} {k e:Int} {g:List Int} (h:JJ n S) (hw:zdd S k = (S', g, e)):JJ (n + 1) S':=by
 have h1:=zvq h k
 rw [hw] at h1
 exact h1
set_option maxHeartbeats 8000000 in
set_option maxRecDepth 20000 in
theorem zpl {w:World} {B:Heap} (hB:B.Le (hp w)):Ret Tryz.prog 17 [] w B (fun v _ => v = .bool true):=by
 have p0:ptA ⟨#[100, 111, 99, 58, 97, 35, 118, 105, 101, 119, 101, 114, 64, 117, 115, 101, 114, 58, 120]⟩ = (d0, 0):=by decide +kernel
 have p2:ptA ⟨#[100, 111, 99, 58, 98, 35, 118, 105, 101, 119, 101, 114, 64, 117, 115, 101, 114, 58, 120]⟩ = (d2, 0):=by decide +kernel
 have z0:TZ d0:=zy1 (by decide)
 have z2:TZ d2:=zy1 (by decide)
 have m0:=zz0 z0
 have m2:=zz0 z2
 have e0:tE d0 = 0:=by decide +kernel
 have e2:tE d2 = 0:=by decide +kernel
 have all:∀ l:List CH, (∀ c ∈ l, c.1 = d0 ∨ c.1 = d2) → ∀ c ∈ l, TM c.1:=fun l h c hc => by
  rcases h c hc with e | e
  ·rw [e]; exact m0
  ·rw [e]; exact m2
 have ok:∀ l:List CH, (∀ c ∈ l, c.1 = d0 ∨ c.1 = d2) → ∀ c ∈ l, TZ c.1 ∧ tE c.1 = 0:=fun l h c hc => by
  rcases h c hc with e | e
  ·rw [e]; exact ⟨z0, e0⟩
  ·rw [e]; exact ⟨z2, e2⟩
 have j0:=zvp
 have j1:=z4t j0 (by decide) (ok _ (by simp)) (by decide) z20
 have j2:=z4t j1 (by decide) (ok _ (by simp)) (by decide) z2z
 have j3:=z5k j2 z5j
 have j4:=z5l j3 z23
 have j5:=z4t j4 (by decide) (ok _ (by simp)) (by decide) z2y
 have j6:=z5k j5 z21
 have j7:=z5l j6 z22
 have k1:Kn.mono (.sat (RsV [1] true)):=SlV.mono
 have k2:Kn.mono (.sat (RsV [2, 3] true)):=SlV.mono
 have k3:Kn.mono (.sat (RsV [] true)):=SlV.mono
 have k4:Kn.mono (.sat (KS tyC [] true)):=SlV.mono
 refine yc Tryz.func17 rfl Tryz.ntmps17 (Nat.le_of_ble_eq_true rfl) hB ?_
 refine Z182 ?_; refine z7 (zo L rfl rfl (zk rfl) rfl rfl rfl (fun u H hH _ _ => zjq p0 (Nat.le_of_ble_eq_true rfl) hH)) rfl ?_; refine Z352 ?_; refine Z144 ?_; refine Z29 ?_; refine z7 (zo L rfl rfl (zk rfl) rfl rfl rfl (fun u H hH _ _ => zjq p2 (Nat.le_of_ble_eq_true rfl) hH)) rfl ?_; refine Z352 ?_; refine Z144 ?_; refine Z28 ?_; refine z7 (zw L (vs:=[_, _, _, _, _, _]) (yk rfl) rfl rfl rfl rfl ⟨_, rfl⟩) rfl ?_; refine z7 (yv (cs:=[_, _, _, _, _, _, _]) rfl rfl z2e rfl rfl) rfl ?_; refine Z35 ?_; refine Z402 ?_; refine Z30 ?_; refine z7 (zeg L rfl rfl (zk rfl) rfl rfl rfl (fun u H hH hle _ => zqf hH)) rfl ?_; refine qn (yo (.inr rfl) rfl rfl rfl rfl) ?_; refine Z159 ?_
 refine zi6 6 900 rfl fun b => ?_
 refine Z179 ?_; refine z7 (zw L (vs:=[_, _, _, _, _, _]) (yk rfl) rfl rfl rfl rfl ⟨_, rfl⟩) rfl ?_; refine z7 (yv (cs:=[_, _, _, _, _, _, _]) rfl rfl zpc rfl rfl) rfl ?_; refine Z35 ?_; refine qn (zai L 900 (StG b s1) (.tuple #[.int .u64 2, .int .i64 0]) (r:=StG b newS) rfl rfl rfl rfl rfl (fun u H2 C2 hH hle hr2 hC2 v1 h1 => zd1 (zep (l:=[]) (cs:=[(d0, false)]) (j0.I (by decide)) (by decide) j0.ne (all _ (by simp)) (all _ (by simp)) (by decide) (by decide) z20 hH (SlV.nil (fu:=false)) (h1.toV (n:=1) rfl) hr2 hC2))) ?_; refine Z229 ?_
 refine Z192 ?_; refine Z4 ?_; refine z7 (zw L (vs:=[_, _, _, _, _, _]) (yk rfl) rfl rfl rfl rfl ⟨_, rfl⟩) rfl ?_; refine z7 (yv (cs:=[_, _, _, _, _, _, _]) rfl rfl zpc rfl rfl) rfl ?_; refine z7 (zw L (vs:=[_, _, _, _, _, _]) (yk rfl) rfl rfl rfl rfl ⟨_, rfl⟩) rfl ?_; refine z7 (yv (cs:=[_, _, _, _, _, _, _]) rfl rfl zpc rfl rfl) rfl ?_; refine Z35 ?_; refine qn (zai L 900 (StG b s2) (.tuple #[.int .u64 3, .int .i64 0]) (r:=StG b s1) rfl rfl rfl rfl rfl (fun u H2 C2 hH hle hr2 hC2 v1 h1 v2 h2 => zd1 (zep (l:=[(d0, false)]) (cs:=[(d2, false), (d0, true)]) (j1.I (by decide)) (by decide) j1.ne (all _ (by simp)) (all _ (by simp)) (by decide) (by decide) z2z hH (h1.toV (n:=1) rfl) (h2.toV (n:=2) rfl) hr2 hC2))) ?_; refine Z229 ?_
 refine Z196 ?_; refine Z4 ?_; refine qn (zai L 900 (StG b s2) (.tuple #[.int .u64 0, .int .i64 13]) (r:=StG b s2) rfl rfl rfl rfl rfl (fun u H2 C2 hH hle hr2 hC2 v1 h1 => zd1 (zep (l:=[(d0, false)]) (cs:=[]) (j2.I (by decide)) (by decide) j2.ne (all _ (by simp)) (all _ (by simp)) (by decide) (by decide) z4m hH (h1.toV (n:=1) rfl) (SlV.nil (fu:=false)) hr2 hC2))) ?_; refine Z229 ?_
 refine Z228 ?_; refine yr (zb2 L 900 (WithP [d0] 0) (r:=StG b s2) rfl rfl rfl rfl rfl WithP.mono (fun u H2 C2 hH hle hr2 hC2 => by have h:=zma (r:=2) j2.ne hH hr2 hC2; rw [z4q] at h; exact h)) ?_; refine zbl 62 rfl fun vx Kx hx hpx => ?_; obtain ⟨svx, rfl, hsvx⟩:=hpx; obtain ⟨fx, px, gx, qx, rfl, hplx⟩:=hsvx.shape; refine Z309 ?_; refine Z144 ?_; refine Z280 ?_; refine yr (zb2 L 900 (WithP [d2] 0) (r:=StG b s2) rfl rfl rfl rfl rfl WithP.mono (fun u H2 C2 hH hle hr2 hC2 => by have h:=zma (r:=0) j2.ne hH hr2 hC2; rw [z4s] at h; exact h)) ?_; refine zbl 67 rfl fun vy Ky hy hpy => ?_; obtain ⟨svy, rfl, hsvy⟩:=hpy; obtain ⟨fy, py, gy, qy, rfl, hply⟩:=hsvy.shape; refine Z309 ?_; refine Z144 ?_; refine Z292 ?_; refine yr (zb2 L 900 (WithP [] 14) (r:=StG b s2) rfl rfl rfl rfl rfl WithP.mono (fun u H2 C2 hH hle hr2 hC2 => by have h:=zma (r:=4) j2.ne hH hr2 hC2; rw [z4p] at h; exact h)) ?_; refine zbl 72 rfl fun vz Kz hz hpz => ?_; obtain ⟨svz, rfl, hsvz⟩:=hpz; obtain ⟨fz, pz, gz, qz, rfl, hplz⟩:=hsvz.shape; refine Z309 ?_; refine Z148 ?_
 have hsvx2:=hsvx.le (hy.le.trans hz.le)
 have hsvy2:=hsvy.le hz.le
 refine Z65 ?_; refine Z295 ?_; refine Z1 ?_; refine Z20 ?_; refine Z1 ?_; refine Z20 ?_; refine Z21 ?_; refine Z141 ?_; refine Z290 ?_; refine Z290 ?_; refine Z21 ?_; refine Z8 ?_; refine Z1 ?_; refine z7 (zw L (vs:=[_, _, _, _]) (yk rfl) rfl rfl rfl rfl ⟨_, rfl⟩) rfl ?_; refine z7 (zo L rfl rfl (zk rfl) rfl rfl rfl (fun u H hH hle _ => zdp (n:=1) rfl hH (hsvx2.le hle))) rfl ?_; refine Z21 ?_; refine Z8 ?_; refine Z1 ?_; refine z7 (zw L (vs:=[_, _, _, _]) (yk rfl) rfl rfl rfl rfl ⟨_, rfl⟩) rfl ?_; refine z7 (zw L (vs:=[_, _, _, _, _, _]) (yk rfl) rfl rfl rfl rfl ⟨_, rfl⟩) rfl ?_; refine z7 (zo L rfl rfl (zk rfl) rfl rfl rfl (fun u H hH hle _ => zcu (b:=true) (by decide) hH (hsvx2.le hle))) rfl ?_; refine Z287 ?_; refine Z1 ?_; refine z7 (zw L (vs:=[_, _, _, _]) (yk rfl) rfl rfl rfl rfl ⟨_, rfl⟩) rfl ?_; refine z7 (zo L rfl rfl (zk rfl) rfl rfl rfl (fun u H hH hle _ => zdp (n:=1) rfl hH (hsvy2.le hle))) rfl ?_; refine Z21 ?_; refine Z8 ?_; refine Z1 ?_; refine z7 (zw L (vs:=[_, _, _, _]) (yk rfl) rfl rfl rfl rfl ⟨_, rfl⟩) rfl ?_; refine z7 (zw L (vs:=[_, _, _, _, _, _]) (yk rfl) rfl rfl rfl rfl ⟨_, rfl⟩) rfl ?_; refine z7 (zo L rfl rfl (zk rfl) rfl rfl rfl (fun u H hH hle _ => zcu (b:=true) (by decide) hH (hsvy2.le hle))) rfl ?_; refine Z52 ?_; refine Z200 ?_; refine Z290 ?_; refine qn (zai L 900 (StG b s3) (.int .i64 0) (r:=StG b s2) rfl rfl rfl rfl rfl (fun u H2 C2 hH hle hr2 hC2 => zd1 (zl7 j2.ne (by decide) z5j hH hr2 hC2))) ?_; refine Z21 ?_; refine Z8 ?_; refine Z162 ?_; refine Z316 ?_; refine qn (zg3 L 900 (StG b s4) (zwh [1] 0) (r:=StG b s3) rfl rfl rfl rfl rfl (zfs SlV.mono) (fun u H2 C2 hH hle hr2 hC2 => by have h:=zed (keep:=1) j3.ne (by decide) (by decide) hH hr2 hC2; rw [z23] at h; exact h)) ?_; refine Z350 ?_; refine Z148 ?_
 refine Z267 ?_; refine Z21 ?_; refine Z1 ?_; refine Z4 ?_; refine Z35 ?_; refine z7 (zo L rfl rfl (zk rfl) rfl rfl rfl (fun u H hH hle _ v1 h1 v2 h2 => zer (a:=[1]) (b:=[1]) (f:=true) (fb:=true) rfl (by decide) (by decide) hH h1 (h2.toV rfl))) rfl ?_; refine Z132 ?_; refine Z200 ?_; refine yr (zb2 L 900 (RsV [2, 3] true) (r:=StG b s4) rfl rfl rfl rfl rfl SlV.mono (fun u H2 C2 hH hle hr2 hC2 => by have h:=znl j4.ne (by decide) hH hr2 hC2; rw [z5z] at h; exact h)) ?_; refine Z35 ?_; refine z7 (zo L rfl rfl (zk rfl) rfl rfl rfl (fun u H hH hle _ v1 h1 v2 h2 => zer (a:=[2, 3]) (b:=[2, 3]) (f:=true) (fb:=true) rfl (by decide) (by decide) hH h1 (h2.toV rfl))) rfl ?_; refine Z132 ?_; refine Z8 ?_; refine Z162 ?_; refine Z102 ?_; refine Z1 ?_; refine yr (zb2 L 900 (WithP [] 14) (r:=StG b s4) rfl rfl rfl rfl rfl WithP.mono (fun u H2 C2 hH hle hr2 hC2 => by have h:=zma (r:=1) j4.ne hH hr2 hC2; rw [z4r] at h; exact h)) ?_; refine zbl 148 rfl fun vw Kw hw hpw => ?_; obtain ⟨svw, rfl, hsvw⟩:=hpw; obtain ⟨fw, pw, gw, qw, rfl, hplw⟩:=hsvw.shape; refine Z172 ?_; refine Z144 ?_; refine Z108 ?_; refine Z1 ?_; refine qn (zai L 900 (StG b s5) (.tuple #[.int .u64 4, .int .i64 0]) (r:=StG b s4) rfl rfl rfl rfl rfl (fun u H2 C2 hH hle hr2 hC2 => zd1 (zep (l:=[]) (cs:=[]) (j4.I (by decide)) (by decide) j4.ne (all _ (by simp)) (all _ (by simp)) (by decide) (by decide) z2y hH (SlV.nil (fu:=false)) (SlV.nil (fu:=false)) hr2 hC2))) ?_; refine Z229 ?_; refine Z299 ?_; refine qn (zai L 900 (StG b s6) (.int .i64 0) (r:=StG b s5) rfl rfl rfl rfl rfl (fun u H2 C2 hH hle hr2 hC2 => zd1 (zhn j5.ne (by decide) z21 hH hr2 hC2))) ?_; refine Z144 ?_; refine Z119 ?_; refine Z1 ?_; refine qn (zai L 900 (StG b s6) (.int .i64 8) (r:=StG b s6) rfl rfl rfl rfl rfl (fun u H2 C2 hH hle hr2 hC2 => zd1 (zhn j6.ne (by decide) z4n hH hr2 hC2))) ?_; refine Z144 ?_; refine Z94 ?_; refine Z1 ?_; refine qn (zg3 L 900 (StG b s7) (zwh [2, 3] 0) (r:=StG b s6) rfl rfl rfl rfl rfl (zfs SlV.mono) (fun u H2 C2 hH hle hr2 hC2 => by have h:=zed (keep:=1) j6.ne (by decide) (by decide) hH hr2 hC2; rw [z22] at h; exact h)) ?_; refine Z350 ?_; refine Z144 ?_; refine Z385 ?_; refine yr (zb2 L 900 (z5p [] 0) (r:=StG b s7) rfl rfl rfl rfl rfl (zfs SlV.mono) (fun u H2 C2 hH hle hr2 hC2 => by have h:=zr1 (p:=4) (q:=0) (j7.I (by decide)) j7.ne hH hr2 hC2; rw [z50] at h; exact h)) ?_; refine Z350 ?_; refine Z311 ?_; refine Z1 ?_; refine qn (zg3 L 900 (StG b s7) (zwh [] 4) (r:=StG b s7) rfl rfl rfl rfl rfl (zfs SlV.mono) (fun u H2 C2 hH hle hr2 hC2 => by have h:=zed (keep:=0) j7.ne (by decide) (by decide) hH hr2 hC2; rw [z4o] at h; exact h)) ?_; refine Z350 ?_; refine Z144 ?_
 refine Z312 ?_; refine Z26 ?_; refine Z141 ?_; refine Z26 ?_; refine Z200 ?_; refine Z26 ?_; refine Z200 ?_; refine Z26 ?_; refine Z200 ?_; refine Z26 ?_; refine Z200 ?_; refine Z26 ?_; refine Z8 ?_; refine Z1 ?_; refine Z4 ?_; refine Z35 ?_; refine z7 (zo L rfl rfl (zk rfl) rfl rfl rfl (fun u H hH hle _ v1 h1 v2 h2 => zer (a:=[2, 3]) (b:=[2, 3]) (f:=true) (fb:=true) rfl (by decide) (by decide) hH h1 (h2.toV rfl))) rfl ?_; refine Z132 ?_; refine Z200 ?_; refine Z26 ?_; refine Z8 ?_; refine Z1 ?_; refine Z151 ?_; refine Z132 ?_; refine Z200 ?_; refine Z26 ?_; refine Z200 ?_; refine qn (zai L 900 (StG b s7) (.int .i64 14) (r:=StG b s7) rfl rfl rfl rfl rfl (fun u H2 C2 hH hle hr2 hC2 => zd1 (zl7 j7.ne (by decide) z5y hH hr2 hC2))) ?_; refine Z26 ?_; refine Z8 ?_; refine Z139 ?_
 refine yb L (rs:=[.tmp 0]) rfl (fun _ _ h => h) (hx.trans (hy.trans (hz.trans hw))) fun u H hH hle => ?_
 rfl
end Go.V.L10
set_option maxRecDepth 20000
namespace Go.V.L10
open Go.Proofs Go.RowKit Go.V Go.V.L2 Go.V.L8 Go.V.L6
abbrev ZO:=OO × Value × Value
def ooc (z:ZO):List Value:=[.int .u8 z.1.wh, z.2.1, z.2.2, .int .u8 z.1.rv, .int .i64 z.1.kp]
theorem z0j (z:ZO):(ooc z).length = 5:=rfl
def OzOK (zs:List ZO) (H:Heap):Prop:=∀ z ∈ zs, OOK z.1 ∧ PS3 z.1.ms false z.2.1 H ∧ PS3 z.1.cs false z.2.2 H
theorem OzOK.le {zs:List ZO} {H H':Heap} (h:OzOK zs H) (hle:H.Le H'):OzOK zs H':=fun z hz => ⟨(h z hz).1, (h z hz).2.1.le hle, (h z hz).2.2.le hle⟩
abbrev WsV (zs:List ZO):Value → Heap → Prop:=SlV zz1 5 (zs.flatMap ooc) zs.length false
theorem z4h {zs:List ZO} {i:Nat} {z:ZO} (h:zs[i]? = some z):((zs.flatMap ooc).drop (i * 5)).take 5 = [.int .u8 z.1.wh, z.2.1, z.2.2, .int .u8 z.1.rv, .int .i64 z.1.kp]:=zdc z0j zs i z h
def zhs (S:Sto) (zs:List ZO) (i:Nat):Sto:=(zs.take i).foldl (fun S z => doS S z.1) S
theorem zlf {S:Sto} {zs:List ZO} {i:Nat} {z:ZO} (h:zs[i]? = some z):zhs S zs (i + 1) = doS (zhs S zs i) z.1:=by
 unfold zhs; rw [zbj h, List.foldl_append]; rfl
theorem zmx {n:Nat} {S:Sto} {zs:List ZO} (h:JJ n S):∀ {i:Nat}, n + i ≤ 101 → JJ (n + i) (zhs S zs i)
 | 0, _ => h
 | i + 1, hi => by
  have ih:=zmx h (zs:=zs) (i:=i) (by omega)
  rcases Nat.lt_or_ge i zs.length with hl | hl
  ·obtain ⟨z, hz⟩:=zae hl
   rw [zlf hz]
   exact z4u ih (by omega) _
  ·have:zhs S zs (i + 1) = zhs S zs i:=by unfold zhs; rw [List.take_of_length_le hl, List.take_of_length_le (by omega)]
   rw [this]
   exact ih.mono (by omega)
def zug (S:Sto) (zs:List ZO):Sto:=zhs S zs (min zs.length 25)
theorem z0v {n:Nat} {S:Sto} {zs:List ZO} (h:JJ n S) (hn:n ≤ 75):JJ (n + 25) (zug S zs):=(zmx h (by omega)).mono (by omega)
attribute [local irreducible] V N X VO Par StepOK Has Ret RetL RetO RetT zb8 zdn RetY Src
set_option maxHeartbeats 2000000 in
set_option maxRecDepth 20000 in
theorem zw6 {S:Sto} {n pb b:Nat} {zs:List ZO} (hj:JJ n S) (hn:n ≤ 75) {xv:Value} {w:World} {B:Heap} {C:Nat → Prop} (hB:B.Le (hp w)) (hx:WsV zs xv B) (ho:OzOK zs B) (hr:(BoG pb b S).P B w C) (hC:∀ k, C k → k < w.heap.size ∧ B k = none) :
  RetY Tryz.prog 11 [zff pb, .agg #[xv]] w B C (BoG pb b (zug S zs)) (fun v _ => v = .int .i64 1):=by
 obtain ⟨p, c, rfl⟩:=zap hx
 unfold RetY
 refine zar 900 (BoG pb b S) Tryz.func11 rfl Tryz.ntmps11 (Nat.le_of_ble_eq_true rfl) hB hr hC ?_
 refine Z344 ?_; refine Z203 ?_
 refine zak (fun i:Nat => [(0, .is (zff pb)), (3, .sat (At [.slice p zs.length c] 24 0)), (5, .is (.int .i64 i)), (900, .own (BoG pb b (zhs S zs i)).res)]) (fun i => i ≤ zs.length ∧ i ≤ 25) (fun i => 25 - i) 0 ⟨Nat.zero_le _, Nat.zero_le _⟩ ⟨rfl, rfl, rfl, rfl, trivial⟩ ?_
 rintro i ⟨h1, h2⟩
 dsimp only at h1 h2 ⊢
 have hji:=zmx hj (zs:=zs) (i:=i) (by omega)
 by_cases hl:i < zs.length
 ·by_cases h25:i < 25
  ·obtain ⟨z, hz⟩:=zae hl
   obtain ⟨o, mv, cv⟩:=z
   have hoz:=ho _ (List.mem_of_getElem? hz)
   have hc:=z4h hz
   have hps:=zlf (S:=S) hz
   have hwk:IntKind.i64.wrap ((i:Int) + 1) = ((i + 1:Nat):Int):=zaa (by omega) (by omega)
   refine Z293 ?_; refine Z275 ?_; refine Z7 ?_; refine Z330 ?_; refine Z257 ?_; refine Z170 ?_; refine Z161 ?_; refine Z220 ?_; refine Z1 ?_; refine z7 (qu L _ rfl rfl rfl rfl rfl rfl rfl (by first | omega | decide) (by assumption)) rfl ?_; refine z7 (yg L (vs:=[_, _, _, _, _]) rfl rfl rfl rfl rfl ⟨_, rfl⟩) rfl ?_; refine qn (zai L 900 (BoG pb b (doS (zhs S zs i) o)) (.int .i64 1) (r:=BoG pb b (zhs S zs i)) rfl rfl rfl rfl rfl (fun u H2 C2 hH hle hr2 hC2 => zd1 (z3e hji (by omega) hoz.1 hH ⟨mv, cv, rfl, hoz.2.1.le hle, hoz.2.2.le hle⟩ hr2 hC2))) ?_; refine Z15 ?_; refine Z221 ?_; refine Z173 ?_; refine Z217 ?_
   exact yi (x:=i) (i + 1) ⟨hl, h25⟩ (by omega) ⟨rfl, rfl, rfl, by rw [hps]; rfl, trivial⟩
  ·obtain rfl:i = 25:=by omega
   refine Z293 ?_; refine Z275 ?_; refine Z7 ?_; refine Z273 ?_; refine Z8 ?_; refine Z183 ?_; refine Z374 ?_; refine Z139 ?_
   exact zbx L 900 (r:=BoG pb b (zhs S zs 25)) (rs:=[.tmp 4]) rfl (fun _ _ h => h) Since.refl rfl (by unfold zug; rw [Nat.min_eq_right (by omega)]) (fun H hle => rfl)
 ·obtain rfl:i = zs.length:=by omega
  refine Z293 ?_; refine Z275 ?_; refine Z10 ?_; refine Z187 ?_; refine Z8 ?_; refine Z183 ?_; refine Z374 ?_; refine Z139 ?_
  exact zbx L 900 (r:=BoG pb b (zhs S zs zs.length)) (rs:=[.tmp 4]) rfl (fun _ _ h => h) Since.refl rfl (by unfold zug; rw [Nat.min_eq_left (by omega)]) (fun H hle => rfl)
end Go.V.L10
set_option maxRecDepth 20000
namespace Go.V
open Go.RowKit
inductive zhi where
 | s
 | b
 | i (k:IntKind)
def z3z:zhi → Value → Prop
 | .s, v => ∃ a:ByteArray, v = .string a ∧ a.size ≤ maxLen
 | .b, v => ∃ c, v = .bool c
 | .i k, v => ∃ n, v = .int k n ∧ (Lit.int k n).wf = true
def LeafsOK:List zhi → List Value → Prop
 | [], [] => True
 | l :: ls, v :: vs => z3z l v ∧ LeafsOK ls vs
 | _, _ => False
theorem LeafsOK.append:∀ {a b:List zhi} {x y:List Value}, LeafsOK a x → LeafsOK b y → LeafsOK (a ++ b) (x ++ y)
 | [], _, [], _, _, h => h
 | [], _, _ :: _, _, h, _ => h.elim
 | _ :: _, _, [], _, h, _ => h.elim
 | _ :: _, _, _ :: _, _, h, k => ⟨h.1, LeafsOK.append h.2 k⟩
theorem LeafsOK.length:∀ {a:List zhi} {x:List Value}, LeafsOK a x → x.length = a.length
 | [], [], _ => rfl
 | [], _ :: _, h => h.elim
 | _ :: _, [], h => h.elim
 | _ :: _, _ :: _, h => by simp [LeafsOK.length h.2]
theorem zq3 {k:IntKind} {ls:List zhi} {vs:List Value} (h:LeafsOK (.i k :: ls) vs):∃ n r, vs = .int k n :: r ∧ (Lit.int k n).wf = true ∧ LeafsOK ls r:=by
 cases vs with
 | nil => exact h.elim
 | cons v vs => obtain ⟨⟨a, rfl, ha⟩, h⟩:=h; exact ⟨a, vs, rfl, ha, h⟩
theorem zq2 {vs:List Value} (h:LeafsOK [] vs):vs = []:=by
 cases vs with
 | nil => rfl
 | cons _ _ => exact h.elim
def zxl (P:Program) (rec:TypeId → Option (List zhi)):List Field → Nat → Option (List zhi)
 | [], _ => some []
 | f :: fs, off => match rec f.type with
  | some ls => if f.offset = off ∧ P.cellsOf f.type = ls.length then
    match zxl P rec fs (off + ls.length) with
    | some r => some (ls ++ r)
    | none => none
   else none
  | none => none
def zy7 (ls:List zhi):Nat → List zhi
 | 0 => []
 | n + 1 => ls ++ zy7 ls n
def zpn (P:Program):Nat → TypeId → Option (List zhi)
 | 0, _ => none
 | d + 1, t => match P.underlying t with
  | some .string => some [.s]
  | some (.int k) => some [.i k]
  | some .bool => some [.b]
  | some (.struct fs) => match zxl P (zpn P d) fs.toList 0 with
   | some ls => if P.cellsOf t = ls.length then some ls else none
   | none => none
  | some (.array n e) => match zpn P d e with
   | some ls => if P.cellsOf e = ls.length ∧ P.cellsOf t = (zy7 ls n).length then some (zy7 ls n) else none
   | none => none
  | _ => none
theorem zms {α β:Type} {f:α → Option β}:∀ {l:List α} {ys:List β}, l.mapM f = some ys → ∃ g:List β, g = ys ∧ (∀ x ∈ l, ∃ y, f x = some y ∧ y ∈ ys) ∧ (∀ y ∈ ys, ∃ x ∈ l, f x = some y)
 | [], ys, h => by
  simp at h; subst h
  exact ⟨_, rfl, by simp, by simp⟩
 | x :: l, ys, h => by
  rw [List.mapM_cons] at h
  cases hx:f x with
  | none => rw [hx] at h; cases h
  | some y =>
   rw [hx] at h
   cases hl:l.mapM f with
   | none => rw [hl] at h; cases h
   | some zs =>
    rw [hl] at h
    cases h
    obtain ⟨_, _, h1, h2⟩:=zms hl
    refine ⟨_, rfl, fun z hz => ?_, fun z hz => ?_⟩
    ·rcases List.mem_cons.1 hz with rfl | hz
     ·exact ⟨y, hx, List.mem_cons_self ..⟩
     ·obtain ⟨w, hw, hm⟩:=h1 z hz; exact ⟨w, hw, List.mem_cons_of_mem _ hm⟩
    ·rcases List.mem_cons.1 hz with rfl | hz
     ·exact ⟨x, List.mem_cons_self .., hx⟩
     ·obtain ⟨w, hw, hm⟩:=h2 z hz; exact ⟨w, List.mem_cons_of_mem _ hw, hm⟩
theorem zhm (cs:List Value) (off m r:Nat):(cs.drop off).take (m + r) = (cs.drop off).take m ++ (cs.drop (off + m)).take r:=by
 rw [List.take_add, List.drop_drop]
section
variable {P:Program} {H:Type} {enc:TypeId × Value → H} {W:World} {sp:Nat → Bool} {held:Bool} {base:Nat}
theorem zfv:∀ (d:Nat) {t:TypeId} {ls:List zhi}, zpn P d t = some ls → ∀ {fuel:Nat} {cs:List Value} {x:DataW H × List MemPlace},
  DataW.trod enc P W base sp held fuel t cs = some x → LeafsOK ls cs ∧ x.2 = []
 | 0, _, _, h, _, _, _, _ => by cases h
 | d + 1, t, ls, h, fuel, cs, x, hx => by
  have ih:=@zfv d
  cases fuel with
  | zero => simp [DataW.trod] at hx
  | succ fuel =>
   rw [zpn] at h
   unfold DataW.trod at hx
   cases hu:P.underlying t with
   | none => rw [hu] at h; cases h
   | some ds =>
    rw [hu] at h hx
    cases ds <;> first | (cases h; done) | skip
    ·cases h
     match cs, hx with
     | [.bool b], hx => cases hx; exact ⟨⟨⟨b, rfl⟩, trivial⟩, rfl⟩
    ·rename_i k
     cases h
     match cs, hx with
     | [.int k' m], hx =>
      simp only at hx
      split at hx
      ·rename_i hk
       obtain ⟨rfl, hw⟩:=hk
       cases hx; exact ⟨⟨⟨m, rfl, hw⟩, trivial⟩, rfl⟩
      ·cases hx
    ·cases h
     match cs, hx with
     | [.string s], hx =>
      simp only at hx
      split at hx
      ·rename_i hs; cases hx; exact ⟨⟨⟨s, rfl, hs⟩, trivial⟩, rfl⟩
      ·cases hx
    ·rename_i n e
     simp only at h hx
     split at h
     ·rename_i l1 hl1
      split at h
      ·rename_i hc
       cases h
       split at hx
       ·rename_i hlen
        obtain ⟨xs, hxs, rfl⟩:=Option.map_eq_some_iff.1 hx
        obtain ⟨_, _, hall, hback⟩:=zms hxs
        have each:∀ i, i < n → LeafsOK l1 ((cs.drop (i * P.cellsOf e)).take (P.cellsOf e)):=fun i hi => by
         obtain ⟨y, hy, _⟩:=hall i (List.mem_range.2 hi)
         exact (ih hl1 hy).1
        have gen:∀ m k, k + m = n → LeafsOK (zy7 l1 m) ((cs.drop (k * P.cellsOf e)).take (m * P.cellsOf e)):=by
         intro m
         induction m with
         | zero => intro k _; simp [zy7, LeafsOK]
         | succ m ihm =>
          intro k hk
          rw [show (m + 1) * P.cellsOf e = P.cellsOf e + m * P.cellsOf e by rw [Nat.succ_mul]; omega, zhm]
          refine LeafsOK.append (each k (by omega)) ?_
          rw [show k * P.cellsOf e + P.cellsOf e = (k + 1) * P.cellsOf e by rw [Nat.succ_mul]]
          exact ihm (k + 1) (by omega)
        refine ⟨?_, ?_⟩
        ·have:=gen n 0 (by omega)
         have hrl:∀ m, (zy7 l1 m).length = m * P.cellsOf e:=by
          intro m
          induction m with
          | zero => simp [zy7]
          | succ m ihm => simp only [zy7, List.length_append, ihm, hc.1]; rw [Nat.succ_mul]; omega
         rw [← hrl n, ← hc.2, ← hlen] at this
         simpa using this
        ·refine List.flatMap_eq_nil_iff.2 fun y hy => ?_
         obtain ⟨i, _, hi⟩:=hback y hy
         exact (ih hl1 hi).2
       ·cases hx
      ·cases h
     ·cases h
    ·rename_i fs
     simp only at h hx
     split at h
     ·rename_i l1 hl1
      split at h
      ·rename_i hc
       cases h
       split at hx
       ·rename_i hlen
        obtain ⟨xs, hxs, rfl⟩:=Option.map_eq_some_iff.1 hx
        obtain ⟨_, _, hall, hback⟩:=zms hxs
        have gen:∀ (fl:List Field) (off:Nat) (ls:List zhi), (∀ f ∈ fl, f ∈ fs.toList) → zxl P (zpn P d) fl off = some ls →
          LeafsOK ls ((cs.drop off).take ls.length) ∧ ∀ f ∈ fl, ∃ l, zpn P d f.type = some l:=by
         intro fl
         induction fl with
         | nil => intro off ls _ h; cases h; simp [LeafsOK]
         | cons f fl ihf =>
          intro off ls hm h
          simp only [zxl] at h
          split at h
          ·rename_i l2 hl2
           split at h
           ·rename_i hc2
            obtain ⟨rfl, hc3⟩:=hc2
            split at h
            ·rename_i r hr
             cases h
             obtain ⟨g1, g2⟩:=ihf _ _ (fun g hg => hm g (List.mem_cons_of_mem _ hg)) hr
             refine ⟨?_, fun g hg => ?_⟩
             ·rw [List.length_append, zhm]
              refine LeafsOK.append ?_ g1
              obtain ⟨y, hy, _⟩:=hall f (hm f (List.mem_cons_self ..))
              rw [← hc3]
              exact (ih hl2 hy).1
             ·rcases List.mem_cons.1 hg with rfl | hg
              ·exact ⟨l2, hl2⟩
              ·exact g2 g hg
            ·cases h
           ·cases h
          ·cases h
        obtain ⟨g1, g2⟩:=gen fs.toList 0 _ (fun _ h => h) hl1
        refine ⟨?_, ?_⟩
        ·rw [← hc, ← hlen] at g1; simpa using g1
        ·refine List.flatMap_eq_nil_iff.2 fun y hy => ?_
         obtain ⟨f, hf, hi⟩:=hback y hy
         obtain ⟨l, hl⟩:=g2 f hf
         exact (ih hl hi).2
       ·cases hx
      ·cases h
     ·cases h
end
end Go.V
set_option maxRecDepth 20000
namespace Go.V
open Go.ChangeShapes Go.WideShapes Go.ChangeAt Go.ChangeMaps Go.RowKit
section
variable {P:Program} {H:Type} {enc:TypeId × Value → H} {W:World} {held:Bool}
end
end Go.V
