/- Texts on the way to StoresCopy, part 6: one behind another. -/
import Derived.Test.YtcppaheijljnfaaGreatStoresCopyM5
set_option linter.unusedVariables false
set_option linter.unusedSimpArgs false
set_option maxRecDepth 20000
namespace Go.V.L8
open Go.Proofs Go.RowKit Go.V Go.V.L2 Go.V.L3 Go.V.L6
abbrev chC (n:Nat) (l:List CH):List CH:=chL (fun c:CH => c.1) zbh n l
theorem zjf {n:Nat} (hn:0 < n) (l:List CH):chC n l = stC (l.take n) ++ chC n (l.drop n):=zm7 hn l
theorem zig {n:Nat} (hn:0 < n) {l:List CH} (h:l.length ≤ n):chC n l = stC l:=z1r hn h
theorem z1s {n:Nat} (hn:0 < n) (l:List CH):(chC n l).length = l.length:=zwk cmpT_ord hn l.length (Nat.le_refl _)
theorem zt5 (X Y:List CH):stC (stC X ++ stC Y) = stC (X ++ Y):=zxd cmpT_ord X Y
theorem zi7 (X:List CH):z2d (stC X):=(zc2 cmpT_ord X).1
attribute [local irreducible] V N X VO Par StepOK Has Ret RetL RetO RetT zce Src
set_option maxHeartbeats 8000000 in
set_option maxRecDepth 20000 in
theorem zxe {l:List CH} {rest:List Value} {b m cap:Nat} (hm:l.length = m) (hm1:m ≤ 100000) {w:World} {B:Heap} {C:Nat → Prop} (hB:B.Le (hp w))
  (hr:(zac b (l.flatMap ccs ++ rest) tyC).P B w C) (hC:∀ k, C k → k < w.heap.size ∧ B k = none) :
  zce Tryz.prog 160 [.slice (some ⟨b, 0, none⟩) m cap, .int .i64 m, zka] w B C (zac b ((stC l).flatMap ccs ++ rest) tyC):=by
 unfold zce
 refine zat 900 (zac b (l.flatMap ccs ++ rest) tyC) Tryz.func160 rfl Tryz.ntmps160 (Nat.le_of_ble_eq_true rfl) hB hr hC ?_
 rw [za4]
 refine Z309 ?_; refine Z207 ?_; refine qm ?_
 refine zal (fun s:Nat × List CH => [(0, .is (.slice (some ⟨b, 0, none⟩) m cap)), (1, .is (.int .i64 m)), (2, .is zka), (6, .is (.int .i64 20)), (7, .is (.int .i64 s.1)), (8, .is (.int .i64 (s.1 + 20:Nat))), (900, .own (zan b ((s.2 ++ l.drop s.1).flatMap ccs ++ rest) tyC))])
  (fun s => s.2.length = s.1 ∧ s.1 ≤ m ∧ s.2 ++ chC 20 (l.drop s.1) = chC 20 l) (fun s => m - s.1) (0, []) ⟨rfl, Nat.zero_le _, rfl⟩ ⟨rfl, rfl, rfl, rfl, rfl, rfl, rfl, trivial⟩ ?_
 rintro ⟨a, S1⟩ ⟨h1, h2, h3⟩
 dsimp only at h1 h2 h3 ⊢
 have hdl:(l.drop a).length = m - a:=by rw [List.length_drop, hm]
 by_cases hlt:a + 20 ≤ m
 ·have e0:S1 ++ l.drop a = S1 ++ ((l.drop a).take 20 ++ (l.drop a).drop 20):=by rw [List.take_append_drop]
  have e1:S1 ++ (stC ((l.drop a).take 20) ++ (l.drop a).drop 20) = (S1 ++ stC ((l.drop a).take 20)) ++ l.drop (a + 20):=by rw [List.drop_drop, List.append_assoc]
  have hlen:(S1 ++ ((l.drop a).take 20 ++ (l.drop a).drop 20)).length = m:=by rw [← e0, List.length_append]; omega
  have ltk:((l.drop a).take 20).length = 20:=by rw [List.length_take]; omega
  have a1:IntKind.i64.wrap (((a + 20:Nat):Int) + 20) = ((a + 20 + 20:Nat):Int):=zaa (by omega) (by omega)
  rw [e0]
  refine Z323 ?_; refine Z76 ?_; refine Z314 ?_; refine Z212 ?_; refine Z148 ?_; refine qq (za3 L 900 (zac b ((S1 ++ (stC ((l.drop a).take 20) ++ (l.drop a).drop 20)).flatMap ccs ++ rest) tyC) (r:=zac b ((S1 ++ ((l.drop a).take 20 ++ (l.drop a).drop 20)).flatMap ccs ++ rest) tyC) rfl rfl rfl rfl rfl (fun u H C hH _ hr hC => (by have h:=ins_ret (cap:=cap) (a:=a) (e:=a + 20) h1 (by omega) hlen hm1 hH hr hC; exact h))) ?_; refine Z166 ?_; refine Z173 ?_; refine Z146 ?_; refine Z256 ?_; refine Z217 ?_; refine yc ?_
  rw [e1]
  exact yj (x:=(a, S1)) (a + 20, S1 ++ stC ((l.drop a).take 20)) ⟨by dsimp only; rw [List.length_append, zfc]; omega, hlt, by
   dsimp only
   rw [← h3, zjf (by omega) (l.drop a), List.drop_drop, List.append_assoc]⟩ (by dsimp only; omega) ⟨rfl, rfl, rfl, rfl, rfl, rfl, rfl, trivial⟩
 ·have e0:S1 ++ l.drop a = S1 ++ (l.drop a ++ []):=by rw [List.append_nil]
  have e1:S1 ++ (stC (l.drop a) ++ []) = chC 20 l:=by rw [List.append_nil, ← h3, zig (by omega) (by omega)]
  have hlen:(S1 ++ (l.drop a ++ [])).length = m:=by rw [← e0, List.length_append]; omega
  rw [e0]
  refine Z323 ?_; refine Z72 ?_; refine Z328 ?_; refine Z43 ?_; refine Z232 ?_; refine qq (za3 L 900 (zac b ((S1 ++ (stC (l.drop a) ++ [])).flatMap ccs ++ rest) tyC) (r:=zac b ((S1 ++ (l.drop a ++ [])).flatMap ccs ++ rest) tyC) rfl rfl rfl rfl rfl (fun u H C hH _ hr hC => (by have h:=ins_ret (cap:=cap) (a:=a) (e:=m) h1 (by omega) hlen hm1 hH hr hC; exact h))) ?_; refine Z254 ?_
  rw [e1]
  clear e0 e1 hlen hlt hdl h1 h2 h3
  refine zal (fun s:Nat => [(0, .is (.slice (some ⟨b, 0, none⟩) m cap)), (1, .is (.int .i64 m)), (2, .is zka), (6, .is (.int .i64 s)), (900, .own (zan b ((chC s l).flatMap ccs ++ rest) tyC))]) (fun s => 0 < s ∧ s ≤ 20 + 2 * m) (fun s => m - s) 20 ⟨by omega, by omega⟩ ⟨rfl, rfl, rfl, rfl, rfl, trivial⟩ ?_
  rintro s ⟨hs0, hs1⟩
  by_cases hsm:s < m
  ·refine Z147 ?_; refine Z337 ?_; refine Z415 ?_; refine Z233 ?_; refine Z53 ?_; refine Z207 ?_; refine qm ?_
   refine zal (fun t:Nat × List CH => [(0, .is (.slice (some ⟨b, 0, none⟩) m cap)), (1, .is (.int .i64 m)), (2, .is zka), (6, .is (.int .i64 s)), (7, .is (.int .i64 t.1)), (8, .is (.int .i64 (t.1 + 2 * s:Nat))), (900, .own (zan b ((t.2 ++ chC s (l.drop t.1)).flatMap ccs ++ rest) tyC))])
    (fun t => t.2.length = t.1 ∧ t.1 ≤ m ∧ t.2 ++ chC (2 * s) (l.drop t.1) = chC (2 * s) l) (fun t => m - t.1) (0, []) ⟨rfl, Nat.zero_le _, rfl⟩ ⟨rfl, rfl, rfl, rfl, rfl, by dsimp only; rw [Nat.zero_add]; rfl, rfl, trivial⟩ ?_
   rintro ⟨a, S1⟩ ⟨h1, h2, h3⟩
   dsimp only at h1 h2 h3 ⊢
   have hdl:(l.drop a).length = m - a:=by rw [List.length_drop, hm]
   have hcs:=zjf hs0 (l.drop a)
   by_cases hlt:a + 2 * s ≤ m
   ·have hcs2:=zjf hs0 ((l.drop a).drop s)
    have e0:S1 ++ chC s (l.drop a) = S1 ++ (stC ((l.drop a).take s) ++ (stC (((l.drop a).drop s).take s) ++ chC s (l.drop (a + 2 * s)))):=by
     rw [hcs, hcs2, List.drop_drop, List.drop_drop, show a + s + s = a + 2 * s by omega]
    have ht2:(l.drop a).take (2 * s) = (l.drop a).take s ++ ((l.drop a).drop s).take s:=by rw [show 2 * s = s + s by omega, List.take_add]
    have e1:S1 ++ (stC (stC ((l.drop a).take s) ++ stC (((l.drop a).drop s).take s)) ++ chC s (l.drop (a + 2 * s))) = (S1 ++ stC ((l.drop a).take (2 * s))) ++ chC s (l.drop (a + 2 * s)):=by rw [zt5, ← ht2, List.append_assoc]
    have l1:(stC ((l.drop a).take s)).length = s:=by rw [zfc, List.length_take]; omega
    have l2:(stC (((l.drop a).drop s).take s)).length = s:=by rw [zfc, List.length_take, List.length_drop]; omega
    have l3:(chC s (l.drop (a + 2 * s))).length = m - (a + 2 * s):=by rw [z1s hs0, List.length_drop, hm]
    have hlen:(S1 ++ (stC ((l.drop a).take s) ++ (stC (((l.drop a).drop s).take s) ++ chC s (l.drop (a + 2 * s))))).length = m:=by simp only [List.length_append]; omega
    have a1:IntKind.i64.wrap ((a:Int) + (s:Int)) = ((a + s:Nat):Int):=zaa (by omega) (by omega)
    have a2:IntKind.i64.wrap (((a + 2 * s:Nat):Int) + 2 * (s:Int)) = ((a + 2 * s + 2 * s:Nat):Int):=zaa (by omega) (by omega)
    rw [e0]
    refine Z301 ?_; refine Z148 ?_; refine Z76 ?_; refine Z314 ?_; refine Z69 ?_; refine Z232 ?_; refine Z18 ?_; refine Z148 ?_; refine qq (za3 L 900 (zac b ((S1 ++ (stC (stC ((l.drop a).take s) ++ stC (((l.drop a).drop s).take s)) ++ chC s (l.drop (a + 2 * s)))).flatMap ccs ++ rest) tyC) (r:=zac b ((S1 ++ (stC ((l.drop a).take s) ++ (stC (((l.drop a).drop s).take s) ++ chC s (l.drop (a + 2 * s))))).flatMap ccs ++ rest) tyC) rfl rfl rfl rfl rfl (fun u H C hH _ hr hC => (by have h:=zt1 _ (cap:=cap) (a:=a) (mm:=a + s) (e:=a + 2 * s) (Nat.le_refl _) h1 (by omega) (by omega) (by omega) (by omega) (zi7 _) (zi7 _) hlen hm1 hH hr hC; exact h))) ?_; refine Z166 ?_; refine Z293 ?_; refine Z146 ?_; refine Z88 ?_; refine Z148 ?_; refine Z53 ?_; refine Z217 ?_; refine yc ?_
    rw [e1]
    exact yj (x:=(a, S1)) (a + 2 * s, S1 ++ stC ((l.drop a).take (2 * s))) ⟨by dsimp only; rw [List.length_append, zfc, List.length_take]; omega, hlt, by
     dsimp only
     rw [← h3, zjf (by omega) (l.drop a), List.drop_drop, List.append_assoc]⟩ (by dsimp only; omega) ⟨rfl, rfl, rfl, rfl, rfl, rfl, rfl, trivial⟩
   ·have a1:IntKind.i64.wrap ((a:Int) + (s:Int)) = ((a + s:Nat):Int):=zaa (by omega) (by omega)
    have a2:IntKind.i64.wrap ((s:Int) * 2) = ((2 * s:Nat):Int):=zaa (by omega) (by omega) |>.trans (by omega)
    by_cases hlm:a + s < m
    ·have e0:S1 ++ chC s (l.drop a) = S1 ++ (stC ((l.drop a).take s) ++ (stC ((l.drop a).drop s) ++ [])):=by
      rw [hcs, zig hs0 (l:=(l.drop a).drop s) (by rw [List.length_drop]; omega), List.append_nil]
     have e1:S1 ++ (stC (stC ((l.drop a).take s) ++ stC ((l.drop a).drop s)) ++ []) = chC (2 * s) l:=by
      rw [zt5, List.take_append_drop, List.append_nil, ← h3, zig (n:=2 * s) (by omega) (by omega)]
     have l1:(stC ((l.drop a).take s)).length = s:=by rw [zfc, List.length_take]; omega
     have l2:(stC ((l.drop a).drop s)).length = m - a - s:=by rw [zfc, List.length_drop]; omega
     have hlen:(S1 ++ (stC ((l.drop a).take s) ++ (stC ((l.drop a).drop s) ++ []))).length = m:=by simp only [List.length_append, List.length_nil]; omega
     rw [e0]
     refine Z301 ?_; refine Z148 ?_; refine Z72 ?_; refine Z192 ?_; refine Z147 ?_; refine Z89 ?_; refine Z300 ?_; refine Z151 ?_; refine Z77 ?_; refine Z148 ?_; refine Z186 ?_; refine Z100 ?_; refine Z148 ?_; refine Z184 ?_; refine qq (za3 L 900 (zac b ((S1 ++ (stC (stC ((l.drop a).take s) ++ stC ((l.drop a).drop s)) ++ [])).flatMap ccs ++ rest) tyC) (r:=zac b ((S1 ++ (stC ((l.drop a).take s) ++ (stC ((l.drop a).drop s) ++ []))).flatMap ccs ++ rest) tyC) rfl rfl rfl rfl rfl (fun u H C hH _ hr hC => (by have h:=zt1 _ (cap:=cap) (a:=a) (mm:=a + s) (e:=m) (Nat.le_refl _) h1 (by omega) (by omega) (by omega) (by omega) (zi7 _) (zi7 _) hlen hm1 hH hr hC; exact h))) ?_; refine Z145 ?_; refine Z105 ?_; refine Z1 ?_; refine z7 (zqz rfl rfl rfl rfl a2) rfl ?_; refine Z255 ?_
     rw [e1]
     exact yj (x:=s) (2 * s) ⟨by omega, by omega⟩ (by omega) ⟨rfl, rfl, rfl, rfl, rfl, trivial⟩
    ·have e1:S1 ++ chC s (l.drop a) = chC (2 * s) l:=by
      rw [← h3, zig hs0 (by omega), zig (n:=2 * s) (by omega) (by omega)]
     rw [e1]
     refine Z301 ?_; refine Z148 ?_; refine Z72 ?_; refine Z192 ?_; refine Z147 ?_; refine Z89 ?_; refine Z300 ?_; refine Z151 ?_; refine Z77 ?_; refine Z367 ?_; refine Z150 ?_; refine Z105 ?_; refine Z1 ?_; refine z7 (zqz rfl rfl rfl rfl a2) rfl ?_; refine Z255 ?_
     exact yj (x:=s) (2 * s) ⟨by omega, by omega⟩ (by omega) ⟨rfl, rfl, rfl, rfl, rfl, trivial⟩
  ·rw [zig hs0 (by omega)]
   refine Z147 ?_; refine Z44 ?_; refine Z367 ?_; refine Z172 ?_
   exact zbd L 900 (r:=zac b _ tyC) rfl (fun _ _ h => h) Since.refl rfl rfl
abbrev SSF:Nat:=135
set_option maxHeartbeats 1000000 in
set_option maxRecDepth 20000 in
theorem zt9 {l:List CH} {rest:List Value} {b m cap:Nat} (hm:l.length = m) (hm1:m ≤ 100000) {w:World} {B:Heap} {C:Nat → Prop} (hB:B.Le (hp w))
  (hr:(zac b (l.flatMap ccs ++ rest) tyC).P B w C) (hC:∀ k, C k → k < w.heap.size ∧ B k = none) :
  zce Tryz.prog SSF [.slice (some ⟨b, 0, none⟩) m cap, zka] w B C (zac b ((stC l).flatMap ccs ++ rest) tyC):=by
 unfold zce
 refine zat 900 (zac b (l.flatMap ccs ++ rest) tyC) Tryz.func135 rfl Tryz.ntmps135 (Nat.le_of_ble_eq_true rfl) hB hr hC ?_
 rw [za4]
 refine Z15 ?_; refine Z148 ?_; refine Z79 ?_; refine Z1 ?_; refine qq (za3 L 900 (zac b ((stC l).flatMap ccs ++ rest) tyC) (r:=zac b (l.flatMap ccs ++ rest) tyC) rfl rfl rfl rfl rfl (fun u H C hH _ hr hC => (by have h:=zxe (cap:=cap) hm hm1 hH hr hC; exact h))) ?_; refine zi ?_
 exact zbd L 900 (r:=zac b _ tyC) rfl (fun _ _ h => h) Since.refl rfl rfl
set_option maxRecDepth 20000 in
theorem zyb {w:World} {B:Heap} (hB:B.Le (hp w)):Ret Tryz.prog 173 [.slice none 0 0, .int .i64 0, .int .i64 0, zka] w B (fun _ _ => True):=by
 refine yg Tryz.func173 rfl Tryz.ntmps173 (Nat.le_of_ble_eq_true rfl) hB ?_
 refine Z154 ?_; refine Z1 ?_; refine Z25 ?_; refine Z208 ?_
 refine zal (fun _:Nat => [(2, .is (.int .i64 0)), (8, .is (.int .i64 1))]) (fun _ => True) (fun s => s) 0 trivial ⟨rfl, rfl, trivial⟩ ?_
 rintro s _
 refine Z147 ?_; refine Z20 ?_; refine Z367 ?_; refine Z172 ?_
 exact zww L rfl (fun _ _ h => h) Since.refl
set_option maxRecDepth 20000 in
theorem zt4 {w:World} {B:Heap} (hB:B.Le (hp w)):Ret Tryz.prog 160 [.slice none 0 0, .int .i64 0, zka] w B (fun _ _ => True):=by
 refine yg Tryz.func160 rfl Tryz.ntmps160 (Nat.le_of_ble_eq_true rfl) hB ?_
 refine Z309 ?_; refine Z207 ?_; refine qm ?_
 refine zal (fun _:Nat => [(0, .is (.slice none 0 0)), (1, .is (.int .i64 0)), (2, .is zka), (6, .is (.int .i64 20)), (7, .is (.int .i64 0)), (8, .is (.int .i64 20))]) (fun _ => True) (fun s => s) 0 trivial ⟨rfl, rfl, rfl, rfl, rfl, rfl, trivial⟩ ?_
 rintro s _
 refine Z323 ?_; refine Z72 ?_; refine Z328 ?_; refine Z43 ?_; refine Z232 ?_; refine z7 (yr (φ:=fun _ _ => True) L rfl rfl (zk rfl) rfl rfl rfl (fun _ _ _ _ _ => trivial) (fun u H hH _ _ => zyb hH)) rfl ?_; refine Z254 ?_
 refine zal (fun _:Nat => [(1, .is (.int .i64 0)), (6, .is (.int .i64 20))]) (fun _ => True) (fun s => s) 0 trivial ⟨rfl, rfl, trivial⟩ ?_
 rintro s _
 refine Z147 ?_; refine Z44 ?_; refine Z367 ?_; refine Z172 ?_
 exact zww L rfl (fun _ _ h => h) Since.refl
set_option maxRecDepth 20000 in
theorem zsb {w:World} {B:Heap} (hB:B.Le (hp w)):Ret Tryz.prog SSF [.slice none 0 0, zka] w B (fun _ _ => True):=by
 refine yg Tryz.func135 rfl Tryz.ntmps135 (Nat.le_of_ble_eq_true rfl) hB ?_
 refine Z15 ?_; refine Z148 ?_; refine Z79 ?_; refine Z1 ?_; refine z7 (yr (φ:=fun _ _ => True) L rfl rfl (zk rfl) rfl rfl rfl (fun _ _ _ _ _ => trivial) (fun u H hH _ _ => zt4 hH)) rfl ?_; refine zi ?_
 exact zww L rfl (fun _ _ h => h) Since.refl
end Go.V.L8
set_option maxRecDepth 20000
namespace Go.V.L8
open Go.Proofs Go.RowKit Go.V Go.V.L2 Go.V.L3 Go.V.L6
abbrev zC:CH:=((n3, n3), false)
def zvx (l:List CH) (t:U) (z:CH):CH:=l.foldl (fun a c => if c.1 = t then c else a) z
def zg6 (l:List CH) (t:U):Option CH:=(l.filter fun c => decide (c.1 = t)).getLast?
theorem ze8 (c:CH) (l:List CH) (t:U):zg6 (c :: l) t = (zg6 l t).or (if c.1 = t then some c else none):=by
 unfold zg6
 by_cases h:c.1 = t
 ·rw [if_pos h, List.filter_cons_of_pos (by simpa using h), List.getLast?_cons]
  cases (l.filter fun c => decide (c.1 = t)).getLast? <;> rfl
 ·rw [if_neg h, List.filter_cons_of_neg (by simpa using h)]
  cases (l.filter fun c => decide (c.1 = t)).getLast? <;> rfl
theorem zf8 {l:List CH} {t:U} {c:CH} (h:zg6 l t = some c):c.1 = t ∧ c ∈ l:=by
 have:=List.mem_of_getLast? h
 rw [List.mem_filter] at this
 exact ⟨by simpa using this.2, this.1⟩
theorem zlt {l:List CH} {t:U}:zg6 l t = none ↔ ∀ c ∈ l, c.1 ≠ t:=by
 unfold zg6
 rw [List.getLast?_eq_none_iff, List.filter_eq_nil_iff]
 simp
theorem zrd (l:List CH) (t:U) (z:CH):zvx l t z = (zg6 l t).getD z:=by
 induction l generalizing z with
 | nil => rfl
 | cons c r ih =>
  have:zvx (c :: r) t z = zvx r t (if c.1 = t then c else z):=rfl
  rw [this, ih, ze8]
  cases zg6 r t with
  | some d => rfl
  | none => by_cases h:c.1 = t <;> simp [h]
theorem zoq {l:List CH} {t:U} {z:CH} (h:∃ c ∈ l, c.1 = t):zg6 l t = some (zvx l t z):=by
 rw [zrd]
 cases hk:zg6 l t with
 | some d => rfl
 | none => obtain ⟨c, hc, he⟩:=h; exact absurd he (zlt.1 hk c hc)
def zkg (l:List CH):List CH:=(zju (l.map (·.1))).map fun t => zvx l t zC
theorem zjt {l:List U} {t:U}:t ∈ zju l ↔ t ∈ l:=by unfold zju; rw [zf6]; simp
theorem zt8 (l:List U):Sst zbh (zju l):=zf0 cmpT_ord Sst.nil
theorem zvi {l:List CH} {c:CH}:c ∈ zkg l ↔ zg6 l c.1 = some c:=by
 unfold zkg
 rw [List.mem_map]
 constructor
 ·rintro ⟨t, ht, rfl⟩
  rw [zjt, List.mem_map] at ht
  have:=zoq (z:=zC) ht
  rw [(zf8 this).1]
  exact this
 ·intro h
  have hm:=zf8 h
  exact ⟨c.1, zjt.2 (List.mem_map.2 ⟨c, hm.2, rfl⟩), by rw [zrd, h]; rfl⟩
theorem zsq (l:List CH):(zkg l).map (·.1) = zju (l.map (·.1)):=by
 unfold zkg
 rw [List.map_map]
 conv => rhs; rw [← List.map_id (zju (l.map (·.1)))]
 refine List.map_congr_left fun t ht => ?_
 rw [zjt, List.mem_map] at ht
 exact (zf8 (zoq (z:=zC) ht)).1
def zze (l:List CH):Prop:=Sst zbh (l.map (·.1))
theorem zvh (l:List CH):zze (zkg l):=by unfold zze; rw [zsq]; exact zt8 _
theorem zxx {l:List CH} (h:zze l):l.Pairwise fun a b => a.1 ≠ b.1:=by
 unfold zze Sst at h
 rw [List.pairwise_map] at h
 exact h.imp fun h1 => cmpT_ord.ne h1
theorem z08 {l m:List CH} (hl:zze l) (hm:zze m) (h:∀ c, c ∈ l ↔ c ∈ m):l = m:=by
 have hk:l.map (·.1) = m.map (·.1):=zew cmpT_ord hl hm fun t => by
  rw [List.mem_map, List.mem_map]
  exact ⟨fun ⟨c, hc, e⟩ => ⟨c, (h c).1 hc, e⟩, fun ⟨c, hc, e⟩ => ⟨c, (h c).2 hc, e⟩⟩
 have uni:∀ {l:List CH}, zze l → ∀ a ∈ l, ∀ b ∈ l, a.1 = b.1 → a = b:=fun {l} hn a ha b hb e => by
  by_cases hab:a = b
  ·exact hab
  ·exfalso
   obtain ⟨i, hi⟩:=List.getElem?_of_mem ha
   obtain ⟨j, hj⟩:=List.getElem?_of_mem hb
   obtain ⟨hi', rfl⟩:=List.getElem?_eq_some_iff.1 hi
   obtain ⟨hj', rfl⟩:=List.getElem?_eq_some_iff.1 hj
   have hp:=List.pairwise_iff_getElem.1 (zxx hn)
   rcases Nat.lt_trichotomy i j with h | h | h
   ·exact hp i j hi' hj' h e
   ·subst h; exact hab rfl
   ·exact hp j i hj' hi' h e.symm
 have hlen:l.length = m.length:=by rw [← List.length_map (f:=(·.1)), hk, List.length_map]
 refine List.ext_getElem hlen fun i h1 h2 => ?_
 have e:l[i].1 = m[i].1:=by
  have:=congrArg (·[i]?) hk
  simp only [List.getElem?_map, List.getElem?_eq_getElem h1, List.getElem?_eq_getElem h2, Option.map_some, Option.some.injEq] at this
  exact this
 exact uni hm _ ((h _).1 (List.getElem_mem h1)) _ (List.getElem_mem h2) e
def zfi:List CH → List CH
 | [] => []
 | [c] => [c]
 | c :: d :: r => if zbh c.1 d.1 = 0 then zfi (d :: r) else c :: zfi (d :: r)
theorem zsz {l:List CH} {i:Nat} {c:CH} (h:l[i]? = some c):zfi (l.drop i) = (match l[i + 1]? with | none => [c] | some d => if zbh c.1 d.1 = 0 then [] else [c]) ++ zfi (l.drop (i + 1)):=by
 have h1:l.drop i = c :: l.drop (i + 1):=zfr h
 rw [h1]
 cases h2:l[i + 1]? with
 | none =>
  have:l.drop (i + 1) = []:=List.drop_eq_nil_of_le (by simpa using h2)
  rw [this]; rfl
 | some d =>
  have h3:l.drop (i + 1) = d :: l.drop (i + 1 + 1):=zfr h2
  rw [h3]
  show (if zbh c.1 d.1 = 0 then _ else _) = (if zbh c.1 d.1 = 0 then _ else _) ++ _
  split <;> rfl
theorem zlu:∀ {S:List CH}, Srt (·.1) zbh S → (∀ c ∈ zfi S, zg6 S c.1 = some c) ∧ (∀ x ∈ S, ∃ c ∈ zfi S, c.1 = x.1) ∧ zze (zfi S)
 | [], _ => ⟨fun c hc => (by cases hc), fun c hc => (by cases hc), Sst.nil⟩
 | [c], _ => by
  have e:zfi [c] = [c]:=rfl
  rw [e]
  refine ⟨fun d hd => ?_, fun x hx => ⟨x, hx, rfl⟩, List.pairwise_singleton _ _⟩
  rw [List.mem_singleton] at hd; subst hd
  rw [ze8, if_pos rfl]; rfl
 | c :: d :: r, h => by
  obtain ⟨h1, h2⟩:=List.pairwise_cons.1 h
  obtain ⟨g1, g2, g3⟩:=zlu (S:=d :: r) h2
  have e:zfi (c :: d :: r) = if zbh c.1 d.1 = 0 then zfi (d :: r) else c :: zfi (d :: r):=rfl
  by_cases h0:zbh c.1 d.1 = 0
  ·rw [e, if_pos h0]
   have hcd:=cmpT_ord.eq _ _ h0
   refine ⟨fun x hx => by rw [ze8, g1 x hx]; rfl, fun x hx => ?_, g3⟩
   rcases List.mem_cons.1 hx with rfl | hx
   ·obtain ⟨y, hy, e⟩:=g2 d (List.mem_cons_self ..)
    exact ⟨y, hy, e.trans hcd.symm⟩
   ·exact g2 x hx
  ·rw [e, if_neg h0]
   have hlt:∀ y ∈ d :: r, zbh c.1 y.1 < 0:=fun y hy => by
    have hcd:zbh c.1 d.1 < 0:=by
     have h3:=h1 d (List.mem_cons_self ..)
     have:=cmpT_ord.anti c.1 d.1
     dsimp only at h3
     omega
    rcases List.mem_cons.1 hy with rfl | hy
    ·exact hcd
    ·have h3:=(List.pairwise_cons.1 h2).1 y hy
     dsimp only at h3
     by_cases h5:zbh d.1 y.1 < 0
     ·exact cmpT_ord.tr hcd h5
     ·have h6:zbh d.1 y.1 = 0:=by have:=cmpT_ord.anti d.1 y.1; omega
      rw [← cmpT_ord.eq _ _ h6]; exact hcd
   refine ⟨fun x hx => ?_, fun x hx => ?_, ?_⟩
   ·rcases List.mem_cons.1 hx with rfl | hx
    ·rw [ze8, if_pos rfl, zlt.2 fun y hy e => cmpT_ord.irr x.1 (by rw [← e] ; exact absurd (hlt y hy) (by rw [e]; exact cmpT_ord.irr _))]; rfl
    ·rw [ze8, g1 x hx]; rfl
   ·rcases List.mem_cons.1 hx with rfl | hx
    ·exact ⟨x, List.mem_cons_self .., rfl⟩
    ·obtain ⟨y, hy, e⟩:=g2 x hx
     exact ⟨y, List.mem_cons_of_mem _ hy, e⟩
   ·unfold zze
    rw [List.map_cons]
    refine List.pairwise_cons.2 ⟨fun t ht => ?_, g3⟩
    obtain ⟨y, hy, rfl⟩:=List.mem_map.1 ht
    exact hlt y (zf8 (g1 y hy)).2
theorem zvz {l S:List CH} (h:Stb (·.1) zbh l S):zfi S = zkg l:=by
 obtain ⟨g1, g2, g3⟩:=zlu h.1
 have hK:∀ t, zg6 S t = zg6 l t:=fun t => by unfold zg6; rw [h.2 t]
 refine z08 g3 (zvh l) fun c => ?_
 rw [zvi]
 constructor
 ·exact fun hc => by rw [← hK]; exact g1 c hc
 ·intro hc
  rw [← hK] at hc
  obtain ⟨d, hd, e⟩:=g2 c (zf8 hc).2
  have:=g1 d hd
  rw [e, hc] at this
  cases this; exact hd
end Go.V.L8
set_option maxRecDepth 20000
namespace Go.V.L8
open Go.Proofs Go.RowKit Go.V Go.V.L2 Go.V.L3 Go.V.L6
theorem _root_.Go.V.Z96 {A B:Prop} (h:B) (t:Wr B → A:=by intro h; refine z8 (yp rfl rfl rfl rfl (decide_eq_false (by omega))) rfl ?_; exact h.h):A:=t ⟨h⟩
theorem _root_.Go.V.Z144 {A B:Prop} (h:B) (t:Wr B → A:=by intro h; refine z8 (yp rfl rfl rfl rfl (decide_eq_true (by omega))) rfl ?_; exact h.h):A:=t ⟨h⟩
theorem zx8 (l:List CH):zfi (stC l) = zkg l:=zvz (zc2 cmpT_ord l)
theorem zor:∀ (l:List CH), (zfi l).length ≤ l.length
 | [] => Nat.le_refl _
 | [c] => Nat.le_refl _
 | c :: d :: r => by
  show (if zbh c.1 d.1 = 0 then zfi (d :: r) else c :: zfi (d :: r)).length ≤ _
  have:=zor (d :: r)
  split
  ·simp only [List.length_cons] at this ⊢; omega
  ·simp only [List.length_cons] at this ⊢; omega
attribute [local irreducible] V N X VO Par StepOK Has Ret RetL RetO RetT zce Src
set_option maxHeartbeats 1000000 in
theorem zte {l:List CH} {fu:Bool} (hz:l.length ≤ 100000) {v:Value} {w:World} {B:Heap} (hB:B.Le (hp w)) (hv:KS tyC l fu v B) :
  RetO Tryz.prog 133 [v] w B (SlR tyC 7 l.length (l.flatMap ccs)):=by
 have hv0:=hv
 have hlen:=zlz l
 have hpl:=zyt l
 obtain ⟨p, c, rfl⟩:=zaq hv
 rcases p with _ | b
 ·obtain ⟨h0, rfl⟩:l.length = 0 ∧ c = 0:=zqr hv
  have hn:l = []:=List.eq_nil_of_length_eq_zero h0
  subst hn
  refine zeu Tryz.func133 rfl Tryz.ntmps133 (Nat.le_of_ble_eq_true rfl) hB ?_
  refine Z285 ?_; refine z7 (zf4 rfl rfl rfl rfl z55 rfl) rfl ?_; refine Z348 ?_
  refine zek 2 tyC 7 rfl ?_
  exact zix rfl (fun _ _ h => h) Since.refl rfl
 ·refine zeu Tryz.func133 rfl Tryz.ntmps133 (Nat.le_of_ble_eq_true rfl) hB ?_
  refine Z285 ?_; refine z7 (zf4 rfl rfl rfl rfl z55 rfl) rfl ?_; refine Z169 ?_
  refine zaz 0 (KS tyC l fu) rfl SlV.mono hv0 ?_
  refine Z29 ?_; refine z7 (zgu L rfl rfl rfl rfl rfl) rfl ?_; refine Z5 ?_; refine qq (zcl L rfl rfl rfl (zih rfl) rfl zyq (by assumption) (by assumption) (by omega) (by omega)) ?_; refine qq (yo (.inr rfl) rfl rfl rfl rfl) ?_; refine Z145 ?_
  rw [Nat.zero_add, List.nil_append]
  exact zix rfl (fun _ _ h => h) Since.refl rfl
set_option maxHeartbeats 8000000 in
set_option maxRecDepth 20000 in
theorem zp6 {l m:List CH} {fu:Bool} (hm:zkg l = m) (hz:l.length ≤ 50000) {v:Value} {w:World} {B:Heap} (hB:B.Le (hp w)) (hv:KS tyC l fu v B) :
  Ret Tryz.prog 90 [v] w B (KS tyC m true):=by
 subst hm
 have hsl:=zfc l
 refine yg Tryz.func90 rfl Tryz.ntmps90 (Nat.le_of_ble_eq_true rfl) hB ?_
 refine zaz 0 (KS tyC l fu) rfl SlV.mono hv ?_
 refine Z194 ?_; refine Z5 ?_; refine z7 (zeq L rfl rfl (zk rfl) rfl rfl rfl (fun u H hH _ _ v1 hv1 => zte (by omega) hH hv1)) rfl ?_; refine qq (yo (.inr rfl) rfl rfl rfl rfl) ?_; refine Z166 ?_; refine Z32 ?_; refine Z151 ?_
 refine zg9 3 900 rfl (fun h0 hn => ?_) fun b cap rest hl hmc hcm hcl => ?_
 ·have hl0:l = []:=List.eq_nil_of_length_eq_zero h0
  subst hl0
  refine Z212 ?_; refine z7 (yr (φ:=fun _ _ => True) L rfl rfl (zk rfl) rfl rfl rfl (fun _ _ _ _ _ => trivial) (fun u H hH _ _ => zsb hH)) rfl ?_; refine Z166 ?_
  refine zaz 3 (KS tyC [] false) rfl SlV.mono SlV.nil ?_
  refine Z31 ?_; refine Z5 ?_; refine z7 (zbb L (kl:=.i64) (pl:=0) 0 0 true rfl rfl rfl rfl rfl rfl ⟨rfl, rfl⟩ ⟨rfl, rfl⟩ (by decide) (by decide) rfl) rfl ?_; refine Z392 ?_; refine Z38 ?_; refine Z350 ?_
  refine zal (fun _:Nat => [(5, .sat (KS tyC [] true)), (15, .sat (KS tyC [] false)), (16, .is (.int .i64 0)), (17, .is (.int .i64 0))]) (fun _ => True) (fun s => s) 0 trivial ⟨rfl, rfl, rfl, rfl, trivial⟩ ?_
  rintro s _
  refine zh ?_; refine Z43 ?_; refine Z296 ?_; refine Z67 ?_; refine Z5 ?_; refine Z158 ?_; refine Z158 ?_; refine Z129 ?_; refine Z275 ?_
  refine yd L (rs:=[.tmp 2]) rfl (fun _ _ h => h) Since.refl fun u H hH hle => ?_
  exact fun v hv => hv
 ·refine Z212 ?_; refine qq (za3 L 900 (zac b ((stC l).flatMap ccs ++ rest) tyC) (r:=zac b (l.flatMap ccs ++ rest) tyC) rfl rfl rfl rfl rfl (fun u H C hH _ hr hC => (by have h:=zt9 (cap:=cap) rfl (by omega) hH hr hC; exact h))) ?_; refine Z166 ?_
  refine zcb (xs:=(stC l).flatMap ccs) (rest:=rest) (s:=7) 3 900 rfl rfl rfl (by rw [zlz, hsl]) hmc hcm (by
   rw [List.length_append] at hcl ⊢
   rw [zlz] at hcl ⊢
   rw [hsl]; exact hcl) ?_
  rw [← hsl]
  have hkn:=zx8 l
  have hkl:=zor (stC l)
  rw [← hkn]
  generalize stC l = S at *
  refine zcr 3 rfl ?_
  refine Z31 ?_; refine Z5 ?_; refine z7 (zbb L (kl:=.i64) (pl:=0) 0 0 true rfl rfl rfl rfl rfl rfl ⟨rfl, rfl⟩ ⟨rfl, rfl⟩ (by omega) (by omega) rfl) rfl ?_; refine Z392 ?_; refine Z38 ?_; refine Z350 ?_
  refine zy9 5 (SlV tyC 7 [] 0 true) rfl SlV.mono (fun v H h => h) ?_
  refine z5u 5 rfl ?_
  refine zal (fun i:Nat × List CH => [(3, .sat (KS tyC S false)), (4, .is zka), (5, .own (SlG tyC 7 i.2.length (i.2.flatMap ccs))), (15, .sat (KS tyC S false)), (16, .is (.int .i64 S.length)), (17, .is (.int .i64 i.1))]) (fun i => i.1 ≤ S.length ∧ i.2.length ≤ i.1 ∧ i.2 ++ zfi (S.drop i.1) = zfi S) (fun i => S.length - i.1) (0, []) ⟨Nat.zero_le _, Nat.le_refl _, rfl⟩ ⟨rfl, rfl, rfl, rfl, rfl, rfl, trivial⟩ ?_
  rintro ⟨i, kp⟩ ⟨h1, h2, h3⟩
  dsimp only at h1 h2 h3 ⊢
  by_cases hlt:i < S.length
  ·obtain ⟨c, hc0⟩:=zaf hlt
   have hc:=zi1 hc0
   have hst:=zsz hc0
   have a1:IntKind.i64.wrap ((i:Int) + 1) = ((i + 1:Nat):Int):=zaa (by omega) (by omega)
   by_cases hlast:i + 1 < S.length
   ·obtain ⟨d, hd0⟩:=zaf hlast
    have hd:=zi1 hd0
    rw [hd0] at hst
    dsimp only at hst
    by_cases heq:zbh c.1 d.1 = 0
    ·rw [if_pos heq, List.nil_append] at hst
     refine zh ?_; refine Z43 ?_; refine Z220 ?_; refine Z204 ?_; refine z7 (qu L _ rfl rfl rfl rfl rfl rfl rfl (by first | omega | decide) (by assumption)) rfl ?_; refine z7 (yh L (vs:=[_, _, _, _, _, _, _]) rfl rfl rfl rfl rfl ⟨_, rfl⟩) rfl ?_; refine Z260 ?_; refine Z21 ?_; refine Z166 ?_; refine Z98 ?_; refine Z339 ?_; refine Z37 ?_; refine z8 (y7 L rfl rfl rfl rfl) rfl ?_; refine Z66 ?_; refine Z153 ?_; refine z8 (qd L (vs:=[_, _, _, _, _, _, _]) (ym rfl) rfl rfl rfl rfl ⟨_, rfl⟩) rfl ?_; refine Z200 ?_; refine Z33 ?_; refine z8 (qu L _ rfl rfl rfl rfl rfl rfl rfl (by first | omega | decide) (by assumption)) rfl ?_; refine z8 (yh L (vs:=[_, _, _, _, _, _, _]) rfl rfl rfl rfl rfl ⟨_, rfl⟩) rfl ?_; refine z8 (zp L rfl rfl (zk rfl) rfl rfl rfl (fun u H hH _ _ => zdr hH)) rfl ?_; refine Z96 ?_; refine Z211 ?_; refine Z319 ?_; refine Z69 ?_; refine Z417 ?_
     exact yj (x:=(i, kp)) (i + 1, kp) ⟨hlt, by dsimp only; omega, by dsimp only; rw [← hst]; exact h3⟩ (by dsimp only; omega) ⟨rfl, rfl, rfl, rfl, rfl, rfl, trivial⟩
    ·rw [if_neg heq] at hst
     refine zh ?_; refine Z43 ?_; refine Z220 ?_; refine Z204 ?_; refine z7 (qu L _ rfl rfl rfl rfl rfl rfl rfl (by first | omega | decide) (by assumption)) rfl ?_; refine z7 (yh L (vs:=[_, _, _, _, _, _, _]) rfl rfl rfl rfl rfl ⟨_, rfl⟩) rfl ?_; refine Z260 ?_; refine Z21 ?_; refine Z166 ?_; refine Z98 ?_; refine Z339 ?_; refine Z37 ?_; refine z8 (y7 L rfl rfl rfl rfl) rfl ?_; refine Z66 ?_; refine Z153 ?_; refine z8 (qd L (vs:=[_, _, _, _, _, _, _]) (ym rfl) rfl rfl rfl rfl ⟨_, rfl⟩) rfl ?_; refine Z200 ?_; refine Z33 ?_; refine z8 (qu L _ rfl rfl rfl rfl rfl rfl rfl (by first | omega | decide) (by assumption)) rfl ?_; refine z8 (yh L (vs:=[_, _, _, _, _, _, _]) rfl rfl rfl rfl rfl ⟨_, rfl⟩) rfl ?_; refine z8 (zp L rfl rfl (zk rfl) rfl rfl rfl (fun u H hH _ _ => zdr hH)) rfl ?_; refine Z144 ?_; refine Z295 ?_; refine Z60 ?_; refine qq (yo (.inl rfl) rfl rfl rfl rfl) ?_; refine z7 (qd L (vs:=[_, _, _, _, _, _, _]) (ym rfl) rfl rfl rfl rfl ⟨_, rfl⟩) rfl ?_; refine Z39 ?_; refine qq (zlq L (by decide) rfl rfl rfl (zii rfl) rfl zyq rfl rfl (by omega) (by omega)) ?_; refine qq (yo (.inr rfl) rfl rfl rfl rfl) ?_; refine Z248 ?_; refine Z69 ?_; refine Z417 ?_
     exact yj (x:=(i, kp)) (i + 1, kp ++ [c]) ⟨hlt, by dsimp only; rw [List.length_append, List.length_singleton]; omega, by dsimp only; rw [List.append_assoc, ← hst]; exact h3⟩ (by dsimp only; omega) ⟨rfl, rfl, by dsimp only; rw [List.flatMap_append, List.length_append]; rfl, rfl, rfl, rfl, trivial⟩
   ·have hend:i + 1 = S.length:=by omega
    rw [List.getElem?_eq_none (by omega)] at hst
    dsimp only at hst
    refine zh ?_; refine Z43 ?_; refine Z220 ?_; refine Z204 ?_; refine z7 (qu L _ rfl rfl rfl rfl rfl rfl rfl (by first | omega | decide) (by assumption)) rfl ?_; refine z7 (yh L (vs:=[_, _, _, _, _, _, _]) rfl rfl rfl rfl rfl ⟨_, rfl⟩) rfl ?_; refine Z260 ?_; refine Z21 ?_; refine Z166 ?_; refine Z98 ?_; refine Z339 ?_; refine Z37 ?_; refine z8 (y7 L rfl rfl rfl rfl) rfl ?_; refine Z70 ?_; refine Z240 ?_; refine Z4 ?_; refine Z295 ?_; refine Z60 ?_; refine qq (yo (.inl rfl) rfl rfl rfl rfl) ?_; refine z7 (qd L (vs:=[_, _, _, _, _, _, _]) (ym rfl) rfl rfl rfl rfl ⟨_, rfl⟩) rfl ?_; refine Z39 ?_; refine qq (zlq L (by decide) rfl rfl rfl (zii rfl) rfl zyq rfl rfl (by omega) (by omega)) ?_; refine qq (yo (.inr rfl) rfl rfl rfl rfl) ?_; refine Z248 ?_; refine Z69 ?_; refine Z417 ?_
    exact yj (x:=(i, kp)) (i + 1, kp ++ [c]) ⟨hlt, by dsimp only; rw [List.length_append, List.length_singleton]; omega, by dsimp only; rw [List.append_assoc, ← hst]; exact h3⟩ (by dsimp only; omega) ⟨rfl, rfl, by dsimp only; rw [List.flatMap_append, List.length_append]; rfl, rfl, rfl, rfl, trivial⟩
  ·rw [List.drop_eq_nil_of_le (by omega), show zfi [] = [] from rfl, List.append_nil] at h3
   subst h3
   refine z4b 5 rfl ?_
   refine zh ?_; refine Z43 ?_; refine Z296 ?_; refine Z67 ?_; refine Z5 ?_; refine Z158 ?_; refine Z158 ?_; refine Z129 ?_; refine Z275 ?_
   refine yd L (rs:=[.tmp 2]) rfl (fun _ _ h => h) Since.refl fun u H hH hle => ?_
   exact fun v hv => hv
end Go.V.L8
set_option maxRecDepth 20000
namespace Go.V.L2
open Go.Proofs Go.RowKit Go.V
theorem _root_.Go.V.Z71 {A B:Prop} (h:B) (t:Wr B → A:=by intro h; refine z8 (qu L 0 rfl rfl rfl rfl rfl rfl rfl (by first | omega | decide) (by assumption)) rfl ?_; exact h.h):A:=t ⟨h⟩
theorem _root_.Go.V.Z80 {A B:Prop} (h:B) (t:Wr B → A:=by intro h; refine z7 (qu L 0 rfl rfl rfl rfl rfl rfl rfl (by first | omega | decide) (by assumption)) rfl ?_; exact h.h):A:=t ⟨h⟩
theorem _root_.Go.V.Z376 {A B:Prop} (h:B) (t:Wr B → A:=by intro h; refine Z37 ?_; refine Z71 ?_; exact h.h):A:=t ⟨h⟩
theorem _root_.Go.V.Z395 {A B:Prop} (h:B) (t:Wr B → A:=by intro h; refine Z147 ?_; refine Z43 ?_; exact h.h):A:=t ⟨h⟩
theorem _root_.Go.V.Z396 {A B:Prop} (h:B) (t:Wr B → A:=by intro h; refine Z395 ?_; refine Z158 ?_; exact h.h):A:=t ⟨h⟩
theorem _root_.Go.V.Z397 {A B:Prop} (h:B) (t:Wr B → A:=by intro h; refine Z253 ?_; refine Z67 ?_; exact h.h):A:=t ⟨h⟩
theorem _root_.Go.V.Z398 {A B:Prop} (h:B) (t:Wr B → A:=by intro h; refine Z36 ?_; refine Z271 ?_; exact h.h):A:=t ⟨h⟩
theorem _root_.Go.V.Z418 {A B:Prop} (h:B) (t:Wr B → A:=by intro h; refine Z44 ?_; refine Z151 ?_; exact h.h):A:=t ⟨h⟩
theorem _root_.Go.V.Z419 {A B:Prop} (h:B) (t:Wr B → A:=by intro h; refine Z418 ?_; refine Z360 ?_; exact h.h):A:=t ⟨h⟩
theorem _root_.Go.V.Z420 {A B:Prop} (h:B) (t:Wr B → A:=by intro h; refine Z419 ?_; refine Z158 ?_; exact h.h):A:=t ⟨h⟩
theorem _root_.Go.V.Z421 {A B:Prop} (h:B) (t:Wr B → A:=by intro h; refine Z390 ?_; refine Z280 ?_; exact h.h):A:=t ⟨h⟩
theorem _root_.Go.V.Z422 {A B:Prop} (h:B) (t:Wr B → A:=by intro h; refine Z5 ?_; refine Z80 ?_; exact h.h):A:=t ⟨h⟩
theorem _root_.Go.V.Z424 {A B:Prop} (h:B) (t:Wr B → A:=by intro h; refine zh ?_; refine Z89 ?_; exact h.h):A:=t ⟨h⟩
theorem zr7 {φ:Value → Heap → Prop} {a tv:Value} {H:Heap} (h:φ tv H):TupS [φ, fun v _ => v = a] (.tuple #[tv, a]) H :=
 ⟨[tv, a], rfl, rfl, fun i ψ x hi hx => by
  rcases i with _ | _ | i
  ·simp at hi hx; subst hi hx; exact h
  ·simp at hi hx; subst hi hx; rfl
  ·simp at hi⟩
theorem zr6 {φ:Value → Heap → Prop} {a:Value} (h:Kn.mono (.sat φ)):Kn.mono (.sat (TupS [φ, fun v _ => v = a])):=TupS.mono fun ψ hψ => by
 rcases List.mem_cons.1 hψ with rfl | hψ
 ·exact h
 ·rw [List.mem_singleton] at hψ
  subst hψ
  exact fun _ _ _ h _ => h
theorem zdl {α:Type} {c:α → α → Int} {f:Bool → Bool → Bool}:∀ (n:Nat) (l m:List α), l.length + m.length ≤ n → (zer c f n l m).length ≤ l.length + m.length
 | 0, _, _, _ => by simp [zer]
 | n + 1, [], [], _ => by simp [zer]
 | n + 1, a :: l, [], h => by
  have:=zdl (c:=c) (f:=f) n l [] (by simp only [List.length_cons, List.length_nil] at h ⊢; omega)
  simp only [zer, List.length_append, List.length_cons, List.length_nil] at this ⊢
  split <;> simp only [List.length_cons, List.length_nil] <;> omega
 | n + 1, [], b :: m, h => by
  have:=zdl (c:=c) (f:=f) n [] m (by simp only [List.length_cons, List.length_nil] at h ⊢; omega)
  simp only [zer, List.length_append, List.length_cons, List.length_nil] at this ⊢
  split <;> simp only [List.length_cons, List.length_nil] <;> omega
 | n + 1, a :: l, b :: m, h => by
  simp only [List.length_cons] at h
  have h1:=zdl (c:=c) (f:=f) n l (b :: m) (by simp only [List.length_cons]; omega)
  have h2:=zdl (c:=c) (f:=f) n (a :: l) m (by simp only [List.length_cons]; omega)
  have h3:=zdl (c:=c) (f:=f) n l m (by omega)
  simp only [List.length_cons] at h1 h2
  simp only [zer]
  split
  ·rw [List.length_append]; split <;> simp only [List.length_cons, List.length_nil] <;> omega
  ·split
   ·rw [List.length_append]; split <;> simp only [List.length_cons, List.length_nil] <;> omega
   ·rw [List.length_append]; split <;> simp only [List.length_cons, List.length_nil] <;> omega
def z3b (f:Bool → Bool → Bool) (l m:List U):List U × Int :=
 if 4096 < l.length ∨ 4096 < m.length then ([], 3) else if (isB l && isB m) = true then (zer zbh f (l.length + m.length) l m, 0) else ([], 18)
abbrev LE (r:List U × Int):Value → Heap → Prop:=TupS [US r.1 true, fun v _ => v = .int .i64 r.2]
theorem LE.mono {r:List U × Int}:Kn.mono (.sat (LE r)):=zr6 SlV.mono
theorem zl6 (a:U) (l:List U):(((a :: l).flatMap ucs).drop (1 * 6)).take (((a :: l).length - 1) * 6) = l.flatMap ucs:=by
 rw [List.flatMap_cons, List.drop_left' (by rfl), List.length_cons, Nat.add_sub_cancel, List.take_of_length_le (Nat.le_of_eq (zcq zl4 l))]
theorem zjj {κ:Kap} {s:Nat} {out:List U} {t:U} (h:κ s = some (.own (SlR tyU 6 (out.length + 1) (out.flatMap ucs ++ [.string t.1.1.1, .string t.1.1.2, .string t.1.2, .string t.2.1.1, .string t.2.1.2, .string t.2.2])))):κ s = some (.own (SlR tyU 6 (out ++ [t]).length ((out ++ [t]).flatMap ucs))):=by
 rw [h, List.flatMap_append, List.length_append]; simp [ucs]
attribute [local irreducible] V N X VO Par StepOK Has Ret RetL Src
set_option maxHeartbeats 4000000 in
theorem zvm {f:Bool → Bool → Bool} {tf:Nat} (hfn:L.fn tf = some ()) (hf:∀ (p q:Bool) (u:World) (H:Heap), H.Le (hp u) → Ret Tryz.prog tf [.bool p, .bool q] u H (fun v _ => v = .bool (f p q))) {l m:List U} {fa fb:Bool}
  {r:List U × Int} (hr:z3b f l m = r) {v v2:Value} {w:World} {B:Heap} (hB:B.Le (hp w)) (hv:US l fa v B) (hv2:US m fb v2 B) :
  Ret Tryz.prog 131 [v, v2, .func (.func tf) #[] #[]] w B (LE r):=by
 subst hr
 unfold z3b
 refine yg Tryz.func131 rfl Tryz.ntmps131 (Nat.le_of_ble_eq_true rfl) hB ?_
 refine zaz 0 (US l fa) rfl SlV.mono hv ?_
 refine zaz 1 (US m fb) rfl SlV.mono hv2 ?_
 by_cases z1:4096 < l.length
 ·rw [if_pos (.inl z1)]
  refine Z274 ?_; refine Z264 ?_; refine Z41 ?_; refine Z272 ?_; refine Z237 ?_; refine Z195 ?_
  refine yd L (rs:=[.tmp 6, .tmp 7]) rfl (fun _ _ h => h) Since.refl fun u H hH hle => ?_
  exact zr7 SlV.nil
 ·by_cases z2:4096 < m.length
  ·rw [if_pos (.inr z2)]
   refine Z274 ?_; refine Z264 ?_; refine Z35 ?_; refine Z356 ?_; refine Z41 ?_; refine Z8 ?_; refine Z237 ?_; refine Z195 ?_
   refine yd L (rs:=[.tmp 6, .tmp 7]) rfl (fun _ _ h => h) Since.refl fun u H hH hle => ?_
   exact zr7 SlV.nil
  ·rw [if_neg (by omega)]
   cases h1:isB l
   ·rw [if_neg (by simp)]
    refine Z274 ?_; refine Z264 ?_; refine Z35 ?_; refine Z356 ?_; refine Z307 ?_; refine Z177 ?_; refine Z29 ?_; refine Z5 ?_; refine z7 (zp L rfl rfl (zk rfl) rfl rfl rfl (fun u H hH _ _ v1 hv1 => zjm (by omega) h1 hH hv1)) rfl ?_; refine Z52 ?_; refine Z272 ?_; refine Z334 ?_; refine Z195 ?_
    refine yd L (rs:=[.tmp 6, .tmp 7]) rfl (fun _ _ h => h) Since.refl fun u H hH hle => ?_
    exact zr7 SlV.nil
   ·cases h2:isB m
    ·rw [if_neg (by simp)]
     refine Z274 ?_; refine Z264 ?_; refine Z35 ?_; refine Z356 ?_; refine Z307 ?_; refine Z177 ?_; refine Z29 ?_; refine Z5 ?_; refine z7 (zp L rfl rfl (zk rfl) rfl rfl rfl (fun u H hH _ _ v1 hv1 => zjm (by omega) h1 hH hv1)) rfl ?_; refine Z52 ?_; refine Z1 ?_; refine Z5 ?_; refine z7 (zp L rfl rfl (zk rfl) rfl rfl rfl (fun u H hH _ _ v1 hv1 => zjm (by omega) h2 hH hv1)) rfl ?_; refine Z325 ?_; refine Z334 ?_; refine Z195 ?_
     refine yd L (rs:=[.tmp 6, .tmp 7]) rfl (fun _ _ h => h) Since.refl fun u H hH hle => ?_
     exact zr7 SlV.nil
    ·rw [if_pos (by rfl)]
     refine Z274 ?_; refine Z264 ?_; refine Z35 ?_; refine Z356 ?_; refine Z307 ?_; refine Z177 ?_; refine Z29 ?_; refine Z5 ?_; refine z7 (zp L rfl rfl (zk rfl) rfl rfl rfl (fun u H hH _ _ v1 hv1 => zjm (by omega) h1 hH hv1)) rfl ?_; refine Z52 ?_; refine Z1 ?_; refine Z5 ?_; refine z7 (zp L rfl rfl (zk rfl) rfl rfl rfl (fun u H hH _ _ v1 hv1 => zjm (by omega) h2 hH hv1)) rfl ?_; refine Z325 ?_; refine Z169 ?_; refine Z38 ?_; refine Z151 ?_; refine qm ?_
     refine zy9 0 (US l false) rfl SlV.mono (fun _ _ h => h.nofu) ?_
     refine zy9 1 (US m false) rfl SlV.mono (fun _ _ h => h.nofu) ?_
     refine zek 8 tyU 6 rfl ?_
     refine zal (fun s:Nat × List U × List U × List U => [(0, .sat (US s.2.1 false)), (1, .sat (US s.2.2.1 false)), (2, .is (.func (.func tf) #[] #[])), (8, .own (SlR tyU 6 s.2.2.2.length (s.2.2.2.flatMap ucs)))])
      (fun s => s.2.1.length + s.2.2.1.length ≤ s.1 ∧ s.2.2.2 ++ zer zbh f s.1 s.2.1 s.2.2.1 = zer zbh f (l.length + m.length) l m ∧ s.2.2.2.length + s.2.1.length + s.2.2.1.length ≤ 8192) (fun s => s.1) (l.length + m.length, l, m, []) ⟨Nat.le_refl _, rfl, by simp only [List.length_nil]; omega⟩ ⟨rfl, rfl, rfl, rfl, trivial⟩ ?_
     generalize zer zbh f (l.length + m.length) l m = R
     clear h1 h2 z1 z2 hv hv2
     rintro ⟨n, x, y, out⟩ ⟨hn, hR, hz⟩
     dsimp only at hn hR hz ⊢
     rcases x with _ | ⟨a, x⟩
     ·rcases y with _ | ⟨b, y⟩
      ·have hR:out = R:=by rw [← hR]; cases n <;> simp [zer]
       subst hR
       have l0:([]:List U).length = 0:=rfl
       refine Z396 ?_; refine Z35 ?_; refine Z356 ?_; refine Z307 ?_; refine Z328 ?_
       refine zcr 8 rfl ?_
       refine zf (id:=22) ?_; refine Z5 ?_; refine Z158 ?_; refine Z158 ?_; refine Z129 ?_; refine Z54 ?_; refine Z146 ?_
       refine yd L (rs:=[.tmp 6, .tmp 7]) rfl (fun _ _ h => h) Since.refl fun u H hH hle => ?_
       exact fun v hv => zr7 hv
      ·have l0:([]:List U).length = 0:=rfl
       have lb:(b :: y).length = y.length + 1:=rfl
       have hb:=zfw (l:=b :: y) (i:=0) (t:=b) rfl
       have tb:=zl6 b y
       rcases n with _ | n
       ·simp only [List.length_cons, List.length_nil] at hn; omega
       cases hft:f false true
       ·have hR:out ++ zer zbh f n [] y = R:=by rw [← hR]; simp [zer, hft]
        have hfv:∀ (u:World) (H:Heap), H.Le (hp u) → Ret Tryz.prog tf [.bool false, .bool true] u H (fun v _ => v = .bool false):=fun u H h => by have:=hf false true u H h; rwa [hft] at this
        refine Z396 ?_; refine Z35 ?_; refine Z356 ?_; refine Z41 ?_; refine Z258 ?_; refine Z235 ?_; refine Z420 ?_; refine Z28 ?_; refine Z146 ?_; refine Z13 ?_; refine Z69 ?_; refine Z384 ?_; refine Z424 ?_; refine z7 (yx (cs:=[_, _, _, _, _, _]) rfl rfl zfs rfl rfl) rfl ?_; refine Z421 ?_; refine Z41 ?_; refine Z152 ?_; refine Z100 ?_; refine Z422 ?_; refine z7 (yh L (vs:=[_, _, _, _, _, _]) rfl rfl rfl rfl rfl ⟨_, rfl⟩) rfl ?_; refine Z21 ?_; refine Z199 ?_; refine Z304 ?_; refine Z267 ?_; refine Z127 ?_; refine Z5 ?_; refine z7 (zbb L (kh:=.i64) (ph:=0) (km:=.i64) (pm:=0) 1 _ false rfl rfl rfl rfl rfl ⟨rfl, rfl⟩ ⟨rfl, rfl⟩ (fun h => by cases h) (by omega) (by omega) (by assumption)) rfl ?_; refine Z412 ?_; refine Z372 ?_; refine Z72 ?_; refine Z1 ?_; refine Z42 ?_; refine z7 (zp L rfl rfl (zk rfl) rfl rfl hfn (fun u H hH _ _ => hfv u H hH)) rfl ?_; refine Z201 ?_; refine yc ?_
        exact yj (x:=(n + 1, [], b :: y, out)) (n, [], y, out) ⟨by simp only [List.length_cons, List.length_nil] at hn ⊢; omega, hR, by simp only [List.length_cons, List.length_nil, List.length_append] at hz ⊢; omega⟩ (by dsimp only; omega) ⟨rfl, rfl, rfl, rfl, trivial⟩
       ·have hR:out ++ [b] ++ zer zbh f n [] y = R:=by rw [← hR]; simp [zer, hft]
        have hfv:∀ (u:World) (H:Heap), H.Le (hp u) → Ret Tryz.prog tf [.bool false, .bool true] u H (fun v _ => v = .bool true):=fun u H h => by have:=hf false true u H h; rwa [hft] at this
        refine Z396 ?_; refine Z35 ?_; refine Z356 ?_; refine Z41 ?_; refine Z258 ?_; refine Z235 ?_; refine Z420 ?_; refine Z28 ?_; refine Z146 ?_; refine Z13 ?_; refine Z69 ?_; refine Z384 ?_; refine Z424 ?_; refine z7 (yx (cs:=[_, _, _, _, _, _]) rfl rfl zfs rfl rfl) rfl ?_; refine Z421 ?_; refine Z41 ?_; refine Z152 ?_; refine Z100 ?_; refine Z422 ?_; refine z7 (yh L (vs:=[_, _, _, _, _, _]) rfl rfl rfl rfl rfl ⟨_, rfl⟩) rfl ?_; refine Z21 ?_; refine Z199 ?_; refine Z304 ?_; refine Z267 ?_; refine Z127 ?_; refine Z5 ?_; refine z7 (zbb L (kh:=.i64) (ph:=0) (km:=.i64) (pm:=0) 1 _ false rfl rfl rfl rfl rfl ⟨rfl, rfl⟩ ⟨rfl, rfl⟩ (fun h => by cases h) (by omega) (by omega) (by assumption)) rfl ?_; refine Z412 ?_; refine Z372 ?_; refine Z72 ?_; refine Z1 ?_; refine Z42 ?_; refine z7 (zp L rfl rfl (zk rfl) rfl rfl hfn (fun u H hH _ _ => hfv u H hH)) rfl ?_; refine Z152 ?_; refine Z122 ?_; refine qq (yo (.inl rfl) rfl rfl rfl rfl) ?_; refine z7 (qd L (vs:=[_, _, _, _, _, _]) (ym rfl) rfl rfl rfl rfl ⟨_, rfl⟩) rfl ?_; refine Z326 ?_; refine qq (yo (.inr rfl) rfl rfl rfl rfl) ?_; refine zi ?_; refine yc ?_
        exact yj (x:=(n + 1, [], b :: y, out)) (n, [], y, out ++ [b]) ⟨by simp only [List.length_cons, List.length_nil] at hn ⊢; omega, hR, by simp only [List.length_cons, List.length_nil, List.length_append] at hz ⊢; omega⟩ (by dsimp only; omega) ⟨rfl, rfl, rfl, zjj rfl, trivial⟩
     ·have la:(a :: x).length = x.length + 1:=rfl
      have ha:=zfw (l:=a :: x) (i:=0) (t:=a) rfl
      have ta:=zl6 a x
      rcases y with _ | ⟨b, y⟩
      ·have l0:([]:List U).length = 0:=rfl
       rcases n with _ | n
       ·simp only [List.length_cons, List.length_nil] at hn; omega
       cases hft:f true false
       ·have hR:out ++ zer zbh f n x [] = R:=by rw [← hR]; simp [zer, hft]
        have hfv:∀ (u:World) (H:Heap), H.Le (hp u) → Ret Tryz.prog tf [.bool true, .bool false] u H (fun v _ => v = .bool false):=fun u H h => by have:=hf true false u H h; rwa [hft] at this
        refine Z396 ?_; refine Z41 ?_; refine Z272 ?_; refine Z314 ?_; refine Z420 ?_; refine Z397 ?_; refine Z158 ?_; refine Z28 ?_; refine Z146 ?_; refine Z13 ?_; refine Z88 ?_; refine Z384 ?_; refine Z424 ?_; refine z7 (yx (cs:=[_, _, _, _, _, _]) rfl rfl zfs rfl rfl) rfl ?_; refine Z421 ?_; refine Z35 ?_; refine Z149 ?_; refine zh ?_; refine Z105 ?_; refine Z422 ?_; refine z7 (yh L (vs:=[_, _, _, _, _, _]) rfl rfl rfl rfl rfl ⟨_, rfl⟩) rfl ?_; refine Z268 ?_; refine Z410 ?_; refine z7 (zbb L (kh:=.i64) (ph:=0) (km:=.i64) (pm:=0) 1 _ false rfl rfl rfl rfl rfl ⟨rfl, rfl⟩ ⟨rfl, rfl⟩ (fun h => by cases h) (by omega) (by omega) (by assumption)) rfl ?_; refine Z392 ?_; refine Z304 ?_; refine Z46 ?_; refine Z169 ?_; refine Z372 ?_; refine Z76 ?_; refine Z1 ?_; refine Z46 ?_; refine z7 (zp L rfl rfl (zk rfl) rfl rfl hfn (fun u H hH _ _ => hfv u H hH)) rfl ?_; refine Z201 ?_; refine yc ?_
        exact yj (x:=(n + 1, a :: x, [], out)) (n, x, [], out) ⟨by simp only [List.length_cons, List.length_nil] at hn ⊢; omega, hR, by simp only [List.length_cons, List.length_nil, List.length_append] at hz ⊢; omega⟩ (by dsimp only; omega) ⟨rfl, rfl, rfl, rfl, trivial⟩
       ·have hR:out ++ [a] ++ zer zbh f n x [] = R:=by rw [← hR]; simp [zer, hft]
        have hfv:∀ (u:World) (H:Heap), H.Le (hp u) → Ret Tryz.prog tf [.bool true, .bool false] u H (fun v _ => v = .bool true):=fun u H h => by have:=hf true false u H h; rwa [hft] at this
        refine Z396 ?_; refine Z41 ?_; refine Z272 ?_; refine Z314 ?_; refine Z420 ?_; refine Z397 ?_; refine Z158 ?_; refine Z28 ?_; refine Z146 ?_; refine Z13 ?_; refine Z88 ?_; refine Z384 ?_; refine Z424 ?_; refine z7 (yx (cs:=[_, _, _, _, _, _]) rfl rfl zfs rfl rfl) rfl ?_; refine Z421 ?_; refine Z35 ?_; refine Z149 ?_; refine zh ?_; refine Z105 ?_; refine Z422 ?_; refine z7 (yh L (vs:=[_, _, _, _, _, _]) rfl rfl rfl rfl rfl ⟨_, rfl⟩) rfl ?_; refine Z268 ?_; refine Z410 ?_; refine z7 (zbb L (kh:=.i64) (ph:=0) (km:=.i64) (pm:=0) 1 _ false rfl rfl rfl rfl rfl ⟨rfl, rfl⟩ ⟨rfl, rfl⟩ (fun h => by cases h) (by omega) (by omega) (by assumption)) rfl ?_; refine Z392 ?_; refine Z304 ?_; refine Z46 ?_; refine Z169 ?_; refine Z372 ?_; refine Z76 ?_; refine Z1 ?_; refine Z46 ?_; refine z7 (zp L rfl rfl (zk rfl) rfl rfl hfn (fun u H hH _ _ => hfv u H hH)) rfl ?_; refine Z152 ?_; refine Z122 ?_; refine qq (yo (.inl rfl) rfl rfl rfl rfl) ?_; refine z7 (qd L (vs:=[_, _, _, _, _, _]) (ym rfl) rfl rfl rfl rfl ⟨_, rfl⟩) rfl ?_; refine Z326 ?_; refine qq (yo (.inr rfl) rfl rfl rfl rfl) ?_; refine zi ?_; refine yc ?_
        exact yj (x:=(n + 1, a :: x, [], out)) (n, x, [], out ++ [a]) ⟨by simp only [List.length_cons, List.length_nil] at hn ⊢; omega, hR, by simp only [List.length_cons, List.length_nil, List.length_append] at hz ⊢; omega⟩ (by dsimp only; omega) ⟨rfl, rfl, rfl, zjj rfl, trivial⟩
      ·have lb:(b :: y).length = y.length + 1:=rfl
       have hb:=zfw (l:=b :: y) (i:=0) (t:=b) rfl
       have tb:=zl6 b y
       by_cases c1:zbh a b < 0
       ·rcases n with _ | n
        ·simp only [List.length_cons, List.length_nil] at hn; omega
        cases hft:f true false
        ·have hR:out ++ zer zbh f n x (b :: y) = R:=by rw [← hR]; simp [zer, c1, hft]
         have hfv:∀ (u:World) (H:Heap), H.Le (hp u) → Ret Tryz.prog tf [.bool true, .bool false] u H (fun v _ => v = .bool false):=fun u H h => by have:=hf true false u H h; rwa [hft] at this
         refine Z396 ?_; refine Z41 ?_; refine Z272 ?_; refine Z314 ?_; refine Z420 ?_; refine Z397 ?_; refine Z158 ?_; refine Z375 ?_; refine Z98 ?_; refine Z376 ?_; refine z8 (yh L (vs:=[_, _, _, _, _, _]) rfl rfl rfl rfl rfl ⟨_, rfl⟩) rfl ?_; refine Z376 ?_; refine z8 (yh L (vs:=[_, _, _, _, _, _]) rfl rfl rfl rfl rfl ⟨_, rfl⟩) rfl ?_; refine z8 (zp L rfl rfl (zk rfl) rfl rfl rfl (fun u H hH _ _ => zdq hH)) rfl ?_; refine Z398 ?_; refine Z424 ?_; refine z7 (yx (cs:=[_, _, _, _, _, _]) rfl rfl zfs rfl rfl) rfl ?_; refine Z421 ?_; refine Z35 ?_; refine Z149 ?_; refine zh ?_; refine Z105 ?_; refine Z422 ?_; refine z7 (yh L (vs:=[_, _, _, _, _, _]) rfl rfl rfl rfl rfl ⟨_, rfl⟩) rfl ?_; refine Z268 ?_; refine Z410 ?_; refine z7 (zbb L (kh:=.i64) (ph:=0) (km:=.i64) (pm:=0) 1 _ false rfl rfl rfl rfl rfl ⟨rfl, rfl⟩ ⟨rfl, rfl⟩ (fun h => by cases h) (by omega) (by omega) (by assumption)) rfl ?_; refine Z392 ?_; refine Z304 ?_; refine Z46 ?_; refine Z169 ?_; refine Z372 ?_; refine Z76 ?_; refine Z1 ?_; refine Z46 ?_; refine z7 (zp L rfl rfl (zk rfl) rfl rfl hfn (fun u H hH _ _ => hfv u H hH)) rfl ?_; refine Z201 ?_; refine yc ?_
         exact yj (x:=(n + 1, a :: x, b :: y, out)) (n, x, (b :: y), out) ⟨by simp only [List.length_cons, List.length_nil] at hn ⊢; omega, hR, by simp only [List.length_cons, List.length_nil, List.length_append] at hz ⊢; omega⟩ (by dsimp only; omega) ⟨rfl, rfl, rfl, rfl, trivial⟩
        ·have hR:out ++ [a] ++ zer zbh f n x (b :: y) = R:=by rw [← hR]; simp [zer, c1, hft]
         have hfv:∀ (u:World) (H:Heap), H.Le (hp u) → Ret Tryz.prog tf [.bool true, .bool false] u H (fun v _ => v = .bool true):=fun u H h => by have:=hf true false u H h; rwa [hft] at this
         refine Z396 ?_; refine Z41 ?_; refine Z272 ?_; refine Z314 ?_; refine Z420 ?_; refine Z397 ?_; refine Z158 ?_; refine Z375 ?_; refine Z98 ?_; refine Z376 ?_; refine z8 (yh L (vs:=[_, _, _, _, _, _]) rfl rfl rfl rfl rfl ⟨_, rfl⟩) rfl ?_; refine Z376 ?_; refine z8 (yh L (vs:=[_, _, _, _, _, _]) rfl rfl rfl rfl rfl ⟨_, rfl⟩) rfl ?_; refine z8 (zp L rfl rfl (zk rfl) rfl rfl rfl (fun u H hH _ _ => zdq hH)) rfl ?_; refine Z398 ?_; refine Z424 ?_; refine z7 (yx (cs:=[_, _, _, _, _, _]) rfl rfl zfs rfl rfl) rfl ?_; refine Z421 ?_; refine Z35 ?_; refine Z149 ?_; refine zh ?_; refine Z105 ?_; refine Z422 ?_; refine z7 (yh L (vs:=[_, _, _, _, _, _]) rfl rfl rfl rfl rfl ⟨_, rfl⟩) rfl ?_; refine Z268 ?_; refine Z410 ?_; refine z7 (zbb L (kh:=.i64) (ph:=0) (km:=.i64) (pm:=0) 1 _ false rfl rfl rfl rfl rfl ⟨rfl, rfl⟩ ⟨rfl, rfl⟩ (fun h => by cases h) (by omega) (by omega) (by assumption)) rfl ?_; refine Z392 ?_; refine Z304 ?_; refine Z46 ?_; refine Z169 ?_; refine Z372 ?_; refine Z76 ?_; refine Z1 ?_; refine Z46 ?_; refine z7 (zp L rfl rfl (zk rfl) rfl rfl hfn (fun u H hH _ _ => hfv u H hH)) rfl ?_; refine Z152 ?_; refine Z122 ?_; refine qq (yo (.inl rfl) rfl rfl rfl rfl) ?_; refine z7 (qd L (vs:=[_, _, _, _, _, _]) (ym rfl) rfl rfl rfl rfl ⟨_, rfl⟩) rfl ?_; refine Z326 ?_; refine qq (yo (.inr rfl) rfl rfl rfl rfl) ?_; refine zi ?_; refine yc ?_
         exact yj (x:=(n + 1, a :: x, b :: y, out)) (n, x, (b :: y), out ++ [a]) ⟨by simp only [List.length_cons, List.length_nil] at hn ⊢; omega, hR, by simp only [List.length_cons, List.length_nil, List.length_append] at hz ⊢; omega⟩ (by dsimp only; omega) ⟨rfl, rfl, rfl, zjj rfl, trivial⟩
       ·by_cases c2:0 < zbh a b
        ·rcases n with _ | n
         ·simp only [List.length_cons, List.length_nil] at hn; omega
         cases hft:f false true
         ·have hR:out ++ zer zbh f n (a :: x) y = R:=by rw [← hR]; simp [zer, c1, c2, hft]
          have hfv:∀ (u:World) (H:Heap), H.Le (hp u) → Ret Tryz.prog tf [.bool false, .bool true] u H (fun v _ => v = .bool false):=fun u H h => by have:=hf false true u H h; rwa [hft] at this
          refine Z396 ?_; refine Z41 ?_; refine Z272 ?_; refine Z314 ?_; refine Z420 ?_; refine Z397 ?_; refine Z158 ?_; refine Z375 ?_; refine Z98 ?_; refine Z376 ?_; refine z8 (yh L (vs:=[_, _, _, _, _, _]) rfl rfl rfl rfl rfl ⟨_, rfl⟩) rfl ?_; refine Z376 ?_; refine z8 (yh L (vs:=[_, _, _, _, _, _]) rfl rfl rfl rfl rfl ⟨_, rfl⟩) rfl ?_; refine z8 (zp L rfl rfl (zk rfl) rfl rfl rfl (fun u H hH _ _ => zdq hH)) rfl ?_; refine Z398 ?_; refine Z424 ?_; refine z7 (yx (cs:=[_, _, _, _, _, _]) rfl rfl zfs rfl rfl) rfl ?_; refine Z421 ?_; refine Z41 ?_; refine Z152 ?_; refine Z100 ?_; refine Z422 ?_; refine z7 (yh L (vs:=[_, _, _, _, _, _]) rfl rfl rfl rfl rfl ⟨_, rfl⟩) rfl ?_; refine Z21 ?_; refine Z199 ?_; refine Z304 ?_; refine Z267 ?_; refine Z127 ?_; refine Z5 ?_; refine z7 (zbb L (kh:=.i64) (ph:=0) (km:=.i64) (pm:=0) 1 _ false rfl rfl rfl rfl rfl ⟨rfl, rfl⟩ ⟨rfl, rfl⟩ (fun h => by cases h) (by omega) (by omega) (by assumption)) rfl ?_; refine Z412 ?_; refine Z372 ?_; refine Z72 ?_; refine Z1 ?_; refine Z42 ?_; refine z7 (zp L rfl rfl (zk rfl) rfl rfl hfn (fun u H hH _ _ => hfv u H hH)) rfl ?_; refine Z201 ?_; refine yc ?_
          exact yj (x:=(n + 1, a :: x, b :: y, out)) (n, (a :: x), y, out) ⟨by simp only [List.length_cons, List.length_nil] at hn ⊢; omega, hR, by simp only [List.length_cons, List.length_nil, List.length_append] at hz ⊢; omega⟩ (by dsimp only; omega) ⟨rfl, rfl, rfl, rfl, trivial⟩
         ·have hR:out ++ [b] ++ zer zbh f n (a :: x) y = R:=by rw [← hR]; simp [zer, c1, c2, hft]
          have hfv:∀ (u:World) (H:Heap), H.Le (hp u) → Ret Tryz.prog tf [.bool false, .bool true] u H (fun v _ => v = .bool true):=fun u H h => by have:=hf false true u H h; rwa [hft] at this
          refine Z396 ?_; refine Z41 ?_; refine Z272 ?_; refine Z314 ?_; refine Z420 ?_; refine Z397 ?_; refine Z158 ?_; refine Z375 ?_; refine Z98 ?_; refine Z376 ?_; refine z8 (yh L (vs:=[_, _, _, _, _, _]) rfl rfl rfl rfl rfl ⟨_, rfl⟩) rfl ?_; refine Z376 ?_; refine z8 (yh L (vs:=[_, _, _, _, _, _]) rfl rfl rfl rfl rfl ⟨_, rfl⟩) rfl ?_; refine z8 (zp L rfl rfl (zk rfl) rfl rfl rfl (fun u H hH _ _ => zdq hH)) rfl ?_; refine Z398 ?_; refine Z424 ?_; refine z7 (yx (cs:=[_, _, _, _, _, _]) rfl rfl zfs rfl rfl) rfl ?_; refine Z421 ?_; refine Z41 ?_; refine Z152 ?_; refine Z100 ?_; refine Z422 ?_; refine z7 (yh L (vs:=[_, _, _, _, _, _]) rfl rfl rfl rfl rfl ⟨_, rfl⟩) rfl ?_; refine Z21 ?_; refine Z199 ?_; refine Z304 ?_; refine Z267 ?_; refine Z127 ?_; refine Z5 ?_; refine z7 (zbb L (kh:=.i64) (ph:=0) (km:=.i64) (pm:=0) 1 _ false rfl rfl rfl rfl rfl ⟨rfl, rfl⟩ ⟨rfl, rfl⟩ (fun h => by cases h) (by omega) (by omega) (by assumption)) rfl ?_; refine Z412 ?_; refine Z372 ?_; refine Z72 ?_; refine Z1 ?_; refine Z42 ?_; refine z7 (zp L rfl rfl (zk rfl) rfl rfl hfn (fun u H hH _ _ => hfv u H hH)) rfl ?_; refine Z152 ?_; refine Z122 ?_; refine qq (yo (.inl rfl) rfl rfl rfl rfl) ?_; refine z7 (qd L (vs:=[_, _, _, _, _, _]) (ym rfl) rfl rfl rfl rfl ⟨_, rfl⟩) rfl ?_; refine Z326 ?_; refine qq (yo (.inr rfl) rfl rfl rfl rfl) ?_; refine zi ?_; refine yc ?_
          exact yj (x:=(n + 1, a :: x, b :: y, out)) (n, (a :: x), y, out ++ [b]) ⟨by simp only [List.length_cons, List.length_nil] at hn ⊢; omega, hR, by simp only [List.length_cons, List.length_nil, List.length_append] at hz ⊢; omega⟩ (by dsimp only; omega) ⟨rfl, rfl, rfl, zjj rfl, trivial⟩
        ·rcases n with _ | n
         ·simp only [List.length_cons, List.length_nil] at hn; omega
         cases hft:f true true
         ·have hR:out ++ zer zbh f n x y = R:=by rw [← hR]; simp [zer, c1, c2, hft]
          have hfv:∀ (u:World) (H:Heap), H.Le (hp u) → Ret Tryz.prog tf [.bool true, .bool true] u H (fun v _ => v = .bool false):=fun u H h => by have:=hf true true u H h; rwa [hft] at this
          refine Z396 ?_; refine Z41 ?_; refine Z272 ?_; refine Z314 ?_; refine Z420 ?_; refine Z397 ?_; refine Z158 ?_; refine Z375 ?_; refine Z98 ?_; refine Z376 ?_; refine z8 (yh L (vs:=[_, _, _, _, _, _]) rfl rfl rfl rfl rfl ⟨_, rfl⟩) rfl ?_; refine Z376 ?_; refine z8 (yh L (vs:=[_, _, _, _, _, _]) rfl rfl rfl rfl rfl ⟨_, rfl⟩) rfl ?_; refine z8 (zp L rfl rfl (zk rfl) rfl rfl rfl (fun u H hH _ _ => zdq hH)) rfl ?_; refine Z398 ?_; refine Z424 ?_; refine z7 (yx (cs:=[_, _, _, _, _, _]) rfl rfl zfs rfl rfl) rfl ?_; refine Z421 ?_; refine Z35 ?_; refine Z149 ?_; refine zh ?_; refine Z105 ?_; refine Z422 ?_; refine z7 (yh L (vs:=[_, _, _, _, _, _]) rfl rfl rfl rfl rfl ⟨_, rfl⟩) rfl ?_; refine Z268 ?_; refine Z410 ?_; refine z7 (zbb L (kh:=.i64) (ph:=0) (km:=.i64) (pm:=0) 1 _ false rfl rfl rfl rfl rfl ⟨rfl, rfl⟩ ⟨rfl, rfl⟩ (fun h => by cases h) (by omega) (by omega) (by assumption)) rfl ?_; refine Z392 ?_; refine Z304 ?_; refine Z267 ?_; refine Z127 ?_; refine Z5 ?_; refine z7 (zbb L (kh:=.i64) (ph:=0) (km:=.i64) (pm:=0) 1 _ false rfl rfl rfl rfl rfl ⟨rfl, rfl⟩ ⟨rfl, rfl⟩ (fun h => by cases h) (by omega) (by omega) (by assumption)) rfl ?_; refine Z412 ?_; refine Z372 ?_; refine Z76 ?_; refine Z1 ?_; refine Z42 ?_; refine z7 (zp L rfl rfl (zk rfl) rfl rfl hfn (fun u H hH _ _ => hfv u H hH)) rfl ?_; refine Z201 ?_; refine yc ?_
          exact yj (x:=(n + 1, a :: x, b :: y, out)) (n, x, y, out) ⟨by simp only [List.length_cons, List.length_nil] at hn ⊢; omega, hR, by simp only [List.length_cons, List.length_nil, List.length_append] at hz ⊢; omega⟩ (by dsimp only; omega) ⟨rfl, rfl, rfl, rfl, trivial⟩
         ·have hR:out ++ [a] ++ zer zbh f n x y = R:=by rw [← hR]; simp [zer, c1, c2, hft]
          have hfv:∀ (u:World) (H:Heap), H.Le (hp u) → Ret Tryz.prog tf [.bool true, .bool true] u H (fun v _ => v = .bool true):=fun u H h => by have:=hf true true u H h; rwa [hft] at this
          refine Z396 ?_; refine Z41 ?_; refine Z272 ?_; refine Z314 ?_; refine Z420 ?_; refine Z397 ?_; refine Z158 ?_; refine Z375 ?_; refine Z98 ?_; refine Z376 ?_; refine z8 (yh L (vs:=[_, _, _, _, _, _]) rfl rfl rfl rfl rfl ⟨_, rfl⟩) rfl ?_; refine Z376 ?_; refine z8 (yh L (vs:=[_, _, _, _, _, _]) rfl rfl rfl rfl rfl ⟨_, rfl⟩) rfl ?_; refine z8 (zp L rfl rfl (zk rfl) rfl rfl rfl (fun u H hH _ _ => zdq hH)) rfl ?_; refine Z398 ?_; refine Z424 ?_; refine z7 (yx (cs:=[_, _, _, _, _, _]) rfl rfl zfs rfl rfl) rfl ?_; refine Z421 ?_; refine Z35 ?_; refine Z149 ?_; refine zh ?_; refine Z105 ?_; refine Z422 ?_; refine z7 (yh L (vs:=[_, _, _, _, _, _]) rfl rfl rfl rfl rfl ⟨_, rfl⟩) rfl ?_; refine Z268 ?_; refine Z410 ?_; refine z7 (zbb L (kh:=.i64) (ph:=0) (km:=.i64) (pm:=0) 1 _ false rfl rfl rfl rfl rfl ⟨rfl, rfl⟩ ⟨rfl, rfl⟩ (fun h => by cases h) (by omega) (by omega) (by assumption)) rfl ?_; refine Z392 ?_; refine Z304 ?_; refine Z267 ?_; refine Z127 ?_; refine Z5 ?_; refine z7 (zbb L (kh:=.i64) (ph:=0) (km:=.i64) (pm:=0) 1 _ false rfl rfl rfl rfl rfl ⟨rfl, rfl⟩ ⟨rfl, rfl⟩ (fun h => by cases h) (by omega) (by omega) (by assumption)) rfl ?_; refine Z412 ?_; refine Z372 ?_; refine Z76 ?_; refine Z1 ?_; refine Z42 ?_; refine z7 (zp L rfl rfl (zk rfl) rfl rfl hfn (fun u H hH _ _ => hfv u H hH)) rfl ?_; refine Z152 ?_; refine Z122 ?_; refine qq (yo (.inl rfl) rfl rfl rfl rfl) ?_; refine z7 (qd L (vs:=[_, _, _, _, _, _]) (ym rfl) rfl rfl rfl rfl ⟨_, rfl⟩) rfl ?_; refine Z326 ?_; refine qq (yo (.inr rfl) rfl rfl rfl rfl) ?_; refine zi ?_; refine yc ?_
          exact yj (x:=(n + 1, a :: x, b :: y, out)) (n, x, y, out ++ [a]) ⟨by simp only [List.length_cons, List.length_nil] at hn ⊢; omega, hR, by simp only [List.length_cons, List.length_nil, List.length_append] at hz ⊢; omega⟩ (by dsimp only; omega) ⟨rfl, rfl, rfl, zjj rfl, trivial⟩
end Go.V.L2
set_option maxRecDepth 20000
namespace Go.V.L2
open Go.Proofs Go.RowKit Go.V
abbrev fWo:Bool → Bool → Bool:=fun _ b => !b
attribute [local irreducible] V N X VO Par StepOK Has Ret RetL RetO Src
theorem z1k (p q:Bool) (w:World) (B:Heap) (hB:B.Le (hp w)):Ret Tryz.prog 132 [.bool p, .bool q] w B (fun v _ => v = .bool (fWo p q)):=by
 refine yg Tryz.func132 rfl Tryz.ntmps132 (Nat.le_of_ble_eq_true rfl) hB ?_
 refine Z309 ?_; refine Z52 ?_; refine Z146 ?_
 refine yd L (rs:=[.tmp 4]) rfl (fun _ _ h => h) Since.refl fun u H hH hle => ?_
 rfl
theorem zij {l m:List U} {fa fb:Bool} {r:List U × Int} {v v2:Value} {w:World} {B:Heap} (hr:z3b fWo l m = r) (hB:B.Le (hp w)) (hv:US l fa v B) (hv2:US m fb v2 B):Ret Tryz.prog 89 [v, v2] w B (LE r):=by
 refine yg Tryz.func89 rfl Tryz.ntmps89 (Nat.le_of_ble_eq_true rfl) hB ?_
 refine zaz 0 (US l fa) rfl SlV.mono hv ?_
 refine zaz 1 (US m fb) rfl SlV.mono hv2 ?_
 refine Z274 ?_; refine Z168 ?_; refine Z391 ?_; refine z7 (yr (φ:=LE r) L rfl rfl (zk rfl) rfl rfl rfl LE.mono (fun u H hH _ _ v1 h1 v2 h2 => zvm rfl z1k hr hH h1 h2)) rfl ?_; refine z7 (zg0 rfl rfl rfl rfl SlV.mono) rfl ?_; refine Z335 ?_; refine Z146 ?_
 refine yd L (rs:=[.tmp 4, .tmp 5]) rfl (fun _ _ h => h) Since.refl fun u H hH hle => ?_
 exact fun v hv => zr7 hv
end Go.V.L2
set_option maxRecDepth 20000
namespace Go.V.L8
open Go.Proofs Go.RowKit Go.V Go.V.L2 Go.V.L3 Go.V.L6
def z4r (a b:List U):List CH:=zkg ((zer zbh fWo (a.length + b.length) a b).map (fun t => (t, true)) ++ (zer zbh fWo (b.length + a.length) b a).map (fun t => (t, false)))
end Go.V.L8
set_option maxRecDepth 20000
namespace Go.V.L8
open Go.Proofs Go.RowKit Go.V Go.V.L2 Go.V.L3 Go.V.L6
attribute [local irreducible] V N X VO Par StepOK Has Ret RetL RetO RetT zce Src
end Go.V.L8
set_option maxRecDepth 20000
namespace Go.V.L8
open Go.Proofs Go.RowKit Go.V Go.V.L2 Go.V.L3 Go.V.L6
attribute [local irreducible] V N X VO Par StepOK Has Ret RetL RetO RetT zce Src
end Go.V.L8
set_option maxRecDepth 20000
namespace Go.V.L8
open Go.Proofs Go.RowKit Go.V Go.V.L2 Go.V.L3 Go.V.L6
attribute [local irreducible] V N X VO Par StepOK Has Ret RetL RetO RetT zce Src
end Go.V.L8
set_option maxRecDepth 20000
namespace Go.V.L8
open Go.Proofs Go.RowKit Go.V Go.V.L2 Go.V.L3 Go.V.L6
attribute [local irreducible] V N X VO Par StepOK Has Ret RetL RetO RetT zce Src
end Go.V.L8
set_option maxRecDepth 20000
namespace Go.V.L8
open Go.Proofs Go.RowKit Go.V Go.V.L2 Go.V.L3 Go.V.L6
theorem zzg (a b:List U):(zer zbh fWo (a.length + b.length) a b).length ≤ a.length + b.length:=zdl _ _ _ (Nat.le_refl _)
theorem zvj {a b:List U} (la:a.length ≤ 4096) (lb:b.length ≤ 4096) (sa:Sst zbh a) (sb:Sst zbh b):z3b fWo a b = (zer zbh fWo (a.length + b.length) a b, 0):=by
 unfold z3b
 have h1:isB a = true:=decide_eq_true sa
 have h2:isB b = true:=decide_eq_true sb
 rw [if_neg (by omega), h1, h2, if_pos (by decide)]
attribute [local irreducible] V N X VO Par StepOK Has Ret RetL RetO RetT zce Src
set_option maxHeartbeats 4000000 in
theorem zoz {a b:List U} {m:List CH} (la:a.length ≤ 4096) (lb:b.length ≤ 4096) (sa:Sst zbh a) (sb:Sst zbh b) (hr:z4r a b = m) {av bv:Value} {w:World} {B:Heap} (hB:B.Le (hp w)) (ha:SetV a av B) (hb:SetV b bv B) :
  Ret Tryz.prog 59 [av, bv] w B (KS tyC m true):=by
 subst hr
 obtain ⟨f1, p1, k1, q1, rfl, hp1⟩:=ha.shape
 obtain ⟨f2, p2, k2, q2, rfl, hp2⟩:=hb.shape
 have w1:=zvj la lb sa sb
 have w2:=zvj lb la sb sa
 have l1:=zzg a b
 have l2:=zzg b a
 have hbp:z4r a b = zkg ((zer zbh fWo (a.length + b.length) a b).map (fun t => (t, true)) ++ (zer zbh fWo (b.length + a.length) b a).map (fun t => (t, false))):=rfl
 rw [hbp]
 generalize zer zbh fWo (a.length + b.length) a b = G at *
 generalize zer zbh fWo (b.length + a.length) b a = K at *
 have mG:Kn.mono (.sat (US G true)):=SlV.mono
 have mK:Kn.mono (.sat (US K true)):=SlV.mono
 refine yg Tryz.func59 rfl Tryz.ntmps59 (Nat.le_of_ble_eq_true rfl) hB ?_
 refine Z213 ?_; refine Z351 ?_; refine z8 (qd L (vs:=[_, _, _, _]) (qp rfl) rfl rfl rfl rfl ⟨_, rfl⟩) rfl ?_; refine z8 (yr (φ:=US a true) L rfl rfl (zk rfl) rfl rfl rfl SlV.mono (fun u H hH hle _ => zf1 (by omega) hH (ha.le hle))) rfl ?_; refine z8 (qd L (vs:=[_, _, _, _]) (qp rfl) rfl rfl rfl rfl ⟨_, rfl⟩) rfl ?_; refine z8 (yr (φ:=US b true) L rfl rfl (zk rfl) rfl rfl rfl SlV.mono (fun u H hH hle _ => zf1 (by omega) hH (hb.le hle))) rfl ?_; refine Z94 ?_; refine Z94 ?_; refine Z306 ?_; refine Z32 ?_; refine Z391 ?_; refine z7 (yr (φ:=LE (G, 0)) L rfl rfl (zk rfl) rfl rfl rfl LE.mono (fun u H hH _ _ v1 h1 v2 h2 => zij w1 hH h1 h2)) rfl ?_; refine Z359 ?_; refine Z151 ?_; refine Z29 ?_; refine Z391 ?_; refine z7 (yr (φ:=LE (K, 0)) L rfl rfl (zk rfl) rfl rfl rfl LE.mono (fun u H hH _ _ v1 h1 v2 h2 => zij w2 hH h1 h2)) rfl ?_; refine Z359 ?_; refine Z151 ?_; refine Z31 ?_; refine Z155 ?_
 refine zek 11 tyC 7 rfl ?_
 refine Z38 ?_; refine Z350 ?_
 refine zal (fun i:Nat => [(9, .sat (US K true)), (11, .own (SlR tyC 7 ((G.take i).map fun t => ((t, true):CH)).length (((G.take i).map fun t => ((t, true):CH)).flatMap ccs))), (32, .sat (US G true)), (33, .is (.int .i64 G.length)), (34, .is (.int .i64 i))]) (fun i => i ≤ G.length) (fun i => G.length - i) 0 (Nat.zero_le _) ⟨rfl, rfl, rfl, rfl, rfl, trivial⟩ ?_
 rintro i hi
 have hli:((G.take i).map fun t => ((t, true):CH)).length ≤ 8192:=by rw [List.length_map, List.length_take]; omega
 by_cases hlt:i < G.length
 ·obtain ⟨t, ht⟩:=zaf hlt
  have hct:=zfw ht
  have e1:((G.take (i + 1)).map fun t => ((t, true):CH)) = ((G.take i).map fun t => ((t, true):CH)) ++ [(t, true)]:=by rw [List.take_add_one, ht, List.map_append]; rfl
  refine zh ?_; refine Z43 ?_; refine Z220 ?_; refine Z44 ?_; refine z7 (qu L _ rfl rfl rfl rfl rfl rfl rfl (by first | omega | decide) (by assumption)) rfl ?_; refine z7 (yh L (vs:=[_, _, _, _, _, _]) rfl rfl rfl rfl rfl ⟨_, rfl⟩) rfl ?_; refine Z210 ?_; refine Z145 ?_; refine Z58 ?_; refine qq (yo (.inl rfl) rfl rfl rfl rfl) ?_; refine z7 (qd L (vs:=[_, _, _, _, _, _]) (ym rfl) rfl rfl rfl rfl ⟨_, rfl⟩) rfl ?_; refine z7 (yx (cs:=[_, _, _, _, _, _, _]) rfl rfl zpm rfl rfl) rfl ?_; refine Z39 ?_; refine Z112 ?_; refine qq (yo (.inr rfl) rfl rfl rfl rfl) ?_; refine Z248 ?_; refine Z60 ?_; refine Z322 ?_
  exact yj (x:=i) (i + 1) hlt (by omega) ⟨rfl, by rw [e1]; exact zg7 rfl, rfl, rfl, rfl, trivial⟩
 ·obtain rfl:i = G.length:=by omega
  rw [List.take_length]
  have lG:(G.map fun t => ((t, true):CH)).length ≤ 8192:=by rw [List.length_map]; omega
  refine zh ?_; refine Z43 ?_; refine Z277 ?_; refine Z147 ?_; refine Z69 ?_; refine Z350 ?_
  refine zal (fun j:Nat => [(11, .own (SlR tyC 7 ((G.map fun t => ((t, true):CH)) ++ ((K.take j).map fun t => ((t, false):CH))).length (((G.map fun t => ((t, true):CH)) ++ ((K.take j).map fun t => ((t, false):CH))).flatMap ccs))), (44, .sat (US K true)), (45, .is (.int .i64 K.length)), (46, .is (.int .i64 j))]) (fun j => j ≤ K.length) (fun j => K.length - j) 0 (Nat.zero_le _) ⟨by rw [List.take_zero, List.map_nil, List.append_nil]; rfl, rfl, rfl, rfl, trivial⟩ ?_
  rintro j hj
  have hlj:((G.map fun t => ((t, true):CH)) ++ ((K.take j).map fun t => ((t, false):CH))).length ≤ 16384:=by rw [List.length_append, List.length_map, List.length_map, List.length_take]; omega
  by_cases hjl:j < K.length
  ·obtain ⟨t, ht⟩:=zaf hjl
   have hct:=zfw ht
   have e1:((G.map fun t => ((t, true):CH)) ++ ((K.take (j + 1)).map fun t => ((t, false):CH))) = ((G.map fun t => ((t, true):CH)) ++ ((K.take j).map fun t => ((t, false):CH))) ++ [(t, false)]:=by rw [List.take_add_one, ht, List.map_append, List.append_assoc]; rfl
   refine zh ?_; refine Z67 ?_; refine Z220 ?_; refine Z88 ?_; refine z7 (qu L _ rfl rfl rfl rfl rfl rfl rfl (by first | omega | decide) (by assumption)) rfl ?_; refine z7 (yh L (vs:=[_, _, _, _, _, _]) rfl rfl rfl rfl rfl ⟨_, rfl⟩) rfl ?_; refine Z210 ?_; refine Z145 ?_; refine Z89 ?_; refine qq (yo (.inl rfl) rfl rfl rfl rfl) ?_; refine z7 (qd L (vs:=[_, _, _, _, _, _]) (ym rfl) rfl rfl rfl rfl ⟨_, rfl⟩) rfl ?_; refine z7 (yx (cs:=[_, _, _, _, _, _, _]) rfl rfl zpm rfl rfl) rfl ?_; refine Z39 ?_; refine Z112 ?_; refine qq (yo (.inr rfl) rfl rfl rfl rfl) ?_; refine Z248 ?_; refine Z77 ?_; refine Z322 ?_
   exact yj (x:=j) (j + 1) hjl (by omega) ⟨by rw [e1]; exact zg7 rfl, rfl, rfl, rfl, trivial⟩
  ·obtain rfl:j = K.length:=by omega
   rw [List.take_length]
   rw [List.take_length] at hlj
   refine zcr 11 rfl ?_
   refine zh ?_; refine Z67 ?_; refine Z296 ?_; refine Z100 ?_; refine Z5 ?_; refine z7 (yr (φ:=KS tyC (zkg ((G.map fun t => ((t, true):CH)) ++ (K.map fun t => ((t, false):CH)))) true) L rfl rfl (zk rfl) rfl rfl rfl SlV.mono (fun u H hH _ _ v1 h1 => zp6 rfl (by omega) hH h1)) rfl ?_; refine Z275 ?_
   refine yd L (rs:=[.tmp 4]) rfl (fun _ _ h => h) Since.refl fun u H hH hle => ?_
   exact fun v hv => hv
end Go.V.L8
set_option maxRecDepth 20000
namespace Go.V.L10
open Go.Proofs Go.RowKit Go.V Go.V.L2 Go.V.L8 Go.V.L6
theorem _root_.Go.V.Z305 {A B:Prop} (h:B) (t:Wr B → A:=by intro h; refine Z176 ?_; refine Z51 ?_; exact h.h):A:=t ⟨h⟩
theorem zqn (S:Sto):zht fun (x:Nat × Value × Ent) (H:Heap) => MapOK x.2.2 S.R ∧ EsV x.2.2 H ∧ PsV (zad S.P) x.2.1 H:=fun _ _ _ ⟨h1, h2, h3⟩ hle => ⟨h1, h2.le hle, h3.le hle⟩
abbrev StG (b:Nat) (S:Sto):GR:=GEx (fun x:Nat × Value × Ent => StO b S.R.length x.1 x.2.1 S.P.length x.2.2) (fun x H => MapOK x.2.2 S.R ∧ EsV x.2.2 H ∧ PsV (zad S.P) x.2.1 H) (zqn S)
theorem zgw (b:Nat) (S:Sto):(StG b S).res = ExR (fun x:Nat × Value × Ent => (StO b S.R.length x.1 x.2.1 S.P.length x.2.2).res) (fun x H => MapOK x.2.2 S.R ∧ EsV x.2.2 H ∧ PsV (zad S.P) x.2.1 H) (zqn S):=rfl
theorem zc9 {S:Sto} {b m:Nat} {s:Value} {es:Ent} {B:Heap} (hm:MapOK es S.R) (hes:EsV es B) (hps:PsV (zad S.P) s B):∀ (v:Value) H u C, B.Le H → (StO b S.R.length m s S.P.length es).res.P v H u C → (StG b S).res.P v H u C:=fun _ _ _ _ hle h => ⟨(m, s, es), ⟨hm, hes.le hle, hps.le hle⟩, h⟩
theorem EsV.snoc {es:Ent} {H:Heap} (h:EsV es H) {k:Int} {t:List U} {v:Value} (hv:SetV t v H):EsV (es ++ [(k, (t, v))]) H:=fun e he => by
 rcases List.mem_append.1 he with he | he
 ·exact h e he
 ·rw [List.mem_singleton.1 he]; exact hv
theorem zdw {P:Program} {f:FuncId} {args:List Value} {w:World} {B:Heap} {C:Nat → Prop} {r:GR} {v:Value} (h:RetY P f args w B C r (fun x _ => x = v)):zd7 P f args w B C r v:=RetL.mono h fun _ _ _ _ hp => hp
attribute [local irreducible] V N X VO Par StepOK Has Ret RetL RetO RetT zce zd7 RetY Src
set_option maxHeartbeats 4000000 in
set_option maxRecDepth 20000 in
theorem ze2 {S S':Sto} {b:Nat} {l cs:List CH} {rev e:Int} {fl fc:Bool} (hI:z4f S) (hR:S.R.length ≤ 100000) (hn:S.R.length ≠ 0) (zl:∀ c ∈ l, TM c.1) (zc:∀ c ∈ cs, TM c.1) (ll:l.length ≤ 9223372036854775807) (lc:cs.length ≤ 9223372036854775807) (hw:ze0 S l cs = (S', rev, e)) {lv cv:Value} {w:World} {B:Heap} {C:Nat → Prop} (hB:B.Le (hp w))
  (hl:KS tyM l fl lv B) (hc:KS tyC cs fc cv B) (hr:(StG b S).P B w C) (hC:∀ k, C k → k < w.heap.size ∧ B k = none) :
  RetY Tryz.prog 19 [.pointer (some ⟨b, 0, none⟩), lv, cv] w B C (StG b S') (fun v _ => v = .tuple #[.int .u64 rev, .int .i64 e]):=by
 unfold RetY
 refine zat 900 (StG b S) Tryz.func19 rfl Tryz.ntmps19 (Nat.le_of_ble_eq_true rfl) hB hr hC ?_
 refine zaz 1 (KS tyM l fl) rfl SlV.mono hl ?_
 refine zaz 2 (KS tyC cs fc) rfl SlV.mono hc ?_
 rw [zgw]
 refine zdf 900 rfl fun x H hs0 hφ => ?_
 obtain ⟨m, s, es⟩:=x
 obtain ⟨hm, hes, hps⟩:=hφ
 dsimp only at hm hes hps ⊢
 obtain ⟨ps, pc, rfl⟩:=zaq hps
 obtain ⟨t0, ht0⟩:∃ t0, kpt S.R S.R.length = some t0:=Option.isSome_iff_exists.1 hI.last
 have hA:atS S 0 = (t0, 0):=by unfold atS; rw [if_pos rfl, ht0]
 have ht4:=hI.tl _ _ ht0
 obtain ⟨⟨t1, made, e1⟩, hwr⟩:∃ x, zel t0 l cs = x:=⟨_, rfl⟩
 unfold ze0 at hw
 rw [hA, hwr] at hw
 dsimp only at hw
 refine Z274 ?_; refine Z168 ?_; refine Z1 ?_; refine yt (zbm L 900 (WithP t0 0) (r:=StO b S.R.length m _ S.P.length es) rfl rfl rfl rfl rfl WithP.mono (fun u H2 C2 hH hle hr2 hC2 => by have h:=zfz (S:=S) (r:=0) hm hn (hes.le hle) hH hr2 hC2; rw [hA] at h; exact h)) ?_; refine zbx 14 rfl fun v1 H1 hs1 hp1 => ?_; obtain ⟨sv, rfl, hsv⟩:=hp1; obtain ⟨f1, p1, f2, p2, rfl, hpl⟩:=hsv.shape; refine Z315 ?_; refine Z155 ?_; refine Z182 ?_; refine Z241 ?_; refine Z31 ?_; refine z7 (qd L (vs:=[_, _, _, _]) (ym rfl) rfl rfl rfl rfl ⟨_, rfl⟩) rfl ?_; refine Z391 ?_; refine z7 (yr L rfl rfl (zk rfl) rfl rfl rfl WriteP.mono (fun u H2 hH hle _ v1 h1 v2 h2 => ztm zl zc ll lc ht4 hwr hH (hsv.le hle) h1 h2)) rfl ?_; refine zbx 24 rfl fun v3 H3 hs3 hp3 => ?_; obtain ⟨tv, mv, rfl, htv, hmv⟩:=hp3; obtain ⟨f3, p3, f4, p4, rfl, hpl4⟩:=htv.shape; refine Z183 ?_; refine Z16 ?_; refine Z303 ?_; refine Z234 ?_
 have hs13:=hs1.trans hs3
 have hes3:=hes.le hs13.le
 have hps3:=hps.le hs13.le
 by_cases he:e1 = 0
 ·subst he
  rw [if_pos rfl] at hw
  have hlen:=hm.len
  have hkl:=hI.kl
  rw [zev]
  refine zde 900 901 rfl (zaj _) ?_
  by_cases hk:1024 ≤ (za1 S.R).length
  ·rw [if_pos hk] at hw
   cases hw
   refine Z188 ?_; refine Z245 ?_; refine Z204 ?_; refine Z284 ?_; refine yt (zmq (q:=901) (vc:=vcE) mpS rfl rfl rfl rfl rfl) ?_; refine Z310 ?_; refine Z58 ?_; refine Z195 ?_
   refine za6 900 901 rfl rfl (zaj _) ?_
   refine zbf 900 (StG b S).res rfl (zc9 hm hes3 hps3) ?_
   exact zbr L 900 (r:=StG b S) (rs:=[.tmp 6, .tmp 7]) rfl (fun _ _ h => h) (hs0.trans hs13) rfl rfl (fun H hle => rfl)
  ·rw [if_neg hk] at hw
   cases hw
   have hadd:=hm.add t1 (.agg #[f3, .pointer p3, f4, .pointer p4])
   have hwn:IntKind.u64.wrap ((S.R.length:Int) + 1) = ((S.R.length + 1:Nat):Int):=wrap_u64 (by omega) (by omega)
   have hln:(S.R ++ [some t1]).length = S.R.length + 1:=by rw [List.length_append]; rfl
   refine Z188 ?_; refine Z245 ?_; refine Z204 ?_; refine Z284 ?_; refine yt (zmq (q:=901) (vc:=vcE) mpS rfl rfl rfl rfl rfl) ?_; refine Z289 ?_; refine Z60 ?_; refine Z1 ?_; refine Z284 ?_; refine Z18 ?_; refine Z249 ?_; refine Z293 ?_; refine Z284 ?_; refine Z18 ?_; refine Z205 ?_; refine zc1 (yz L (q:=900) (cs':=stc (S.R.length + 1) m (.slice ps (zad S.P).length pc) S.P.length) rfl rfl rfl rfl rfl rfl rfl rfl rfl) ?_; refine Z166 ?_
   refine qf (id:=12) [(200053, [900]), (200057, [900]), (100053, [901])] mixed (by kernel_rfl) ?_; refine Z305 ?_; refine Z305 ?_; refine z8 (qd L (vs:=[_, _, _, _]) (ym rfl) rfl rfl rfl rfl ⟨_, rfl⟩) rfl ?_; refine x5 (zlo (q:=901) (vc:=vcE) ((S.R.length + 1:Nat):Int) (t1, .agg #[f3, .pointer p3, f4, .pointer p4]) mpS kyS rfl rfl rfl rfl rfl rfl hadd.2) rfl ?_; refine Z306 ?_
   refine Z324 ?_; refine Z284 ?_; refine Z195 ?_
   refine za6 900 901 rfl rfl (zaj _) ?_
   refine zbf 900 (StG b ⟨S.R ++ [some t1], S.P⟩).res rfl (fun v H u C hle h => zc9 (S:=⟨S.R ++ [some t1], S.P⟩) (by have h2:=hadd.1; rw [hadd.2] at h2; exact h2) (hes3.snoc htv) hps3 v H u C hle (by dsimp only; rw [hln]; exact h)) ?_
   exact zbr L 900 (r:=StG b ⟨S.R ++ [some t1], S.P⟩) (rs:=[.tmp 6, .tmp 7]) rfl (fun _ _ h => h) (hs0.trans hs13) rfl rfl (fun H hle => rfl)
 ·rw [if_neg he] at hw
  cases hw
  refine Z188 ?_; refine Z221 ?_; refine Z198 ?_; refine Z195 ?_
  refine zbf 900 (StG b S).res rfl (zc9 hm hes3 hps3) ?_
  exact zbr L 900 (r:=StG b S) (rs:=[.tmp 6, .tmp 7]) rfl (fun _ _ h => h) (hs0.trans hs13) rfl rfl (fun H hle => rfl)
set_option maxHeartbeats 4000000 in
set_option maxRecDepth 20000 in
theorem zjw {S:Sto} {b f:Nat} {r:Int} {P':List Int} {e:Int} (hn:S.R.length ≠ 0) (hk:(kpt S.R r).isSome = true) (hfn:L.fn f = some ()) (hf:∀ {s:Value} {u:World} {H:Heap}, H.Le (hp u) → PsV (zad S.P) s H → Ret Tryz.prog f [pnv s S.P.length, .int .u64 r] u H (PinP P' e)) {w:World} {B:Heap} {C:Nat → Prop} (hB:B.Le (hp w))
  (hr:(StG b S).P B w C) (hC:∀ k, C k → k < w.heap.size ∧ B k = none) :
  RetY Tryz.prog 50 [.pointer (some ⟨b, 0, none⟩), .int .u64 r, .func (.func f) #[] #[]] w B C (StG b (if e = 0 then ⟨S.R, P'⟩ else S)) (fun v _ => v = .int .i64 e):=by
 unfold RetY
 refine zat 900 (StG b S) Tryz.func50 rfl Tryz.ntmps50 (Nat.le_of_ble_eq_true rfl) hB hr hC ?_
 rw [zgw]
 refine zdf 900 rfl fun x H hs0 hφ => ?_
 obtain ⟨m, s, es⟩:=x
 obtain ⟨hm, hes, hps⟩:=hφ
 dsimp only at hm hes hps ⊢
 obtain ⟨ps, pc, rfl⟩:=zaq hps
 rw [zev]
 refine zde 900 901 rfl (zaj _) ?_
 have hg:=hm.get r
 obtain ⟨⟨t0, sv⟩, hgk⟩:∃ x, zdj r es = some x:=by
  rw [← hg, Option.isSome_map] at hk
  exact Option.isSome_iff_exists.1 hk
 have hsv:SetV t0 sv H:=hes _ (zes hgk)
 obtain ⟨f1, p1, f2, p2, rfl, hpl⟩:=hsv.shape
 have q1:(zdj r es).elim nilSet vcE = .agg #[f1, .pointer p1, f2, .pointer p2]:=by rw [hgk]; rfl
 have q2:(zdj r es).isSome = true:=by rw [hgk]; rfl
 refine Z285 ?_; refine yt (zak L 900 (Φ:=fun H => H b = some (.cells (stc S.R.length m _ S.P.length).toArray tyS)) (c:=.bool false) rfl rfl (zk rfl) rfl rfl rfl rfl rfl zki (fun u H hH hle hb => zcv hn hb hH)) ?_; refine Z177 ?_; refine Z181 ?_; refine Z284 ?_; refine Z1 ?_; refine yt (zd9 (q:=901) (vc:=vcE) r mpS kyS zrS rfl rfl rfl rfl rfl q1 q2) ?_; refine Z315 ?_; refine Z151 ?_; refine Z173 ?_; refine Z52 ?_; refine Z169 ?_; refine Z290 ?_; refine Z205 ?_; refine yt (zao L (q:=900) (vs:=[_, _]) rfl rfl rfl rfl rfl rfl ⟨_, rfl⟩) ?_; refine Z1 ?_; refine z7 (yr (φ:=PinP P' e) L rfl rfl (zk rfl) rfl (cap:=[]) rfl hfn PinP.mono (fun u H2 hH hle _ => hf hH (hps.le hle))) rfl ?_; refine zbx 31 rfl fun v1 H1 hs1 hp1 => ?_; obtain ⟨s2, rfl, hs2⟩:=hp1; obtain ⟨p5, c5, rfl⟩:=zaq hs2; refine Z183 ?_; refine Z210 ?_; refine Z155 ?_
 by_cases he:e = 0
 ·subst he
  rw [if_pos rfl]
  refine Z204 ?_; refine Z294 ?_; refine Z233 ?_; refine z7 (qd L (vs:=[_, _]) (ym rfl) rfl rfl rfl rfl ⟨_, rfl⟩) rfl ?_; refine Z205 ?_; refine zc1 (yz L (q:=900) (cs':=stc S.R.length m (.slice p5 (zad P').length c5) P'.length) rfl rfl rfl rfl rfl rfl rfl rfl rfl) ?_; refine Z166 ?_; refine Z60 ?_; refine Z1 ?_; refine Z146 ?_
  refine za6 900 901 rfl rfl (zaj _) ?_
  refine zbf 900 (StG b ⟨S.R, P'⟩).res rfl (zc9 (S:=⟨S.R, P'⟩) hm (hes.le hs1.le) hs2) ?_
  exact zbr L 900 (r:=StG b ⟨S.R, P'⟩) (rs:=[.tmp 6]) rfl (fun _ _ h => h) (hs0.trans hs1) rfl rfl (fun H hle => rfl)
 ·rw [if_neg he]
  refine Z204 ?_; refine Z249 ?_; refine Z60 ?_; refine Z1 ?_; refine Z146 ?_
  refine za6 900 901 rfl rfl (zaj _) ?_
  refine zbf 900 (StG b S).res rfl (zc9 hm (hes.le hs1.le) (hps.le hs1.le)) ?_
  exact zbr L 900 (r:=StG b S) (rs:=[.tmp 6]) rfl (fun _ _ h => h) (hs0.trans hs1) rfl rfl (fun H hle => rfl)
set_option maxHeartbeats 4000000 in
theorem zim {S:Sto} {b:Nat} {r:Int} {fv:Value} (hn:S.R.length ≠ 0) (hk:¬ (kpt S.R r).isSome = true) {w:World} {B:Heap} {C:Nat → Prop} (hB:B.Le (hp w))
  (hr:(StG b S).P B w C) (hC:∀ k, C k → k < w.heap.size ∧ B k = none) :
  RetY Tryz.prog 50 [.pointer (some ⟨b, 0, none⟩), .int .u64 r, fv] w B C (StG b S) (fun v _ => v = .int .i64 14):=by
 refine RetY.ex hr fun x hφ hr => ?_
 obtain ⟨m, s, es⟩:=x
 obtain ⟨hm, hes, hps⟩:=hφ
 dsimp only at hm hes hps hr ⊢
 unfold RetY
 refine zat 900 (StO b S.R.length m s S.P.length es) Tryz.func50 rfl Tryz.ntmps50 (Nat.le_of_ble_eq_true rfl) hB hr hC ?_
 rw [zev]
 refine zde 900 901 rfl (zaj _) ?_
 have hg:=hm.get r
 have hgk:zdj r es = none:=by
  rw [← hg, Option.isSome_map] at hk
  cases h:zdj r es with
  | none => rfl
  | some y => rw [h] at hk; exact absurd rfl hk
 have q1:(zdj r es).elim nilSet vcE = nilSet:=by rw [hgk]; rfl
 have q2:(zdj r es).isSome = false:=by rw [hgk]; rfl
 refine Z285 ?_; refine yt (zak L 900 (Φ:=fun H => H b = some (.cells (stc S.R.length m _ S.P.length).toArray tyS)) (c:=.bool false) rfl rfl (zk rfl) rfl rfl rfl rfl rfl zki (fun u H hH hle hb => zcv hn hb hH)) ?_; refine Z177 ?_; refine Z181 ?_; refine Z284 ?_; refine Z1 ?_; refine yt (zd9 (q:=901) (vc:=vcE) r mpS kyS zrS rfl rfl rfl rfl rfl q1 q2) ?_; refine Z183 ?_; refine Z210 ?_; refine Z151 ?_; refine Z173 ?_; refine Z52 ?_; refine Z164 ?_; refine Z38 ?_; refine Z146 ?_
 refine za6 900 901 rfl rfl (zaj _) ?_
 exact zbr L 900 (r:=StO b S.R.length m s S.P.length es) (rs:=[.tmp 6]) rfl (fun _ _ h => h) Since.refl rfl rfl (fun H hle => rfl)
theorem zl9 {S S':Sto} {b:Nat} {r e:Int} (hn:S.R.length ≠ 0) (hz:S.P.length ≤ 1000) (hpn:zn9 S r false = (S', e)) {w:World} {B:Heap} {C:Nat → Prop} (hB:B.Le (hp w)) (hr:(StG b S).P B w C) (hC:∀ k, C k → k < w.heap.size ∧ B k = none) :
  RetY Tryz.prog 20 [.pointer (some ⟨b, 0, none⟩), .int .u64 r] w B C (StG b S') (fun v _ => v = .int .i64 e):=by
 unfold zn9 at hpn
 unfold RetY
 refine zat 900 (StG b S) Tryz.func20 rfl Tryz.ntmps20 (Nat.le_of_ble_eq_true rfl) hB hr hC ?_
 by_cases hk:(kpt S.R r).isSome = true
 ·rw [if_pos hk] at hpn
  rw [if_neg (by decide)] at hpn
  cases hpn
  have hr0:r ≠ 0:=by have:=zeg hk; omega
  refine Z393 ?_; refine qq (zai L 900 (StG b ⟨S.R, S.P ++ [r]⟩) (.int .i64 0) (r:=StG b S) rfl rfl rfl rfl rfl (fun u H2 C2 hH hle hr2 hC2 => by have h:=zjw (P':=S.P ++ [r]) (e:=0) hn hk rfl (fun hH hv => z0w hr0 hz hH hv) hH hr2 hC2; rw [if_pos rfl] at h; exact zdw h)) ?_; refine Z146 ?_
  exact zbr L 900 (r:=StG b ⟨S.R, S.P ++ [r]⟩) (rs:=[.tmp 4]) rfl (fun _ _ h => h) Since.refl rfl rfl (fun H hle => rfl)
 ·rw [if_neg hk] at hpn
  cases hpn
  refine Z393 ?_; refine yt (zb8 L 900 (.int .i64 14) (r:=StG b S) rfl rfl rfl rfl rfl (fun u H2 C2 hH hle hr2 hC2 => zim hn hk hH hr2 hC2)) ?_; refine Z146 ?_
  exact zbr L 900 (r:=StG b S) (rs:=[.tmp 4]) rfl (fun _ _ h => h) Since.refl rfl rfl (fun H hle => rfl)
theorem zhz {S S':Sto} {b:Nat} {r e:Int} (hn:S.R.length ≠ 0) (hz:S.P.length ≤ 1000) (hpn:zn9 S r true = (S', e)) {w:World} {B:Heap} {C:Nat → Prop} (hB:B.Le (hp w)) (hr:(StG b S).P B w C) (hC:∀ k, C k → k < w.heap.size ∧ B k = none) :
  RetY Tryz.prog 39 [.pointer (some ⟨b, 0, none⟩), .int .u64 r] w B C (StG b S') (fun v _ => v = .int .i64 e):=by
 unfold zn9 at hpn
 unfold RetY
 refine zat 900 (StG b S) Tryz.func39 rfl Tryz.ntmps39 (Nat.le_of_ble_eq_true rfl) hB hr hC ?_
 by_cases hk:(kpt S.R r).isSome = true
 ·rw [if_pos hk] at hpn
  rw [if_pos rfl] at hpn
  obtain ⟨⟨P', e'⟩, hu⟩:∃ x, zfy S.P r = x:=⟨_, rfl⟩
  rw [hu] at hpn
  dsimp only at hpn
  have hS:S' = (if ((e':Nat):Int) = 0 then ⟨S.R, P'⟩ else S) ∧ e = ((e':Nat):Int):=by
   by_cases h0:e' = 0
   ·subst h0; rw [if_pos rfl] at hpn; rw [if_pos (show ((0:Nat):Int) = 0 from rfl)]; cases hpn; exact ⟨rfl, rfl⟩
   ·rw [if_neg h0] at hpn; rw [if_neg (by omega)]; cases hpn; exact ⟨rfl, rfl⟩
  obtain ⟨rfl, rfl⟩:=hS
  refine Z393 ?_; refine qq (zai L 900 (StG b (if ((e':Nat):Int) = 0 then ⟨S.R, P'⟩ else S)) (.int .i64 e') (r:=StG b S) rfl rfl rfl rfl rfl (fun u H2 C2 hH hle hr2 hC2 => zdw (zjw (P':=P') (e:=e') hn hk rfl (fun hH hv => ztx hu hz hH hv) hH hr2 hC2))) ?_; refine Z146 ?_
  exact zbr L 900 (r:=StG b (if ((e':Nat):Int) = 0 then ⟨S.R, P'⟩ else S)) (rs:=[.tmp 4]) rfl (fun _ _ h => h) Since.refl rfl rfl (fun H hle => rfl)
 ·rw [if_neg hk] at hpn
  cases hpn
  refine Z393 ?_; refine yt (zb8 L 900 (.int .i64 14) (r:=StG b S) rfl rfl rfl rfl rfl (fun u H2 C2 hH hle hr2 hC2 => zim hn hk hH hr2 hC2)) ?_; refine Z146 ?_
  exact zbr L 900 (r:=StG b S) (rs:=[.tmp 4]) rfl (fun _ _ h => h) Since.refl rfl rfl (fun H hle => rfl)
end Go.V.L10
set_option maxRecDepth 20000
namespace Go.V.L10
open Go.Proofs Go.RowKit Go.V
theorem _root_.Go.V.Z423 {A B:Prop} (h:B) (t:Wr B → A:=by intro h; refine Z56 ?_; refine Z1 ?_; exact h.h):A:=t ⟨h⟩
theorem ztc {l:List Int} {i:Nat} {x r:Int} (h:l[i]? = some x):(l.take (i + 1)).count r = (l.take i).count r + if x = r then 1 else 0:=by
 rw [zbl h, List.count_append, List.count_singleton]
 congr 1
 by_cases e:x = r <;> simp [e]
theorem z30 {l:List Int} {i:Nat} {r:Int}:(l.take i).count r ≤ l.length:=Nat.le_trans List.count_le_length (by rw [List.length_take]; omega)
def nxF (last n x:Int):Int:=if last < x ∧ (n = 0 ∨ x < n) then x else n
def nxS (last:Int) (l:List Int):Int:=l.foldl (nxF last) 0
theorem zxv {last:Int} {l:List Int} {i:Nat} {x:Int} (h:l[i]? = some x):nxS last (l.take (i + 1)) = nxF last (nxS last (l.take i)) x:=by
 unfold nxS; rw [zbl h, List.foldl_append]; rfl
theorem zxu {last:Int} (h0:0 ≤ last) (l:List Int):(nxS last l = 0 ∧ ∀ x ∈ l, ¬ last < x) ∨ (nxS last l ∈ l ∧ last < nxS last l ∧ ∀ x ∈ l, last < x → nxS last l ≤ x):=by
 have key:∀ (m:List Int) (n:Int) (seen:List Int), ((n = 0 ∧ ∀ x ∈ seen, ¬ last < x) ∨ (n ∈ seen ∧ last < n ∧ ∀ x ∈ seen, last < x → n ≤ x)) → ((m.foldl (nxF last) n = 0 ∧ ∀ x ∈ seen ++ m, ¬ last < x) ∨ (m.foldl (nxF last) n ∈ seen ++ m ∧ last < m.foldl (nxF last) n ∧ ∀ x ∈ seen ++ m, last < x → m.foldl (nxF last) n ≤ x)):=by
  intro m
  induction m with
  | nil => intro n seen h; simpa using h
  | cons y m ih =>
   intro n seen h
   have h1:=ih (nxF last n y) (seen ++ [y]) (by
    unfold nxF
    by_cases hc:last < y ∧ (n = 0 ∨ y < n)
    ·rw [if_pos hc]
     refine .inr ⟨by simp, hc.1, fun x hx hl => ?_⟩
     rcases List.mem_append.1 hx with hx | hx
     ·rcases h with ⟨_, h3⟩ | ⟨_, h3, h4⟩
      ·exact absurd hl (h3 x hx)
      ·have:=h4 x hx hl; rcases hc.2 with h5 | h5 <;> omega
     ·rw [List.mem_singleton.1 hx]; exact Int.le_refl _
    ·rw [if_neg hc]
     rcases h with ⟨h2, h3⟩ | ⟨h2, h3, h4⟩
     ·refine .inl ⟨h2, fun x hx => ?_⟩
      rcases List.mem_append.1 hx with hx | hx
      ·exact h3 x hx
      ·rw [List.mem_singleton.1 hx]; exact fun hl => hc ⟨hl, .inl h2⟩
     ·refine .inr ⟨List.mem_append_left _ h2, h3, fun x hx hl => ?_⟩
      rcases List.mem_append.1 hx with hx | hx
      ·exact h4 x hx hl
      ·rw [List.mem_singleton.1 hx] at hl ⊢
       rcases Int.lt_or_le y n with h5 | h5
       ·exact absurd ⟨hl, .inr h5⟩ hc
       ·exact h5)
   simpa using h1
 simpa [nxS] using key l 0 [] (.inl ⟨rfl, fun x hx => by cases hx⟩)
def zhg (h:List Int) (k:Nat):Int:=if k = 0 then 0 else (h[k - 1]?).getD 0
theorem zsx {h:List Int} {k:Nat} {x:Int} (hx:h[k]? = some x):zhg h (k + 1) = x:=by
 unfold zhg
 rw [if_neg (by omega), Nat.add_sub_cancel, hx]; rfl
theorem zp0 {L0:List Int} {i j:Nat} {x y:Int} (hi:(zar L0)[i]? = some x) (hj:(zar L0)[j]? = some y) (hij:i < j):x < y:=by
 have h1:=List.pairwise_iff_getElem.1 (za7 L0) i j (get_lt hi) (get_lt hj) hij
 rw [zej hi, zej hj] at h1
 exact zy1.1 h1
theorem zvw {L0:List Int} (hp:∀ x ∈ L0, 0 < x) {k:Nat} {x:Int} (hx:(zar L0)[k]? = some x):zhg (zar L0) k < x:=by
 unfold zhg
 by_cases h:k = 0
 ·rw [if_pos h]; exact hp x (zay.1 (List.mem_of_getElem? hx))
 ·rw [if_neg h]
  have hk:k - 1 < (zar L0).length:=by have:=get_lt hx; omega
  rw [List.getElem?_eq_getElem hk]
  exact zp0 (List.getElem?_eq_getElem hk) hx (by omega)
theorem zx7 {L0:List Int} (hp:∀ x ∈ L0, 0 < x) {k:Nat} (hk:k ≤ (zar L0).length):0 ≤ zhg (zar L0) k:=by
 unfold zhg
 by_cases h:k = 0
 ·rw [if_pos h]; exact Int.le_refl _
 ·rw [if_neg h]
  have hk2:k - 1 < (zar L0).length:=by omega
  rw [List.getElem?_eq_getElem hk2]
  exact Int.le_of_lt (hp _ (zay.1 (List.getElem_mem hk2)))
theorem zxw {L0:List Int} (hp:∀ x ∈ L0, 0 < x) {k:Nat} (hk:k ≤ (zar L0).length):(nxS (zhg (zar L0) k) L0 = 0 ∧ k = (zar L0).length) ∨ (nxS (zhg (zar L0) k) L0 ≠ 0 ∧ (zar L0)[k]? = some (nxS (zhg (zar L0) k) L0)):=by
 rcases zxu (zx7 hp hk) L0 with ⟨h1, h2⟩ | ⟨h1, h2, h3⟩
 ·refine .inl ⟨h1, ?_⟩
  by_cases hlt:k < (zar L0).length
  ·obtain ⟨x, hx⟩:=zaf hlt
   exact absurd (zvw hp hx) (h2 x (zay.1 (List.mem_of_getElem? hx)))
  ·omega
 ·generalize hn:nxS (zhg (zar L0) k) L0 = n at *
  refine .inr ⟨fun e => by have:=hp _ h1; omega, ?_⟩
  obtain ⟨j, hj⟩:=List.getElem?_of_mem (zay.2 h1)
  have hjk:k ≤ j:=by
   rcases Nat.lt_or_ge j k with hlt | hge
   ·have:n ≤ zhg (zar L0) k:=by
     unfold zhg
     have hk2:k - 1 < (zar L0).length:=by omega
     rw [if_neg (by omega), List.getElem?_eq_getElem hk2]
     by_cases e:j = k - 1
     ·subst e; rw [zej hj]; exact Int.le_refl _
     ·exact Int.le_of_lt (zp0 hj (List.getElem?_eq_getElem hk2) (by omega))
    omega
   ·exact hge
  obtain ⟨x, hx⟩:=zaf (show k < (zar L0).length by have:=get_lt hj; omega)
  have h4:=h3 x (zay.1 (List.mem_of_getElem? hx)) (zvw hp hx)
  by_cases e:j = k
  ·subst e; exact hj
  ·have:=zp0 hx hj (by omega); omega
theorem zey {φ:Value → Heap → Prop} {a tv:Value} {H:Heap} (h:φ tv H):TupS [φ, fun v _ => v = a] (.tuple #[tv, a]) H:=by
 refine ⟨[tv, a], rfl, rfl, fun i φ' x hi hx => ?_⟩
 rcases i with _ | _ | i
 ·cases hi; cases hx; exact h
 ·cases hi; cases hx; rfl
 ·cases hi
theorem zf3 {φ:Value → Heap → Prop} {a:Value} (h:Kn.mono (.sat φ)):Kn.mono (.sat (TupS [φ, fun v _ => v = a])):=TupS.mono fun ψ hψ => by
 simp only [List.mem_cons, List.mem_nil_iff, or_false] at hψ
 rcases hψ with rfl | rfl
 ·exact h
 ·exact fun _ _ _ h _ => h
attribute [local irreducible] V N X VO Par StepOK Has Ret RetL RetO RetT zce zd7 Src
theorem zca {l:List Int} {r:Int} {fu:Bool} {c:Nat} (hc:l.count r = c) (hz:l.length ≤ 100000) {v:Value} {w:World} {B:Heap} (hB:B.Le (hp w)) (hv:RsV l fu v B) :
  Ret Tryz.prog 35 [v, .int .u64 r] w B (fun v _ => v = .int .i64 (c:Nat)):=by
 subst hc
 refine yg Tryz.func35 rfl Tryz.ntmps35 (Nat.le_of_ble_eq_true rfl) hB ?_
 refine zaz 0 (RsV l fu) rfl SlV.mono hv ?_
 refine Z194 ?_; refine Z155 ?_; refine Z383 ?_
 refine zal (fun s:Nat × Nat => [(0, .sat (RsV l fu)), (1, .is (.int .u64 r)), (5, .is (.int .i64 s.2)), (6, .is (.int .i64 s.1))]) (fun s => s.1 ≤ l.length ∧ s.2 = (l.take s.1).count r) (fun s => l.length - s.1) (0, 0) ⟨Nat.zero_le _, rfl⟩ ⟨rfl, rfl, rfl, rfl, trivial⟩ ?_
 rintro ⟨i, c⟩ ⟨hi, hc⟩
 dsimp only at hi hc ⊢
 have hcl:(l.take i).count r ≤ l.length:=z30
 by_cases hlt:i < l.length
 ·obtain ⟨x, hx⟩:=zaf hlt
  have hq:=ziy hx
  have hs:=ztc (r:=r) hx
  have hwi:IntKind.i64.wrap ((i:Int) + 1) = ((i + 1:Nat):Int):=zaa (by omega) (by omega)
  have hwc:IntKind.i64.wrap ((c:Int) + 1) = ((c + 1:Nat):Int):=zaa (by omega) (by omega)
  by_cases hxr:x = r
  ·rw [if_pos hxr] at hs
   refine Z266 ?_; refine Z222 ?_; refine Z38 ?_; refine Z202 ?_; refine z7 (qu L _ rfl rfl rfl rfl rfl rfl rfl (by first | omega | decide) (by assumption)) rfl ?_; refine Z423 ?_; refine Z294 ?_; refine Z198 ?_; refine Z217 ?_; refine Z175 ?_; refine Z371 ?_
   exact yj (x:=(i, c)) (i + 1, c + 1) ⟨hlt, by dsimp only; omega⟩ (by dsimp only; omega) ⟨rfl, rfl, rfl, rfl, trivial⟩
  ·rw [if_neg hxr] at hs
   refine Z266 ?_; refine Z222 ?_; refine Z38 ?_; refine Z202 ?_; refine z7 (qu L _ rfl rfl rfl rfl rfl rfl rfl (by first | omega | decide) (by assumption)) rfl ?_; refine Z423 ?_; refine Z14 ?_; refine Z228 ?_; refine Z371 ?_
   exact yj (x:=(i, c)) (i + 1, c) ⟨hlt, by dsimp only; omega⟩ (by dsimp only; omega) ⟨rfl, rfl, rfl, rfl, trivial⟩
 ·obtain rfl:i = l.length:=by omega
  rw [List.take_length] at hc
  subst hc
  refine Z266 ?_; refine Z299 ?_; refine Z204 ?_; refine Z146 ?_
  refine yd L (rs:=[.tmp 4]) rfl (fun _ _ h => h) Since.refl fun u H hH hle => ?_
  rfl
set_option maxHeartbeats 2000000 in
set_option maxRecDepth 10000 in
theorem zn4 {l:List Int} {fu:Bool} (hpos:∀ x ∈ l, 0 < x) (hz:l.length ≤ 100000) {v:Value} {w:World} {B:Heap} (hB:B.Le (hp w)) (hv:RsV l fu v B) :
  Ret Tryz.prog 57 [v] w B (RsV (zar l) false):=by
 have hhl:(zar l).length ≤ 100000:=Nat.le_trans (zbz l) hz
 refine yg Tryz.func57 rfl Tryz.ntmps57 (Nat.le_of_ble_eq_true rfl) hB ?_
 refine zaz 0 (RsV l fu) rfl SlV.mono hv ?_
 refine Z194 ?_; refine Z151 ?_; refine Z383 ?_
 refine zek 3 zjl 1 rfl ?_
 refine zal (fun k:Nat => [(0, .sat (RsV l fu)), (3, .own (SlR zjl 1 ((zar l).take k).length (((zar l).take k).map (Value.int .u64)))), (4, .is (.int .u64 (zhg (zar l) k)))]) (fun k => k ≤ (zar l).length) (fun k => (zar l).length - k) 0 (Nat.zero_le _) ⟨rfl, rfl, rfl, trivial⟩ ?_
 rintro k hk
 have hspec:=zxw hpos hk
 obtain ⟨last, hlast⟩:∃ x, x = zhg (zar l) k:=⟨_, rfl⟩
 have hln:((zar l).take k).length = k:=by rw [List.length_take]; omega
 rw [← hlast] at hspec ⊢
 refine Z160 ?_; refine Z29 ?_; refine Z155 ?_; refine Z31 ?_; refine Z208 ?_
 refine zal (fun i:Nat => [(0, .sat (RsV l fu)), (3, .own (SlR zjl 1 ((zar l).take k).length (((zar l).take k).map (Value.int .u64)))), (4, .is (.int .u64 last)), (5, .is (.int .u64 (nxS last (l.take i)))), (6, .is (.int .i64 i))]) (fun i => i ≤ l.length) (fun i => l.length - i) 0 (Nat.zero_le _) ⟨rfl, rfl, rfl, rfl, rfl, trivial⟩ ?_
 rintro i hi
 by_cases hlt:i < l.length
 ·obtain ⟨x, hx⟩:=zaf hlt
  have hq:=ziy hx
  have hs:=zxv (last:=last) hx
  have hwi:IntKind.i64.wrap ((i:Int) + 1) = ((i + 1:Nat):Int):=zaa (by omega) (by omega)
  generalize nxS last (l.take i) = nx at hs ⊢
  unfold nxF at hs
  by_cases h1:last < x
  ·by_cases h2:nx = 0
   ·rw [if_pos ⟨h1, .inl h2⟩] at hs
    refine Z147 ?_; refine Z188 ?_; refine Z222 ?_; refine Z44 ?_; refine Z202 ?_; refine z7 (qu L _ rfl rfl rfl rfl rfl rfl rfl (by first | omega | decide) (by assumption)) rfl ?_; refine Z423 ?_; refine Z41 ?_; refine Z148 ?_; refine Z28 ?_; refine Z308 ?_; refine Z230 ?_; refine Z258 ?_; refine Z58 ?_; refine Z202 ?_; refine z7 (qu L _ rfl rfl rfl rfl rfl rfl rfl (by first | omega | decide) (by assumption)) rfl ?_; refine Z56 ?_; refine Z384 ?_; refine Z198 ?_; refine Z217 ?_
    exact yj (x:=i) (i + 1) hlt (by omega) ⟨rfl, rfl, rfl, by rw [hs]; rfl, rfl, trivial⟩
   ·by_cases h3:x < nx
    ·rw [if_pos ⟨h1, .inr h3⟩] at hs
     refine Z147 ?_; refine Z188 ?_; refine Z222 ?_; refine Z44 ?_; refine Z202 ?_; refine z7 (qu L _ rfl rfl rfl rfl rfl rfl rfl (by first | omega | decide) (by assumption)) rfl ?_; refine Z423 ?_; refine Z41 ?_; refine Z148 ?_; refine Z14 ?_; refine Z1 ?_; refine Z202 ?_; refine z7 (qu L _ rfl rfl rfl rfl rfl rfl rfl (by first | omega | decide) (by assumption)) rfl ?_; refine Z423 ?_; refine Z7 ?_; refine Z8 ?_; refine Z258 ?_; refine Z58 ?_; refine Z202 ?_; refine z7 (qu L _ rfl rfl rfl rfl rfl rfl rfl (by first | omega | decide) (by assumption)) rfl ?_; refine Z56 ?_; refine Z384 ?_; refine Z198 ?_; refine Z217 ?_
     exact yj (x:=i) (i + 1) hlt (by omega) ⟨rfl, rfl, rfl, by rw [hs]; rfl, rfl, trivial⟩
    ·rw [if_neg (fun h => h.2.elim h2 h3)] at hs
     refine Z147 ?_; refine Z188 ?_; refine Z222 ?_; refine Z44 ?_; refine Z202 ?_; refine z7 (qu L _ rfl rfl rfl rfl rfl rfl rfl (by first | omega | decide) (by assumption)) rfl ?_; refine Z423 ?_; refine Z41 ?_; refine Z148 ?_; refine Z14 ?_; refine Z1 ?_; refine Z202 ?_; refine z7 (qu L _ rfl rfl rfl rfl rfl rfl rfl (by first | omega | decide) (by assumption)) rfl ?_; refine Z423 ?_; refine Z10 ?_; refine Z404 ?_; refine Z228 ?_; refine Z198 ?_; refine Z217 ?_
     exact yj (x:=i) (i + 1) hlt (by omega) ⟨rfl, rfl, rfl, by rw [hs]; rfl, rfl, trivial⟩
  ·rw [if_neg (fun h => h1 h.1)] at hs
   refine Z147 ?_; refine Z188 ?_; refine Z222 ?_; refine Z44 ?_; refine Z202 ?_; refine z7 (qu L _ rfl rfl rfl rfl rfl rfl rfl (by first | omega | decide) (by assumption)) rfl ?_; refine Z423 ?_; refine Z35 ?_; refine Z347 ?_; refine Z167 ?_; refine Z230 ?_; refine Z228 ?_; refine Z198 ?_; refine Z217 ?_
   exact yj (x:=i) (i + 1) hlt (by omega) ⟨rfl, rfl, rfl, by rw [hs]; rfl, rfl, trivial⟩
 ·obtain rfl:i = l.length:=by omega
  rw [List.take_length]
  generalize nxS last l = nx at hspec ⊢
  rcases hspec with ⟨h1, h2⟩ | ⟨h1, h2⟩
  ·subst h2
   rw [List.take_length]
   refine zcr 3 rfl ?_
   refine Z147 ?_; refine Z188 ?_; refine Z158 ?_; refine Z223 ?_; refine Z301 ?_; refine Z1 ?_; refine Z310 ?_; refine Z69 ?_; refine Z5 ?_; refine Z275 ?_
   refine yd L (rs:=[.tmp 2]) rfl (fun _ _ h => h) Since.refl fun u H hH hle => ?_
   exact fun v hv => hv
  ·have hlt2:=get_lt h2
   refine Z147 ?_; refine Z188 ?_; refine Z158 ?_; refine Z223 ?_; refine Z301 ?_; refine Z1 ?_; refine Z249 ?_; refine Z67 ?_; refine qq (yo (.inl rfl) rfl rfl rfl rfl) ?_; refine Z1 ?_; refine Z39 ?_; refine Z113 ?_; refine qq (yo (.inr rfl) rfl rfl rfl rfl) ?_; refine Z145 ?_; refine Z88 ?_; refine Z1 ?_; refine Z255 ?_
   exact yj (x:=k) (k + 1) hlt2 (by omega) ⟨rfl, by rw [zbl h2]; exact zmf, by rw [zsx h2]; rfl, trivial⟩
theorem zqt {l:List Int} {x:Int} {fu:Bool} {v:Value} {H:Heap} (h:SlV zjl 1 (l.map (Value.int .u64) ++ [Value.int .u64 x]) (l.length + 1) fu v H):RsV (l ++ [x]) fu v H:=by
 unfold RsV; rw [List.map_append, List.length_append]; exact h
abbrev RP2 (l:List Int) (e:Int):Value → Heap → Prop:=TupS [RsV l false, fun v _ => v = .int .i64 e]
theorem zqv {l:List Int} {e:Int}:Kn.mono (.sat (RP2 l e)):=zf3 SlV.mono
set_option maxHeartbeats 1000000 in
theorem zxj {l:List Int} {r:Int} {fu:Bool} (hr:r ≠ 0) (hpos:∀ x ∈ l, 0 < x) (hz:l.length ≤ 1000) {v:Value} {w:World} {B:Heap} (hB:B.Le (hp w)) (hv:RsV l fu v B) :
  Ret Tryz.prog 85 [v, .int .u64 r] w B (RP2 (l ++ [r]) 0):=by
 obtain ⟨c, hc⟩:∃ c, l.count r = c:=⟨_, rfl⟩
 have hcz:c ≤ 1000:=by rw [← hc]; exact Nat.le_trans List.count_le_length hz
 have hhl:(zar l).length ≤ 1000:=Nat.le_trans (zbz l) hz
 have hlen:(l.map (Value.int .u64)).length = l.length * 1:=by simp
 have hpl:=zmg l
 refine yg Tryz.func85 rfl Tryz.ntmps85 (Nat.le_of_ble_eq_true rfl) hB ?_
 refine zaz 0 (RsV l fu) rfl SlV.mono hv ?_
 by_cases h0:c = 0
 ·refine Z274 ?_; refine Z197 ?_; refine Z249 ?_; refine Z29 ?_; refine Z202 ?_; refine z7 (zp L rfl rfl (zk rfl) rfl rfl rfl (fun u H hH hle _ v1 h1 => zca hc (by omega) hH h1)) rfl ?_; refine Z155 ?_; refine Z173 ?_; refine Z46 ?_; refine Z148 ?_; refine Z28 ?_; refine Z1 ?_; refine Z5 ?_; refine z7 (yr (φ:=RsV (zar l) false) L rfl rfl (zk rfl) rfl rfl rfl SlV.mono (fun u H hH hle _ v1 h1 => zn4 hpos (by omega) hH h1)) rfl ?_; refine Z11 ?_; refine Z46 ?_; refine Z404 ?_; refine Z169 ?_; refine Z43 ?_; refine Z5 ?_; refine z7 (zda L rfl rfl rfl (zih rfl) rfl zyp hlen hpl (by omega) (by omega)) rfl ?_; refine Z1 ?_; refine Z39 ?_; refine Z113 ?_; refine qq (yo (.inr rfl) rfl rfl rfl rfl) ?_; refine Z146 ?_
  refine zcr 4 rfl ?_
  refine yd L (rs:=[.tmp 4, .tmp 5]) rfl (fun _ _ h => h) Since.refl fun u H hH hle => ?_
  exact fun v hv => zey (zqt hv)
 ·refine Z274 ?_; refine Z197 ?_; refine Z249 ?_; refine Z29 ?_; refine Z202 ?_; refine z7 (zp L rfl rfl (zk rfl) rfl rfl rfl (fun u H hH hle _ v1 h1 => zca hc (by omega) hH h1)) rfl ?_; refine Z155 ?_; refine Z173 ?_; refine Z46 ?_; refine Z148 ?_; refine Z14 ?_; refine Z329 ?_; refine Z8 ?_; refine Z169 ?_; refine Z43 ?_; refine Z5 ?_; refine z7 (zda L rfl rfl rfl (zih rfl) rfl zyp hlen hpl (by omega) (by omega)) rfl ?_; refine Z1 ?_; refine Z39 ?_; refine Z113 ?_; refine qq (yo (.inr rfl) rfl rfl rfl rfl) ?_; refine Z146 ?_
  refine zcr 4 rfl ?_
  refine yd L (rs:=[.tmp 4, .tmp 5]) rfl (fun _ _ h => h) Since.refl fun u H hH hle => ?_
  exact fun v hv => zey (zqt hv)
theorem zym {l:List Int} {i:Nat} {r:Int} (h:∀ x ∈ l.take i, x ≠ r) (hx:l[i]? = some r):l.erase r = l.take i ++ l.drop (i + 1):=by
 have hi:=get_lt hx
 have e:l = l.take i ++ r :: l.drop (i + 1):=by
  rw [show r :: l.drop (i + 1) = l.drop i by rw [List.drop_eq_getElem_cons hi, zej hx], List.take_append_drop]
 conv => lhs; rw [e]
 rw [List.erase_append_right _ (fun hm => h _ hm rfl), List.erase_cons_head]
set_option maxHeartbeats 1000000 in
theorem zse {l l1:List Int} {r:Int} {e:Nat} {fu:Bool} (hr:zfy l r = (l1, e)) (hz:l.length ≤ 1000) {v:Value} {w:World} {B:Heap} (hB:B.Le (hp w)) (hv:RsV l fu v B) :
  Ret Tryz.prog 86 [v, .int .u64 r] w B (RP2 l1 e):=by
 unfold zfy at hr
 refine yg Tryz.func86 rfl Tryz.ntmps86 (Nat.le_of_ble_eq_true rfl) hB ?_
 refine zaz 0 (RsV l fu) rfl SlV.mono hv ?_
 refine Z274 ?_; refine Z163 ?_; refine Z208 ?_
 refine zal (fun i:Nat => [(0, .sat (RsV l fu)), (1, .is (.int .u64 r)), (4, .is (.slice none 0 0)), (5, .is (.int .i64 0)), (6, .is (.int .i64 i))]) (fun i => i ≤ l.length ∧ ∀ x ∈ l.take i, x ≠ r) (fun i => l.length - i) 0 ⟨Nat.zero_le _, fun x hx => by cases hx⟩ ⟨rfl, rfl, rfl, rfl, rfl, trivial⟩ ?_
 rintro i ⟨hi, hn⟩
 by_cases hlt:i < l.length
 ·obtain ⟨x, hx⟩:=zaf hlt
  have hq:=ziy hx
  have hwi:IntKind.i64.wrap ((i:Int) + 1) = ((i + 1:Nat):Int):=zaa (by omega) (by omega)
  by_cases hxr:x = r
  ·subst hxr
   have hc:¬ l.count x = 0:=by have:=List.count_pos_iff.2 (List.mem_of_getElem? hx); omega
   rw [if_neg hc] at hr
   cases hr
   have he:=zym hn hx
   have q1:((l.map (Value.int .u64)).drop (0 * 1)).take ((i - 0) * 1) = (l.take i).map (Value.int .u64):=by simp
   have q2:((l.map (Value.int .u64)).drop ((i + 1) * 1)).take ((l.length - (i + 1)) * 1) = (l.drop (i + 1)).map (Value.int .u64):=by
    rw [Nat.mul_one, Nat.mul_one, ← List.map_drop, List.take_of_length_le (by simp)]
   have hl1:((l.take i).map (Value.int .u64)).length = (i - 0) * 1:=by rw [List.length_map, List.length_take]; omega
   have hl2:((l.drop (i + 1)).map (Value.int .u64)).length = (l.length - (i + 1)) * 1:=by rw [List.length_map, List.length_drop]; omega
   have hp1:=zmg (l.take i)
   have hp2:=zmg (l.drop (i + 1))
   have hlen:i - 0 + (l.length - (i + 1)) = (l.erase x).length:=by rw [he, List.length_append, List.length_take, List.length_drop]; omega
   refine Z298 ?_; refine Z222 ?_; refine Z31 ?_; refine Z202 ?_; refine z7 (qu L _ rfl rfl rfl rfl rfl rfl rfl (by first | omega | decide) (by assumption)) rfl ?_; refine Z423 ?_; refine Z310 ?_; refine qf (id:=5) [(27, [22]), (4, [27])] mixed (by kernel_rfl) ?_; refine Z200 ?_; refine z8 (zbb L (kl:=.i64) (pl:=0) (km:=.i64) (pm:=0) 0 i false rfl rfl rfl rfl rfl rfl ⟨rfl, rfl⟩ (fun h => by cases h) (by omega) (by omega) q1) rfl ?_; refine z8 (zda L rfl rfl rfl (zih rfl) rfl zyp hl1 hp1 (by omega) (by omega)) rfl ?_; refine Z200 ?_; refine Z33 ?_; refine z8 (zbb L (kh:=.i64) (ph:=0) (km:=.i64) (pm:=0) (i + 1) l.length false rfl rfl rfl rfl rfl ⟨rfl, rfl⟩ ⟨rfl, rfl⟩ (fun h => by cases h) (by omega) (by omega) q2) rfl ?_; refine zau (zcl L rfl rfl rfl (zih rfl) rfl zyp hl2 hp2 (by omega) (by omega)) rfl rfl ?_; refine zau (yo (.inr rfl) rfl rfl rfl rfl) rfl rfl ?_; refine Z185 ?_
   rw [← List.map_append, ← he, hlen]
   refine zcr 4 rfl ?_
   refine yd L (rs:=[.tmp 4, .tmp 5]) rfl (fun _ _ h => h) Since.refl fun u H hH hle => ?_
   exact fun v hv => zey hv
  ·refine Z298 ?_; refine Z222 ?_; refine Z31 ?_; refine Z202 ?_; refine z7 (qu L _ rfl rfl rfl rfl rfl rfl rfl (by first | omega | decide) (by assumption)) rfl ?_; refine Z423 ?_; refine Z14 ?_; refine Z228 ?_; refine Z181 ?_; refine Z217 ?_
   exact yj (x:=i) (i + 1) ⟨hlt, fun y hy => by
    rw [zbl hx] at hy
    rcases List.mem_append.1 hy with hy | hy
    ·exact hn y hy
    ·rw [List.mem_singleton.1 hy]; exact hxr⟩ (by omega) ⟨rfl, rfl, rfl, rfl, rfl, trivial⟩
 ·obtain rfl:i = l.length:=by omega
  rw [List.take_length] at hn
  rw [if_pos (List.count_eq_zero.2 fun hm => hn r hm rfl)] at hr
  cases hr
  refine Z298 ?_; refine Z299 ?_; refine Z43 ?_; refine Z195 ?_
  refine yd L (rs:=[.tmp 4, .tmp 5]) rfl (fun _ _ h => h) Since.refl fun u H hH hle => ?_
  exact zey SlV.nil
theorem zv7 {l R:List Int} {keep i:Nat} {x:Int} (h:R[i]? = some x):(List.filter (fun r => decide (l.count r = 0)) ((R.take (i + 1)).take (R.length - keep))) = (List.filter (fun r => decide (l.count r = 0)) ((R.take i).take (R.length - keep))) ++ if l.count x = 0 ∧ keep < R.length - i then [x] else []:=by
 rw [List.take_take, List.take_take]
 by_cases hk:keep < R.length - i
 ·rw [Nat.min_eq_right (show i + 1 ≤ R.length - keep by omega), Nat.min_eq_right (show i ≤ R.length - keep by omega), zbl h, List.filter_append]
  congr 1
  by_cases h0:l.count x = 0
  ·rw [if_pos ⟨h0, hk⟩]; simp [h0]
  ·rw [if_neg (fun h => h0 h.1)]; simp [h0]
 ·rw [Nat.min_eq_left (show R.length - keep ≤ i + 1 by omega), Nat.min_eq_left (show R.length - keep ≤ i by omega), if_neg (fun h => hk h.2), List.append_nil]
set_option maxHeartbeats 1000000 in
set_option maxRecDepth 10000 in
theorem zue {l R:List Int} {keep:Nat} {fu fr:Bool} (hz:l.length ≤ 100000) (hR:R.length ≤ 100000) (hkp:keep ≤ 100000) {v1 v2:Value} {w:World} {B:Heap} (hB:B.Le (hp w)) (hv:RsV l fu v1 B) (hr:RsV R fr v2 B) :
  Ret Tryz.prog 87 [v1, v2, .int .i64 keep] w B (RsV (zdn l R keep) false):=by
 have hgo:zdn l R keep = (R.take (R.length - keep)).filter fun r => decide (l.count r = 0):=rfl
 rw [hgo]
 clear hgo
 refine yg Tryz.func87 rfl Tryz.ntmps87 (Nat.le_of_ble_eq_true rfl) hB ?_
 refine zaz 0 (RsV l fu) rfl SlV.mono hv ?_
 refine zaz 1 (RsV R fr) rfl SlV.mono hr ?_
 refine Z194 ?_; refine Z155 ?_
 refine zek 7 zjl 1 rfl ?_
 refine Z383 ?_
 refine zal (fun y:Nat × List Int => [(0, .sat (RsV l fu)), (1, .sat (RsV R fr)), (2, .is (.int .i64 keep)), (7, .own (SlR zjl 1 y.2.length (y.2.map (Value.int .u64)))), (8, .is (.int .i64 y.1))])
  (fun y => y.1 ≤ R.length ∧ y.2 = List.filter (fun r => decide (l.count r = 0)) ((R.take y.1).take (R.length - keep))) (fun y => R.length - y.1) (0, []) ⟨Nat.zero_le _, by simp⟩ ⟨rfl, rfl, rfl, rfl, rfl, trivial⟩ ?_
 rintro ⟨i, out⟩ ⟨hi, hout⟩
 dsimp only at hi hout ⊢
 have hol:out.length ≤ i:=by rw [hout]; exact Nat.le_trans (List.length_filter_le ..) (by rw [List.length_take, List.length_take]; omega)
 by_cases hlt:i < R.length
 ·obtain ⟨x, hx⟩:=zaf hlt
  have hq:=ziy hx
  have hs:=zv7 (l:=l) (keep:=keep) hx
  obtain ⟨c, hc⟩:∃ c, l.count x = c:=⟨_, rfl⟩
  have hcz:c ≤ 100000:=by rw [← hc]; exact Nat.le_trans List.count_le_length hz
  have hwi:IntKind.i64.wrap ((i:Int) + 1) = ((i + 1:Nat):Int):=zaa (by omega) (by omega)
  have hws:IntKind.i64.wrap ((R.length:Int) - (i:Int)) = ((R.length - i:Nat):Int):=zaa (by omega) (by omega) |>.trans (by omega)
  rw [hc] at hs
  by_cases h0:c = 0
  ·by_cases hk:keep < R.length - i
   ·rw [if_pos ⟨h0, hk⟩, ← hout] at hs
    refine Z266 ?_; refine Z222 ?_; refine Z38 ?_; refine Z409 ?_; refine z7 (qu L _ rfl rfl rfl rfl rfl rfl rfl (by first | omega | decide) (by assumption)) rfl ?_; refine Z56 ?_; refine z7 (zp L rfl rfl (zk rfl) rfl rfl rfl (fun u H hH hle _ v1 h1 => zca hc hz hH h1)) rfl ?_; refine Z28 ?_; refine Z356 ?_; refine Z238 ?_; refine Z1 ?_; refine Z41 ?_; refine Z258 ?_; refine Z43 ?_; refine qq (yo (.inl rfl) rfl rfl rfl rfl) ?_; refine Z202 ?_; refine z7 (qu L _ rfl rfl rfl rfl rfl rfl rfl (by first | omega | decide) (by assumption)) rfl ?_; refine Z56 ?_; refine Z39 ?_; refine Z113 ?_; refine qq (yo (.inr rfl) rfl rfl rfl rfl) ?_; refine Z248 ?_; refine Z371 ?_
    exact yj (x:=(i, out)) (i + 1, out ++ [x]) ⟨hlt, hs.symm⟩ (by dsimp only; omega) ⟨rfl, rfl, rfl, zmf, rfl, trivial⟩
   ·rw [if_neg (fun h => hk h.2), List.append_nil, ← hout] at hs
    refine Z266 ?_; refine Z222 ?_; refine Z38 ?_; refine Z409 ?_; refine z7 (qu L _ rfl rfl rfl rfl rfl rfl rfl (by first | omega | decide) (by assumption)) rfl ?_; refine Z56 ?_; refine z7 (zp L rfl rfl (zk rfl) rfl rfl rfl (fun u H hH hle _ v1 h1 => zca hc hz hH h1)) rfl ?_; refine Z28 ?_; refine Z356 ?_; refine Z238 ?_; refine Z1 ?_; refine Z307 ?_; refine Z228 ?_; refine Z371 ?_
    exact yj (x:=(i, out)) (i + 1, out) ⟨hlt, hs.symm⟩ (by dsimp only; omega) ⟨rfl, rfl, rfl, rfl, rfl, trivial⟩
  ·rw [if_neg (fun h => h0 h.1), List.append_nil, ← hout] at hs
   refine Z266 ?_; refine Z222 ?_; refine Z38 ?_; refine Z409 ?_; refine z7 (qu L _ rfl rfl rfl rfl rfl rfl rfl (by first | omega | decide) (by assumption)) rfl ?_; refine Z56 ?_; refine z7 (zp L rfl rfl (zk rfl) rfl rfl rfl (fun u H hH hle _ v1 h1 => zca hc hz hH h1)) rfl ?_; refine Z14 ?_; refine Z308 ?_; refine Z230 ?_; refine Z228 ?_; refine Z371 ?_
   exact yj (x:=(i, out)) (i + 1, out) ⟨hlt, hs.symm⟩ (by dsimp only; omega) ⟨rfl, rfl, rfl, rfl, rfl, trivial⟩
 ·obtain rfl:i = R.length:=by omega
  rw [List.take_length] at hout
  rw [← hout]
  refine zcr 7 rfl ?_
  refine Z266 ?_; refine Z299 ?_; refine Z44 ?_; refine Z5 ?_; refine Z275 ?_
  refine yd L (rs:=[.tmp 6]) rfl (fun _ _ h => h) Since.refl fun u H hH hle => ?_
  exact fun v hv => hv
def b01 (b:Bool):Int:=if b then 1 else 0
set_option maxHeartbeats 1000000 in
theorem zdv {a b:List Int} {f:Bool} {fa fb:Bool} (hf:decide (a = b) = f) (ha:a.length ≤ 100000) (hb:b.length ≤ 100000) {v1 v2:Value} {w:World} {B:Heap} (hB:B.Le (hp w)) (h1:RsV a fa v1 B) (h2:RsV b fb v2 B) :
  Ret Tryz.prog 22 [v1, v2] w B (fun v _ => v = .int .i64 (b01 f)):=by
 subst hf
 refine yg Tryz.func22 rfl Tryz.ntmps22 (Nat.le_of_ble_eq_true rfl) hB ?_
 refine zaz 0 (RsV a fa) rfl SlV.mono h1 ?_
 refine zaz 1 (RsV b fb) rfl SlV.mono h2 ?_
 by_cases hl:a.length = b.length
 ·refine Z407 ?_; refine Z245 ?_; refine Z29 ?_; refine Z208 ?_
  refine zal (fun i:Nat => [(0, .sat (RsV a fa)), (1, .sat (RsV b fb)), (5, .is (.int .i64 i))]) (fun i => i ≤ a.length ∧ a.take i = b.take i) (fun i => a.length - i) 0 ⟨Nat.zero_le _, rfl⟩ ⟨rfl, rfl, rfl, trivial⟩ ?_
  rintro i ⟨hi, ht⟩
  by_cases hlt:i < a.length
  ·obtain ⟨x, hx⟩:=zaf hlt
   obtain ⟨y, hy⟩:=zaf (show i < b.length by omega)
   have hc1:=ziy hx
   have hc2:=ziy hy
   have hwk:IntKind.i64.wrap ((i:Int) + 1) = ((i + 1:Nat):Int):=zaa (by omega) (by omega)
   by_cases hxy:x = y
   ·refine Z353 ?_; refine Z200 ?_; refine z8 (qu L _ rfl rfl rfl rfl rfl rfl rfl (by first | omega | decide) (by assumption)) rfl ?_; refine Z90 ?_; refine Z200 ?_; refine z8 (qu L _ rfl rfl rfl rfl rfl rfl rfl (by first | omega | decide) (by assumption)) rfl ?_; refine Z90 ?_; refine Z96 ?_; refine Z265 ?_; refine Z319 ?_; refine Z188 ?_; refine Z217 ?_
    exact yj (x:=i) (i + 1) ⟨hlt, by rw [zbl hx, zbl hy, ht, hxy]⟩ (by omega) ⟨rfl, rfl, rfl, trivial⟩
   ·rw [decide_eq_false (z1x hx hy hxy)]
    refine Z353 ?_; refine Z200 ?_; refine z8 (qu L _ rfl rfl rfl rfl rfl rfl rfl (by first | omega | decide) (by assumption)) rfl ?_; refine Z90 ?_; refine Z200 ?_; refine z8 (qu L _ rfl rfl rfl rfl rfl rfl rfl (by first | omega | decide) (by assumption)) rfl ?_; refine Z90 ?_; refine Z144 ?_; refine Z406 ?_; refine Z346 ?_
    refine yd L (rs:=[.tmp 4]) rfl (fun _ _ h => h) Since.refl fun u H hH hle => ?_
    rfl
  ·obtain rfl:i = a.length:=by omega
   have hab:a = b:=by rw [List.take_length, hl, List.take_length] at ht; exact ht
   rw [decide_eq_true hab]
   refine Z226 ?_; refine Z299 ?_; refine Z382 ?_
   refine yd L (rs:=[.tmp 4]) rfl (fun _ _ h => h) Since.refl fun u H hH hle => ?_
   rfl
 ·rw [decide_eq_false (zvu hl)]
  refine Z407 ?_; refine Z221 ?_; refine Z32 ?_; refine Z146 ?_
  refine yd L (rs:=[.tmp 4]) rfl (fun _ _ h => h) Since.refl fun u H hH hle => ?_
  rfl
end Go.V.L10
set_option maxRecDepth 20000
namespace Go.V.L10
open Go.Proofs Go.RowKit Go.V Go.V.L2 Go.V.L8 Go.V.L6
def z2b (es:Ent) (l:List Int):Ent:=l.foldl (fun e g => zss g e) es
theorem zwd {es:Ent} {l:List Int} {i:Nat} {g:Int} (h:l[i]? = some g):z2b es (l.take (i + 1)) = zss g (z2b es (l.take i)):=by unfold z2b; rw [zbl h, List.foldl_append]; rfl
theorem MapOK.dels:∀ {l:List Int} {es:Ent} {R:List (Option (List U))}, MapOK es R → (∀ g ∈ l, 0 < g) → MapOK (z2b es l) (clrL R l)
 | [], _, _, h, _ => h
 | g :: l, _, _, h, hg => MapOK.dels (l:=l) (h.del (hg g (List.mem_cons_self ..))) fun x hx => hg x (List.mem_cons_of_mem _ hx)
theorem EsV.dels:∀ {l:List Int} {es:Ent} {H:Heap}, EsV es H → EsV (z2b es l) H
 | [], _, _, h => h
 | g :: l, _, _, h => EsV.dels (l:=l) fun e he => h e ((zmu g _).subset he)
theorem zyg {P0:List Int} {R:List (Option (List U))} {k:Nat}:∀ g ∈ zdn P0 (za1 R) k, 0 < g:=fun g hg => by
 unfold zdn at hg
 have h1:=List.mem_of_mem_take (List.mem_filter.1 hg).1
 exact (zeg (zcn.1 h1)).1
theorem SetV.sst {l:List U} {v:Value} {H:Heap} (h:SetV l v H):Sst zbh l:=by
 obtain ⟨_, _, _, _, ht, _⟩:=h
 exact ht.st
theorem zbj {b n m t:Nat} {s:Value} {es:Ent}:∀ v H u C, (StO b n m s t es).res.P v H u C → joinH H u C b = some (.cells (stc n m s t).toArray tyS):=by rw [zev]; exact zvs
theorem zyz {b n m t:Nat} {s:Value} {es:Ent}:∀ v H u C, (StO b n m s t es).res.P v H u C → u.heap[b]? = some (.cells (stc n m s t).toArray tyS):=by rw [zev]; exact zwq
def zro (S:Sto) (a b:Int):List CH × Int:=if (atS S a).2 = 0 then (if (atS S b).2 = 0 then (z4r (atS S a).1 (atS S b).1, 0) else ([], (atS S b).2)) else ([], (atS S a).2)
theorem zqc {S:Sto} (hI:z4f S) (r:Int):(atS S r).1.length ≤ 4096:=by
 unfold atS
 split
 ·rename_i t h; exact hI.tl _ _ h
 ·exact Nat.zero_le _
attribute [local irreducible] V N X VO Par StepOK Has Ret RetL RetO RetT zce zd7 RetY Src
abbrev zwy (g:List Int) (e:Int):Value → Heap → Prop:=TupS [RsV g true, fun v _ => v = .int .i64 e]
set_option maxHeartbeats 4000000 in
set_option maxRecDepth 20000 in
theorem zem {S:Sto} {b:Nat} {keep:Int} (hn:S.R.length ≠ 0) (hz:S.P.length ≤ 100000) (hR:S.R.length ≤ 100000) {w:World} {B:Heap} {C:Nat → Prop} (hB:B.Le (hp w)) (hr:(StG b S).P B w C) (hC:∀ k, C k → k < w.heap.size ∧ B k = none) :
  RetY Tryz.prog 21 [.pointer (some ⟨b, 0, none⟩), .int .i64 keep] w B C (StG b (zdp S keep).1) (zwy (zdp S keep).2.1 (zdp S keep).2.2):=by
 unfold RetY
 refine zat 900 (StG b S) Tryz.func21 rfl Tryz.ntmps21 (Nat.le_of_ble_eq_true rfl) hB hr hC ?_
 rw [zgw]
 refine zdf 900 rfl fun x H hs0 hφ => ?_
 obtain ⟨m, s, es⟩:=x
 obtain ⟨hm, hes, hps⟩:=hφ
 dsimp only at hm hes hps ⊢
 obtain ⟨ps, pc, rfl⟩:=zaq hps
 have hlen:=hm.len
 have hkl:=zco S.R
 by_cases hk1:keep < 1
 ·have hS:zdp S keep = (S, [], 4):=by unfold zdp; rw [if_neg (by omega)]
  rw [hS]
  refine Z154 ?_; refine Z207 ?_; refine Z368 ?_; refine yt (zak L 900 (Φ:=fun H => H b = some (.cells (stc S.R.length m (.slice ps (zad S.P).length pc) S.P.length).toArray tyS)) (c:=.bool false) rfl rfl (zk rfl) rfl rfl rfl rfl rfl zbj (fun u H hH hle hb => zcv hn hb hH)) ?_; refine Z218 ?_; refine Z181 ?_; refine Z7 ?_; refine Z193 ?_; refine Z8 ?_; refine Z327 ?_; refine Z31 ?_; refine Z195 ?_
  refine zbf 900 (StG b S).res rfl (zc9 hm hes hps) ?_
  exact zbr L 900 (r:=StG b S) (rs:=[.tmp 4, .tmp 5]) rfl (fun _ _ h => h) hs0 rfl rfl (fun H hle => zey SlV.nil)
 ·by_cases hk2:1024 < keep
  ·have hS:zdp S keep = (S, [], 4):=by unfold zdp; rw [if_neg (by omega)]
   rw [hS]
   refine Z154 ?_; refine Z207 ?_; refine Z368 ?_; refine yt (zak L 900 (Φ:=fun H => H b = some (.cells (stc S.R.length m (.slice ps (zad S.P).length pc) S.P.length).toArray tyS)) (c:=.bool false) rfl rfl (zk rfl) rfl rfl rfl rfl rfl zbj (fun u H hH hle hb => zcv hn hb hH)) ?_; refine Z218 ?_; refine Z181 ?_; refine Z10 ?_; refine Z148 ?_; refine Z41 ?_; refine Z8 ?_; refine Z327 ?_; refine Z31 ?_; refine Z195 ?_
   refine zbf 900 (StG b S).res rfl (zc9 hm hes hps) ?_
   exact zbr L 900 (r:=StG b S) (rs:=[.tmp 4, .tmp 5]) rfl (fun _ _ h => h) hs0 rfl rfl (fun H hle => zey SlV.nil)
  ·obtain ⟨k, rfl⟩:∃ k:Nat, keep = (k:Int):=⟨keep.toNat, by omega⟩
   have hS:zdp S k = (⟨clrL S.R (zdn S.P (za1 S.R) k), S.P⟩, zdn S.P (za1 S.R) k, 0):=by unfold zdp; rw [if_pos (by omega)]; rfl
   rw [hS]
   have hgp:∀ x ∈ zdn S.P (za1 S.R) k, 0 < x:=zyg
   have hgl:(zdn S.P (za1 S.R) k).length ≤ 100000:=by
    unfold zdn
    refine Nat.le_trans (List.length_filter_le ..) ?_
    rw [List.length_take]; omega
   generalize hg:zdn S.P (za1 S.R) k = g at hgp hgl
   refine Z154 ?_; refine Z207 ?_; refine Z368 ?_; refine yt (zak L 900 (Φ:=fun H => H b = some (.cells (stc S.R.length m (.slice ps (zad S.P).length pc) S.P.length).toArray tyS)) (c:=.bool false) rfl rfl (zk rfl) rfl rfl rfl rfl rfl zbj (fun u H hH hle hb => zcv hn hb hH)) ?_; refine Z218 ?_; refine Z181 ?_; refine Z10 ?_; refine Z148 ?_; refine Z307 ?_; refine Z196 ?_; refine Z319 ?_; refine zh ?_
   refine qf (id:=5) [(200022, [900]), (200024, [900])] mixed (by kernel_rfl) ?_; refine Z176 ?_; refine qg (zu7 L (q:=900) (vs:=[_, _]) rfl rfl zyz rfl rfl rfl rfl ⟨_, rfl⟩) rfl rfl ?_; refine Z3 ?_; refine qg (zbm L 900 (RsV (za1 S.R) true) (r:=StO b S.R.length m _ S.P.length es) rfl rfl rfl rfl rfl SlV.mono (fun u H2 C2 hH hle hr2 hC2 => (zfh hm hn (by omega) hH hr2 hC2).pubY zet)) rfl rfl ?_; refine Z3 ?_; refine z8 (yr (φ:=RsV g true) L rfl rfl (zk rfl) rfl rfl rfl SlV.mono (fun u H2 hH hle _ v1 h1 => by rw [← hg]; exact zyf hz (by omega) (by omega) hH (hps.le hle) h1)) rfl ?_; refine Z386 ?_; refine Z147 ?_
   rw [zev]
   refine zde 900 901 rfl (zaj _) ?_
   refine Z43 ?_; refine Z350 ?_
   refine zal (fun y:Nat × Ent => [(0, .is (.pointer (some ⟨b, 0, none⟩))), (6, .sat (RsV g true)), (27, .sat (RsV g true)), (28, .is (.int .i64 g.length)), (29, .is (.int .i64 y.1)), (900, .own (zan b (stc S.R.length m (.slice ps (zad S.P).length pc) S.P.length) tyS)), (901, .own (zk3 m .u64 vcE y.2))])
    (fun y => y.1 ≤ g.length ∧ y.2 = z2b es (g.take y.1)) (fun y => g.length - y.1) (0, es) ⟨Nat.zero_le _, rfl⟩ ⟨rfl, rfl, rfl, rfl, rfl, rfl, rfl, trivial⟩ ?_
   rintro ⟨i, ec⟩ ⟨hi, hec⟩
   dsimp only at hi hec ⊢
   by_cases hlt:i < g.length
   ·obtain ⟨x, hx⟩:=zaf hlt
    have hc:=ziy hx
    have hnx:=zwd (es:=es) hx
    have hwk:IntKind.i64.wrap ((i:Int) + 1) = ((i + 1:Nat):Int):=zaa (by omega) (by omega)
    refine zh ?_; refine Z44 ?_; refine Z220 ?_; refine Z58 ?_; refine z7 (qu L _ rfl rfl rfl rfl rfl rfl rfl (by first | omega | decide) (by assumption)) rfl ?_; refine Z56 ?_; refine Z146 ?_; refine Z60 ?_; refine Z1 ?_; refine Z284 ?_; refine Z1 ?_; refine zc1 (zsm (q:=901) (vc:=vcE) x mpS kyS rfl rfl rfl rfl rfl) ?_; refine Z248 ?_; refine Z69 ?_; refine Z417 ?_
    exact yj (x:=(i, ec)) (i + 1, zss x ec) ⟨hlt, by rw [hnx, hec]⟩ (by dsimp only; omega) ⟨rfl, rfl, rfl, rfl, rfl, rfl, rfl, trivial⟩
   ·obtain rfl:i = g.length:=by omega
    rw [List.take_length] at hec
    subst hec
    refine zh ?_; refine Z44 ?_; refine Z296 ?_; refine Z67 ?_; refine Z5 ?_; refine Z54 ?_; refine Z146 ?_
    refine za6 900 901 rfl rfl (zaj _) ?_
    refine zbf 900 (StG b ⟨clrL S.R g, S.P⟩).res rfl (fun v H u C hle h => zc9 (S:=⟨clrL S.R g, S.P⟩) (hm.dels hgp) hes.dels hps v H u C hle (by dsimp only; rw [zei]; exact h)) ?_
    exact zbr L 900 (r:=StG b ⟨clrL S.R g, S.P⟩) (rs:=[.tmp 4, .tmp 5]) rfl (fun _ _ h => h) hs0 rfl rfl (fun H hle => fun v hv => zey hv)
abbrev z6f (l:List CH) (e:Int):Value → Heap → Prop:=TupS [KS tyC l true, fun v _ => v = .int .i64 e]
set_option maxHeartbeats 4000000 in
set_option maxRecDepth 20000 in
theorem zsc {S:Sto} {b:Nat} {p q:Int} (hI:z4f S) (hn:S.R.length ≠ 0) {w:World} {B:Heap} {C:Nat → Prop} (hB:B.Le (hp w)) (hr:(StG b S).P B w C) (hC:∀ k, C k → k < w.heap.size ∧ B k = none) :
  RetY Tryz.prog 28 [.pointer (some ⟨b, 0, none⟩), .int .u64 p, .int .u64 q] w B C (StG b S) (z6f (zro S p q).1 (zro S p q).2):=by
 refine RetY.ex hr fun x hφ hr => ?_
 obtain ⟨m, s, es⟩:=x
 obtain ⟨hm, hes, hps⟩:=hφ
 dsimp only at hm hes hps hr ⊢
 unfold RetY
 refine zat 900 (StO b S.R.length m s S.P.length es) Tryz.func28 rfl Tryz.ntmps28 (Nat.le_of_ble_eq_true rfl) hB hr hC ?_
 have la:=zqc hI p
 have lb:=zqc hI q
 unfold zro
 obtain ⟨⟨ta, ea⟩, ha⟩:∃ x, atS S p = x:=⟨_, rfl⟩
 obtain ⟨⟨tb, eb⟩, hb⟩:∃ x, atS S q = x:=⟨_, rfl⟩
 rw [ha] at la ⊢
 rw [hb] at lb ⊢
 dsimp only at la lb ⊢
 refine Z274 ?_; refine Z168 ?_; refine Z148 ?_; refine yt (zbm L 900 (WithP ta ea) (r:=StO b S.R.length m _ S.P.length es) rfl rfl rfl rfl rfl WithP.mono (fun u H2 C2 hH hle hr2 hC2 => by have h:=zfz (S:=S) (r:=p) hm hn (hes.le hle) hH hr2 hC2; rw [ha] at h; exact h)) ?_; refine zbx 14 rfl fun v1 H1 hs1 hp1 => ?_; obtain ⟨sv, rfl, hsv⟩:=hp1; obtain ⟨f1, p1, f2, p2, rfl, hpl⟩:=hsv.shape; refine Z315 ?_; refine Z155 ?_
 by_cases h1:ea = 0
 ·subst h1
  rw [if_pos rfl]
  have hes1:=hes.le hs1.le
  refine Z182 ?_; refine Z241 ?_; refine Z341 ?_; refine yt (zbm L 900 (WithP tb eb) (r:=StO b S.R.length m _ S.P.length es) rfl rfl rfl rfl rfl WithP.mono (fun u H2 C2 hH hle hr2 hC2 => by have h:=zfz (S:=S) (r:=q) hm hn (hes1.le hle) hH hr2 hC2; rw [hb] at h; exact h)) ?_; refine zbx 23 rfl fun v2 H2 hs2 hp2 => ?_; obtain ⟨sw, rfl, hsw⟩:=hp2; obtain ⟨f3, p3, f4, p4, rfl, hpl2⟩:=hsw.shape; refine Z315 ?_; refine Z155 ?_
  by_cases h2:eb = 0
  ·subst h2
   rw [if_pos rfl]
   refine Z188 ?_; refine Z241 ?_; refine Z44 ?_; refine z7 (qd L (vs:=[_, _, _, _]) (ym rfl) rfl rfl rfl rfl ⟨_, rfl⟩) rfl ?_; refine z7 (qd L (vs:=[_, _, _, _]) (ym rfl) rfl rfl rfl rfl ⟨_, rfl⟩) rfl ?_; refine z7 (yr (φ:=KS tyC (z4r ta tb) true) L rfl rfl (zk rfl) rfl rfl rfl SlV.mono (fun u H3 hH hle _ => zoz la lb hsv.sst hsw.sst rfl hH (hsv.le (hs2.le.trans hle)) (hsw.le hle))) rfl ?_; refine Z54 ?_; refine Z146 ?_
   exact zbr L 900 (r:=StO b S.R.length m s S.P.length es) (rs:=[.tmp 6, .tmp 7]) rfl (fun _ _ h => h) (hs1.trans hs2) rfl rfl (fun H hle => fun v hv => zey hv)
  ·rw [if_neg h2]
   refine Z188 ?_; refine Z221 ?_; refine Z198 ?_; refine Z195 ?_
   exact zbr L 900 (r:=StO b S.R.length m s S.P.length es) (rs:=[.tmp 6, .tmp 7]) rfl (fun _ _ h => h) (hs1.trans hs2) rfl rfl (fun H hle => zey SlV.nil)
 ·rw [if_neg h1]
  refine Z182 ?_; refine Z221 ?_; refine Z181 ?_; refine Z195 ?_
  exact zbr L 900 (r:=StO b S.R.length m s S.P.length es) (rs:=[.tmp 6, .tmp 7]) rfl (fun _ _ h => h) hs1 rfl rfl (fun H hle => zey SlV.nil)
end Go.V.L10
set_option maxRecDepth 20000
namespace Go.V
open Go.RowKit
def znd {X:Type} (vf:X → Value) (g:X → GR):Res where
 P v H u C:=∃ x, v = vf x ∧ (g x).P H u C
 st:=fun ⟨x, h1, h2⟩ a b c d => ⟨x, h1, (g x).st h2 a b c d⟩
abbrev zw0 {X:Type} (vf:X → Value) (g:X → GR) (ty:TypeId):Res:=znd (fun p:Nat × X => .pointer (some ⟨p.1, 0, none⟩)) fun p => zb6 (zac p.1 (zaw (vf p.2)) ty) (g p.2)
abbrev z4j {V:Type} (kd:IntKind) (vc:V → Value) (l:List (Int × V)):Res:=znd (fun m:Nat => .map (some m)) fun m => z4w m kd vc l
def MapVis {V:Type} (b:Nat) (kd:IntKind) (vc:V → Value) (l:List (Int × V)) (H:Heap):Prop:=∃ es ck, H b = some (.map es ck) ∧ MiE kd vc l es.toList
theorem MapVis.le {V:Type} {b:Nat} {kd:IntKind} {vc:V → Value} {l:List (Int × V)} {H H':Heap} (h:MapVis b kd vc l H) (hle:H.Le H'):MapVis b kd vc l H':=let ⟨es, ck, h1, h2⟩:=h; ⟨es, ck, hle _ _ h1, h2⟩
section
variable {P:Program} {F:Fr} {B:Heap} {O:Boxes} {n:Nat} {ops:Array Oper} {κ:Kap} {d:Nat} {ty:TypeId} {pos:String} {aft:Array Edge} {g:Option (Nat × Bool)} {Q:Exit → Act → World → Prop} {a:Act} {u:World} {os:List Oper}
theorem zn0 {t:TypeId} {parts:Array (Nat × Operand)} {places:List (Nat × Nat)} {z cs:List Value} {vs:List (Nat × Value)} {a:Act} {u:World} {H:Heap} {fp:Nat → Nat → Prop} (e:Env F B O κ ⟨some d, .build t parts, ty, pos, aft, g⟩ a u H fp)
  (hp:PL P t places z) (hv:evP κ parts.toList = some vs) (hc:zhp places z vs = some cs):(execOp a.eval ⟨some d, .build t parts, ty, pos, aft, g⟩).run P u = .ok (.value (.agg cs.toArray)) u:=by
 have hm:=zm4 e parts.toList vs (fun p hp' => by simp [Op.operands]; exact ⟨p.1, by simpa using hp'⟩) hv
 obtain ⟨zv, hz1, hz2⟩:=hp.zr
 have hbt:P.built t vs = some cs.toArray:=by
  have hpl:=hp.pl
  unfold plI at hpl
  unfold zrI at hz1
  split at hz1
  ·rename_i it hit
   unfold Program.built
   split at hpl
   ·rename_i fs hu
    simp only [hit, hu, hz1, hpl]
    rw [zbq, hz2]
    exact zc7 (fun i p h => by simpa using h) vs z cs hc
   ·rename_i m el hu
    split at hpl
    ·rename_i ie hie
     simp only [hit, hu, hz1, hie]
     cases hpl
     rw [zbq, hz2]
     exact zc7 (fun i p h => by
      rw [List.getElem?_map] at h
      cases hr:(List.range m)[i]? with
      | none => rw [hr] at h; cases h
      | some j =>
       rw [hr] at h
       have:j = i:=by
        have:=List.getElem?_eq_some_iff.1 hr
        obtain ⟨h1, h2⟩:=this
        simpa using h2.symm
       subst this
       simpa using h) vs z cs hc
    ·cases hpl
   ·cases hpl
  ·cases hz1
 have hr:=run_build (P:=P) u t vs.toArray cs.toArray (by simpa using hbt)
 have harr:(parts.map fun (p:Nat × Operand) => (p.1, a.eval p.2)) = vs.toArray:=by
  rw [← hm, ← List.map_toArray, Array.toArray_toList]
 simp only [execOp, Sem.run_bind]
 show Result.andThen ((Instr.build t (parts.map fun (p:Nat × Operand) => (p.1, a.eval p.2))).run P u) _ = _
 rw [harr, hr]
 rfl
theorem zgl {X:Type} {q:Nat} {vf:X → Value} {gg:X → GR} {t:TypeId} {parts:Array (Nat × Operand)} {places:List (Nat × Nat)} {z:List Value} (vs:X → List (Nat × Value)) (cs:X → List Value) (hq:κ q = some (.own (znd vf gg))) (hn:Nat.blt d n = true) (hg:gK ops κ ⟨some d, .build t parts, ty, pos, aft, g⟩ = some true)
  (hne:Nat.beq q d = false) (hp:PL P t places z) (hv:∀ x, evP (upd κ q (.is (vf x))) parts.toList = some (vs x)) (hc:∀ x, zhp places z (vs x) = some (cs x)):StepOK2 P F B n ops O κ ⟨some d, .build t parts, ty, pos, aft, g⟩ q zd2 d (.own (znd (fun x => .agg (cs x).toArray) gg)):=by
 rintro κ' a u hlk hks ⟨H, fp, hh⟩
 unfold After
 rw [if_pos (zag hh hlk hg)]
 have hk':κ' q = some (.own (znd vf gg)):=hks.trans hq
 obtain ⟨⟨x, hx, hown⟩, hM⟩:=hh.slot q _ hk'
 have e:=(hh.name q).env (κ:=upd κ q (.is (vf x))) (ops:=ops) (o:=⟨some d, .build t parts, ty, pos, aft, g⟩) fun s hs => by
  by_cases h:s = q
  ·subst h; rw [zae, zae, hx]
  ·rw [zab _ _ h, zab _ _ h]; exact hlk s hs
 rw [zn0 e hp (hv x) (hc x)]
 simp only [Upon]
 exact ⟨H, _, hh.usePut (C:=fp q) hk' ⟨Keep.refl _ _, hh.sub, Heap.Le.refl _, fun _ _ _ => rfl⟩ (by simp [Act.put]) rfl (fun t ht => zam ht) (by rw [zas (by rw [hh.size]; exact zk hn)]; exact ⟨x, rfl, hown⟩) fun k hk => ⟨.inl hk, (hM k hk).1, (hM k hk).2.1⟩⟩
theorem zq2 {X:Type} {q:Nat} {vf:X → Value} {gg:X → GR} {t:TypeId} (hq:κ q = some (.own (znd vf gg))) (hn:Nat.blt d n = true) (hg:gK ops κ ⟨some d, .box t (.tmp q), ty, pos, aft, g⟩ = some true)
  (hne:Nat.beq q d = false):StepOK2 P F B n ops O κ ⟨some d, .box t (.tmp q), ty, pos, aft, g⟩ q zd2 d (.own (zw0 vf gg t)):=by
 rintro κ' a u hlk hks ⟨H, fp, hh⟩
 unfold After
 rw [if_pos (zag hh hlk hg)]
 have hk':κ' q = some (.own (znd vf gg)):=hks.trans hq
 obtain ⟨⟨x, hx, hown⟩, hM⟩:=hh.slot q _ hk'
 have hrun:(execOp a.eval ⟨some d, .box t (.tmp q), ty, pos, aft, g⟩).run P u = .ok (.value (.pointer (some ⟨u.heap.size, 0, none⟩))) (u.alloc (.cells (zaw (vf x)).toArray t)):=by
  simp [execOp, hx, Instr.box, newVar, newRow, zbq]
 rw [hrun]
 simp only [Upon]
 have hgr:Grow (fp q) u H (u.alloc (.cells (zaw (vf x)).toArray t)) H:=by
  have h1:=Grow.hid hh.sub (.cells (zaw (vf x)).toArray t)
  exact ⟨⟨h1.keep.os, h1.keep.tape, h1.keep.output, h1.keep.size, fun k hk _ => h1.keep.block k hk (fun h => h), h1.keep.dr⟩, h1.sub, h1.le, fun k hk _ => h1.fresh k hk (fun h => h)⟩
 have hsz:u.heap.size < (u.alloc (.cells (zaw (vf x)).toArray t)).heap.size:=zah (zap u _)
 refine ⟨H, _, hh.usePut (C:=fun k => k = u.heap.size ∨ fp q k) hk' hgr (by simp [Act.put]) rfl (fun t ht => zam ht) ?_ fun k hk => ?_⟩
 ·rw [zas (by rw [hh.size]; exact zk hn)]
  refine ⟨(u.heap.size, x), rfl, fun k => k = u.heap.size, fp q, ⟨zap _ _, fun _ => Iff.rfl⟩, (gg x).st hown (Heap.Le.refl _) hgr.sub ⟨hgr.keep.os, hgr.keep.tape, hgr.keep.output, hgr.keep.size, hgr.keep.dr⟩ (fun k hk => ?_), fun k => Iff.rfl, fun k h1 h2 => ?_⟩
  ·exact zb0 u _ (hM k hk).1
  ·have:=(hM k h2).1; omega
 ·rcases hk with rfl | hk
  ·exact ⟨.inr (Nat.le_refl _), by omega, zbc hh.sub (Nat.le_refl _)⟩
  ·exact ⟨.inl hk, by have:=(hM k hk).1; omega, (hM k hk).2.1⟩
theorem Has.holdRf {X:Type} {t q:Nat} {vf:X → Value} {gg:X → GR} (hk:κ t = some (.own (znd vf gg))) (h:Has F B O n κ a u):∃ x, Has F B O n (upd (upd (upd κ t zd2) q (.own (gg x).res)) t (.is (vf x))) a u:=by
 obtain ⟨H, fp, h⟩:=h
 obtain ⟨⟨x, hv, hx⟩, hM⟩:=h.slot t _ hk
 have h2:=h.usePut (d:=q) (a':=a) (r':=(gg x).res) (C:=fp t) hk ⟨Keep.refl _ _, h.sub, Heap.Le.refl _, fun _ _ _ => rfl⟩ rfl rfl (fun _ _ => rfl) hx fun k hk => ⟨.inl hk, (hM k hk).1, (hM k hk).2.1⟩
 have h3:=h2.name t
 rw [hv] at h3
 exact ⟨x, H, _, h3⟩
theorem zgq (t q:Nat) {X:Type} {vf:X → Value} {gg:X → GR} {c:Code} (hk:κ t = some (.own (znd vf gg))) (h:∀ x, V P F B n O (upd (upd (upd κ t zd2) q (.own (gg x).res)) t (.is (vf x))) c Q):V P F B n O κ c Q:=fun a u hh => let ⟨x, h'⟩:=hh.holdRf (q:=q) hk; h x a u h'
theorem ztn (t q:Nat) {X:Type} {vf:X → Value} {gg:X → GR} (hk:κ t = some (.own (znd vf gg))) (h:∀ x, VO P F B n O ops (upd (upd (upd κ t zd2) q (.own (gg x).res)) t (.is (vf x))) os Q):VO P F B n O ops κ os Q:=fun a u hh => let ⟨x, h'⟩:=hh.holdRf (q:=q) hk; h x a u h'
theorem Has.packRf {X:Type} {t q:Nat} {vf:X → Value} {gg:X → GR} (x:X) (hk:κ q = some (.own (gg x).res)) (ht:κ t = some (.is (vf x))) (h:Has F B O n κ a u):Has F B O n (upd (upd κ q zd2) t (.own (znd vf gg))) a u:=by
 obtain ⟨H, fp, h⟩:=h
 obtain ⟨hx, hM⟩:=h.slot q _ hk
 have hv:a.eval (.tmp t) = vf x:=h.slot t _ ht
 exact ⟨H, _, h.usePut (d:=t) (a':=a) (r':=znd vf gg) (C:=fp q) hk ⟨Keep.refl _ _, h.sub, Heap.Le.refl _, fun _ _ _ => rfl⟩ rfl rfl (fun _ _ => rfl) ⟨x, hv, hx⟩ fun k hk => ⟨.inl hk, (hM k hk).1, (hM k hk).2.1⟩⟩
theorem zm9 (t q:Nat) {X:Type} (vf:X → Value) (gg:X → GR) {c:Code} (x:X) (hk:κ q = some (.own (gg x).res)) (ht:κ t = some (.is (vf x))) (h:V P F B n O (upd (upd κ q zd2) t (.own (znd vf gg))) c Q):V P F B n O κ c Q:=fun a u hh => h a u (hh.packRf x hk ht)
theorem StepOK.turn {o:Oper} {r r':Res} (h:StepOK P F B n ops O κ o d (.own r)) (hr:∀ v H u C, B.Le H → r.P v H u C → r'.P v H u C):StepOK P F B n ops O κ o d (.own r') :=
 fun κ' a u hl hh => After.mono (fun a' u' h2 => by have:=h2.turnO (t:=d) (r':=r') (zae ..) hr; rwa [zbe] at this) (h κ' a u hl hh)
theorem zx4 {V:Type} {kd:IntKind} {vc:V → Value} {l:List (Int × V)}:∀ v H u C, B.Le H → (ztk kd vc l).P v H u C → (z4j kd vc l).P v H u C:=fun _ _ _ _ _ ⟨b, h1, h2, h3⟩ => ⟨b, h1, h2, h3⟩
theorem StepOK2.turn {o:Oper} {q:Nat} {k1:Kn} {r r':Res} (h:StepOK2 P F B n ops O κ o q k1 d (.own r)) (hr:∀ v H u C, B.Le H → r.P v H u C → r'.P v H u C):StepOK2 P F B n ops O κ o q k1 d (.own r') :=
 fun κ' a u hl hq hh => After.mono (fun a' u' h2 => by have:=h2.turnO (t:=d) (r':=r') (zae ..) hr; rwa [zbe] at this) (h κ' a u hl hq hh)
abbrev z5v (s m:Nat) (xs:List Value):Type:={p:Nat × Nat × List Value // m ≤ p.2.1 ∧ p.2.1 ≤ maxLen ∧ (xs ++ p.2.2).length = p.2.1 * s}
abbrev z6u (e:TypeId) (s m:Nat) (xs:List Value):Res:=znd (fun p:z5v s m xs => .slice (some ⟨p.1.1, 0, none⟩) m p.1.2.1) fun p => zac p.1.1 (xs ++ p.1.2.2) e
theorem zzm {e:TypeId} {s m:Nat} {xs:List Value} (hm:m ≠ 0):∀ v H u C, B.Le H → (SlR e s m xs).P v H u C → (z6u e s m xs).P v H u C:=fun _ _ _ _ _ ⟨_, h⟩ => by
 rcases h with ⟨h0, _⟩ | ⟨b, cap, rest, h1, h2, h3, h4, h5, h6⟩
 ·exact absurd h0 hm
 ·exact ⟨⟨(b, cap, rest), h3, h4, h5⟩, h1, h2, h6⟩
theorem zln (L:Tabs P) {X:Type} {t t':TypeId} {s q:Nat} {ag:Bool} {z:Nat} {cs:List Value} {vf:X → Value} {gg:X → GR} (hq:κ q = some (.own (znd vf gg))) (hf:∀ x, (zaw (vf x)).length = z ∧ (zaw (vf x)).all zbt = true)
  (hg:gK ops κ ⟨none, .store t (.tmp s) (.tmp q), ty, pos, aft, g⟩ = some true) (hk:κ s = some (.own (zfo cs t'))) (hl:L.ld t = some (ag, z)) (hcs:cs.length = z) (hne:Nat.beq q s = false) :
  StepOK2 P F B n ops O κ ⟨none, .store t (.tmp s) (.tmp q), ty, pos, aft, g⟩ q zd2 s (.own (zw0 vf gg t')):=by
 have hne':q ≠ s:=Nat.ne_of_beq_eq_false hne
 rintro κ' a u hlk hks ⟨H, fp, hh⟩
 unfold After
 rw [if_pos (zag hh hlk hg)]
 have hkq:κ' q = some (.own (znd vf gg)):=hks.trans hq
 have hkss:κ' s = some (.own (zfo cs t')):=(hlk s (zds (by simp [Op.operands]))).trans hk
 obtain ⟨⟨x, hx, hown⟩, hMq⟩:=hh.slot q _ hkq
 have h0:=hh.usePut (d:=q) (a':=a) (r':=(gg x).res) (C:=fp q) hkq ⟨Keep.refl _ _, hh.sub, Heap.Le.refl _, fun _ _ _ => rfl⟩ rfl rfl (fun _ _ => rfl) hown fun k hk => ⟨.inl hk, (hMq k hk).1, (hMq k hk).2.1⟩
 rw [zbe] at h0
 have hks0:upd κ' q (.own (gg x).res) s = some (.own (zfo cs t')):=by rw [zab _ _ (Ne.symm hne')]; exact hkss
 obtain ⟨⟨b, hes, hb, hC⟩, hM⟩:=h0.slot s _ hks0
 have hrun:(execOp a.eval ⟨none, .store t (.tmp s) (.tmp q), ty, pos, aft, g⟩).run P u = .ok .skip (u.setRow b (zaw (vf x)).toArray):=by
  simp only [execOp, hes, hx, Instr.storeAt, Instr.sureAddr, Sem.run_bind, Sem.run_pure, Result.andThen_ok]
  have:=zb4 (P:=P) (off:=0) (v:=vf x) (Tabs.ld_spec hl) hb (hf x).1 (by omega) (hf x).2
  rw [this, List.drop_of_length_le (by omega)]
  simp
 rw [hrun]
 simp only [Upon, Act.put]
 have hset:=setRow_heap u b cs.toArray (zaw (vf x)).toArray t' (0, 0) hb
 have hbm:=hM b ((hC b).2 rfl)
 have h1:=h0.usePut (d:=s) (a':=a) (r':=zfo (zaw (vf x)) t') (C:=fun k => k = b) hks0 (zbp h0.sub hb ((hC b).2 rfl) hbm.2.1 _) rfl rfl (fun _ _ => rfl) ⟨b, hes, hset, fun _ => Iff.rfl⟩ (fun k hk => by
  subst hk; exact ⟨.inl ((hC k).2 rfl), by rw [setRow_size]; exact hbm.1, hbm.2.1⟩)
 rw [zbe] at h1
 have h2:Has F B O n _ a _:=⟨H, _, h1⟩
 have h3:=h2.join2 (q:=s) (g1:=q) (r1:=zfo (zaw (vf x)) t') (r2:=(gg x).res) (Ne.symm hne') (zaj _) (zae ..) (by rw [zab _ _ hne', zae])
 have h4:=h3.turnO (t:=s) (r:=zfp (zfo (zaw (vf x)) t') (gg x).res) (r':=zw0 vf gg t') (zae ..) fun v H u C _ ⟨C1, C2, ⟨b, g1, g2, g3⟩, g4, g5, g6⟩ => ⟨(b, x), g1, C1, C2, ⟨g2, g3⟩, g4, g5, g6⟩
 have he:upd (upd (upd (upd (upd κ' q (.own (gg x).res)) s (.own (zfo (zaw (vf x)) t'))) q zd2) s (.own (zfp (zfo (zaw (vf x)) t') (gg x).res))) s (.own (zw0 vf gg t')) = upd (upd κ' q zd2) s (.own (zw0 vf gg t')):=by
  funext k
  by_cases h5:k = s
  ·subst h5; rw [zae, zae]
  ·rw [zab _ _ h5, zab _ _ h5, zab _ _ h5]
   by_cases h6:k = q
   ·subst h6; rw [zae, zae]
   ·rw [zab _ _ h6, zab _ _ h5, zab _ _ h6, zab _ _ h6]
 rw [he] at h4
 exact h4
variable {Y:Type} {kd:IntKind} {vc:Y → Value} {l:List (Int × Y)}
theorem zpq (kd:IntKind) (vc:Y → Value) {t kt et:TypeId} {x:Operand} {k:IntKind} {c:Int} (hn:Nat.blt d n = true) (ht:P.underlying t = some (.map kt et)) (hx:evK κ x = some (.int k c)) (hg:gK ops κ ⟨some d, .makeMap t (some x), ty, pos, aft, g⟩ = some true) :
  StepOK P F B n ops O κ ⟨some d, .makeMap t (some x), ty, pos, aft, g⟩ d (.own (z4j kd vc [])):=by
 refine StepOK.turn (r:=ztk kd vc []) ?_ zx4
 rintro κ' a u hl ⟨H, fp, hh⟩
 have hn:d < n:=by simpa using hn
 unfold After
 rw [if_pos (zag hh hl hg)]
 have e:=hh.env hl
 have h1:=e.is_ x _ (by simp [Op.operands]) hx
 have hrun:(execOp a.eval ⟨some d, .makeMap t (some x), ty, pos, aft, g⟩).run P u = .ok (.value (.map (some u.heap.size))) (u.alloc (.map #[] 0)):=by
  simp [execOp, Instr.makeMap, h1, asInt, asIntOf, run_underlying ht, Sem.run_bind]
 rw [hrun]
 simp only [Upon]
 have hg2:=hh.grow (Grow.hid hh.sub (.map #[] 0))
 refine ⟨H, _, hg2.putR (C:=fun k => k = u.heap.size) (by simp [Act.put]) rfl (fun t ht => zam ht) ⟨u.heap.size, zas (by rw [hh.size]; exact hn), ⟨_, _, zap _ _, rfl, zwp⟩, fun _ => Iff.rfl⟩ (fun k hk => ?_) fun t r' _ ht k hf hk => ?_⟩
 ·subst hk
  exact ⟨zah (zap u _), zbc hh.sub (Nat.le_refl _), .inl hh.keep.size, fun y hy e => by have:=zah (hh.boxes y hy).1; omega⟩
 ·have:=((hh.slot t _ ht).2 k hf).1
  omega
theorem zkc {x y:Operand} {b:Nat} {t kt et:TypeId} (k:Int) {r z:Value} (ht:P.underlying t = some (.map kt et)) (hkt:P.underlying kt = some (.int kd)) (hz:∀ w, (zeroValue et).run P w = .ok z w)
  (hv:MapVis b kd vc l B) (hx:evK κ x = some (.map (some b))) (hy:evK κ y = some (.int kd k)) (hn:Nat.blt d n = true) (hg:gK ops κ ⟨some d, .lookup t x y false, ty, pos, aft, g⟩ = some true)
  (hr:(zdj k l).elim z vc = r) :
  StepOK P F B n ops O κ ⟨some d, .lookup t x y false, ty, pos, aft, g⟩ d (.is r) :=
 zax rfl (zk hn) hg trivial fun a u H fp e => by
  have h1:=e.is_ x _ (by simp [Op.operands]) hx
  have h2:=e.is_ y _ (by simp [Op.operands]) hy
  obtain ⟨es, ck, hb, he⟩:=hv
  refine ⟨(zdj k l).elim z vc, ?_, hr⟩
  simp only [execOp, h1, h2, Sem.run_bind, zpi ht hkt (e.sub _ _ (e.base _ _ hb)) he k (hz u), Result.andThen_ok]
  rfl
end
end Go.V
set_option maxRecDepth 20000
namespace Go.V.L10
open Go.Proofs Go.RowKit Go.V Go.V.L2 Go.V.L8 Go.V.L6
theorem _root_.Go.V.Z74 {A B:Prop} (h:B) (t:Wr B → A:=by intro h; refine qg (qn L (q:=902) rfl rfl rfl rfl rfl rfl) rfl rfl ?_; exact h.h):A:=t ⟨h⟩
abbrev zdg (b:Nat):Value:=.pointer (some ⟨b, 0, none⟩)
abbrev z10 (S:Sto):Res:=znd zdg fun b => StG b S
theorem zvp {Y:Type}:MapOK ([]:List (Int × (List U × Y))) []:=⟨List.nodup_nil, fun r => by
 cases h:kpt ([]:List (Option (List U))) r with
 | none => rfl
 | some t => have:=zeg (R:=[]) (r:=r) (by rw [h]; rfl); simp at this; omega⟩
theorem zvq:MapOK [((1:Int), (([]:List U), nilSet))] newS.R:=by
 have h:=(zvp (Y:=Value)).add [] nilSet
 have h2:=h.1
 rw [h.2] at h2
 exact h2
theorem zvl {Y:Type} {a b:List (Int × Y)} (hp:a.Perm b) (hn:(b.map Prod.fst).Nodup) (r:Int):zdj r a = zdj r b:=by
 have hna:(a.map Prod.fst).Nodup:=((hp.map Prod.fst).nodup_iff).2 hn
 cases ha:zdj r a with
 | some y => exact (zg2 hn (hp.mem_iff.1 (zes ha))).symm
 | none =>
  cases hb:zdj r b with
  | none => rfl
  | some y => rw [zg2 hna (hp.mem_iff.2 (zes hb))] at ha; cases ha
theorem MapOK.perm {Y:Type} {a b:List (Int × (List U × Y))} {R:List (Option (List U))} (h:MapOK b R) (hp:a.Perm b):MapOK a R:=⟨((hp.map Prod.fst).nodup_iff).2 h.nd, fun r => by rw [zvl hp h.nd]; exact h.get r⟩
theorem EsV.perm {a b:Ent} {H:Heap} (h:EsV b H) (hp:a.Perm b):EsV a H:=fun e he => h e (hp.mem_iff.1 he)
theorem zx2 {Y:Type} {k:Int} {y:Y} {l:List (Int × Y)} (h:k ∉ l.map Prod.fst):zpv k y l = l ++ [(k, y)]:=by
 refine zhf (i:=0) ?_
 have h1:¬ (zdj k l).isSome = true:=fun hs => h (zf5.1 hs)
 unfold zdj at h1
 cases hm:zdx k l 0 with
 | none => rfl
 | some q => rw [hm] at h1; exact absurd rfl h1
theorem z3w {left:Ent} {j:Nat} {p:Int × (List U × Value)} (h:left[j]? = some p) (done:Ent):(done ++ [p] ++ left.eraseIdx j).Perm (done ++ left):=by
 rw [List.append_assoc]
 exact List.Perm.append_left done (by simpa using zib h)
attribute [local irreducible] V N X VO Par StepOK Has Ret RetL RetO RetT zce zd7 RetY Src
set_option maxHeartbeats 2000000 in
set_option maxRecDepth 20000 in
theorem zqq {w:World} {B:Heap} (hB:B.Le (hp w)):RetO Tryz.prog 18 [] w B (z10 newS):=by
 refine zeu Tryz.func18 rfl Tryz.ntmps18 (Nat.le_of_ble_eq_true rfl) hB ?_
 refine Z194 ?_; refine z7 (zpr (hint:=none) .u64 vcE rfl rfl) rfl ?_; refine zto 1 901 rfl fun m => ?_; refine z7 (yx (cs:=[_, _, _, _]) rfl rfl zus rfl rfl) rfl ?_; refine zc1 (zsj (q:=901) (vc:=vcE) 1 ([], nilSet) mpS kyS rfl rfl rfl rfl rfl rfl rfl) ?_; refine Z1 ?_; refine z7 (yx (cs:=[_, _, _, _]) rfl rfl z52 rfl rfl) rfl ?_; refine Z107 ?_; refine qq (yo (.inr rfl) rfl rfl rfl rfl) ?_; refine Z145 ?_
 refine zr0 0 900 rfl fun b => ?_
 refine za6 900 901 rfl rfl (zaj (z4w m .u64 vcE [((1:Int), (([]:List U), nilSet))])) ?_
 refine zbf 900 (StG b newS).res rfl (fun v H u C hle h => zc9 (S:=newS) (s:=.slice none 0 0) (m:=m) (B:=B) zvq (fun e he => by rw [List.mem_singleton.1 he]; exact SetV.nil) SlV.nil v H u C hle h) ?_
 refine zm9 0 900 zdg (fun b => StG b newS) b rfl rfl ?_
 exact zix rfl (fun _ _ h => h) Since.refl rfl
set_option maxHeartbeats 4000000 in
set_option maxRecDepth 20000 in
theorem zub {S:Sto} {b:Nat} (hn:S.R.length ≠ 0) {w:World} {B:Heap} {C:Nat → Prop} (hB:B.Le (hp w)) (hr:(StG b S).P B w C) (hC:∀ k, C k → k < w.heap.size ∧ B k = none) :
  RetT Tryz.prog 32 [.pointer (some ⟨b, 0, none⟩)] w B C (zfp (z10 S) (StG b S).res):=by
 unfold RetT
 refine zat 900 (StG b S) Tryz.func32 rfl Tryz.ntmps32 (Nat.le_of_ble_eq_true rfl) hB hr hC ?_
 rw [zgw]
 refine zdf 900 rfl fun x H hs0 hφ => ?_
 obtain ⟨m, s, es⟩:=x
 obtain ⟨hm, hes, hps⟩:=hφ
 dsimp only at hm hes hps ⊢
 obtain ⟨ps, pc, rfl⟩:=zaq hps
 refine Z285 ?_; refine yt (zak L 900 (Φ:=fun H => H b = some (.cells (stc S.R.length m (.slice ps (zad S.P).length pc) S.P.length).toArray tyS)) (c:=.bool false) rfl rfl (zk rfl) rfl rfl rfl rfl rfl zbj (fun u H hH hle hb => zcv hn hb hH)) ?_; refine Z169 ?_
 rw [zev]
 refine zde 900 901 rfl (zaj _) ?_
 refine qf (id:=3) [(200011, [900]), (200015, [900]), (200016, [901]), (200021, [900]), (22, [17]), (23, [22]), (3, [23])] mixed (by kernel_rfl) ?_; refine Z305 ?_; refine Z305 ?_; refine qg (zmq (q:=901) (vc:=vcE) mpS rfl rfl rfl rfl rfl) rfl rfl ?_; refine z8 (zpq .u64 vcE rfl mpS rfl rfl) rfl ?_; refine Z176 ?_; refine qg (zao L (q:=900) (vs:=[_, _]) rfl rfl rfl rfl rfl rfl ⟨_, rfl⟩) rfl rfl ?_; refine zau (zgl (q:=17) (fun k => [(0, .int .u64 S.R.length), (1, .map (some k)), (2, .agg #[.slice ps (zad S.P).length pc, .int .i64 S.P.length])]) (fun k => stc S.R.length k (.slice ps (zad S.P).length pc) S.P.length) rfl rfl rfl rfl z52 (fun _ => rfl) (fun _ => rfl)) rfl rfl ?_; refine zau (zq2 rfl rfl rfl rfl) rfl rfl ?_; refine zau (yo (.inr rfl) rfl rfl rfl rfl) rfl rfl ?_; refine Z157 ?_; refine Z147 ?_
 refine zgq 3 902 rfl fun x => ?_
 obtain ⟨b2, m2⟩:=x
 rw [zhk]
 refine zde 902 903 rfl (zaj _) ?_
 refine Z173 ?_; refine Z284 ?_; refine qq (zoe (q:=901) (vc:=vcE) mpS rfl rfl rfl rfl) ?_; refine Z254 ?_
 refine zal (fun T:Ent × Ent => [(3, .is (zdg b2)), (28, .own (zwt m .u64 vcE es T.2)), (900, .own (zan b (stc S.R.length m (.slice ps (zad S.P).length pc) S.P.length) tyS)), (902, .own (zan b2 (stc S.R.length m2 (.slice ps (zad S.P).length pc) S.P.length) tyS)), (903, .own (zk3 m2 .u64 vcE T.1))])
  (fun T => (T.1 ++ T.2).Perm es) (fun T => T.2.length) ([], es) (List.Perm.refl _) ⟨rfl, rfl, rfl, rfl, rfl, trivial⟩ ?_
 rintro ⟨done, left⟩ hp
 dsimp only at hp ⊢
 by_cases hl:left = []
 ·subst hl
  rw [List.append_nil] at hp
  refine zh ?_; refine Z38 ?_; refine z7 (zof rfl rfl rfl rfl rfl) rfl ?_; refine Z16 ?_; refine Z263 ?_; refine zh ?_
  refine z0b 28 901 rfl ?_
  refine Z233 ?_; refine Z146 ?_
  refine za6 902 903 rfl rfl (zaj _) ?_
  refine zbf 902 (StG b2 S).res rfl (zc9 (hm.perm hp) (hes.perm hp) hps) ?_
  refine za6 900 901 rfl rfl (zaj _) ?_
  refine zbf 900 (StG b S).res rfl (zc9 hm hes hps) ?_
  refine zm9 2 902 zdg (fun b => StG b S) b2 rfl rfl ?_
  refine za6 2 900 rfl rfl (zaj (StG b S)) ?_
  exact ziw rfl (fun _ _ h => h) hs0 rfl
 ·have hll:0 < left.length:=List.length_pos_iff.2 hl
  refine zh ?_; refine Z38 ?_; refine zqf rfl rfl hl rfl rfl rfl (fun j p hjp => ?_); refine Z16 ?_; refine Z215 ?_; refine Z235 ?_
  have hpe:p ∈ es:=hp.mem_iff.1 (List.mem_append_right _ (List.mem_of_getElem? hjp))
  have hpd:p.1 ∉ done.map Prod.fst:=fun hm2 => by
   have h1:((done ++ left).map Prod.fst).Nodup:=((hp.map Prod.fst).nodup_iff).2 hm.nd
   rw [List.map_append, List.nodup_append] at h1
   exact h1.2.2 _ hm2 _ (List.mem_map_of_mem (f:=Prod.fst) (List.mem_of_getElem? hjp)) rfl
  obtain ⟨k, t, sv⟩:=p
  have hsv:SetV t sv H:=hes _ hpe
  obtain ⟨f1, p1, f2, p2, rfl, hpl⟩:=hsv.shape
  dsimp only at hpd ⊢
  refine Z43 ?_; refine z7 (zoi rfl rfl rfl) rfl ?_; refine Z179 ?_; refine Z260 ?_; refine Z63 ?_; refine Z145 ?_
  refine qf (id:=7) [(200037, [902]), (100037, [903])] mixed (by kernel_rfl) ?_; refine Z176 ?_; refine Z74 ?_; refine Z3 ?_; refine z8 (qd L (vs:=[_, _, _, _]) (ym rfl) rfl rfl rfl rfl ⟨_, rfl⟩) rfl ?_; refine x5 (zlo (q:=903) (vc:=vcE) k (t, .agg #[f1, .pointer p1, f2, .pointer p2]) mpS kyS rfl rfl rfl rfl rfl rfl (zx2 hpd)) rfl ?_; refine qs ?_; refine yc ?_
  refine zwv 28 (zwt m .u64 vcE es (left.eraseIdx j)) rfl zzp ?_
  exact yj (x:=(done, left)) (done ++ [(k, (t, _))], left.eraseIdx j) ((z3w hjp done).trans hp) (by dsimp only; rw [List.length_eraseIdx_of_lt (get_lt hjp)]; omega) ⟨rfl, rfl, rfl, rfl, rfl, trivial⟩
end Go.V.L10
set_option maxRecDepth 20000
namespace Go.V.L10
open Go.Proofs Go.RowKit Go.V Go.V.L2 Go.V.L8 Go.V.L6
def z6x (rs:List Int):Prop:=(0 :: rs).Pairwise (· < ·)
instance (rs:List Int):Decidable (z6x rs):=inferInstanceAs (Decidable ((0 :: rs).Pairwise (· < ·)))
attribute [local irreducible] V N X VO Par StepOK Has Ret RetL RetO RetT zce zd7 RetY Src
end Go.V.L10
set_option maxRecDepth 20000
namespace Go.V.L10
open Go.Proofs Go.RowKit Go.V Go.V.L2 Go.V.L8 Go.V.L6
theorem _root_.Go.V.Z114 {A B:Prop} (h:B) (t:Wr B → A:=by intro h; refine qf (id:=2) [(200009, [900]), (200011, [901]), (200016, [901]), (200022, [900]), (200024, [901])] mixed (by kernel_rfl) ?_; exact h.h):A:=t ⟨h⟩
theorem z6q {α:Type} {p:α → Bool} {l:List α} {i:Nat} {x:α} (h:l[i]? = some x) (hx:p x = true) (hb:∀ (j:Nat) y, j < i → l[j]? = some y → p y = false):l.findIdx? p = some i:=by
 rw [List.findIdx?_eq_some_iff_getElem]
 have hi:i < l.length:=get_lt h
 rw [List.getElem?_eq_getElem hi] at h
 cases h
 exact ⟨hi, hx, fun j hj => by simp [hb j _ hj (List.getElem?_eq_getElem (by omega))]⟩
theorem z6p {α:Type} {p:α → Bool} {l:List α} (hb:∀ (j:Nat) y, l[j]? = some y → p y = false):l.findIdx? p = none:=by
 rw [List.findIdx?_eq_none_iff]
 intro x hx
 obtain ⟨j, hj⟩:=List.getElem?_of_mem hx
 exact hb j x hj
def z5k:Option Nat → Int
 | some i => i
 | none => -1
theorem zyc {α:Type} {p:α → Bool} {l:List α}:decide (0 ≤ z5k (l.findIdx? p)) = l.any p:=by
 cases hf:l.findIdx? p with
 | none =>
  rw [List.findIdx?_eq_none_iff] at hf
  have:l.any p = false:=List.any_eq_false.2 fun x hx => by simpa using hf x hx
  rw [this]; rfl
 | some i =>
  rw [List.findIdx?_eq_some_iff_getElem] at hf
  obtain ⟨hi, hx, _⟩:=hf
  rw [List.any_eq_true.2 ⟨_, List.getElem_mem hi, hx⟩]
  exact decide_eq_true (Int.natCast_nonneg _)
def StV (a n m:Nat) (s:Value) (t:Nat) (es:Ent) (H:Heap):Prop:=H a = some (.cells (stc n m s t).toArray tyS) ∧ MapVis m .u64 vcE es H
theorem StV.le {a n m t:Nat} {s:Value} {es:Ent} {H H':Heap} (h:StV a n m s t es H) (hle:H.Le H'):StV a n m s t es H':=⟨hle _ _ h.1, h.2.le hle⟩
theorem zzl {b n m t:Nat} {s:Value} {es:Ent} {v:Value} {H:Heap} {u:World} {C D:Nat → Prop} (h:(StO b n m s t es).res.P v H u C) (hD:∀ k, C k → D k):StV b n m s t es (joinH H u D):=by
 rw [zev] at h
 obtain ⟨C1, C2, ⟨hb, hC1⟩, ⟨⟨ar, ck, hm, he, _⟩, hC2⟩, h3, _⟩:=h
 exact ⟨(zfj (hD _ ((h3 _).2 (.inl ((hC1 _).2 rfl))))).trans hb, ar, ck, (zfj (hD _ ((h3 _).2 (.inr ((hC2 _).2 rfl))))).trans hm, he⟩
theorem z0n {b n m t b' n' m' t':Nat} {s s':Value} {es es':Ent}:∀ v H u C, (zfp (StO b n m s t es).res (StO b' n' m' s' t' es').res).P v H u C → StV b n m s t es (joinH H u C) ∧ StV b' n' m' s' t' es' (joinH H u C) :=
 fun _ _ _ _ ⟨_, _, h1, h2, h3, _⟩ => ⟨zzl h1 fun k hk => (h3 k).2 (.inl hk), zzl h2 fun k hk => (h3 k).2 (.inr hk)⟩
def ze5 (A B:Sto):Bool:=decide (A.R = B.R) && decide (zad A.P = zad B.P)
theorem zt3 {A B:List (Option (List U))} (hl:A.length = B.length) (h:∀ r ∈ za1 A, kpt A r = kpt B r) (hk:za1 A = za1 B):A = B:=by
 apply List.ext_getElem?
 intro i
 rcases Nat.lt_or_ge i A.length with hi | hi
 ·have h1:kpt A ((i + 1:Nat):Int) = kpt B ((i + 1:Nat):Int):=by
   by_cases hm:((i + 1:Nat):Int) ∈ za1 A
   ·exact h _ hm
   ·have hm2:((i + 1:Nat):Int) ∉ za1 B:=hk ▸ hm
    rw [zcn] at hm hm2
    cases ha:kpt A ((i + 1:Nat):Int) with
    | some x => rw [ha] at hm; exact absurd rfl hm
    | none =>
     cases hb:kpt B ((i + 1:Nat):Int) with
     | some x => rw [hb] at hm2; exact absurd rfl hm2
     | none => rfl
  rw [zdm, zdm, List.getElem?_eq_getElem hi, List.getElem?_eq_getElem (by omega)] at h1
  rw [List.getElem?_eq_getElem hi, List.getElem?_eq_getElem (by omega)]
  exact congrArg some h1
 ·rw [List.getElem?_eq_none hi, List.getElem?_eq_none (by omega)]
attribute [local irreducible] V N X VO Par StepOK Has Ret RetL RetO RetT zce zd7 RetY Src
theorem zic {a b:List Int} {f:Bool} {fa fb:Bool} (hf:decide (a = b) = f) (ha:a.length ≤ 100000) {v1 v2:Value} {w:World} {B:Heap} (hB:B.Le (hp w)) (h1:RsV a fa v1 B) (h2:RsV b fb v2 B) :
  Ret Tryz.prog 64 [v1, v2] w B (fun v _ => v = .bool f):=by
 subst hf
 refine yg Tryz.func64 rfl Tryz.ntmps64 (Nat.le_of_ble_eq_true rfl) hB ?_
 refine zaz 0 (RsV a fa) rfl SlV.mono h1 ?_
 refine zaz 1 (RsV b fb) rfl SlV.mono h2 ?_
 by_cases hl:a.length = b.length
 ·refine Z407 ?_; refine Z245 ?_; refine Z29 ?_; refine Z350 ?_
  refine zal (fun i:Nat => [(0, .sat (RsV a fa)), (1, .sat (RsV b fb)), (12, .is (.int .i64 a.length)), (13, .is (.int .i64 i))]) (fun i => i ≤ a.length ∧ a.take i = b.take i) (fun i => a.length - i) 0 ⟨Nat.zero_le _, rfl⟩ ⟨rfl, rfl, rfl, rfl, trivial⟩ ?_
  rintro i ⟨hi, ht⟩
  by_cases hlt:i < a.length
  ·obtain ⟨x, hx⟩:=zaf hlt
   obtain ⟨y, hy⟩:=zaf (show i < b.length by omega)
   have hc1:=ziy hx
   have hc2:=ziy hy
   have hwk:IntKind.i64.wrap ((i:Int) + 1) = ((i + 1:Nat):Int):=zaa (by omega) (by omega)
   by_cases hxy:x = y
   ·refine Z381 ?_; refine Z81 ?_; refine Z200 ?_; refine z8 (qu L _ rfl rfl rfl rfl rfl rfl rfl (by first | omega | decide) (by assumption)) rfl ?_; refine Z90 ?_; refine Z200 ?_; refine z8 (qu L _ rfl rfl rfl rfl rfl rfl rfl (by first | omega | decide) (by assumption)) rfl ?_; refine Z90 ?_; refine Z96 ?_; refine Z265 ?_; refine Z319 ?_; refine Z58 ?_; refine Z417 ?_
    exact yj (x:=i) (i + 1) ⟨hlt, by rw [zbl hx, zbl hy, ht, hxy]⟩ (by omega) ⟨rfl, rfl, rfl, rfl, trivial⟩
   ·rw [decide_eq_false (z1x hx hy hxy)]
    refine Z381 ?_; refine Z81 ?_; refine Z200 ?_; refine z8 (qu L _ rfl rfl rfl rfl rfl rfl rfl (by first | omega | decide) (by assumption)) rfl ?_; refine Z90 ?_; refine Z200 ?_; refine z8 (qu L _ rfl rfl rfl rfl rfl rfl rfl (by first | omega | decide) (by assumption)) rfl ?_; refine Z90 ?_; refine Z144 ?_; refine Z406 ?_; refine Z346 ?_
    refine yd L (rs:=[.tmp 4]) rfl (fun _ _ h => h) Since.refl fun u H hH hle => ?_
    rfl
  ·obtain rfl:i = a.length:=by omega
   have hab:a = b:=by rw [List.take_length, hl, List.take_length] at ht; exact ht
   rw [decide_eq_true hab]
   refine Z276 ?_; refine Z296 ?_; refine Z60 ?_; refine Z146 ?_
   refine yd L (rs:=[.tmp 4]) rfl (fun _ _ h => h) Since.refl fun u H hH hle => ?_
   rfl
 ·rw [decide_eq_false (zvu hl)]
  refine Z407 ?_; refine Z221 ?_; refine Z32 ?_; refine Z146 ?_
  refine yd L (rs:=[.tmp 4]) rfl (fun _ _ h => h) Since.refl fun u H hH hle => ?_
  rfl
theorem zrf {l:List Int} {fu:Bool} {p:Int → Bool} {f:Nat} {cap:List Value} (hfn:L.fn f = some ()) (hlm:l.length ≤ 100000) {v:Value} {w:World} {B:Heap} (hf:∀ r ∈ l, ∀ (u:World) (H:Heap), B.Le H → H.Le (hp u) → Ret Tryz.prog f ([.int .u64 r] ++ cap) u H (fun x _ => x = .bool (p r))) (hv:RsV l fu v B) (hB:B.Le (hp w)) :
  Ret Tryz.prog 96 [v, .func (.func f) #[] cap.toArray] w B (fun r _ => r = .int .i64 (z5k (l.findIdx? p))):=by
 refine yg Tryz.func96 rfl Tryz.ntmps96 (Nat.le_of_ble_eq_true rfl) hB ?_
 refine zaz 0 (RsV l fu) rfl SlV.mono hv ?_
 refine Z297 ?_; refine Z286 ?_
 refine zal (fun i:Nat => [(0, .sat (RsV l fu)), (1, .is (.func (.func f) #[] cap.toArray)), (7, .is (.int .i64 l.length)), (8, .is (.int .i64 i))]) (fun i => i ≤ l.length ∧ ∀ (j:Nat) y, j < i → l[j]? = some y → p y = false) (fun i => l.length - i) 0 ⟨Nat.zero_le _, fun j _ h => absurd h (Nat.not_lt_zero _)⟩ ⟨rfl, rfl, rfl, rfl, trivial⟩ ?_
 rintro i ⟨h1, h2⟩
 by_cases hlt:i < l.length
 ·obtain ⟨x, hx⟩:=zaf hlt
  have hc:=ziy hx
  have hmx:=List.mem_of_getElem? hx
  have hwk:IntKind.i64.wrap ((i:Int) + 1) = ((i + 1:Nat):Int):=zaa (by omega) (by omega)
  cases hb:p x with
  | true =>
   rw [z6q hx hb h2]
   refine zh ?_; refine Z32 ?_; refine Z220 ?_; refine Z181 ?_; refine Z151 ?_; refine Z173 ?_; refine Z202 ?_; refine z7 (qu L _ rfl rfl rfl rfl rfl rfl rfl (by first | omega | decide) (by assumption)) rfl ?_; refine Z56 ?_; refine z7 (zp (cap:=cap) L rfl rfl (zk rfl) rfl rfl hfn (fun u H hH hle _ => hb ▸ hf x hmx u H hle hH)) rfl ?_; refine Z164 ?_; refine Z188 ?_; refine Z146 ?_
   refine yd L (rs:=[.tmp 4]) rfl (fun _ _ h => h) Since.refl fun u H hH hle => ?_
   rfl
  | false =>
   refine zh ?_; refine Z32 ?_; refine Z220 ?_; refine Z181 ?_; refine Z151 ?_; refine Z173 ?_; refine Z202 ?_; refine z7 (qu L _ rfl rfl rfl rfl rfl rfl rfl (by first | omega | decide) (by assumption)) rfl ?_; refine Z56 ?_; refine z7 (zp (cap:=cap) L rfl rfl (zk rfl) rfl rfl hfn (fun u H hH hle _ => hb ▸ hf x hmx u H hle hH)) rfl ?_; refine Z228 ?_; refine Z43 ?_; refine Z417 ?_
   exact yj (x:=i) (i + 1) ⟨hlt, fun j y hj hy => by
    rcases Nat.lt_or_ge j i with h | h
    ·exact h2 j y h hy
    ·have:j = i:=by omega
     subst this; rw [hx] at hy; cases hy; exact hb⟩ (by omega) ⟨rfl, rfl, rfl, rfl, trivial⟩
 ·rw [z6p (fun j y hy => h2 j y (by have:=get_lt hy; omega) hy)]
  refine zh ?_; refine Z32 ?_; refine Z296 ?_; refine Z346 ?_
  refine yd L (rs:=[.tmp 4]) rfl (fun _ _ h => h) Since.refl fun u H hH hle => ?_
  rfl
theorem zwf {l:List Int} {fu:Bool} {p:Int → Bool} {f:Nat} {cap:List Value} {b:Bool} (hb:l.any p = b) (hfn:L.fn f = some ()) (hlm:l.length ≤ 100000) {v:Value} {w:World} {B:Heap} (hf:∀ r ∈ l, ∀ (u:World) (H:Heap), B.Le H → H.Le (hp u) → Ret Tryz.prog f ([.int .u64 r] ++ cap) u H (fun x _ => x = .bool (p r))) (hv:RsV l fu v B) (hB:B.Le (hp w)) :
  Ret Tryz.prog 65 [v, .func (.func f) #[] cap.toArray] w B (fun r _ => r = .bool b):=by
 rw [← zyc] at hb
 generalize hJ:z5k (l.findIdx? p) = J at *
 subst hb
 refine yg Tryz.func65 rfl Tryz.ntmps65 (Nat.le_of_ble_eq_true rfl) hB ?_
 by_cases h0:0 ≤ J
 ·rw [decide_eq_true h0]
  refine Z393 ?_; refine z7 (zp L rfl rfl (zk rfl) rfl rfl rfl (fun u H hH hle _ => hJ ▸ zrf hfn hlm (fun r hr u2 H2 hle2 hH2 => hf r hr u2 H2 (hle.trans hle2) hH2) (hv.le hle) hH)) rfl ?_; refine Z42 ?_; refine Z146 ?_
  refine yd L (rs:=[.tmp 4]) rfl (fun _ _ h => h) Since.refl fun u H hH hle => ?_
  rfl
 ·rw [decide_eq_false h0]
  refine Z393 ?_; refine z7 (zp L rfl rfl (zk rfl) rfl rfl rfl (fun u H hH hle _ => hJ ▸ zrf hfn hlm (fun r hr u2 H2 hle2 hH2 => hf r hr u2 H2 (hle.trans hle2) hH2) (hv.le hle) hH)) rfl ?_; refine Z46 ?_; refine Z146 ?_
  refine yd L (rs:=[.tmp 4]) rfl (fun _ _ h => h) Since.refl fun u H hH hle => ?_
  rfl
abbrev z51:TypeId:=29
theorem zr9 {a b n1 n2 m1 m2 t1 t2 c1 c2:Nat} {s1 s2:Value} {ea eb:Ent} {r:Int} {la lb:List U} {va vb:Value} (ga:zdj r ea = some (la, va)) (gb:zdj r eb = some (lb, vb)) (hla:la.length ≤ 100000) (hlb:lb.length ≤ 100000) {w:World} {B:Heap} (hB:B.Le (hp w))
  (h1:B c1 = some (.cells #[zdg a] z51)) (h2:B c2 = some (.cells #[zdg b] z51)) (ha:StV a n1 m1 s1 t1 ea B) (hb:StV b n2 m2 s2 t2 eb B) (hsa:SetV la va B) (hsb:SetV lb vb B) :
  Ret Tryz.prog 66 [.int .u64 r, zdg c1, zdg c2] w B (fun v _ => v = .bool (!decide (la = lb))):=by
 obtain ⟨f1, p1, k1, x1, rfl, hp1⟩:=hsa.shape
 obtain ⟨f2, p2, k2, x2, rfl, hp2⟩:=hsb.shape
 have hla1:=ha.1
 have hlb1:=hb.1
 have q1:(zdj r ea).elim nilSet vcE = .agg #[f1, .pointer p1, k1, .pointer x1]:=congrArg (fun o => Option.elim o nilSet vcE) ga
 have q2:(zdj r eb).elim nilSet vcE = .agg #[f2, .pointer p2, k2, .pointer x2]:=congrArg (fun o => Option.elim o nilSet vcE) gb
 refine yg Tryz.func66 rfl Tryz.ntmps66 (Nat.le_of_ble_eq_true rfl) hB ?_
 refine Z154 ?_; refine Z351 ?_; refine Z413 ?_; refine Z22 ?_; refine Z3 ?_; refine z8 (zkc r mpS kyS zrS ha.2 rfl rfl rfl rfl q1) rfl ?_; refine Z413 ?_; refine Z22 ?_; refine Z3 ?_; refine z8 (zkc r mpS kyS zrS hb.2 rfl rfl rfl rfl q2) rfl ?_; refine z8 (zp L rfl rfl (zk rfl) rfl rfl rfl (fun u H hH hle _ => zt7 hla hlb rfl hH (hsa.le hle) (hsb.le hle))) rfl ?_; refine Z62 ?_; refine Z185 ?_
 refine yd L (rs:=[.tmp 4]) rfl (fun _ _ h => h) Since.refl fun u H hH hle => ?_
 rfl
set_option maxHeartbeats 4000000 in
set_option maxRecDepth 20000 in
theorem zlg {A D:Sto} {a b:Nat} (hna:A.R.length ≠ 0) (hnb:D.R.length ≠ 0) (ka:(za1 A.R).length ≤ 100000) (kb:(za1 D.R).length ≤ 100000) (za:A.P.length ≤ 100000) (zb:D.P.length ≤ 100000) (ta:∀ r t, kpt A.R r = some t → t.length ≤ 100000) (tb:∀ r t, kpt D.R r = some t → t.length ≤ 100000)
  {w:World} {B:Heap} {C:Nat → Prop} (hB:B.Le (hp w)) (hr:(zb6 (StG a A) (StG b D)).P B w C) (hC:∀ k, C k → k < w.heap.size ∧ B k = none) :
  RetY Tryz.prog 33 [zdg a, zdg b] w B C (zb6 (StG a A) (StG b D)) (fun v _ => v = .bool (ze5 A D)):=by
 unfold RetY
 refine zat 900 (zb6 (StG a A) (StG b D)) Tryz.func33 rfl Tryz.ntmps33 (Nat.le_of_ble_eq_true rfl) hB hr hC ?_
 rw [zhk]
 refine zde 900 901 rfl (zaj _) ?_
 rw [zgw, zgw]
 refine zdf 900 rfl fun x H hs0 hφ => ?_
 refine zdf 901 rfl fun y H' hs1 hφ' => ?_
 obtain ⟨m1, s1, e1⟩:=x
 obtain ⟨hm1, he1, hp1⟩:=hφ
 obtain ⟨m2, s2, e2⟩:=y
 obtain ⟨hm2, he2, hp2⟩:=hφ'
 dsimp only at hm1 he1 hp1 hm2 he2 hp2 ⊢
 have hs01:=hs0.trans hs1
 replace he1:=he1.le hs1.le
 replace hp1:=hp1.le hs1.le
 obtain ⟨q1, c1, rfl⟩:=zaq hp1
 obtain ⟨q2, c2, rfl⟩:=zaq hp2
 have hl1:=hm1.len
 have hl2:=hm2.len
 refine Z165 ?_; refine zbx 2 rfl fun v1 H1 hs2 hv1 => ?_; obtain ⟨d1, rfl, hd1⟩:=hv1; refine Z17 ?_; refine zbx 3 rfl fun v2 H2 hs3 hv2 => ?_; obtain ⟨d2, rfl, hd2⟩:=hv2; refine Z151 ?_
 replace hd1:=hs3.le _ _ hd1
 have hs23:=hs2.trans hs3
 replace he1:=he1.le hs23.le
 replace hp1:=hp1.le hs23.le
 replace he2:=he2.le hs23.le
 replace hp2:=hp2.le hs23.le
 have hsf:=hs01.trans hs23
 refine Z20 ?_; refine Z64 ?_; refine yt (zbm L 900 (RsV (za1 A.R) true) (r:=StO a A.R.length m1 (.slice q1 (zad A.P).length c1) A.P.length e1) rfl rfl rfl rfl rfl SlV.mono (fun u H2 C2 hH hle hr2 hC2 => (zfh hm1 hna (by omega) hH hr2 hC2).pubY zet)) ?_; refine Z392 ?_
 by_cases hN:A.R.length = D.R.length
 ·by_cases hK:za1 A.R = za1 D.R
  ·by_cases hP:zad A.P = zad D.P
   ·have hS:ze5 A D = decide (A.R = D.R):=by unfold ze5; rw [decide_eq_true hP, Bool.and_true]
    have hany:(za1 A.R).any (fun r => !decide (kpt A.R r = kpt D.R r)) = !decide (A.R = D.R):=by
     by_cases h:A.R = D.R
     ·rw [decide_eq_true h, h]; simp
     ·rw [decide_eq_false h]
      cases hh:(za1 A.R).any (fun r => !decide (kpt A.R r = kpt D.R r)) with
      | true => rfl
      | false => exact absurd (zt3 hN (fun r hr => by have:=List.any_eq_false.1 hh r hr; simpa using this) hK) h
    have hent1:∀ r ∈ za1 A.R, ∃ t v, kpt A.R r = some t ∧ zdj r e1 = some (t, v) ∧ SetV t v _:=fun r hr => by
     have h1:=zcn.1 hr
     rw [← hm1.get r, Option.isSome_map] at h1
     obtain ⟨⟨t, v⟩, h2⟩:=Option.isSome_iff_exists.1 h1
     exact ⟨t, v, by rw [← hm1.get r, h2]; rfl, h2, he1 _ (zes h2)⟩
    have hent2:∀ r ∈ za1 A.R, ∃ t v, kpt D.R r = some t ∧ zdj r e2 = some (t, v) ∧ SetV t v _:=fun r hr => by
     have h1:=zcn.1 (hK ▸ hr)
     rw [← hm2.get r, Option.isSome_map] at h1
     obtain ⟨⟨t, v⟩, h2⟩:=Option.isSome_iff_exists.1 h1
     exact ⟨t, v, by rw [← hm2.get r, h2]; rfl, h2, he2 _ (zes h2)⟩
    refine Z114 ?_; refine Z22 ?_; refine qg (zak L 900 (Φ:=fun H => H a = some (.cells (stc A.R.length m1 (.slice q1 (zad A.P).length c1) A.P.length).toArray tyS)) (c:=.int .u64 A.R.length) rfl rfl (zk rfl) rfl rfl rfl rfl rfl zbj (fun u H hH hle hb => zcw hna hb hH)) rfl rfl ?_; refine Z22 ?_; refine qg (zak L 901 (Φ:=fun H => H b = some (.cells (stc D.R.length m2 (.slice q2 (zad D.P).length c2) D.P.length).toArray tyS)) (c:=.int .u64 D.R.length) rfl rfl (zk rfl) rfl rfl rfl rfl rfl zbj (fun u H hH hle hb => zcw hnb hb hH)) rfl rfl ?_; refine Z96 ?_; refine Z3 ?_; refine Z37 ?_; refine Z22 ?_; refine qg (zbm L 901 (RsV (za1 D.R) true) (r:=StO b D.R.length m2 (.slice q2 (zad D.P).length c2) D.P.length e2) rfl rfl rfl rfl rfl SlV.mono (fun u H2 C2 hH hle hr2 hC2 => (zfh hm2 hnb (by omega) hH hr2 hC2).pubY zet)) rfl rfl ?_; refine z8 (zp L rfl rfl (zk rfl) rfl rfl rfl (fun u H hH _ _ v1 h1 v2 h2 => zic (decide_eq_true hK) ka hH h1 h2)) rfl ?_; refine Z62 ?_; refine Z30 ?_; refine Z336 ?_; refine qg (zak L 900 (Φ:=fun H => H a = some (.cells (stc A.R.length m1 (.slice q1 (zad A.P).length c1) A.P.length).toArray tyS)) (c:=pnv (.slice q1 (zad A.P).length c1) A.P.length) rfl rfl (zk rfl) rfl rfl rfl rfl rfl zbj (fun u H hH hle hb => pins_ret ⟨_, _, _, rfl⟩ hna hb hH)) rfl rfl ?_; refine Z22 ?_; refine qg (zak L 901 (Φ:=fun H => H b = some (.cells (stc D.R.length m2 (.slice q2 (zad D.P).length c2) D.P.length).toArray tyS)) (c:=pnv (.slice q2 (zad D.P).length c2) D.P.length) rfl rfl (zk rfl) rfl rfl rfl rfl rfl zbj (fun u H hH hle hb => pins_ret ⟨_, _, _, rfl⟩ hnb hb hH)) rfl rfl ?_; refine z8 (zp L rfl rfl (zk rfl) rfl rfl rfl (fun u H hH hle _ => zn8 (decide_eq_true hP) za zb hH (hp1.le hle) (hp2.le hle))) rfl ?_; refine Z62 ?_; refine Z388 ?_
    refine za6 900 901 rfl rfl (zaj (StO b D.R.length m2 (.slice q2 (zad D.P).length c2) D.P.length e2)) ?_
    have hcl:∀ (u:World) (H3:Heap), H3.Le (hp u) → H2.Le H3 → (StV a A.R.length m1 (.slice q1 (zad A.P).length c1) A.P.length e1 H3 ∧ StV b D.R.length m2 (.slice q2 (zad D.P).length c2) D.P.length e2 H3) → ∀ v1, RsV (za1 A.R) true v1 H3 → Ret Tryz.prog 65 [v1, .func (.func 66) #[] #[zdg d1, zdg d2]] u H3 (fun r _ => r = .bool (!decide (A.R = D.R))):=fun u H3 hH hle hb v1 h1 => zwf (cap:=[zdg d1, zdg d2]) (p:=fun r => !decide (kpt A.R r = kpt D.R r)) hany rfl ka (fun r hr u2 H4 hle2 hH2 => by
     obtain ⟨x1, w1, g1, g2, g3⟩:=hent1 r hr
     obtain ⟨x2, w2, g4, g5, g6⟩:=hent2 r hr
     have hle3:=hle.trans hle2
     have h:=zr9 g2 g5 (ta _ _ g1) (tb _ _ g4) hH2 (hle3 _ _ hd1) (hle3 _ _ hd2) (hb.1.le hle2) (hb.2.le hle2) (g3.le hle3) (g6.le hle3)
     rw [g1, g4, show decide (some x1 = some x2) = decide (x1 = x2) by simp]
     exact h) h1 hH
    refine Z31 ?_; refine Z5 ?_; refine z7 (zfg rfl rfl rfl rfl) rfl ?_; refine yt (zak L 900 (Φ:=fun H => StV a A.R.length m1 (.slice q1 (zad A.P).length c1) A.P.length e1 H ∧ StV b D.R.length m2 (.slice q2 (zad D.P).length c2) D.P.length e2 H) (c:=.bool (!decide (A.R = D.R))) rfl rfl (zk rfl) rfl rfl rfl rfl rfl z0n (fun u H hH hle hb v1 h1 => hcl u H hH hle hb v1 h1)) ?_; refine Z52 ?_; refine Z146 ?_
    refine zde 900 901 rfl (zaj (StO b D.R.length m2 (.slice q2 (zad D.P).length c2) D.P.length e2)) ?_
    refine zbf 900 (StG a A).res rfl (zc9 hm1 he1 hp1) ?_
    refine zbf 901 (StG b D).res rfl (zc9 hm2 he2 hp2) ?_
    refine za6 900 901 rfl rfl (zaj (StG b D)) ?_
    exact zbr L 900 (r:=zb6 (StG a A) (StG b D)) (rs:=[.tmp 4]) rfl (fun _ _ h => h) hsf rfl rfl (fun H hle => by rw [hS]; generalize decide (A.R = D.R) = q; cases q <;> rfl)
   ·have hS:ze5 A D = false:=by unfold ze5; rw [decide_eq_false hP, Bool.and_false]
    refine Z114 ?_; refine Z22 ?_; refine qg (zak L 900 (Φ:=fun H => H a = some (.cells (stc A.R.length m1 (.slice q1 (zad A.P).length c1) A.P.length).toArray tyS)) (c:=.int .u64 A.R.length) rfl rfl (zk rfl) rfl rfl rfl rfl rfl zbj (fun u H hH hle hb => zcw hna hb hH)) rfl rfl ?_; refine Z22 ?_; refine qg (zak L 901 (Φ:=fun H => H b = some (.cells (stc D.R.length m2 (.slice q2 (zad D.P).length c2) D.P.length).toArray tyS)) (c:=.int .u64 D.R.length) rfl rfl (zk rfl) rfl rfl rfl rfl rfl zbj (fun u H hH hle hb => zcw hnb hb hH)) rfl rfl ?_; refine Z96 ?_; refine Z3 ?_; refine Z37 ?_; refine Z22 ?_; refine qg (zbm L 901 (RsV (za1 D.R) true) (r:=StO b D.R.length m2 (.slice q2 (zad D.P).length c2) D.P.length e2) rfl rfl rfl rfl rfl SlV.mono (fun u H2 C2 hH hle hr2 hC2 => (zfh hm2 hnb (by omega) hH hr2 hC2).pubY zet)) rfl rfl ?_; refine z8 (zp L rfl rfl (zk rfl) rfl rfl rfl (fun u H hH _ _ v1 h1 v2 h2 => zic (decide_eq_true hK) ka hH h1 h2)) rfl ?_; refine Z62 ?_; refine Z30 ?_; refine Z336 ?_; refine qg (zak L 900 (Φ:=fun H => H a = some (.cells (stc A.R.length m1 (.slice q1 (zad A.P).length c1) A.P.length).toArray tyS)) (c:=pnv (.slice q1 (zad A.P).length c1) A.P.length) rfl rfl (zk rfl) rfl rfl rfl rfl rfl zbj (fun u H hH hle hb => pins_ret ⟨_, _, _, rfl⟩ hna hb hH)) rfl rfl ?_; refine Z22 ?_; refine qg (zak L 901 (Φ:=fun H => H b = some (.cells (stc D.R.length m2 (.slice q2 (zad D.P).length c2) D.P.length).toArray tyS)) (c:=pnv (.slice q2 (zad D.P).length c2) D.P.length) rfl rfl (zk rfl) rfl rfl rfl rfl rfl zbj (fun u H hH hle hb => pins_ret ⟨_, _, _, rfl⟩ hnb hb hH)) rfl rfl ?_; refine z8 (zp L rfl rfl (zk rfl) rfl rfl rfl (fun u H hH hle _ => zn8 (decide_eq_false hP) za zb hH (hp1.le hle) (hp2.le hle))) rfl ?_; refine Z62 ?_; refine Z190 ?_; refine Z229 ?_; refine Z29 ?_; refine Z146 ?_
    refine zbf 900 (StG a A).res rfl (zc9 hm1 he1 hp1) ?_
    refine zbf 901 (StG b D).res rfl (zc9 hm2 he2 hp2) ?_
    refine za6 900 901 rfl rfl (zaj (StG b D)) ?_
    exact zbr L 900 (r:=zb6 (StG a A) (StG b D)) (rs:=[.tmp 4]) rfl (fun _ _ h => h) hsf rfl rfl (fun H hle => by rw [hS]; rfl)
  ·have hS:ze5 A D = false:=by unfold ze5; rw [decide_eq_false (fun h => hK (by rw [h])), Bool.false_and]
   refine Z114 ?_; refine Z22 ?_; refine qg (zak L 900 (Φ:=fun H => H a = some (.cells (stc A.R.length m1 (.slice q1 (zad A.P).length c1) A.P.length).toArray tyS)) (c:=.int .u64 A.R.length) rfl rfl (zk rfl) rfl rfl rfl rfl rfl zbj (fun u H hH hle hb => zcw hna hb hH)) rfl rfl ?_; refine Z22 ?_; refine qg (zak L 901 (Φ:=fun H => H b = some (.cells (stc D.R.length m2 (.slice q2 (zad D.P).length c2) D.P.length).toArray tyS)) (c:=.int .u64 D.R.length) rfl rfl (zk rfl) rfl rfl rfl rfl rfl zbj (fun u H hH hle hb => zcw hnb hb hH)) rfl rfl ?_; refine Z96 ?_; refine Z3 ?_; refine Z37 ?_; refine Z22 ?_; refine qg (zbm L 901 (RsV (za1 D.R) true) (r:=StO b D.R.length m2 (.slice q2 (zad D.P).length c2) D.P.length e2) rfl rfl rfl rfl rfl SlV.mono (fun u H2 C2 hH hle hr2 hC2 => (zfh hm2 hnb (by omega) hH hr2 hC2).pubY zet)) rfl rfl ?_; refine z8 (zp L rfl rfl (zk rfl) rfl rfl rfl (fun u H hH _ _ v1 h1 v2 h2 => zic (decide_eq_false hK) ka hH h1 h2)) rfl ?_; refine Z62 ?_; refine Z30 ?_; refine Z227 ?_; refine Z159 ?_; refine Z190 ?_; refine Z229 ?_; refine Z29 ?_; refine Z146 ?_
   refine zbf 900 (StG a A).res rfl (zc9 hm1 he1 hp1) ?_
   refine zbf 901 (StG b D).res rfl (zc9 hm2 he2 hp2) ?_
   refine za6 900 901 rfl rfl (zaj (StG b D)) ?_
   exact zbr L 900 (r:=zb6 (StG a A) (StG b D)) (rs:=[.tmp 4]) rfl (fun _ _ h => h) hsf rfl rfl (fun H hle => by rw [hS]; rfl)
 ·have hS:ze5 A D = false:=by unfold ze5; rw [decide_eq_false (fun h => hN (by rw [h])), Bool.false_and]
  refine Z114 ?_; refine Z22 ?_; refine qg (zak L 900 (Φ:=fun H => H a = some (.cells (stc A.R.length m1 (.slice q1 (zad A.P).length c1) A.P.length).toArray tyS)) (c:=.int .u64 A.R.length) rfl rfl (zk rfl) rfl rfl rfl rfl rfl zbj (fun u H hH hle hb => zcw hna hb hH)) rfl rfl ?_; refine Z22 ?_; refine qg (zak L 901 (Φ:=fun H => H b = some (.cells (stc D.R.length m2 (.slice q2 (zad D.P).length c2) D.P.length).toArray tyS)) (c:=.int .u64 D.R.length) rfl rfl (zk rfl) rfl rfl rfl rfl rfl zbj (fun u H hH hle hb => zcw hnb hb hH)) rfl rfl ?_; refine Z144 ?_; refine Z227 ?_; refine Z4 ?_; refine Z30 ?_; refine Z227 ?_; refine Z159 ?_; refine Z190 ?_; refine Z229 ?_; refine Z29 ?_; refine Z146 ?_
  refine zbf 900 (StG a A).res rfl (zc9 hm1 he1 hp1) ?_
  refine zbf 901 (StG b D).res rfl (zc9 hm2 he2 hp2) ?_
  refine za6 900 901 rfl rfl (zaj (StG b D)) ?_
  exact zbr L 900 (r:=zb6 (StG a A) (StG b D)) (rs:=[.tmp 4]) rfl (fun _ _ h => h) hsf rfl rfl (fun H hle => by rw [hS]; rfl)
end Go.V.L10
set_option maxRecDepth 20000
namespace Go.V.L10
open Go.Proofs Go.RowKit Go.V Go.V.L2 Go.V.L8 Go.V.L6
abbrev z4o:TypeId:=89
abbrev z4y:TypeId:=32
abbrev zla:=Option (List U) × Value
def rrc (z:zla):List Value:=[.bool z.1.isSome, z.2]
theorem zh1 (z:zla):(rrc z).length = 2:=rfl
def RowOK (zs:List zla) (H:Heap):Prop:=∀ z ∈ zs, US (z.1.getD []) false z.2 H
theorem RowOK.le {zs:List zla} {H H':Heap} (h:RowOK zs H) (hle:H.Le H'):RowOK zs H':=fun z hz => (h z hz).le hle
abbrev RwV (zs:List zla):Value → Heap → Prop:=SlV z4o 2 (zs.flatMap rrc) zs.length false
def RlV (R:List (Option (List U))):Value → Heap → Prop:=fun v H => ∃ zs:List zla, zs.map (·.1) = R ∧ RowOK zs H ∧ RwV zs v H
theorem RlV.le {R:List (Option (List U))} {v:Value} {H H':Heap} (h:RlV R v H) (hle:H.Le H'):RlV R v H':=let ⟨zs, h1, h2, h3⟩:=h; ⟨zs, h1, h2.le hle, h3.le hle⟩
def RsS (S:Sto):Value → Heap → Prop:=fun v H => ∃ lv pv, v = .agg #[lv, pv] ∧ RlV S.R lv H ∧ RsV S.P false pv H
theorem RsS.mono {S:Sto}:Kn.mono (.sat (RsS S)):=fun _ _ _ ⟨lv, pv, h1, h2, h3⟩ hle => ⟨lv, pv, h1, h2.le hle, h3.le hle⟩
theorem RsS.le {S:Sto} {v:Value} {H H':Heap} (h:RsS S v H) (hle:H.Le H'):RsS S v H':=RsS.mono _ _ _ h hle
theorem zn2 {zs:List zla} {i:Nat} {z:zla} (h:zs[i]? = some z):((zs.flatMap rrc).drop (i * 2)).take 2 = [.bool z.1.isSome, z.2]:=zdo zh1 zs i z h
theorem zqu {zs:List zla} {H:Heap} (h:RowOK zs H):(zs.flatMap rrc).all zbt = true:=by
 rw [List.all_eq_true]
 intro x hx
 obtain ⟨z, hz, hx⟩:=List.mem_flatMap.1 hx
 obtain ⟨p, c, hs⟩:=zaq (h z hz)
 unfold rrc at hx
 rw [hs] at hx
 simp only [List.mem_cons, List.mem_nil_iff, or_false] at hx
 rcases hx with rfl | rfl <;> rfl
theorem zir {zs:List zla} {R:List (Option (List U))} (h:zs.map (·.1) = R) {i:Nat} {o:Option (List U)} (ho:R[i]? = some o):∃ v, zs[i]? = some (o, v):=by
 rw [← h, List.getElem?_map] at ho
 cases hz:zs[i]? with
 | none => rw [hz] at ho; cases ho
 | some z => rw [hz] at ho; cases ho; exact ⟨z.2, rfl⟩
def zkk (R:List (Option (List U))) (i:Nat):List Int:=((List.range i).filter fun i => ((R[i]?).join).isSome).map fun i => ((i + 1:Nat):Int)
theorem zsy {R:List (Option (List U))} {i:Nat}:zkk R (i + 1) = zkk R i ++ if ((R[i]?).join).isSome = true then [((i + 1:Nat):Int)] else []:=by
 unfold zkk
 rw [List.range_succ, List.filter_append, List.map_append]
 congr 1
 by_cases h:((R[i]?).join).isSome = true
 ·rw [if_pos h]; simp [h]
 ·rw [if_neg h]; simp [h]
theorem zkj (R:List (Option (List U))) (i:Nat):(zkk R i).length ≤ i:=by
 unfold zkk
 rw [List.length_map]
 exact Nat.le_trans (List.length_filter_le ..) (by simp)
abbrev z4n (t:List U) (e:Int):Value → Heap → Prop:=TupS [US t false, fun v _ => v = .int .i64 e]
attribute [local irreducible] V N X VO Par StepOK Has Ret RetL RetO RetT zce zd7 RetY Src
theorem zsf {w:World} {B:Heap} (hB:B.Le (hp w)):Ret Tryz.prog 42 [] w B (RsS newS):=by
 refine yg Tryz.func42 rfl Tryz.ntmps42 (Nat.le_of_ble_eq_true rfl) hB ?_
 refine Z355 ?_; refine Z166 ?_; refine Z20 ?_; refine z7 (yx (cs:=[_, _]) rfl rfl z41 rfl rfl) rfl ?_; refine Z39 ?_; refine zbx 2 rfl fun v1 H1 hs1 hv1 => ?_; obtain ⟨d1, rfl, hd1⟩:=hv1; refine z7 (yx (cs:=[_, _]) rfl rfl z2u rfl rfl) rfl ?_; refine Z268 ?_
 refine yd L (rs:=[.cell 0 32]) rfl (fun _ _ h => h) hs1 fun u H hH hle => ?_
 exact ⟨_, ym rfl, rfl, _, _, rfl, ⟨[(some [], .slice none 0 0)], rfl, fun z hz => by rw [List.mem_singleton.1 hz]; exact SlV.nil, (SlB.toV (n:=1) ⟨d1, rfl, hle _ _ hd1⟩ rfl).nofu⟩, SlV.nil⟩
theorem zci {R:List (Option (List U))} {zs:List zla} (hzs:zs.map (·.1) = R) (hR:R.length ≤ 100000) {lv pv:Value} (hpv:∃ p k c, pv = .slice p k c) {w:World} {B:Heap} (hB:B.Le (hp w)) (hl:RwV zs lv B) :
  Ret Tryz.prog 34 [.agg #[lv, pv]] w B (RsV (za1 R) false):=by
 have hzl:zs.length = R.length:=by rw [← hzs, List.length_map]
 obtain ⟨p, c, rfl⟩:=zaq hl
 obtain ⟨p2, k2, c2, rfl⟩:=hpv
 refine yg Tryz.func34 rfl Tryz.ntmps34 (Nat.le_of_ble_eq_true rfl) hB ?_
 refine Z291 ?_; refine Z155 ?_
 refine zek 3 zjl 1 rfl ?_
 refine Z383 ?_
 refine zal (fun y:Nat => [(1, .sat (At [.slice p zs.length c, .slice p2 k2 c2] z4y 0)), (3, .own (SlR zjl 1 (zkk R y).length ((zkk R y).map (Value.int .u64)))), (4, .is (.int .i64 y))])
  (fun y => y ≤ R.length) (fun y => R.length - y) 0 (Nat.zero_le _) ⟨rfl, rfl, rfl, trivial⟩ ?_
 rintro i hi
 dsimp only at hi ⊢
 have htl:=zkj R i
 by_cases hlt:i < R.length
 ·obtain ⟨o, ho⟩:=zaf hlt
  obtain ⟨v, hv⟩:=zir hzs ho
  have hc:=zn2 hv
  have hwk:IntKind.i64.wrap ((i:Int) + 1) = ((i + 1:Nat):Int):=zaa (by omega) (by omega)
  have hwu:IntKind.u64.wrap ((i + 1:Nat):Int) = ((i + 1:Nat):Int):=wrap_u64 (by omega) (by omega)
  have hs:=zsy (R:=R) (i:=i)
  rw [ho] at hs
  cases o with
  | none =>
   have hs2:zkk R (i + 1) = zkk R i:=hs.trans (List.append_nil _)
   refine Z266 ?_; refine Z283 ?_; refine Z186 ?_; refine Z178 ?_; refine Z38 ?_; refine Z225 ?_; refine Z1 ?_; refine z7 (qu L _ rfl rfl rfl rfl rfl rfl rfl (by first | omega | decide) (by assumption)) rfl ?_; refine Z374 ?_; refine Z228 ?_; refine Z371 ?_
   exact yj (x:=i) (i + 1) hlt (by omega) ⟨rfl, by rw [hs2]; rfl, rfl, trivial⟩
  | some t =>
   have hs2:zkk R (i + 1) = zkk R i ++ [((i + 1:Nat):Int)]:=hs
   refine Z266 ?_; refine Z283 ?_; refine Z186 ?_; refine Z178 ?_; refine Z38 ?_; refine Z225 ?_; refine Z1 ?_; refine z7 (qu L _ rfl rfl rfl rfl rfl rfl rfl (by first | omega | decide) (by assumption)) rfl ?_; refine Z374 ?_; refine Z152 ?_; refine Z43 ?_; refine qq (yo (.inl rfl) rfl rfl rfl rfl) ?_; refine Z414 ?_; refine z7 (zav rfl rfl rfl za9.1 za9.2 (wrap_u64 (by omega) (by omega))) rfl ?_; refine Z39 ?_; refine Z113 ?_; refine qq (yo (.inr rfl) rfl rfl rfl rfl) ?_; refine Z248 ?_; refine Z371 ?_
   exact yj (x:=i) (i + 1) hlt (by omega) ⟨rfl, by rw [hs2]; exact zmf, rfl, trivial⟩
 ·obtain rfl:i = R.length:=by omega
  refine Z266 ?_; refine Z283 ?_; refine Z269 ?_
  refine zcr 3 rfl ?_
  refine Z44 ?_; refine Z5 ?_; refine Z275 ?_
  refine yd L (rs:=[.tmp 2]) rfl (fun _ _ h => h) Since.refl fun u H hH hle => ?_
  exact fun v hv => hv
set_option maxHeartbeats 1000000 in
theorem zuk {S:Sto} {r:Int} (hn:S.R.length ≠ 0) (hr0:0 ≤ r) (hr1:r < 18446744073709551616) (hz:S.R.length ≤ 1000000000) {v:Value} {w:World} {B:Heap} (hB:B.Le (hp w)) (hv:RsS S v B) :
  Ret Tryz.prog 27 [v, .int .u64 r] w B (z4n (atS S r).1 (atS S r).2):=by
 obtain ⟨lv, pv, rfl, ⟨zs, hzs, hrow, hlv⟩, hpv⟩:=hv
 have hzl:zs.length = S.R.length:=by rw [← hzs, List.length_map]
 obtain ⟨p, c, rfl⟩:=zaq hlv
 obtain ⟨p2, c2, rfl⟩:=zaq hpv
 obtain ⟨k, hk⟩:∃ k:Nat, (k:Int) = if r = 0 then (S.R.length:Int) else r:=⟨(if r = 0 then (S.R.length:Int) else r).toNat, by split <;> omega⟩
 have hat:atS S r = match kpt S.R k with | some t => (t, 0) | none => ([], 14):=by rw [hk]; rfl
 have hk1:1 ≤ k:=by split at hk <;> omega
 obtain ⟨j, rfl⟩:∃ j, k = j + 1:=⟨k - 1, by omega⟩
 have hwl:IntKind.u64.wrap ((zs.length:Nat):Int) = ((zs.length:Nat):Int):=wrap_u64 (by omega) (by omega)
 have hws:IntKind.u64.wrap (((j + 1:Nat):Int) - 1) = ((j:Nat):Int):=(wrap_u64 (by omega) (by split at hk <;> omega)).trans (by omega)
 rw [zdm] at hat
 by_cases hr:r = 0
 ·rw [if_pos hr] at hk
  subst hr
  have hjl:j < S.R.length:=by omega
  obtain ⟨o, ho⟩:=zaf hjl
  obtain ⟨v, hv⟩:=zir hzs ho
  have hc:=zn2 hv
  have hjz:zs.length = j + 1:=by omega
  rw [ho] at hat
  have hws2:IntKind.u64.wrap (((zs.length:Nat):Int) - 1) = ((j:Nat):Int):=by rw [hjz]; exact hws
  cases o with
  | none =>
   rw [hat]
   refine yg Tryz.func27 rfl Tryz.ntmps27 (Nat.le_of_ble_eq_true rfl) hB ?_
   refine Z338 ?_; refine Z197 ?_; refine Z294 ?_; refine Z32 ?_; refine Z283 ?_; refine z7 (zav rfl rfl rfl za9.1 za9.2 (wrap_u64 (by omega) (by omega))) rfl ?_; refine Z340 ?_; refine Z283 ?_; refine z7 (zav rfl rfl rfl za9.1 za9.2 (wrap_u64 (by omega) (by omega))) rfl ?_; refine Z35 ?_; refine Z1 ?_; refine Z225 ?_; refine Z238 ?_; refine z7 (qu L _ rfl rfl rfl rfl rfl rfl rfl (by first | omega | decide) (by assumption)) rfl ?_; refine Z374 ?_; refine Z325 ?_; refine Z334 ?_; refine Z195 ?_
   refine yd L (rs:=[.tmp 4, .tmp 5]) rfl (fun _ _ h => h) Since.refl fun u H hH hle => ?_
   exact zey SlV.nil
  | some t =>
   have hrz:US t false v B:=hrow (some t, v) (List.mem_of_getElem? hv)
   obtain ⟨p3, c3, rfl⟩:=zaq hrz
   rw [hat]
   refine yg Tryz.func27 rfl Tryz.ntmps27 (Nat.le_of_ble_eq_true rfl) hB ?_
   refine Z338 ?_; refine Z197 ?_; refine Z294 ?_; refine Z32 ?_; refine Z283 ?_; refine z7 (zav rfl rfl rfl za9.1 za9.2 (wrap_u64 (by omega) (by omega))) rfl ?_; refine Z340 ?_; refine Z283 ?_; refine z7 (zav rfl rfl rfl za9.1 za9.2 (wrap_u64 (by omega) (by omega))) rfl ?_; refine Z35 ?_; refine Z1 ?_; refine Z225 ?_; refine Z238 ?_; refine z7 (qu L _ rfl rfl rfl rfl rfl rfl rfl (by first | omega | decide) (by assumption)) rfl ?_; refine Z374 ?_; refine Z325 ?_; refine Z169 ?_; refine Z38 ?_; refine Z225 ?_; refine Z238 ?_; refine z7 (qu L _ rfl rfl rfl rfl rfl rfl rfl (by first | omega | decide) (by assumption)) rfl ?_; refine Z374 ?_; refine Z195 ?_
   refine yd L (rs:=[.tmp 4, .tmp 5]) rfl (fun _ _ h => h) Since.refl fun u H hH hle => ?_
   exact zey (hrz.le hle)
 ·rw [if_neg hr] at hk
  subst hk
  by_cases hjl:j < S.R.length
  ·obtain ⟨o, ho⟩:=zaf hjl
   obtain ⟨v, hv⟩:=zir hzs ho
   have hc:=zn2 hv
   rw [ho] at hat
   cases o with
   | none =>
    rw [hat]
    refine yg Tryz.func27 rfl Tryz.ntmps27 (Nat.le_of_ble_eq_true rfl) hB ?_
    refine Z338 ?_; refine Z197 ?_; refine Z289 ?_; refine Z181 ?_; refine Z283 ?_; refine z7 (zav rfl rfl rfl za9.1 za9.2 (wrap_u64 (by omega) (by omega))) rfl ?_; refine Z35 ?_; refine Z1 ?_; refine Z225 ?_; refine Z238 ?_; refine z7 (qu L _ rfl rfl rfl rfl rfl rfl rfl (by first | omega | decide) (by assumption)) rfl ?_; refine Z374 ?_; refine Z325 ?_; refine Z334 ?_; refine Z195 ?_
    refine yd L (rs:=[.tmp 4, .tmp 5]) rfl (fun _ _ h => h) Since.refl fun u H hH hle => ?_
    exact zey SlV.nil
   | some t =>
    have hrz:US t false v B:=hrow (some t, v) (List.mem_of_getElem? hv)
    obtain ⟨p3, c3, rfl⟩:=zaq hrz
    rw [hat]
    refine yg Tryz.func27 rfl Tryz.ntmps27 (Nat.le_of_ble_eq_true rfl) hB ?_
    refine Z338 ?_; refine Z197 ?_; refine Z289 ?_; refine Z181 ?_; refine Z283 ?_; refine z7 (zav rfl rfl rfl za9.1 za9.2 (wrap_u64 (by omega) (by omega))) rfl ?_; refine Z35 ?_; refine Z1 ?_; refine Z225 ?_; refine Z238 ?_; refine z7 (qu L _ rfl rfl rfl rfl rfl rfl rfl (by first | omega | decide) (by assumption)) rfl ?_; refine Z374 ?_; refine Z325 ?_; refine Z169 ?_; refine Z38 ?_; refine Z225 ?_; refine Z238 ?_; refine z7 (qu L _ rfl rfl rfl rfl rfl rfl rfl (by first | omega | decide) (by assumption)) rfl ?_; refine Z374 ?_; refine Z195 ?_
    refine yd L (rs:=[.tmp 4, .tmp 5]) rfl (fun _ _ h => h) Since.refl fun u H hH hle => ?_
    exact zey (hrz.le hle)
  ·rw [List.getElem?_eq_none (by omega)] at hat
   rw [hat]
   refine yg Tryz.func27 rfl Tryz.ntmps27 (Nat.le_of_ble_eq_true rfl) hB ?_
   refine Z338 ?_; refine Z197 ?_; refine Z289 ?_; refine Z181 ?_; refine Z283 ?_; refine z7 (zav rfl rfl rfl za9.1 za9.2 (wrap_u64 (by omega) (by omega))) rfl ?_; refine Z41 ?_; refine Z347 ?_; refine Z230 ?_; refine Z334 ?_; refine Z195 ?_
   refine yd L (rs:=[.tmp 4, .tmp 5]) rfl (fun _ _ h => h) Since.refl fun u H hH hle => ?_
   exact zey SlV.nil
end Go.V.L10
set_option maxRecDepth 20000
namespace Go.V.L10
open Go.Proofs Go.RowKit Go.V Go.V.L2 Go.V.L8 Go.V.L6
theorem _root_.Go.V.Z93 {A B:Prop} (h:B) (t:Wr B → A:=by intro h; refine z8 (zu9 L rfl rfl rfl rfl) rfl ?_; exact h.h):A:=t ⟨h⟩
theorem _root_.Go.V.Z378 {A B:Prop} (h:B) (t:Wr B → A:=by intro h; refine Z48 ?_; refine z8 (StepOK.seeV (qh L (qp rfl) rfl rfl rfl rfl) (by assumption)) rfl ?_; exact h.h):A:=t ⟨h⟩
theorem zzr {φ:Value → Heap → Prop} {a v:Value} {H:Heap} (h:TupS [φ, fun v _ => v = a] v H):∃ tv, v = .tuple #[tv, a] ∧ φ tv H:=by
 obtain ⟨vs, rfl, hl, hp⟩:=h
 match vs, hl with
 | [x, y], _ =>
  have h2:=hp 1 _ y rfl rfl
  exact ⟨x, by rw [← h2], hp 0 _ x rfl rfl⟩
abbrev Wr10P (S:Sto) (rev e:Int):Value → Heap → Prop:=TupS [RsS S, fun v _ => v = .int .u64 rev, fun v _ => v = .int .i64 e]
theorem z4z {φ:Value → Heap → Prop} {a b v:Value} {H:Heap} (h:φ v H):TupS [φ, fun v _ => v = a, fun v _ => v = b] (.tuple #[v, a, b]) H:=by
 refine ⟨[v, a, b], rfl, rfl, fun i ψ x hi hx => ?_⟩
 rcases i with _ | _ | _ | i
 ·cases hi; cases hx; exact h
 ·cases hi; cases hx; rfl
 ·cases hi; cases hx; rfl
 ·cases hi
theorem Wr10P.mono {S:Sto} {rev e:Int}:Kn.mono (.sat (Wr10P S rev e)):=TupS.mono fun ψ hψ => by
 simp only [List.mem_cons, List.mem_nil_iff, or_false] at hψ
 rcases hψ with rfl | rfl | rfl
 ·exact RsS.mono
 ·exact fun _ _ _ h _ => h
 ·exact fun _ _ _ h _ => h
attribute [local irreducible] V N X VO Par StepOK Has Ret RetL RetO RetT zce zd7 RetY Src
set_option maxHeartbeats 4000000 in
set_option maxRecDepth 20000 in
theorem znu {S S':Sto} {l cs:List CH} {rev e:Int} {fl fc:Bool} (hI:z4f S) (hR:S.R.length ≤ 100000) (hn:S.R.length ≠ 0) (hss:∀ r t, kpt S.R r = some t → Sst zbh t ∧ ∀ x ∈ t, TZ x) (zl:∀ c ∈ l, TM c.1) (zc:∀ c ∈ cs, TM c.1) (ll:l.length ≤ 9223372036854775807) (lc:cs.length ≤ 9223372036854775807) (hw:ze0 S l cs = (S', rev, e)) {v lv cv:Value} {w:World} {B:Heap} (hB:B.Le (hp w)) (hv:RsS S v B) (hl:KS tyM l fl lv B) (hc:KS tyC cs fc cv B) :
  Ret Tryz.prog 53 [v, lv, cv] w B (Wr10P S' rev e):=by
 obtain ⟨rv, pv, rfl, ⟨zs, hzs, hrow, hrv⟩, hpv⟩:=hv
 have hzl:zs.length = S.R.length:=by rw [← hzs, List.length_map]
 obtain ⟨p, c, rfl⟩:=zaq hrv
 obtain ⟨p2, c2, rfl⟩:=zaq hpv
 obtain ⟨t0, ht0⟩:∃ t0, kpt S.R S.R.length = some t0:=Option.isSome_iff_exists.1 hI.last
 have hA:atS S 0 = (t0, 0):=by unfold atS; rw [if_pos rfl, ht0]
 have ht4:=hI.tl _ _ ht0
 have hts:=hss _ _ ht0
 obtain ⟨⟨t1, made, e1⟩, hwr⟩:∃ x, zel t0 l cs = x:=⟨_, rfl⟩
 unfold ze0 at hw
 rw [hA, hwr] at hw
 dsimp only at hw
 obtain ⟨j, hj⟩:∃ j, zs.length = j + 1:=⟨zs.length - 1, by omega⟩
 have hws:IntKind.i64.wrap (((zs.length:Nat):Int) - 1) = ((j:Nat):Int):=(zaa (by omega) (by omega)).trans (by omega)
 obtain ⟨v0, hv0⟩:∃ v, zs[j]? = some (some t0, v):=zir hzs (by
  obtain ⟨o, ho⟩:=zaf (show j < S.R.length by omega)
  have h2:S.R.length = j + 1:=by omega
  rw [h2, zdm, ho] at ht0
  cases o with
  | none => cases ht0
  | some t => cases ht0; exact ho)
 have hrz:US t0 false v0 B:=hrow (some t0, v0) (List.mem_of_getElem? hv0)
 obtain ⟨p3, c3, rfl⟩:=zaq hrz
 have hc0:=zn2 hv0
 have hkl:=zkj S.R S.R.length
 refine yg Tryz.func53 rfl Tryz.ntmps53 (Nat.le_of_ble_eq_true rfl) hB ?_
 refine zaz 1 (KS tyM l fl) rfl SlV.mono hl ?_
 refine zaz 2 (KS tyC cs fc) rfl SlV.mono hc ?_
 refine Z165 ?_; refine Z260 ?_; refine Z168 ?_; refine Z225 ?_; refine Z283 ?_; refine Z27 ?_; refine z7 (qu L _ rfl rfl rfl rfl rfl rfl rfl (by first | omega | decide) (by assumption)) rfl ?_; refine Z374 ?_; refine Z391 ?_; refine z7 (yr (φ:=RWriteP t1 made e1) L rfl rfl (zk rfl) rfl rfl rfl RWriteP.mono (fun u H hH hle _ v1 h1 v2 h2 => zph zl zc ll lc ht4 hts.1 hts.2 hwr hH (hrz.le hle) h1 h2)) rfl ?_; refine zbx 25 rfl fun v1 H1 hs1 hp1 => ?_; obtain ⟨tv, mv, rfl, htv, hmv⟩:=hp1; obtain ⟨p4, c4, rfl⟩:=zaq htv; refine Z183 ?_; refine Z16 ?_; refine Z2 ?_; refine Z234 ?_
 have hrow1:=hrow.le hs1.le
 have hrv1:=hrv.le hs1.le
 have hpv1:=hpv.le hs1.le
 by_cases he:e1 = 0
 ·subst he
  rw [if_pos rfl] at hw
  by_cases hk:1024 ≤ (za1 S.R).length
  ·rw [if_pos hk] at hw
   cases hw
   refine Z182 ?_; refine Z28 ?_; refine Z1 ?_; refine z7 (qd L (vs:=[_, _]) (qp rfl) rfl rfl rfl rfl ⟨_, rfl⟩) rfl ?_; refine z7 (yr (φ:=RsV (za1 S.R) false) L rfl rfl (zk rfl) rfl rfl rfl SlV.mono (fun u H hH hle _ => zci hzs (by omega) ⟨_, _, _, rfl⟩ hH (hrv1.le hle))) rfl ?_; refine Z11 ?_; refine Z42 ?_; refine Z258 ?_; refine Z29 ?_; refine Z155 ?_; refine Z173 ?_; refine Z221 ?_; refine Z38 ?_; refine z7 (qd L (vs:=[_, _]) (qp rfl) rfl rfl rfl rfl ⟨_, rfl⟩) rfl ?_; refine Z1 ?_; refine Z21 ?_; refine Z195 ?_
   refine yd L (rs:=[.cell 6 32, .tmp 7, .tmp 8]) rfl (fun _ _ h => h) hs1 fun u H hH hle => ?_
   exact ⟨_, ym rfl, rfl, z4z ⟨_, _, rfl, ⟨zs, hzs, hrow1.le hle, hrv1.le hle⟩, hpv1.le hle⟩⟩
  ·rw [if_neg hk] at hw
   cases hw
   have hlen:(zs.flatMap rrc).length = zs.length * 2:=zcq zh1 zs
   have hpl:=zqu hrow
   have hwu:IntKind.u64.wrap ((zs.length + 1:Nat):Int) = ((S.R.length + 1:Nat):Int):=(wrap_u64 (by omega) (by omega)).trans (by omega)
   refine Z182 ?_; refine Z28 ?_; refine Z1 ?_; refine z7 (qd L (vs:=[_, _]) (qp rfl) rfl rfl rfl rfl ⟨_, rfl⟩) rfl ?_; refine z7 (yr (φ:=RsV (za1 S.R) false) L rfl rfl (zk rfl) rfl rfl rfl SlV.mono (fun u H hH hle _ => zci hzs (by omega) ⟨_, _, _, rfl⟩ hH (hrv1.le hle))) rfl ?_; refine Z11 ?_; refine Z46 ?_; refine Z8 ?_; refine Z177 ?_; refine Z173 ?_; refine Z241 ?_
   refine qf (id:=6) [(47, [43]), (50, [47]), (100012, [50])] mixed (by kernel_rfl) ?_; refine Z378 ?_; refine z8 (zda L rfl rfl rfl (zih rfl) rfl z5o hlen hpl (by omega) (by omega)) rfl ?_; refine Z3 ?_; refine z8 (yx (cs:=[_, _]) rfl rfl z41 rfl rfl) rfl ?_; refine Z128 ?_; refine zau (StepOK2.turn (zcl (q:=43) L rfl rfl rfl (zii rfl) rfl z5o rfl rfl (by omega) (by omega)) (zzm (Nat.succ_ne_zero _))) rfl rfl ?_; refine Z231 ?_; refine zau (zgl (q:=47) (X:=z5v 2 (zs.length + 1) _) (fun x => [(0, .slice (some ⟨x.1.1, 0, none⟩) (zs.length + 1) x.1.2.1), (1, .slice p2 S.P.length c2)]) (fun x => [.slice (some ⟨x.1.1, 0, none⟩) (zs.length + 1) x.1.2.1, .slice p2 S.P.length c2]) rfl rfl rfl rfl z2u (fun _ => rfl) (fun _ => by rfl)) rfl rfl ?_; refine z8 (yi L rfl rfl rfl rfl) rfl ?_; refine zau (zln L (q:=50) rfl (fun _ => by exact ⟨rfl, rfl⟩) rfl rfl rfl rfl rfl) rfl rfl ?_; refine Z306 ?_
   refine zgq 12 902 rfl fun x => ?_
   obtain ⟨b12, ⟨b47, cap, rest⟩, hcap, _, hfl⟩:=x
   dsimp only at hcap hfl ⊢
   rw [zhk]
   refine zde 902 903 rfl (zaj _) ?_
   refine zz9 903 rfl fun H2 hs2 _ hb47 => ?_
   refine qf (id:=7) [(200051, [902]), (200053, [902])] mixed (by kernel_rfl) ?_; refine qg (zao L (q:=902) (vs:=[_, _]) rfl rfl rfl rfl rfl rfl ⟨_, rfl⟩) rfl rfl ?_; refine Z12 ?_; refine Z74 ?_; refine Z93 ?_; refine z8 (zav rfl rfl rfl za9.1 za9.2 (wrap_u64 (by omega) (by omega))) rfl ?_; refine Z116 ?_; refine Z36 ?_; refine Z185 ?_
   refine yd L (rs:=[.cell 6 32, .tmp 7, .tmp 8]) rfl (fun _ _ h => h) (hs1.trans hs2) fun u H hH hle => ?_
   have hrow2:RowOK (zs ++ [(some t1, .slice p4 t1.length c4)]) H2:=fun z hz => by
    rcases List.mem_append.1 hz with hz | hz
    ·exact (hrow1.le hs2.le) z hz
    ·rw [List.mem_singleton.1 hz]; exact htv.le hs2.le
   have hfm:(zs ++ [(some t1, Value.slice p4 t1.length c4)]).flatMap rrc = zs.flatMap rrc ++ [.bool true, .slice p4 t1.length c4]:=by rw [List.flatMap_append]; rfl
   have hrv2:RwV (zs ++ [(some t1, .slice p4 t1.length c4)]) (.slice (some ⟨b47, 0, none⟩) (zs.length + 1) cap) H2:=by
    unfold RwV
    rw [hfm, List.length_append, List.length_singleton]
    exact ⟨by rw [List.length_append, hlen]; simp; omega, .inr ⟨b47, 0, cap, _, _, _, rfl, hb47, (by show (((zs.flatMap rrc ++ ([.bool true, .slice p4 t1.length c4]:List Value)) ++ rest).drop 0).take _ = _; rw [List.drop_zero]; exact List.take_left), hcap, fun h => by cases h⟩⟩
   rw [show S.R.length + 1 = zs.length + 1 by omega]
   exact ⟨_, ym rfl, rfl, z4z ⟨_, _, rfl, ⟨_, by rw [List.map_append, hzs]; rfl, hrow2.le hle, hrv2.le hle⟩, (hpv1.le hs2.le).le hle⟩⟩
 ·rw [if_neg he] at hw
  cases hw
  refine Z182 ?_; refine Z14 ?_; refine Z329 ?_; refine Z177 ?_; refine Z173 ?_; refine Z221 ?_; refine Z38 ?_; refine z7 (qd L (vs:=[_, _]) (qp rfl) rfl rfl rfl rfl ⟨_, rfl⟩) rfl ?_; refine Z1 ?_; refine Z21 ?_; refine Z195 ?_
  refine yd L (rs:=[.cell 6 32, .tmp 7, .tmp 8]) rfl (fun _ _ h => h) hs1 fun u H hH hle => ?_
  exact ⟨_, ym rfl, rfl, z4z ⟨_, _, rfl, ⟨zs, hzs, hrow1.le hle, hrv1.le hle⟩, hpv1.le hle⟩⟩
abbrev Pn10P (S:Sto) (e:Int):Value → Heap → Prop:=TupS [RsS S, fun v _ => v = .int .i64 e]
theorem Pn10P.mono {S:Sto} {e:Int}:Kn.mono (.sat (Pn10P S e)):=zf3 RsS.mono
set_option maxHeartbeats 1000000 in
set_option maxRecDepth 20000 in
theorem zlj {S S':Sto} {r e:Int} {un:Bool} (hR:S.R.length ≤ 1000000000) (hr0:0 ≤ r) (hr1:r < 18446744073709551616) (hz:S.P.length ≤ 1000) (hpos:∀ x ∈ S.P, 0 < x) (hpn:zn9 S r un = (S', e)) {v:Value} {w:World} {B:Heap} (hB:B.Le (hp w)) (hv:RsS S v B) :
  Ret Tryz.prog 54 [v, .int .u64 r, .bool un] w B (Pn10P S' e):=by
 obtain ⟨rv, pv, rfl, ⟨zs, hzs, hrow, hrv⟩, hpv⟩:=hv
 have hzl:zs.length = S.R.length:=by rw [← hzs, List.length_map]
 obtain ⟨p, c, rfl⟩:=zaq hrv
 obtain ⟨p2, c2, rfl⟩:=zaq hpv
 have hwl:IntKind.u64.wrap ((zs.length:Nat):Int) = ((zs.length:Nat):Int):=wrap_u64 (by omega) (by omega)
 unfold zn9 at hpn
 by_cases hk:(kpt S.R r).isSome = true
 ·rw [if_pos hk] at hpn
  obtain ⟨k0, k1⟩:=zeg hk
  obtain ⟨j, rfl⟩:∃ j:Nat, r = ((j + 1:Nat):Int):=⟨(r - 1).toNat, by omega⟩
  have hws:IntKind.u64.wrap (((j + 1:Nat):Int) - 1) = ((j:Nat):Int):=(wrap_u64 (by omega) (by omega)).trans (by omega)
  rw [zdm] at hk
  obtain ⟨o, ho⟩:=zaf (show j < S.R.length by omega)
  rw [ho] at hk
  cases o with
  | none => cases hk
  | some t =>
   obtain ⟨v, hv⟩:=zir hzs ho
   have hc:=zn2 hv
   obtain ⟨⟨P1, e1⟩, hu⟩:∃ x, zfy S.P ((j + 1:Nat):Int) = x:=⟨_, rfl⟩
   refine yg Tryz.func54 rfl Tryz.ntmps54 (Nat.le_of_ble_eq_true rfl) hB ?_
   refine Z365 ?_; refine Z197 ?_; refine Z14 ?_; refine Z148 ?_; refine Z283 ?_; refine z7 (zav rfl rfl rfl za9.1 za9.2 (wrap_u64 (by omega) (by omega))) rfl ?_; refine Z307 ?_; refine Z1 ?_; refine Z225 ?_; refine Z238 ?_; refine z7 (qu L _ rfl rfl rfl rfl rfl rfl rfl (by first | omega | decide) (by assumption)) rfl ?_; refine Z374 ?_; refine Z325 ?_; refine Z169 ?_; refine Z29 ?_; refine Z225 ?_; refine Z1 ?_; refine z7 (yr (φ:=RP2 (S.P ++ [((j + 1:Nat):Int)]) 0) L rfl rfl (zk rfl) rfl rfl rfl zqv (fun u H hH hle _ v1 h1 => zxj (by omega) hpos hz hH h1)) rfl ?_; refine zbx 35 rfl fun v1 H1 hs1 hp1 => ?_; obtain ⟨tv, rfl, htv⟩:=zzr hp1; obtain ⟨p4, c4, rfl⟩:=zaq htv; refine Z354 ?_
   have hrow1:=hrow.le hs1.le
   have hrv1:=hrv.le hs1.le
   have hpv1:=hpv.le hs1.le
   cases un with
   | false =>
    rw [if_neg (by decide)] at hpn
    cases hpn
    refine Z173 ?_; refine Z177 ?_; refine Z198 ?_; refine Z241 ?_; refine Z58 ?_; refine Z191 ?_; refine Z1 ?_; refine z7 (yx (cs:=[_, _]) rfl rfl z2u rfl rfl) rfl ?_; refine Z246 ?_
    refine yd L (rs:=[.cell 6 32, .tmp 7]) rfl (fun _ _ h => h) hs1 fun u H hH hle => ?_
    exact ⟨_, ym rfl, rfl, zey ⟨_, _, rfl, ⟨zs, hzs, hrow1.le hle, hrv1.le hle⟩, htv.le hle⟩⟩
   | true =>
    rw [if_pos rfl, hu] at hpn
    dsimp only at hpn
    refine Z173 ?_; refine Z152 ?_; refine Z38 ?_; refine Z225 ?_; refine Z1 ?_; refine z7 (yr (φ:=RP2 P1 e1) L rfl rfl (zk rfl) rfl rfl rfl zqv (fun u H hH hle _ v1 h1 => zse hu hz hH h1)) rfl ?_; refine zbx 43 rfl fun v1 H2 hs2 hp2 => ?_; obtain ⟨uv, rfl, huv⟩:=zzr hp2; obtain ⟨p5, c5, rfl⟩:=zaq huv; refine Z354 ?_
    have hrow2:=hrow1.le hs2.le
    have hrv2:=hrv1.le hs2.le
    have hpv2:=hpv1.le hs2.le
    by_cases h0:e1 = 0
    ·subst h0
     rw [if_pos rfl] at hpn
     cases hpn
     refine Z198 ?_; refine Z241 ?_; refine Z58 ?_; refine Z191 ?_; refine Z1 ?_; refine z7 (yx (cs:=[_, _]) rfl rfl z2u rfl rfl) rfl ?_; refine Z246 ?_
     refine yd L (rs:=[.cell 6 32, .tmp 7]) rfl (fun _ _ h => h) (hs1.trans hs2) fun u H hH hle => ?_
     exact ⟨_, ym rfl, rfl, zey ⟨_, _, rfl, ⟨zs, hzs, hrow2.le hle, hrv2.le hle⟩, huv.le hle⟩⟩
    ·rw [if_neg h0] at hpn
     cases hpn
     refine Z198 ?_; refine Z221 ?_; refine Z44 ?_; refine z7 (qd L (vs:=[_, _]) (qp rfl) rfl rfl rfl rfl ⟨_, rfl⟩) rfl ?_; refine Z1 ?_; refine Z246 ?_
     refine yd L (rs:=[.cell 6 32, .tmp 7]) rfl (fun _ _ h => h) (hs1.trans hs2) fun u H hH hle => ?_
     exact ⟨_, ym rfl, rfl, zey ⟨_, _, rfl, ⟨zs, hzs, hrow2.le hle, hrv2.le hle⟩, hpv2.le hle⟩⟩
 ·rw [if_neg hk] at hpn
  cases hpn
  by_cases hr:r = 0
  ·refine yg Tryz.func54 rfl Tryz.ntmps54 (Nat.le_of_ble_eq_true rfl) hB ?_
   refine Z365 ?_; refine Z197 ?_; refine Z28 ?_; refine Z308 ?_; refine Z230 ?_; refine Z347 ?_; refine Z230 ?_; refine Z237 ?_; refine z7 (qd L (vs:=[_, _]) (qp rfl) rfl rfl rfl rfl ⟨_, rfl⟩) rfl ?_; refine Z246 ?_
   refine yd L (rs:=[.cell 6 32, .tmp 7]) rfl (fun _ _ h => h) Since.refl fun u H hH hle => ?_
   exact ⟨_, ym rfl, rfl, zey ⟨_, _, rfl, ⟨zs, hzs, hrow.le hle, hrv.le hle⟩, hpv.le hle⟩⟩
  ·obtain ⟨j, rfl⟩:∃ j:Nat, r = ((j + 1:Nat):Int):=⟨(r - 1).toNat, by omega⟩
   have hws:IntKind.u64.wrap (((j + 1:Nat):Int) - 1) = ((j:Nat):Int):=(wrap_u64 (by omega) (by omega)).trans (by omega)
   by_cases hjl:j < S.R.length
   ·rw [zdm] at hk
    obtain ⟨o, ho⟩:=zaf hjl
    rw [ho] at hk
    cases o with
    | some t => exact absurd rfl hk
    | none =>
     obtain ⟨v, hv⟩:=zir hzs ho
     have hc:=zn2 hv
     refine yg Tryz.func54 rfl Tryz.ntmps54 (Nat.le_of_ble_eq_true rfl) hB ?_
     refine Z365 ?_; refine Z197 ?_; refine Z14 ?_; refine Z148 ?_; refine Z283 ?_; refine z7 (zav rfl rfl rfl za9.1 za9.2 (wrap_u64 (by omega) (by omega))) rfl ?_; refine Z307 ?_; refine Z1 ?_; refine Z225 ?_; refine Z238 ?_; refine z7 (qu L _ rfl rfl rfl rfl rfl rfl rfl (by first | omega | decide) (by assumption)) rfl ?_; refine Z374 ?_; refine Z325 ?_; refine Z237 ?_; refine z7 (qd L (vs:=[_, _]) (qp rfl) rfl rfl rfl rfl ⟨_, rfl⟩) rfl ?_; refine Z246 ?_
     refine yd L (rs:=[.cell 6 32, .tmp 7]) rfl (fun _ _ h => h) Since.refl fun u H hH hle => ?_
     exact ⟨_, ym rfl, rfl, zey ⟨_, _, rfl, ⟨zs, hzs, hrow.le hle, hrv.le hle⟩, hpv.le hle⟩⟩
   ·refine yg Tryz.func54 rfl Tryz.ntmps54 (Nat.le_of_ble_eq_true rfl) hB ?_
    refine Z365 ?_; refine Z197 ?_; refine Z14 ?_; refine Z148 ?_; refine Z283 ?_; refine z7 (zav rfl rfl rfl za9.1 za9.2 (wrap_u64 (by omega) (by omega))) rfl ?_; refine Z41 ?_; refine Z8 ?_; refine Z347 ?_; refine Z230 ?_; refine Z237 ?_; refine z7 (qd L (vs:=[_, _]) (qp rfl) rfl rfl rfl rfl ⟨_, rfl⟩) rfl ?_; refine Z246 ?_
    refine yd L (rs:=[.cell 6 32, .tmp 7]) rfl (fun _ _ h => h) Since.refl fun u H hH hle => ?_
    exact ⟨_, ym rfl, rfl, zey ⟨_, _, rfl, ⟨zs, hzs, hrow.le hle, hrv.le hle⟩, hpv.le hle⟩⟩
end Go.V.L10
set_option maxRecDepth 20000
namespace Go.V.L10
open Go.Proofs Go.RowKit Go.V Go.V.L2 Go.V.L8 Go.V.L6
theorem zrk {α:Type} {f:α → List Value} {l:List α} {i:Nat} {x:α} (h:l[i]? = some x) (rest:List Value):l.flatMap f ++ rest = (l.take i).flatMap f ++ (f x ++ ((l.drop (i + 1)).flatMap f ++ rest)):=by
 have hi:=get_lt h
 have e:l = l.take i ++ x :: l.drop (i + 1):=by
  rw [show x :: l.drop (i + 1) = l.drop i by rw [List.drop_eq_getElem_cons hi, zej h], List.take_append_drop]
 conv => lhs; rw [e, List.flatMap_append, List.flatMap_cons]
 simp only [List.append_assoc]
theorem z3s {α:Type} {f:α → List Value} {s:Nat} (hf:∀ a, (f a).length = s) {l:List α} {i:Nat} {x:α} (h:l[i]? = some x) (y:α) (rest:List Value):(l.flatMap f ++ rest).take (0 + i * s) ++ (f y ++ (l.flatMap f ++ rest).drop (0 + i * s + s)) = (l.set i y).flatMap f ++ rest:=by
 have hi:=get_lt h
 have hl:((l.take i).flatMap f).length = i * s:=by rw [zcq hf, List.length_take, Nat.min_eq_left (Nat.le_of_lt hi)]
 have hs:(l.set i y)[i]? = some y:=by rw [List.getElem?_set_self hi]
 rw [zrk h rest, zrk hs rest, List.take_set_of_le (Nat.le_refl _), List.drop_set_of_lt (Nat.lt_succ_self i)]
 have hx:=hf x
 generalize (l.take i).flatMap f = A at hl ⊢
 generalize (l.drop (i + 1)).flatMap f ++ rest = T
 have e1:(A ++ (f x ++ T)).take (0 + i * s) = A:=by rw [Nat.zero_add, ← hl]; exact List.take_left
 have e2:(A ++ (f x ++ T)).drop (0 + i * s + s) = T:=by
  rw [← List.append_assoc, Nat.zero_add, ← hl]
  exact List.drop_left' (by rw [List.length_append, hx])
 rw [e1, e2]
def z1q (zs:List zla) (g:Int):List zla:=zs.set (g - 1).toNat (none, .slice none 0 0)
def zif (zs:List zla) (l:List Int):List zla:=l.foldl z1q zs
theorem ztd {zs:List zla} {l:List Int} {i:Nat} {g:Int} (h:l[i]? = some g):zif zs (l.take (i + 1)) = z1q (zif zs (l.take i)) g:=by
 unfold zif; rw [zbl h, List.foldl_append]; rfl
theorem zyw (zs:List zla) (g:Int):(z1q zs g).map (·.1) = clr (zs.map (·.1)) g:=by unfold z1q clr; rw [List.map_set]
theorem zkw:∀ (l:List Int) (zs:List zla), (zif zs l).map (·.1) = clrL (zs.map (·.1)) l
 | [], _ => rfl
 | g :: l, zs => by
  have:=zkw l (z1q zs g)
  rw [zyw] at this
  exact this
theorem zwg (l:List Int) (zs:List zla):(zif zs l).length = zs.length:=by
 have:=congrArg List.length (zkw l zs)
 rw [List.length_map, zei, List.length_map] at this
 exact this
theorem RowOK.clr {zs:List zla} {H:Heap} (h:RowOK zs H) (g:Int):RowOK (z1q zs g) H:=fun z hz => by
 rcases List.mem_or_eq_of_mem_set hz with hz | rfl
 ·exact h z hz
 ·exact SlV.nil
theorem RowOK.clrL:∀ {l:List Int} {zs:List zla} {H:Heap}, RowOK zs H → RowOK (zif zs l) H
 | [], _, _, h => h
 | g :: l, _, _, h => RowOK.clrL (l:=l) (h.clr g)
attribute [local irreducible] V N X VO Par StepOK Has Ret RetL RetO RetT zce zd7 RetY Src
def Cl10P (S:Sto) (g:List Int) (e:Int):Value → Heap → Prop:=fun v H => ∃ sv gv, v = .tuple #[sv, gv, .int .i64 e] ∧ RsS S sv H ∧ RsV g false gv H
set_option maxHeartbeats 1000000 in
set_option maxRecDepth 20000 in
theorem zk6 {S:Sto} {keep:Int} (hn:S.R.length ≠ 0) (hR:S.R.length ≤ 100000) (hz:S.P.length ≤ 100000) {v:Value} {w:World} {B:Heap} (hB:B.Le (hp w)) (hv:RsS S v B) :
  Ret Tryz.prog 55 [v, .int .i64 keep] w B (Cl10P (zdp S keep).1 (zdp S keep).2.1 (zdp S keep).2.2):=by
 obtain ⟨rv, pv, rfl, ⟨zs, hzs, hrow, hrv⟩, hpv⟩:=hv
 have hzl:zs.length = S.R.length:=by rw [← hzs, List.length_map]
 obtain ⟨p, c, rfl⟩:=zaq hrv
 obtain ⟨p2, c2, rfl⟩:=zaq hpv
 have hkl:=zkj S.R S.R.length
 by_cases hk1:keep < 1
 ·have hS:zdp S keep = (S, [], 4):=by unfold zdp; rw [if_neg (by omega)]
  rw [hS]
  refine yg Tryz.func55 rfl Tryz.ntmps55 (Nat.le_of_ble_eq_true rfl) hB ?_
  refine Z165 ?_; refine Z260 ?_; refine Z197 ?_; refine Z7 ?_; refine Z193 ?_; refine Z8 ?_; refine Z237 ?_; refine z7 (qd L (vs:=[_, _]) (qp rfl) rfl rfl rfl rfl ⟨_, rfl⟩) rfl ?_; refine Z21 ?_; refine Z195 ?_
  refine yd L (rs:=[.cell 4 32, .tmp 5, .tmp 6]) rfl (fun _ _ h => h) Since.refl fun u H hH hle => ?_
  exact ⟨_, ym rfl, rfl, _, _, rfl, ⟨_, _, rfl, ⟨zs, hzs, hrow.le hle, hrv.le hle⟩, hpv.le hle⟩, SlV.nil⟩
 ·by_cases hk2:1024 < keep
  ·have hS:zdp S keep = (S, [], 4):=by unfold zdp; rw [if_neg (by omega)]
   rw [hS]
   refine yg Tryz.func55 rfl Tryz.ntmps55 (Nat.le_of_ble_eq_true rfl) hB ?_
   refine Z165 ?_; refine Z260 ?_; refine Z197 ?_; refine Z10 ?_; refine Z148 ?_; refine Z41 ?_; refine Z8 ?_; refine Z237 ?_; refine z7 (qd L (vs:=[_, _]) (qp rfl) rfl rfl rfl rfl ⟨_, rfl⟩) rfl ?_; refine Z21 ?_; refine Z195 ?_
   refine yd L (rs:=[.cell 4 32, .tmp 5, .tmp 6]) rfl (fun _ _ h => h) Since.refl fun u H hH hle => ?_
   exact ⟨_, ym rfl, rfl, _, _, rfl, ⟨_, _, rfl, ⟨zs, hzs, hrow.le hle, hrv.le hle⟩, hpv.le hle⟩, SlV.nil⟩
  ·obtain ⟨k, rfl⟩:∃ k:Nat, keep = (k:Int):=⟨keep.toNat, by omega⟩
   have hS:zdp S k = (⟨clrL S.R (zdn S.P (za1 S.R) k), S.P⟩, zdn S.P (za1 S.R) k, 0):=by unfold zdp; rw [if_pos (by omega)]; rfl
   rw [hS]
   have hgp:∀ x ∈ zdn S.P (za1 S.R) k, 0 < x ∧ x ≤ S.R.length:=fun x hx => by
    unfold zdn at hx
    exact zeg (zcn.1 (List.mem_of_mem_take (List.mem_filter.1 hx).1))
   have hgl:(zdn S.P (za1 S.R) k).length ≤ 100000:=by
    unfold zdn
    refine Nat.le_trans (List.length_filter_le ..) ?_
    rw [List.length_take]
    have:(za1 S.R).length ≤ S.R.length:=hkl
    omega
   generalize hg:zdn S.P (za1 S.R) k = g at hgp hgl
   have hlen:(zs.flatMap rrc).length = zs.length * 2:=zcq zh1 zs
   have hpl:=zqu hrow
   refine yg Tryz.func55 rfl Tryz.ntmps55 (Nat.le_of_ble_eq_true rfl) hB ?_
   refine Z165 ?_; refine Z260 ?_; refine Z197 ?_; refine Z10 ?_; refine Z148 ?_; refine Z307 ?_; refine Z169 ?_
   refine Z87 ?_; refine Z378 ?_; refine z8 (qd L (vs:=[_, _]) (qp rfl) rfl rfl rfl rfl ⟨_, rfl⟩) rfl ?_; refine z8 (yr (φ:=RsV (za1 S.R) false) L rfl rfl (zk rfl) rfl rfl rfl SlV.mono (fun u H hH hle _ => zci hzs (by omega) ⟨_, _, _, rfl⟩ hH (hrv.le hle))) rfl ?_; refine Z3 ?_; refine z8 (yr (φ:=RsV g false) L rfl rfl (zk rfl) rfl rfl rfl SlV.mono (fun u H hH hle _ v1 h1 v2 h2 => by rw [← hg]; exact zue hz (Nat.le_trans hkl hR) (by omega) hH h1 h2)) rfl ?_; refine Z94 ?_; refine Z306 ?_
   refine qf (id:=4) [(28, [25]), (100008, [28])] mixed (by kernel_rfl) ?_; refine Z378 ?_; refine z8 (StepOK.turn (zda L rfl rfl rfl (zih rfl) rfl z5o hlen hpl (by omega) (by omega)) (zzm (by omega))) rfl ?_; refine Z231 ?_; refine zau (zgl (q:=25) (X:=z5v 2 zs.length _) (fun x => [(0, .slice (some ⟨x.1.1, 0, none⟩) zs.length x.1.2.1), (1, .slice p2 S.P.length c2)]) (fun x => [.slice (some ⟨x.1.1, 0, none⟩) zs.length x.1.2.1, .slice p2 S.P.length c2]) rfl rfl rfl rfl z2u (fun _ => rfl) (fun _ => by rfl)) rfl rfl ?_; refine z8 (yi L rfl rfl rfl rfl) rfl ?_; refine zau (zln L (q:=28) rfl (fun _ => by exact ⟨rfl, rfl⟩) rfl rfl rfl rfl rfl) rfl rfl ?_; refine Z157 ?_; refine Z147 ?_
   refine zgq 8 902 rfl fun x => ?_
   obtain ⟨b8, ⟨b25, cap, rest⟩, hcap, _, hfl⟩:=x
   try dsimp only at hcap hfl ⊢
   rw [zhk]
   refine zde 902 903 rfl (zaj _) ?_
   refine Z38 ?_; refine Z208 ?_
   refine zal (fun y:Nat => [(4, .own (zfo [.slice none 0 0, .slice none 0 0] z4y)), (7, .sat (RsV g false)), (8, .is (.pointer (some ⟨b8, 0, none⟩))), (9, .is (.int .i64 y)), (902, .own (zan b8 [.slice (some ⟨b25, 0, none⟩) zs.length cap, .slice p2 S.P.length c2] z4y)), (903, .own (zan b25 ((zif zs (g.take y)).flatMap rrc ++ rest) z4o))])
    (fun y => y ≤ g.length) (fun y => g.length - y) 0 (Nat.zero_le _) ⟨rfl, rfl, rfl, rfl, rfl, rfl, trivial⟩ ?_
   rintro i hi
   try dsimp only at hi ⊢
   have hzc:=zwg (g.take i) zs
   by_cases hlt:i < g.length
   ·obtain ⟨x, hx⟩:=zaf hlt
    have hc:=ziy hx
    have hxp:=hgp x (List.mem_of_getElem? hx)
    obtain ⟨j, rfl⟩:∃ j:Nat, x = ((j + 1:Nat):Int):=⟨(x - 1).toNat, by omega⟩
    have hws:IntKind.u64.wrap (((j + 1:Nat):Int) - 1) = ((j:Nat):Int):=(wrap_u64 (by omega) (by omega)).trans (by omega)
    have hwk:IntKind.i64.wrap ((i:Int) + 1) = ((i + 1:Nat):Int):=zaa (by omega) (by omega)
    obtain ⟨z0, hz0⟩:=zaf (show j < (zif zs (g.take i)).length by omega)
    have hst:=z3s zh1 hz0 (none, .slice none 0 0) rest
    have hble:Nat.ble (0 + j * 2 + 2) ((zif zs (g.take i)).flatMap rrc ++ rest).length = true:=Nat.ble_eq_true_of_le (by rw [List.length_append, zcq zh1]; omega)
    have hnx:(zif zs (g.take i)).set j (none, .slice none 0 0) = zif zs (g.take (i + 1)):=by
     rw [ztd hx]; unfold z1q; congr 1; omega
    rw [hnx] at hst
    refine Z147 ?_; refine Z198 ?_; refine Z209 ?_; refine Z243 ?_
    refine qf (id:=8) [(200036, [902]), (100043, [903])] mixed (by kernel_rfl) ?_; refine Z12 ?_; refine Z74 ?_; refine Z200 ?_; refine z8 (qu L _ rfl rfl rfl rfl rfl rfl rfl (by first | omega | decide) (by assumption)) rfl ?_; refine Z90 ?_; refine Z59 ?_; refine z8 (yx (cs:=[_, _]) rfl rfl z41 rfl rfl) rfl ?_; refine z8 (ql L _ rfl rfl rfl rfl rfl rfl rfl (by omega)) rfl ?_; refine x5 (yz L (q:=903) rfl rfl rfl rfl rfl rfl hble rfl hst) rfl ?_; refine Z271 ?_; refine Z204 ?_; refine Z217 ?_
    exact yj (x:=i) (i + 1) hlt (by omega) ⟨rfl, rfl, rfl, rfl, rfl, rfl, trivial⟩
   ·obtain rfl:i = g.length:=by omega
    rw [List.take_length] at hzc ⊢
    refine Z147 ?_; refine Z198 ?_; refine Z299 ?_
    refine zz9 903 rfl fun H2 hs2 _ hb25 => ?_
    refine Z60 ?_; refine yt (zao L (q:=902) (vs:=[_, _]) rfl rfl rfl rfl rfl rfl ⟨_, rfl⟩) ?_; refine Z5 ?_; refine Z21 ?_; refine Z54 ?_; refine Z146 ?_
    refine yd L (rs:=[.cell 4 32, .tmp 5, .tmp 6]) rfl (fun _ _ h => h) hs2 fun u H hH hle => ?_
    have hrw:RwV (zif zs g) (.slice (some ⟨b25, 0, none⟩) zs.length cap) H2:=by
     unfold RwV
     rw [hzc]
     refine ⟨by rw [zcq zh1, hzc], .inr ⟨b25, 0, cap, _, _, _, rfl, hb25, ?_, hcap, fun h => by cases h⟩⟩
     show (((zif zs g).flatMap rrc ++ rest).drop 0).take _ = _
     rw [List.drop_zero]
     exact List.take_left
    exact ⟨_, ym rfl, rfl, fun gv hgv => ⟨_, _, rfl, ⟨_, _, rfl, ⟨_, by rw [zkw, hzs], ((hrow.le hs2.le).clrL).le hle, hrw.le hle⟩, (hpv.le hs2.le).le hle⟩, hgv⟩⟩
end Go.V.L10
set_option maxRecDepth 20000
namespace Go.V.L10
open Go.Proofs Go.RowKit Go.V Go.V.L2 Go.V.L8 Go.V.L6
abbrev znl:TypeId:=34
abbrev z16:TypeId:=70
def BhG (pb b:Nat) (S:Sto):GR:=GEx (fun x:Value × Value => zac pb [zdg b, x.1, x.2] znl) (fun x H => RlV S.R x.1 H ∧ RsV S.P false x.2 H) fun _ _ _ ⟨h1, h2⟩ hle => ⟨h1.le hle, h2.le hle⟩
theorem zkz (pb b:Nat) (S:Sto):(BhG pb b S).res = ExR (fun x:Value × Value => zan pb [zdg b, x.1, x.2] znl) (fun x H => RlV S.R x.1 H ∧ RsV S.P false x.2 H) (fun _ _ _ ⟨h1, h2⟩ hle => ⟨h1.le hle, h2.le hle⟩):=rfl
abbrev BoG (pb b:Nat) (S:Sto):GR:=zb6 (BhG pb b S) (StG b S)
theorem zqa (pb b:Nat) (S:Sto):(BoG pb b S).res = zfp (BhG pb b S).res (StG b S).res:=rfl
theorem ziv {pb b:Nat} {S:Sto} {lv pv:Value} {B:Heap} (h1:RlV S.R lv B) (h2:RsV S.P false pv B):∀ (v:Value) H u C, B.Le H → (zan pb [zdg b, lv, pv] znl).P v H u C → (BhG pb b S).res.P v H u C:=fun _ _ _ _ hle h => ⟨(lv, pv), ⟨h1.le hle, h2.le hle⟩, h⟩
theorem zjg {b:Nat} {S:Sto} {lv pv:Value} {cs:List Value} {H:Heap} (h:StP (fun c _ => c = [zdg b, lv, pv]) (RsS S) 1 2 cs H):∃ lv' pv', cs = [zdg b, lv', pv'] ∧ RlV S.R lv' H ∧ RsV S.P false pv' H:=by
 obtain ⟨c, v, rfl, ⟨l2, p2, rfl, h1, h2⟩, rfl⟩:=h
 exact ⟨l2, p2, rfl, h1, h2⟩
theorem zhc {S:Sto} {v:Value} {H:Heap} (h:RsS S v H):(zaw v).length = 2 ∧ (zaw v).all zbt = true:=by
 obtain ⟨lv, pv, rfl, ⟨zs, _, _, h1⟩, h2⟩:=h
 obtain ⟨p, c, rfl⟩:=zaq h1
 obtain ⟨p2, c2, rfl⟩:=zaq h2
 exact ⟨rfl, rfl⟩
def OvV (o:OO) (v:Value) (H:Heap):Prop:=∃ mv cv, v = .agg #[.int .u8 o.wh, mv, cv, .int .u8 o.rv, .int .i64 o.kp] ∧ PS3 o.ms false mv H ∧ PS3 o.cs false cv H
structure OOK (o:OO):Prop where
 wh:o.wh ≤ 255
 rv:o.rv ≤ 255
 ms:∀ c ∈ o.ms, c.1 ≤ 255 ∧ c.2.1 ≤ 255 ∧ c.2.2 ≤ 255
 cs:∀ c ∈ o.cs, c.1 ≤ 255 ∧ c.2.1 ≤ 255 ∧ c.2.2 ≤ 255
 lm:o.ms.length ≤ 9223372036854775807
 lc:o.cs.length ≤ 9223372036854775807
theorem OOK.rev {o:OO} (h:OOK o):0 ≤ o.rev ∧ o.rev < 18446744073709551616:=by
 have:=h.rv
 unfold OO.rev
 split <;> omega
attribute [local irreducible] V N X VO Par StepOK Has Ret RetL RetO RetT zce zd7 RetY Src
theorem rev_ret {o:OO} (ho:OOK o) {mv cv:Value} (hp1:zbt mv = true) (hp2:zbt cv = true) {w:World} {B:Heap} (hB:B.Le (hp w)) :
  Ret Tryz.prog 36 [.agg #[.int .u8 o.wh, mv, cv, .int .u8 o.rv, .int .i64 o.kp]] w B (fun v _ => v = .int .u64 o.rev):=by
 have hrv:=ho.rv
 unfold OO.rev
 refine yg Tryz.func36 rfl Tryz.ntmps36 (Nat.le_of_ble_eq_true rfl) hB ?_
 by_cases h:o.rv = 255
 ·rw [if_pos h]
  refine Z349 ?_; refine Z191 ?_; refine Z28 ?_; refine Z348 ?_
  refine yd L (rs:=[.tmp 2]) rfl (fun _ _ h => h) Since.refl fun u H hH hle => ?_
  rfl
 ·rw [if_neg h]
  have hwu:IntKind.u64.wrap (o.rv:Int) = (o.rv:Int):=wrap_u64 (by omega) (by omega)
  refine Z349 ?_; refine Z191 ?_; refine Z249 ?_; refine Z331 ?_; refine z7 (zav rfl rfl rfl zz0.1 zz0.2 (wrap_u64 (by omega) (by omega))) rfl ?_; refine Z146 ?_
  refine yd L (rs:=[.tmp 2]) rfl (fun _ _ h => h) Since.refl fun u H hH hle => ?_
  rfl
end Go.V.L10
set_option maxRecDepth 20000
namespace Go.V.L10
open Go.Proofs Go.RowKit Go.V Go.V.L2 Go.V.L8 Go.V.L6
abbrev z6v:Nat:=23
abbrev Cl10S (S:Sto) (g:List Int) (e:Int):Value → Heap → Prop:=TupS [RsS S, RsV g false, fun v _ => v = .int .i64 e]
theorem Cl10S.mono {S:Sto} {g:List Int} {e:Int}:Kn.mono (.sat (Cl10S S g e)):=TupS.mono fun ψ hψ => by
 simp only [List.mem_cons, List.mem_nil_iff, or_false] at hψ
 rcases hψ with rfl | rfl | rfl
 ·exact RsS.mono
 ·exact SlV.mono
 ·exact fun _ _ _ h _ => h
theorem Cl10P.tup {S:Sto} {g:List Int} {e:Int} {v:Value} {H:Heap} (h:Cl10P S g e v H):Cl10S S g e v H:=by
 obtain ⟨a, b, rfl, h1, h2⟩:=h
 refine ⟨[a, b, .int .i64 e], rfl, rfl, fun i ψ x hi hx => ?_⟩
 rcases i with _ | _ | _ | i
 ·cases hi; cases hx; exact h1
 ·cases hi; cases hx; exact h2
 ·cases hi; cases hx; rfl
 ·cases hi
attribute [local irreducible] V N X VO Par StepOK Has Ret RetL RetO RetT zce zd7 RetY Src
set_option maxHeartbeats 4000000 in
set_option maxRecDepth 20000 in
theorem z3y {S:Sto} {n pb b:Nat} {o:OO} (hj:JJ n S) (hn:n ≤ 100) (ho:OOK o) {ov:Value} {w:World} {B:Heap} {C:Nat → Prop} (hB:B.Le (hp w)) (hov:OvV o ov B) (hr:(BoG pb b S).P B w C) (hC:∀ k, C k → k < w.heap.size ∧ B k = none) :
  RetY Tryz.prog z6v [zdg pb, ov] w B C (BoG pb b (doS S o)) (fun v _ => v = .int .i64 1):=by
 obtain ⟨mv, cv, rfl, hmv, hcv⟩:=hov
 obtain ⟨p1, c1, rfl⟩:=zaq hmv
 obtain ⟨p2, c2, rfl⟩:=zaq hcv
 have hI:=hj.I hn
 have hne:=hj.ne
 have hR:=hj.hR
 have hP:=hj.hP
 have hem:Int.tmod ((o.wh:Nat):Int) 8 = ((o.wh % 8:Nat):Int):=rfl
 have hrev:=ho.rev
 unfold RetY
 refine zat 900 (BoG pb b S) Tryz.func23 rfl Tryz.ntmps23 (Nat.le_of_ble_eq_true rfl) hB hr hC ?_
 rw [zqa]
 refine zde 900 901 rfl (zaj _) ?_
 rw [zkz]
 refine zdf 900 rfl fun x H hs0 hφ => ?_
 obtain ⟨lv, pv⟩:=x
 obtain ⟨hl, hpv⟩:=hφ
 dsimp only at hl hpv ⊢
 replace hmv:=hmv.le hs0.le
 replace hcv:=hcv.le hs0.le
 have hss:RsS S (.agg #[lv, pv]) H:=⟨lv, pv, rfl, hl, hpv⟩
 have hk8:o.wh % 8 < 8:=Nat.mod_lt _ (by omega)
 unfold doS
 generalize o.wh % 8 = k at hem hk8 ⊢
 refine Z291 ?_; refine Z151 ?_; refine Z32 ?_; refine Z155 ?_; refine Z331 ?_; refine Z84 ?_; refine Z254 ?_; refine Z147 ?_
 refine zfn (fun _:Unit => [(0, .is (zdg pb)), (3, .sat (At [.int .u8 o.wh, .slice p1 o.ms.length c1, .slice p2 o.cs.length c2, .int .u8 o.rv, .int .i64 o.kp] z16 0)), (4, .is (.int .i64 0)), (5, .is (.int .i64 0)), (6, .is (.int .i64 0)), (13, .is (.int .u8 k)), (49, .is (.bool (decide (k < 4)))), (900, .own (zan pb [zdg b, lv, pv] znl)), (901, .own (StG b S).res)]) (fun _ => True) (fun _ => []) ?two ?one
 case one =>
  by_cases h0:k = 0
  ·subst h0
   refine Z60 ?_; refine Z28 ?_; refine Z146 ?_; refine Z13 ?_; refine zw ?_
   exact za5 () Since.refl trivial rfl ⟨rfl, rfl, rfl, rfl, rfl, rfl, rfl, rfl, rfl, trivial⟩
  ·by_cases h1:k = 1
   ·subst h1
    refine Z60 ?_; refine Z253 ?_; refine Z69 ?_; refine Z28 ?_; refine Z146 ?_; refine Z13 ?_; refine zw ?_
    exact za5 () Since.refl trivial rfl ⟨rfl, rfl, rfl, rfl, rfl, rfl, rfl, rfl, rfl, trivial⟩
   ·by_cases h2:k = 2
    ·subst h2
     refine Z60 ?_; refine Z253 ?_; refine Z69 ?_; refine Z397 ?_; refine Z28 ?_; refine Z146 ?_; refine Z13 ?_; refine zw ?_
     exact za5 () Since.refl trivial rfl ⟨rfl, rfl, rfl, rfl, rfl, rfl, rfl, rfl, rfl, trivial⟩
    ·by_cases h3:k = 3
     ·subst h3
      refine Z60 ?_; refine Z253 ?_; refine Z69 ?_; refine Z397 ?_; refine Z375 ?_; refine Z88 ?_; refine Z28 ?_; refine Z162 ?_
      exact za5 () Since.refl trivial rfl ⟨rfl, rfl, rfl, rfl, rfl, rfl, rfl, rfl, rfl, trivial⟩
     ·refine Z60 ?_; refine Z253 ?_; refine Z69 ?_; refine Z397 ?_; refine Z375 ?_; refine Z88 ?_; refine Z14 ?_; refine Z162 ?_
      rw [decide_eq_false (show ¬ k < 4 by omega)]
      exact za5 () Since.refl trivial rfl ⟨rfl, rfl, rfl, rfl, rfl, rfl, rfl, rfl, rfl, trivial⟩
 rintro _ _
 by_cases h4:k < 4
 ·rw [decide_eq_true h4]
  obtain ⟨⟨S', rev, e⟩, hw⟩:∃ x, ze0 S (dOf o.ms) (dOf o.cs) = x:=⟨_, rfl⟩
  rw [if_pos h4, hw]
  dsimp only
  have hm1:=RsS.mono (S:=S')
  refine Z229 ?_; refine Z89 ?_; refine Z207 ?_
  refine qf (id:=14) [(200058, [900]), (65, [901])] mixed (by kernel_rfl) ?_; refine Z305 ?_; refine Z48 ?_; refine z8 (qd L (vs:=[_]) (qp rfl) rfl rfl rfl rfl ⟨_, rfl⟩) rfl ?_; refine z8 (yr (φ:=KS tyM (dOf o.ms) false) L rfl rfl (zk rfl) rfl rfl rfl SlV.mono (fun u H hH hle _ => zvk rfl ho.ms ho.lm hH (hmv.le hle))) rfl ?_; refine Z48 ?_; refine z8 (qd L (vs:=[_]) (qp rfl) rfl rfl rfl rfl ⟨_, rfl⟩) rfl ?_; refine z8 (yr (φ:=KS tyC (dOf o.cs) false) L rfl rfl (zk rfl) rfl rfl rfl SlV.mono (fun u H hH hle _ => zp5 rfl ho.cs ho.lc hH (hcv.le hle))) rfl ?_; refine zau (zai L 901 (StG b S') (.tuple #[.int .u64 rev, .int .i64 e]) (r:=StG b S) rfl rfl rfl rfl rfl (fun u H2 C2 hH hle hr2 hC2 v1 h1 v2 h2 => zdw (ze2 hI (by omega) hne (zrp _) (zrp _) (Nat.le_trans (zie _) (by omega)) (Nat.le_trans (zie _) (by omega)) hw hH h1 h2 hr2 hC2))) rfl rfl ?_; refine Z3 ?_; refine z8 (qo rfl rfl rfl rfl) rfl ?_; refine z8 (qo rfl rfl rfl rfl) rfl ?_; refine Z389 ?_
  refine qf (id:=15) [(200073, [900]), (100085, [900])] mixed (by kernel_rfl) ?_; refine Z251 ?_; refine qg (zao L (q:=900) (vs:=[_, _]) rfl rfl rfl rfl rfl rfl ⟨_, rfl⟩) rfl rfl ?_; refine Z48 ?_; refine z8 (qd L (vs:=[_]) (qp rfl) rfl rfl rfl rfl ⟨_, rfl⟩) rfl ?_; refine z8 (yr (φ:=KS tyM (dOf o.ms) false) L rfl rfl (zk rfl) rfl rfl rfl SlV.mono (fun u H hH hle _ => zvk rfl ho.ms ho.lm hH (hmv.le hle))) rfl ?_; refine Z48 ?_; refine z8 (qd L (vs:=[_]) (qp rfl) rfl rfl rfl rfl ⟨_, rfl⟩) rfl ?_; refine z8 (yr (φ:=KS tyC (dOf o.cs) false) L rfl rfl (zk rfl) rfl rfl rfl SlV.mono (fun u H hH hle _ => zp5 rfl ho.cs ho.lc hH (hcv.le hle))) rfl ?_; refine z8 (yr (φ:=Wr10P S' rev e) L rfl rfl (zk rfl) rfl rfl rfl Wr10P.mono (fun u H hH hle _ v1 h1 v2 h2 => znu hI (by omega) hne hj.ss (zrp _) (zrp _) (Nat.le_trans (zie _) (by omega)) (Nat.le_trans (zie _) (by omega)) hw hH (hss.le hle) h1 h2)) rfl ?_; refine Z37 ?_; refine Z117 ?_; refine Z126 ?_; refine Z126 ?_; refine Z161 ?_; refine x5 (zgk L (q:=900) RsS.mono rfl rfl rfl rfl rfl (fun _ _ h => zhc h) (Nat.le_of_ble_eq_true rfl)) rfl ?_; refine Z389 ?_
  refine zdf 900 rfl fun cs' H1 hs1 hφ => ?_
  obtain ⟨lv', pv', rfl, hl', hpv'⟩:=zjg hφ
  refine Z105 ?_; refine Z148 ?_; refine Z24 ?_; refine Z228 ?_; refine Z147 ?_; refine Z344 ?_; refine Z241 ?_; refine zf (id:=27) ?_; refine Z146 ?_
  refine zbf 900 (BhG pb b S').res rfl (ziv hl' hpv') ?_
  refine za6 900 901 rfl rfl (zaj (StG b S')) ?_
  exact zbr L 900 (r:=BoG pb b S') (rs:=[.tmp 4]) rfl (fun _ _ h => h) (hs0.trans hs1) rfl rfl (fun H hle => rfl)
 ·rw [decide_eq_false h4, if_neg h4]
  refine Z9 ?_
  refine zh ?_
  refine zh ?_
  refine zfn (fun _:Unit => [(0, .is (zdg pb)), (3, .sat (At [.int .u8 o.wh, .slice p1 o.ms.length c1, .slice p2 o.cs.length c2, .int .u8 o.rv, .int .i64 o.kp] z16 0)), (4, .is (.int .i64 0)), (5, .is (.int .i64 0)), (6, .is (.int .i64 0)), (13, .is (.int .u8 k)), (89, .is (.bool (decide (k < 6)))), (900, .own (zan pb [zdg b, lv, pv] znl)), (901, .own (StG b S).res)]) (fun _ => True) (fun _ => []) ?two2 ?one2
  case one2 =>
   by_cases h5:k = 4
   ·subst h5
    refine Z106 ?_; refine Z28 ?_; refine Z146 ?_; refine Z13 ?_; refine zw ?_
    exact za5 () Since.refl trivial rfl ⟨rfl, rfl, rfl, rfl, rfl, rfl, rfl, rfl, rfl, trivial⟩
   ·by_cases h6:k = 5
    ·subst h6
     refine Z106 ?_; refine Z375 ?_; refine Z127 ?_; refine Z28 ?_; refine Z162 ?_
     exact za5 () Since.refl trivial rfl ⟨rfl, rfl, rfl, rfl, rfl, rfl, rfl, rfl, rfl, trivial⟩
    ·refine Z106 ?_; refine Z375 ?_; refine Z127 ?_; refine Z14 ?_; refine Z162 ?_
     rw [decide_eq_false (show ¬ k < 6 by omega)]
     exact za5 () Since.refl trivial rfl ⟨rfl, rfl, rfl, rfl, rfl, rfl, rfl, rfl, rfl, trivial⟩
  rintro _ _
  by_cases h6:k < 6
  ·rw [decide_eq_true h6, if_pos h6]
   obtain ⟨⟨S', e⟩, hw⟩:∃ x, zn9 S o.rev false = x:=⟨_, rfl⟩
   rw [hw]
   dsimp only
   have hm1:=RsS.mono (S:=S')
   refine Z229 ?_; refine qf (id:=20) [(200095, [900]), (98, [901])] mixed (by kernel_rfl) ?_; refine Z305 ?_; refine z8 (qd L (vs:=[_, _, _, _, _]) (qp rfl) rfl rfl rfl rfl ⟨_, rfl⟩) rfl ?_; refine z8 (zp L rfl rfl (zk rfl) rfl rfl rfl (fun u H hH _ _ => rev_ret ho rfl rfl hH)) rfl ?_; refine zau (zai L 901 (StG b S') (.int .i64 e) (r:=StG b S) rfl rfl rfl rfl rfl (fun u H2 C2 hH hle hr2 hC2 => zdw (zl9 hne (by omega) hw hH hr2 hC2))) rfl rfl ?_; refine Z185 ?_
   refine qf (id:=21) [(200104, [900]), (100111, [900])] mixed (by kernel_rfl) ?_; refine Z251 ?_; refine qg (zao L (q:=900) (vs:=[_, _]) rfl rfl rfl rfl rfl rfl ⟨_, rfl⟩) rfl rfl ?_; refine z8 (qd L (vs:=[_, _, _, _, _]) (qp rfl) rfl rfl rfl rfl ⟨_, rfl⟩) rfl ?_; refine z8 (zp L rfl rfl (zk rfl) rfl rfl rfl (fun u H hH _ _ => rev_ret ho rfl rfl hH)) rfl ?_; refine z8 (yr (φ:=Pn10P S' e) L rfl rfl (zk rfl) rfl rfl rfl Pn10P.mono (fun u H hH hle _ => zlj (by omega) hrev.1 hrev.2 (by omega) hj.pos hw hH (hss.le hle))) rfl ?_; refine Z37 ?_; refine Z117 ?_; refine Z126 ?_; refine Z161 ?_; refine x5 (zgk L (q:=900) RsS.mono rfl rfl rfl rfl rfl (fun _ _ h => zhc h) (Nat.le_of_ble_eq_true rfl)) rfl ?_; refine Z398 ?_; refine Z147 ?_
   refine zdf 900 rfl fun cs' H1 hs1 hφ => ?_
   obtain ⟨lv', pv', rfl, hl', hpv'⟩:=zjg hφ
   refine Z344 ?_; refine Z241 ?_; refine zf (id:=27) ?_; refine Z146 ?_
   refine zbf 900 (BhG pb b S').res rfl (ziv hl' hpv') ?_
   refine za6 900 901 rfl rfl (zaj (StG b S')) ?_
   exact zbr L 900 (r:=BoG pb b S') (rs:=[.tmp 4]) rfl (fun _ _ h => h) (hs0.trans hs1) rfl rfl (fun H hle => rfl)
  ·rw [decide_eq_false h6, if_neg h6]
   by_cases h7:k = 6
   ·rw [if_pos h7]
    refine Z9 ?_; refine zh ?_; refine zf (id:=22) ?_; refine Z28 ?_; refine Z327 ?_
    obtain ⟨⟨S', e⟩, hw⟩:∃ x, zn9 S o.rev true = x:=⟨_, rfl⟩
    rw [hw]
    dsimp only
    have hm1:=RsS.mono (S:=S')
    refine qf (id:=23) [(200117, [900]), (120, [901])] mixed (by kernel_rfl) ?_; refine Z305 ?_; refine z8 (qd L (vs:=[_, _, _, _, _]) (qp rfl) rfl rfl rfl rfl ⟨_, rfl⟩) rfl ?_; refine z8 (zp L rfl rfl (zk rfl) rfl rfl rfl (fun u H hH _ _ => rev_ret ho rfl rfl hH)) rfl ?_; refine zau (zai L 901 (StG b S') (.int .i64 e) (r:=StG b S) rfl rfl rfl rfl rfl (fun u H2 C2 hH hle hr2 hC2 => zdw (zhz hne (by omega) hw hH hr2 hC2))) rfl rfl ?_; refine Z185 ?_
    refine qf (id:=24) [(200126, [900]), (100133, [900])] mixed (by kernel_rfl) ?_; refine Z251 ?_; refine qg (zao L (q:=900) (vs:=[_, _]) rfl rfl rfl rfl rfl rfl ⟨_, rfl⟩) rfl rfl ?_; refine z8 (qd L (vs:=[_, _, _, _, _]) (qp rfl) rfl rfl rfl rfl ⟨_, rfl⟩) rfl ?_; refine z8 (zp L rfl rfl (zk rfl) rfl rfl rfl (fun u H hH _ _ => rev_ret ho rfl rfl hH)) rfl ?_; refine z8 (yr (φ:=Pn10P S' e) L rfl rfl (zk rfl) rfl rfl rfl Pn10P.mono (fun u H hH hle _ => zlj (by omega) hrev.1 hrev.2 (by omega) hj.pos hw hH (hss.le hle))) rfl ?_; refine Z37 ?_; refine Z117 ?_; refine Z126 ?_; refine Z161 ?_; refine x5 (zgk L (q:=900) RsS.mono rfl rfl rfl rfl rfl (fun _ _ h => zhc h) (Nat.le_of_ble_eq_true rfl)) rfl ?_; refine Z398 ?_; refine Z147 ?_
    refine zdf 900 rfl fun cs' H1 hs1 hφ => ?_
    obtain ⟨lv', pv', rfl, hl', hpv'⟩:=zjg hφ
    refine Z344 ?_; refine Z241 ?_; refine zf (id:=27) ?_; refine Z146 ?_
    refine zbf 900 (BhG pb b S').res rfl (ziv hl' hpv') ?_
    refine za6 900 901 rfl rfl (zaj (StG b S')) ?_
    exact zbr L 900 (r:=BoG pb b S') (rs:=[.tmp 4]) rfl (fun _ _ h => h) (hs0.trans hs1) rfl rfl (fun H hle => rfl)
   ·rw [if_neg h7]
    refine Z9 ?_; refine zh ?_; refine zf (id:=22) ?_; refine Z253 ?_
    obtain ⟨⟨S', g, e⟩, hw⟩:∃ x, zdp S o.kp = x:=⟨_, rfl⟩
    rw [hw]
    dsimp only
    have hm1:=RsS.mono (S:=S')
    have hm2:Kn.mono (.sat (RsV g true)):=SlV.mono
    have hm3:Kn.mono (.sat (RsV g false)):=SlV.mono
    have hgl:g.length ≤ 100000:=by
     have h1:=congrArg (fun x => x.2.1.length) hw
     dsimp only at h1
     rw [← h1]
     unfold zdp
     split
     ·refine Nat.le_trans (List.length_filter_le ..) ?_
      rw [List.length_take]
      have:=zco S.R
      omega
     ·exact Nat.zero_le _
    refine Z31 ?_; refine Z207 ?_
    refine qf (id:=5) [(200018, [900]), (21, [901])] mixed (by kernel_rfl) ?_; refine Z305 ?_; refine Z231 ?_; refine zau (zhe L 901 (StG b S') (zwy g e) (r:=StG b S) rfl rfl rfl rfl rfl (zf3 SlV.mono) (fun u H2 C2 hH hle hr2 hC2 => by have h:=zem (keep:=o.kp) hne (by omega) (by omega) hH hr2 hC2; rw [hw] at h; exact h)) rfl rfl ?_; refine Z37 ?_; refine Z117 ?_; refine Z126 ?_; refine Z94 ?_; refine Z270 ?_
    refine qf (id:=6) [(200029, [900]), (100037, [900])] mixed (by kernel_rfl) ?_; refine Z251 ?_; refine qg (zao L (q:=900) (vs:=[_, _]) rfl rfl rfl rfl rfl rfl ⟨_, rfl⟩) rfl rfl ?_; refine Z231 ?_; refine z8 (yr (φ:=Cl10S S' g e) L rfl rfl (zk rfl) rfl rfl rfl Cl10S.mono (fun u H hH hle _ => Ret.mono (by have h:=zk6 (keep:=o.kp) hne (by omega) (by omega) hH (hss.le hle); rw [hw] at h; exact h) fun v H' _ h => Cl10P.tup h)) rfl ?_; refine Z37 ?_; refine Z117 ?_; refine Z117 ?_; refine Z126 ?_; refine Z161 ?_; refine x5 (zgk L (q:=900) RsS.mono rfl rfl rfl rfl rfl (fun _ _ h => zhc h) (Nat.le_of_ble_eq_true rfl)) rfl ?_; refine Z94 ?_; refine Z270 ?_
    refine zdf 900 rfl fun cs' H1 hs1 hφ => ?_
    obtain ⟨lv', pv', rfl, hl', hpv'⟩:=zjg hφ
    refine Z44 ?_; refine Z391 ?_; refine z7 (zp L rfl rfl (zk rfl) rfl rfl rfl (fun u H hH hle _ v1 h1 v2 h2 => zdv (f:=true) (decide_eq_true rfl) hgl hgl hH h1 h2)) rfl ?_; refine Z139 ?_; refine Z1 ?_; refine Z5 ?_; refine z7 (zvb L rfl rfl rfl rfl) rfl ?_; refine Z158 ?_; refine Z24 ?_; refine Z8 ?_; refine Z228 ?_; refine Z147 ?_; refine Z344 ?_; refine Z241 ?_; refine zf (id:=27) ?_; refine Z146 ?_
    refine zbf 900 (BhG pb b S').res rfl (ziv hl' hpv') ?_
    refine za6 900 901 rfl rfl (zaj (StG b S')) ?_
    exact zbr L 900 (r:=BoG pb b S') (rs:=[.tmp 4]) rfl (fun _ _ h => h) (hs0.trans hs1) rfl rfl (fun H hle => rfl)
end Go.V.L10
set_option maxRecDepth 20000
namespace Go.V.L10
open Go.Proofs Go.RowKit Go.V Go.V.L2 Go.V.L8 Go.V.L6
theorem zn3 {R:List (Option (List U))} {lv:Value} {H:Heap} (h:RlV R lv H):∃ p c, lv = .slice p R.length c:=by
 obtain ⟨zs, h1, _, h3⟩:=h
 obtain ⟨p, c, h4⟩:=zaq h3
 rw [← h1, List.length_map]
 exact ⟨p, c, h4⟩
abbrev z6w (S:Sto):Res:=znd (fun p:Nat × Nat => zdg p.1) fun p => BoG p.1 p.2 S
attribute [local irreducible] V N X VO Par StepOK Has Ret RetL RetO RetT zce zd7 RetY Src
theorem zxz {w:World} {B:Heap} (hB:B.Le (hp w)):RetO Tryz.prog 10 [] w B (z6w newS):=by
 refine zeu Tryz.func10 rfl Tryz.ntmps10 (Nat.le_of_ble_eq_true rfl) hB ?_
 refine Z194 ?_; refine z7 (zeq L rfl rfl (zk rfl) rfl rfl rfl (fun u H hH hle _ => zqq hH)) rfl ?_; refine ztn 1 901 rfl fun b => ?_; refine z7 (yr (φ:=RsS newS) L rfl rfl (zk rfl) rfl rfl rfl RsS.mono (fun u H hH hle _ => zsf hH)) rfl ?_; refine zbx 2 rfl fun v1 H1 hs1 hv1 => ?_; obtain ⟨lv, pv, rfl, h1, h2⟩:=hv1; obtain ⟨p1, c1, rfl⟩:=zn3 h1; obtain ⟨p2, c2, rfl⟩:=zaq h2; refine z7 (yx (cs:=[_, _, _]) rfl rfl z54 rfl rfl) rfl ?_; refine Z107 ?_; refine qq (yo (.inr rfl) rfl rfl rfl rfl) ?_; refine Z145 ?_
 refine zr0 0 900 rfl fun pb => ?_
 refine zbf 900 (BhG pb b newS).res rfl (ziv h1 h2) ?_
 refine za6 900 901 rfl rfl (zaj (StG b newS)) ?_
 refine zm9 0 900 (fun p:Nat × Nat => zdg p.1) (fun p => BoG p.1 p.2 newS) (pb, b) rfl rfl ?_
 exact zix rfl (fun _ _ h => h) hs1 rfl
set_option maxHeartbeats 4000000 in
set_option maxRecDepth 20000 in
theorem zo4 {S:Sto} {n pb b:Nat} (hj:JJ n S) (hn:n ≤ 100) {w:World} {B:Heap} {C:Nat → Prop} (hB:B.Le (hp w)) (hr:(BoG pb b S).P B w C) (hC:∀ k, C k → k < w.heap.size ∧ B k = none) :
  RetY Tryz.prog 24 [zdg pb] w B C (BoG pb b S) (fun v _ => v = .int .i64 1):=by
 have hne:=hj.ne
 have hR:=hj.hR
 have hP:=hj.hP
 have hkl:=zco S.R
 have hhl:=zbz S.P
 unfold RetY
 refine zat 900 (BoG pb b S) Tryz.func24 rfl Tryz.ntmps24 (Nat.le_of_ble_eq_true rfl) hB hr hC ?_
 rw [zqa]
 refine zde 900 901 rfl (zaj _) ?_
 rw [zkz, zgw]
 refine zdf 900 rfl fun x H0 hs0 hφ => ?_
 refine zdf 901 rfl fun y H hs1 hψ => ?_
 obtain ⟨lv, pv⟩:=x
 obtain ⟨hl, hpv⟩:=hφ
 obtain ⟨m, s, es⟩:=y
 obtain ⟨hm, hes, hps⟩:=hψ
 dsimp only at hl hpv hm hes hps ⊢
 replace hl:=hl.le hs1.le
 replace hpv:=hpv.le hs1.le
 obtain ⟨ps, pc, rfl⟩:=zaq hps
 obtain ⟨p1, c1, rfl⟩:=zn3 hl
 obtain ⟨p2, c2, rfl⟩:=zaq hpv
 have hs01:=hs0.trans hs1
 have hlen:=hm.len
 have hwl:IntKind.u64.wrap ((S.R.length:Nat):Int) = ((S.R.length:Nat):Int):=wrap_u64 (by omega) (by omega)
 have hss:RsS S (.agg #[.slice p1 S.R.length c1, .slice p2 S.P.length c2]) H:=⟨_, _, rfl, hl, hpv⟩
 obtain ⟨zs, hzs, hrow, hrv⟩:=hl
 refine Z309 ?_; refine Z284 ?_; refine yt (zbm L 901 (RsV (za1 S.R) true) (r:=StO b S.R.length m (.slice ps (zad S.P).length pc) S.P.length es) rfl rfl rfl rfl rfl SlV.mono (fun u H2 C2 hH hle hr2 hC2 => (zfh hm hne (by omega) hH hr2 hC2).pubY zet)) ?_; refine Z392 ?_
 refine qf (id:=2) [(200017, [900]), (200018, [901]), (200023, [900]), (200032, [900]), (200048, [900]), (200049, [901]), (200055, [900]), (200063, [900]), (200064, [901]), (200070, [900])] mixed (by kernel_rfl) ?_; refine Z305 ?_; refine qg (zak L 901 (Φ:=fun H => H b = some (.cells (stc S.R.length m (.slice ps (zad S.P).length pc) S.P.length).toArray tyS)) (c:=.int .u64 S.R.length) rfl rfl (zk rfl) rfl rfl rfl rfl rfl zbj (fun u H hH hle hb => zcw hne hb hH)) rfl rfl ?_; refine Z224 ?_; refine Z51 ?_; refine Z93 ?_; refine z8 (zav rfl rfl rfl za9.1 za9.2 (wrap_u64 (by omega) (by omega))) rfl ?_; refine Z96 ?_; refine Z3 ?_; refine Z37 ?_; refine Z176 ?_; refine qg (zao L (q:=900) (vs:=[_, _]) rfl rfl rfl rfl rfl rfl ⟨_, rfl⟩) rfl rfl ?_; refine z8 (yr (φ:=RsV (za1 S.R) false) L rfl rfl (zk rfl) rfl rfl rfl SlV.mono (fun u H hH hle _ => zci hzs (by omega) ⟨_, _, _, rfl⟩ hH (hrv.le hle))) rfl ?_; refine z8 (zp L rfl rfl (zk rfl) rfl rfl rfl (fun u H hH hle _ v1 h1 v2 h2 => zdv (f:=true) (decide_eq_true rfl) (by omega) (by omega) hH h1 h2)) rfl ?_; refine z8 (ya rfl rfl rfl rfl rfl) rfl ?_; refine Z30 ?_; refine Z3 ?_; refine Z37 ?_; refine z8 (zvb L rfl rfl rfl rfl) rfl ?_; refine Z37 ?_; refine z8 (y7 L rfl rfl rfl rfl) rfl ?_; refine Z96 ?_; refine Z30 ?_; refine Z251 ?_; refine Z51 ?_; refine qg (zak L 901 (Φ:=fun H => H b = some (.cells (stc S.R.length m (.slice ps (zad S.P).length pc) S.P.length).toArray tyS)) (c:=pnv (.slice ps (zad S.P).length pc) S.P.length) rfl rfl (zk rfl) rfl rfl rfl rfl rfl zbj (fun u H hH hle hb => pins_ret ⟨_, _, _, rfl⟩ hne hb hH)) rfl rfl ?_; refine z8 (zp L rfl rfl (zk rfl) rfl rfl rfl (fun u H hH hle _ => ztz ⟨rfl, rfl⟩ hH)) rfl ?_; refine Z224 ?_; refine Z51 ?_; refine Z93 ?_; refine Z96 ?_; refine Z30 ?_; refine Z251 ?_; refine Z51 ?_; refine qg (zak L 901 (Φ:=fun H => H b = some (.cells (stc S.R.length m (.slice ps (zad S.P).length pc) S.P.length).toArray tyS)) (c:=pnv (.slice ps (zad S.P).length pc) S.P.length) rfl rfl (zk rfl) rfl rfl rfl rfl rfl zbj (fun u H hH hle hb => pins_ret ⟨_, _, _, rfl⟩ hne hb hH)) rfl rfl ?_; refine z8 (yr (φ:=RsV (zar S.P) true) L rfl rfl (zk rfl) rfl rfl rfl SlV.mono (fun u H hH hle _ => zyd (by omega) hH (hps.le hle))) rfl ?_; refine Z224 ?_; refine Z51 ?_; refine z8 (yr (φ:=RsV (zar S.P) false) L rfl rfl (zk rfl) rfl rfl rfl SlV.mono (fun u H hH hle _ => zn4 hj.pos (by omega) hH (hpv.le hle))) rfl ?_; refine z8 (zp L rfl rfl (zk rfl) rfl rfl rfl (fun u H hH hle _ v1 h1 v2 h2 => zdv (f:=true) (decide_eq_true rfl) (by omega) (by omega) hH h1 h2)) rfl ?_; refine z8 (ya rfl rfl rfl rfl rfl) rfl ?_; refine Z211 ?_; refine Z174 ?_
 refine Z31 ?_; refine Z208 ?_
 have hwd:IntKind.i64.wrap ((S.R.length:Int) + 1) = ((S.R.length + 1:Nat):Int):=zaa (by omega) (by omega)
 have hum:Kn.mono (.sat (RsV S.P false)):=SlV.mono
 refine zal (fun i:Nat => [(0, .is (zdg pb)), (3, .sat (RsV (za1 S.R) true)), (4, .is (.int .i64 i)), (900, .own (zan pb [zdg b, .slice p1 S.R.length c1, .slice p2 S.P.length c2] znl)), (901, .own (StO b S.R.length m (.slice ps (zad S.P).length pc) S.P.length es).res)]) (fun i => i ≤ S.R.length + 2) (fun i => S.R.length + 2 - i) 0 (Nat.zero_le _) ⟨rfl, rfl, rfl, rfl, rfl, trivial⟩ ?_
 rintro i hi
 by_cases hlt:i ≤ S.R.length + 1
 ·have hwk:IntKind.i64.wrap ((i:Int) + 1) = ((i + 1:Nat):Int):=zaa (by omega) (by omega)
  have hwu:IntKind.u64.wrap (i:Int) = (i:Int):=wrap_u64 (by omega) (by omega)
  obtain ⟨⟨t0, e0⟩, hat⟩:∃ x, atS S (i:Int) = x:=⟨_, rfl⟩
  have ht0:t0.length ≤ 4096:=by have:=zqc (hj.I hn) (i:Int); rw [hat] at this; exact this
  have hum2:Kn.mono (.sat (US t0 false)):=SlV.mono
  refine Z147 ?_; refine Z256 ?_; refine Z205 ?_; refine Z40 ?_; refine Z65 ?_; refine Z79 ?_; refine Z18 ?_; refine Z76 ?_; refine Z152 ?_; refine Z178 ?_; refine Z204 ?_; refine Z284 ?_; refine Z1 ?_; refine z7 (zav rfl rfl rfl za9.1 za9.2 (wrap_u64 (by omega) (by omega))) rfl ?_; refine yt (zbm L 901 (WithP t0 e0) (r:=(StO b S.R.length m (.slice ps (zad S.P).length pc) S.P.length es)) rfl rfl rfl rfl rfl WithP.mono (fun u H2 C2 hH hle hr2 hC2 => by have h:=zfz (S:=S) (r:=(i:Int)) hm hne (hes.le hle) hH hr2 hC2; rw [hat] at h; exact h)) ?_; refine zbx 93 rfl fun v1 H1 hs2 hp1 => ?_; obtain ⟨sv, rfl, hsv⟩:=hp1; obtain ⟨f1, p3, f2, p4, rfl, hpl⟩:=hsv.shape; refine Z315 ?_; refine Z151 ?_
  have hpsB:=hps.le hs2.le
  have hpvB:=hpv.le hs2.le
  refine Z233 ?_; refine Z205 ?_; refine yt (zao L (q:=900) (vs:=[_, _]) rfl rfl rfl rfl rfl rfl ⟨_, rfl⟩) ?_; refine Z1 ?_; refine z7 (zav rfl rfl rfl za9.1 za9.2 (wrap_u64 (by omega) (by omega))) rfl ?_; refine z7 (yr (φ:=z4n t0 e0) L rfl rfl (zk rfl) rfl rfl rfl (zf3 SlV.mono) (fun u H hH hle _ => by have h:=zuk (S:=S) (r:=(i:Int)) hne (by omega) (by omega) (by omega) hH (hss.le (hs2.le.trans hle)); rw [hat] at h; exact h)) rfl ?_; refine Z359 ?_; refine Z151 ?_
  refine qf (id:=9) [(200120, [900]), (200121, [901]), (200129, [900])] mixed (by kernel_rfl) ?_; refine Z153 ?_; refine Z96 ?_; refine Z3 ?_; refine z8 (qd L (vs:=[_, _, _, _]) (ym rfl) rfl rfl rfl rfl ⟨_, rfl⟩) rfl ?_; refine z8 (yr (φ:=US t0 true) L rfl rfl (zk rfl) rfl rfl rfl SlV.mono (fun u H hH hle _ => zf1 (by omega) hH (hsv.le hle))) rfl ?_; refine Z37 ?_; refine z8 (zp L rfl rfl (zk rfl) rfl rfl rfl (fun u H hH hle _ v1 h1 v2 h2 => zd8 (by omega) (by omega) (if_pos rfl) hH h1 h2)) rfl ?_; refine Z66 ?_; refine Z30 ?_; refine Z251 ?_; refine Z51 ?_; refine qg (zak L 901 (Φ:=fun H => H b = some (.cells (stc S.R.length m (.slice ps (zad S.P).length pc) S.P.length).toArray tyS)) (c:=pnv (.slice ps (zad S.P).length pc) S.P.length) rfl rfl (zk rfl) rfl rfl rfl rfl rfl zbj (fun u H hH hle hb => pins_ret ⟨_, _, _, rfl⟩ hne hb hH)) rfl rfl ?_; refine Z3 ?_; refine z8 (zav rfl rfl rfl za9.1 za9.2 (wrap_u64 (by omega) (by omega))) rfl ?_; refine z8 (zp L rfl rfl (zk rfl) rfl rfl rfl (fun u H hH hle _ => L10.count_ret (by omega) hH (hps.le (hs2.le.trans hle)))) rfl ?_; refine Z224 ?_; refine Z51 ?_; refine Z3 ?_; refine z8 (zav rfl rfl rfl za9.1 za9.2 (wrap_u64 (by omega) (by omega))) rfl ?_; refine z8 (zp L rfl rfl (zk rfl) rfl rfl rfl (fun u H hH hle _ => zca rfl (by omega) hH (hpvB.le hle))) rfl ?_; refine Z96 ?_; refine Z211 ?_; refine Z319 ?_; refine Z198 ?_; refine Z217 ?_
  exact zhs (x:=i) (i + 1) hs2 (by omega) (by omega) ⟨rfl, rfl, rfl, rfl, rfl, trivial⟩
 ·refine Z147 ?_; refine Z256 ?_; refine Z205 ?_; refine Z40 ?_; refine Z65 ?_; refine Z79 ?_; refine Z18 ?_; refine Z72 ?_; refine Z328 ?_; refine Z67 ?_; refine Z146 ?_
  refine zbf 900 (BhG pb b S).res rfl (ziv ⟨zs, hzs, hrow, hrv⟩ hpv) ?_
  refine zbf 901 (StG b S).res rfl (zc9 hm hes hps) ?_
  refine za6 900 901 rfl rfl (zaj (StG b S)) ?_
  exact zbr L 900 (r:=BoG pb b S) (rs:=[.tmp 2]) rfl (fun _ _ h => h) hs01 rfl rfl (fun H hle => rfl)
end Go.V.L10
