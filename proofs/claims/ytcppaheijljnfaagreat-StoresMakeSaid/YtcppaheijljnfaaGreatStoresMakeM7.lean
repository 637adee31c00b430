/- StoresMake returns true for every input, and leaves it as it was: no condition. -/
import Derived.Test.YtcppaheijljnfaaGreatStoresMakeM6
import Derived.Test.YtcppaheijljnfaaGreatRows
set_option linter.unusedVariables false
set_option linter.unusedSimpArgs false
set_option maxRecDepth 20000
namespace Go.V.L10
open Go.Proofs Go.RowKit Go.V Go.V.L2 Go.V.L8 Go.V.L6
theorem _root_.Go.V.Zgy {A B:Prop} (h:B) (t:Wr B → A:=by intro h; refine qg (id:=34) [(200187, [900]), (200188, [901])] mixed (by kernel_rfl) ?_;exact h.h):A:=t ⟨h⟩
def wb (rs:List Int) (i:Nat):Int × Int:=(rs.take i).foldl (fun p x => (if x ≤ p.2 then 18 else p.1, if p.2 < x then x else p.2)) (0, 0)
theorem zt2 {rs:List Int} {i:Nat} {x:Int} (h:rs[i]? = some x):wb rs (i + 1) = (if x ≤ (wb rs i).2 then 18 else (wb rs i).1, if (wb rs i).2 < x then x else (wb rs i).2):=by
 unfold wb; rw [za3 h, List.foldl_append]; rfl
theorem zt3 {rs:List Int}:∀ {i:Nat}, i ≤ rs.length → ((wb rs i).1 = 0 ∧ zmf (rs.take i) ∧ (wb rs i).2 = zce rs i ∧ ∀ a ∈ 0 :: rs.take i, a ≤ zce rs i) ∨ ((wb rs i).1 = 18 ∧ ¬ zmf (rs.take i))
 | 0, _ => .inl ⟨rfl, List.pairwise_singleton _ _, rfl, fun a ha => by rw [List.take_zero, List.mem_singleton] at ha; subst ha; exact Int.le_refl _⟩
 | i + 1, h => by
  obtain ⟨x, hx⟩:=zae (show i < rs.length by omega)
  rw [zt2 hx]
  rcases zt3 (rs:=rs) (i:=i) (by omega) with ⟨h1, h2, h3, h4⟩ | ⟨h1, h2⟩
  ·by_cases hle:x ≤ (wb rs i).2
   ·refine .inr ⟨by rw [if_pos hle], fun hA => ?_⟩
    have h5:=zr6 hA (i:=i) (x:=x) (by rw [List.getElem?_take_of_lt (Nat.lt_succ_self i)]; exact hx)
    have h6:zce (rs.take (i + 1)) i = zce rs i:=by
     unfold zce
     by_cases h0:i = 0
     ·rw [if_pos h0, if_pos h0]
     ·rw [if_neg h0, if_neg h0, List.getElem?_take_of_lt (by omega)]
    omega
   ·have h5:=zr5 h2 h4 hx (by omega)
    refine .inl ⟨by rw [if_neg hle]; exact h1, h5.1, ?_, h5.2⟩
    dsimp only
    rw [if_pos (by omega), zdo hx]
  ·refine .inr ⟨?_, fun hA => h2 ?_⟩
   ·dsimp only; split
    ·rfl
    ·exact h1
   ·rw [za3 hx] at hA
    unfold zmf at hA ⊢
    rw [← List.cons_append] at hA
    exact (List.pairwise_append.1 hA).1
theorem zqo {P:Program} {F:Fr} {B:Heap} {O:Boxes} {n d:Nat} {ops:Array Oper} {κ:Kap} {o:Oper} {e:TypeId} {s m:Nat} {xs:List Value} (h:StepOK P F B n ops O κ o d (.own (SlR e s m xs))):StepOK P F B n ops O κ o d (.sat (SlV e s xs m false)):=fun κ' a u hl hh =>
 After.mono (fun a' u' hh' => by have h2:=hh'.pubR (t:=d) (zaf ..); rwa [zbf] at h2) (h κ' a u hl hh)
theorem zwo {n m pb b qb c:Nat} {A D:Sto} {w:World} {B:Heap} {C:Nat → Prop} (ha:JJ n A) (hn:n ≤ 100) (hd:JJ m D) (hm:m ≤ 100) (hB:B.Le (hp w)) (hr:(G2 pb b A qb c D).P B w C) (hC:∀ k, C k → k < w.heap.size ∧ B k = none) :
  RetY Tryz.prog 33 [zdh c, zdh b] w B C (G2 pb b A qb c D) (fun v _ => v = .bool (zf5 A D)):=by
 have h:=RetY.conv (ztl hd hm ha hn hB (zfn hr) hC) fun _ _ _ => zfn
 rw [zx3 D A] at h
 exact h
theorem z21 {P:Program} {F:Fr} {B:Heap} {O:Boxes} {n m:Nat} {κ:Kap} {Q:Exit → Act → World → Prop} {x y:Code} {T:Type} (Fk:T → List (Nat × Kn)) (I:T → Prop) (Ob:T → Boxes) (hy:∀ t, I t → V P F B n (Ob t) (ofL (Fk t)) y Q)
  (h:V P F B n O κ x (Exit.inBlock m (Exit.then (fun a u => ∃ t, I t ∧ Has F B (Ob t) n (ofL (Fk t)) a u) Q))) :
  V P F B n O κ x (Exit.inBlock m (Exit.then (fun a u => y.wpIn (FW F.r) 0 P Q a u) Q)):=fun a u hh => by
 have key:∀ e a u, Exit.then (fun a u => ∃ t, I t ∧ Has F B (Ob t) n (ofL (Fk t)) a u) Q e a u → Exit.then (fun a u => y.wpIn (FW F.r) 0 P Q a u) Q e a u:=fun e a u he => by
  cases e <;> first | exact he | (obtain ⟨t, hI, hh⟩:=he; exact hy t hI a u hh)
 refine Go.wpIn_mono (h a u hh) fun e a u he => ?_
 cases e with
 | exit id =>
  unfold Exit.inBlock at he ⊢
  dsimp only at he ⊢
  split
  ·rename_i hi; rw [if_pos hi] at he; exact key _ _ _ he
  ·rename_i hi; rw [if_neg hi] at he; exact key _ _ _ he
 | normal => exact key .normal a u he
 | goto l => exact key (.goto l) a u he
 | ret => exact key .ret a u he
 | panic c => exact key (.panic c) a u he
 | outgrown => exact key .outgrown a u he
def wh (rs l:List Int) (w0:Int) (k:Nat):Int:=if w0 = 0 then (if ∀ a ∈ l.take k, a ∈ rs then 0 else 14) else w0
theorem z07 {rs l:List Int} {w0:Int}:wh rs l w0 0 = w0:=by
 unfold wh
 by_cases h:w0 = 0
 ·rw [if_pos h, if_pos (by rw [List.take_zero]; intro a ha; cases ha), h]
 ·rw [if_neg h]
theorem z08 {rs l:List Int} {w0 x:Int} {k:Nat} (hx:l[k]? = some x) (h:wh rs l w0 k = 0):wh rs l w0 (k + 1) = if rs.count x = 0 then 14 else 0:=by
 unfold wh at h ⊢
 by_cases h0:w0 = 0
 ·rw [if_pos h0] at h ⊢
  by_cases ha:∀ a ∈ l.take k, a ∈ rs
  ·by_cases hm:rs.count x = 0
   ·rw [if_pos hm, if_neg]
    intro hall
    exact absurd (hall x (by rw [za3 hx]; exact List.mem_append_right _ (List.mem_singleton_self x))) (List.count_eq_zero.1 hm)
   ·rw [if_neg hm, if_pos]
    intro a hm2
    rw [za3 hx, List.mem_append, List.mem_singleton] at hm2
    rcases hm2 with h2 | rfl
    ·exact ha a h2
    ·exact List.count_pos_iff.1 (Nat.pos_of_ne_zero hm)
  ·rw [if_neg ha] at h; cases h
 ·rw [if_neg h0] at h; exact absurd h h0
theorem z09 {rs l:List Int} {w0:Int} {k:Nat} (h:wh rs l w0 k ≠ 0):wh rs l w0 k = wh rs l w0 l.length:=by
 unfold wh at h ⊢
 by_cases h0:w0 = 0
 ·rw [if_pos h0] at h ⊢; rw [if_pos h0]
  by_cases ha:∀ a ∈ l.take k, a ∈ rs
  ·rw [if_pos ha] at h; exact absurd rfl h
  ·rw [if_neg ha, if_neg]
   intro hall
   exact ha fun a hm => hall a (by rw [List.take_length]; exact List.mem_of_mem_take hm)
 ·rw [if_neg h0, if_neg h0]
theorem z50 {rs L:List Int} (h0:rs.length ≠ 0) (h1:rs.length ≤ 10):wh rs (zam L) (wb rs rs.length).1 (zam L).length = mkE rs L:=by
 unfold wh mkE
 rw [List.take_length, if_neg h0, if_neg (show ¬ 1024 < rs.length by omega)]
 rcases zt3 (rs:=rs) (Nat.le_refl _) with ⟨h, ha, _⟩ | ⟨h, ha⟩ <;> rw [List.take_length] at ha <;> rw [h]
 ·rw [if_pos rfl, if_pos ha]
 ·rw [if_neg (show ¬ ((18:Int) = 0) by decide), if_neg ha]
def zSB:SB:=([], .nilFunc, none, .nilFunc, none)
theorem zz4 {n:Nat} {H:Heap}:SbOK (List.replicate n zSB) H:=fun b hb => by rw [List.eq_of_mem_replicate hb]; exact SetV.nil
theorem z3i {P:Program} {e:TypeId} {z:Value} {k:Nat} (h:zrI P e = some z):zsL P e k = (madeCells z.cells k).toList:=by
 unfold zrI at h
 unfold zsL
 split at h
 ·rename_i i hi; rw [hi]; dsimp only; rw [h]
 ·cases h
theorem z3h {n:Nat} (hn:n ≤ 11):zsL Tryz.prog zxi (n * 4) = (List.replicate n zSB).flatMap sbc:=by
 rw [z3i (Tabs.zr_spec (L:=L) (t:=zxi) rfl), zbn]
 unfold madeCells
 rw [Array.toList_map, Array.toList_range]
 match n, hn with
 | 0, _ => rfl
 | 1, _ => rfl
 | 2, _ => rfl
 | 3, _ => rfl
 | 4, _ => rfl
 | 5, _ => rfl
 | 6, _ => rfl
 | 7, _ => rfl
 | 8, _ => rfl
 | 9, _ => rfl
 | 10, _ => rfl
 | 11, _ => rfl
theorem z1l {e:TypeId} {s n:Nat} {xs:List Value} {B:Heap}:∀ v H u C, B.Le H → (SlE e s n xs).P v H u C → (SlR e s n xs).P v H u C:=fun v H u C _ ⟨h1, h2⟩ => ⟨h1, h2.imp id fun ⟨b, h3, h4, h5, h6⟩ => ⟨b, n, [], h3, by rw [List.append_nil]; exact h4, Nat.le_refl _, h5, by rw [List.append_nil]; exact h1, h6⟩⟩
theorem hmk {F:Fr} {B:Heap} {O:Boxes} {n d m:Nat} {ty:TypeId} {pos:String} {aft:Array Edge} {g:Option (Nat × Bool)} {ops:Array Oper} {κ:Kap} {x y:Operand} (L:Tabs Tryz.prog) {t:TypeId} (hn:Nat.blt d n = true) (hg:gK ops κ ⟨some d, .makeSlice t x y, ty, pos, aft, g⟩ = some true) (ht:L.sl t = some zxi)
  (hx:evK κ x = some (.int .i64 m)) (hy:evK κ y = some (.int .i64 m)) (hm:m ≤ 11):StepOK Tryz.prog F B n ops O κ ⟨some d, .makeSlice t x y, ty, pos, aft, g⟩ d (.sat (SsV (List.replicate m zSB) false)):=by
 have h:=zqo (StepOK.turn (zjb (F:=F) (B:=B) (O:=O) L m hn hg ht z7m hx hy rfl rfl (by omega) (by unfold maxLen; omega)) z1l)
 rw [z3h hm] at h
 have hl:(List.replicate m zSB).length = m:=List.length_replicate
 unfold SsV
 rw [hl]
 exact h
attribute [local irreducible] V N X VO Par StepOK Has Ret RetL RetO RetT zcd zd2 RetY Src
theorem zpt {rs:List Int} {bs:List SB} {fr fb:Bool} (hr0:rs.length = 0) {v1 v2 s:Value} {t:Nat} (hs:∃ p k c, s = .slice p k c) {w:World} {B:Heap} (hB:B.Le (hp w)) (h1:RsV rs fr v1 B) (h2:SsV bs fb v2 B) :
  Ret Tryz.prog 41 [v1, v2, pnv s t] w B fun v _ => v = .tuple #[.pointer none, .int .i64 1]:=by
 obtain ⟨p, k, c, rfl⟩:=hs
 refine yf Tryz.func41 rfl Tryz.ntmps41 (Nat.le_of_ble_eq_true rfl) hB ?_
 refine zat 0 (RsV rs fr) rfl SlV.mono h1 ?_
 refine zat 1 (SsV bs fb) rfl SlV.mono h2 ?_
 refine ZY ?_;refine Zav ?_;refine Zfw ?_;refine Zq ?_;refine Z3 ?_;refine ZfF ?_;refine Zc8 ?_;refine Zbr ?_;refine Zy ?_;refine Zk ?_
 refine ye L (rs:=[.tmp 6, .tmp 7]) rfl (fun _ _ h => h) Since.refl fun u H hH hle => ?_
 rfl
theorem zrd {rs L0:List Int} {fr:Bool} {we:Int} (hwe:mkE rs L0 = we) (h0:we ≠ 0) (hz:L0.length ≤ 100000) (hZ:rs.length ≤ 10) {v1 v2 v3:Value} {w:World} {B:Heap} (hB:B.Le (hp w)) (h1:RsV rs fr v1 B) (h2:SsV (List.replicate rs.length zSB) false v2 B) (h3:PinsP L0 v3 B) :
  Ret Tryz.prog 41 [v1, v2, v3] w B fun v _ => v = .tuple #[.pointer none, .int .i64 we]:=by
 have hzz:((rs.zip (List.replicate rs.length zSB)).map (·.1)) = rs:=zhw (by rw [List.length_replicate])
 have hzy:((rs.zip (List.replicate rs.length zSB)).map (·.2)) = List.replicate rs.length zSB:=zjn (by rw [List.length_replicate])
 obtain ⟨sv, rfl, hsv⟩:=h3
 exact z18 h0 (zj2 (zs:=rs.zip (List.replicate rs.length zSB)) (S:=newS) (fr:=fr) (fb:=false) (by rw [hzz]; exact hwe) (fun h => absurd h h0) hz (by rw [zjo (by rw [List.length_replicate])]; omega) hB (by rw [hzz]; exact h1) (by rw [hzy]; exact h2) (by rw [hzy]; exact zz4) hsv)
theorem z19 {rs L0:List Int} {fr:Bool} {S4:Sto} (hS4:S4 = ⟨ztz rs, L0⟩) (hwe:mkE rs L0 = 0) (hA:zmf rs) (hne:rs ≠ []) (hz:L0.length ≤ 100000) (hZ:rs.length ≤ 10) {v1 v2 v3:Value} {w:World} {B:Heap} (hB:B.Le (hp w)) (h1:RsV rs fr v1 B) (h2:SsV (List.replicate rs.length zSB) false v2 B) (h3:PinsP L0 v3 B) :
  RetO Tryz.prog 41 [v1, v2, v3] w B (zli (fun b => .tuple #[zdh b, .int .i64 0]) fun b => StG b S4):=by
 subst hS4
 have hl:rs.length = (List.replicate rs.length zSB).length:=List.length_replicate.symm
 have hzz:((rs.zip (List.replicate rs.length zSB)).map (·.1)) = rs:=zhw hl
 have hzy:((rs.zip (List.replicate rs.length zSB)).map (·.2)) = List.replicate rs.length zSB:=zjn hl
 obtain ⟨sv, rfl, hsv⟩:=h3
 refine z0m (zj2 (zs:=rs.zip (List.replicate rs.length zSB)) (S:=⟨ztz rs, L0⟩) (fr:=fr) (fb:=false) (by rw [hzz]; exact hwe) (fun _ => ⟨?_, by rw [hzz, zjo hl]; exact zry hne hA, rfl⟩) hz (by rw [zjo hl]; omega) hB (by rw [hzz]; exact h1) (by rw [hzy]; exact h2) (by rw [hzy]; exact zz4) hsv)
 exact z0n (f:=fun _ => []) (zpf hA) (by rw [List.map_replicate, List.map_const']; rfl) fun r => zrn hA r
theorem z6h {rs L0:List Int} {fr:Bool} {v1 v2 v3:Value} {w:World} {B:Heap} (hB:B.Le (hp w)) (h1:RsV rs fr v1 B) (h2:SsV (List.replicate (rs.length + 1) zSB) false v2 B) (h3:PinsP L0 v3 B) :
  Ret Tryz.prog 41 [v1, v2, v3] w B fun v _ => v = .tuple #[.pointer none, .int .i64 1]:=by
 obtain ⟨sv, rfl, hsv⟩:=h3
 obtain ⟨p1, c1, rfl⟩:=zaq hsv
 by_cases h0:rs.length = 0
 ·exact zpt h0 ⟨_, _, _, rfl⟩ hB h1 h2
 ·exact zso (by rw [List.length_replicate]; omega) h0 ⟨_, _, _, rfl⟩ hB h1 h2
theorem zsr {a:List Int} {fa fb:Bool} (ha:a.length ≤ 100000) {v1 v2:Value} {w:World} {B:Heap} (hB:B.Le (hp w)) (h1:RsV a fa v1 B) (h2:RsV a fb v2 B) :
  Ret Tryz.prog 22 [v1, v2] w B (fun v _ => v = .int .i64 1):=zeg (f:=true) (decide_eq_true rfl) ha ha hB h1 h2
theorem zyp {rs L0:List Int} (h:mkE rs L0 = 0):rs ≠ [] ∧ zmf rs:=by
 unfold mkE at h
 split at h
 ·cases h
 ·rename_i h0
  refine ⟨fun e => h0 (by rw [e]; rfl), ?_⟩
  split at h
  ·cases h
  ·split at h
   ·assumption
   ·cases h
theorem zp8 {b:Nat} {S:Sto} {x:Int} (hx:(S.R.length:Int) = x) (hn:S.R.length ≠ 0) {u:World} {H:Heap} (hH:H.Le (hp u)) (hb:∃ m s, (∃ p k c, s = .slice p k c) ∧ H b = some (.cells (stc S.R.length m s S.P.length).toArray tyS)) :
  Ret Tryz.prog 15 [zdh b] u H (fun v _ => v = .int .u64 x):=by
 subst hx
 obtain ⟨m, s, _, hb⟩:=hb
 exact zcb hn hb hH
set_option maxHeartbeats 8000000 in
set_option maxRecDepth 20000 in
theorem zlc {xs ys:List ZO} {rs:List Int} {fr:Bool} {xv yv rv:Value} {w:World} {B:Heap} (hB:B.Le (hp w)) (hx:WsV xs xv B) (hox:OzOK xs B) (hy:WsV ys yv B) (hoy:OzOK ys B) (hrs:RsV rs fr rv B) (hru:∀ r ∈ rs, 0 ≤ r ∧ r < 18446744073709551616) (hrl:rs.length ≤ 9223372036854775807) :
  Ret Tryz.prog 9 [.agg #[xv], .agg #[yv], rv] w B (fun v _ => v = .bool true):=by
 obtain ⟨px, cx, rfl⟩:=zaq hx
 obtain ⟨py, cy, rfl⟩:=zaq hy
 obtain ⟨p0, c0, rfl⟩:=zaq hrs
 have hj:=zwi zrq (zs:=xs) (by omega)
 obtain ⟨S, hS⟩:∃ S, zok newS xs = S:=⟨_, rfl⟩
 refine yf Tryz.func9 rfl Tryz.ntmps9 (Nat.le_of_ble_eq_true rfl) hB ?_
 refine Zaf ?_;refine ZS ?_;refine z7 (zdu L rfl rfl (zk rfl) rfl rfl rfl (fun u H hH hle _ => zyl hH)) rfl ?_;refine qp (yq (.inr rfl) rfl rfl rfl rfl) ?_;refine ZU ?_
 refine zht 7 900 rfl fun x => ?_
 obtain ⟨pb, b⟩:=x
 by_cases h10:10 < rs.length
 ·refine ZG ?_;refine ZfA ?_;refine qp (zaj L 900 (BoG pb b S) (.int .i64 1) (r:=BoG pb b newS) rfl rfl rfl rfl rfl (fun u H2 C2 hH hle hr2 hC2 => by have h:=zja zrq (by omega) hH (hx.le hle) (hox.le hle) hr2 hC2; rw [hS] at h; exact zdk h)) ?_;refine ZH ?_;refine Zd ?_;refine ZaQ ?_;refine ZdR ?_;refine Z0 ?_;refine Z1 ?_;refine ZaQ ?_;refine ZC ?_;refine Za ?_;refine z7 (zp L rfl rfl (zk rfl) rfl rfl rfl (fun u H hH _ _ => zfh hH)) rfl ?_;refine Zg ?_;refine Zb ?_
  refine ye L (rs:=[.tmp 6]) rfl (fun _ _ h => h) Since.refl fun u H hH hle => ?_
  rfl
 ·refine ZG ?_;refine ZfA ?_;refine qp (zaj L 900 (BoG pb b S) (.int .i64 1) (r:=BoG pb b newS) rfl rfl rfl rfl rfl (fun u H2 C2 hH hle hr2 hC2 => by have h:=zja zrq (by omega) hH (hx.le hle) (hox.le hle) hr2 hC2; rw [hS] at h; exact zdk h)) ?_;refine ZH ?_;refine Zd ?_;refine ZaQ ?_;refine Z7 ?_;refine ZaY ?_
  rw [hS] at hj
  have hne:=hj.ne
  have hR:=hj.hR
  have hP:=hj.hP
  have hkl:=zco S.R
  rw [zqk pb b S]
  refine zhr 900 901 rfl (za4 (StG b S)) ?_
  rw [znl pb b S]
  refine zc9 900 rfl fun x H0 hs0 hφ => ?_
  obtain ⟨lv, pv⟩:=x
  obtain ⟨hl, hpv⟩:=hφ
  dsimp only at hl hpv ⊢
  refine Zu ?_;refine ZaH ?_;refine yo (zaz L 901 (RsV (zas S.R) true) (r:=StG b S) rfl rfl rfl rfl rfl SlV.mono (fun u H2 C2 hH hle hr2 hC2 => zj3 hne (by omega) hH hr2 hC2)) ?_;refine ZdK ?_;refine Zo ?_;refine Zj ?_
  refine zd4 9 zxi 4 rfl ?_
  refine z03 (X:=List SB) 9 (r:=fun bs => SlR zxi 4 bs.length (bs.flatMap sbc)) (φ:=fun bs H => SbOK bs H ∧ bs.map (·.1) = ((zas S.R).take 0).map (tS S)) (znm S 0) [] ⟨fun _ h => (by cases h), rfl⟩ rfl ?_
  refine Zz ?_;refine ZE ?_
  refine zal (fun i:Nat => [(2, .is (.slice p0 rs.length c0)), (4, .sat (At [.slice py ys.length cy] 24 0)), (7, .is (zdh pb)), (8, .sat (RsV (zas S.R) true)), (9, .own (z8a S i)), (10, .is (.int .i64 i)), (900, .own (zan pb [zdh b, lv, pv] zsh)), (901, .own (StG b S).res)]) (fun i => i ≤ (zas S.R).length) (fun i => (zas S.R).length - i) 0 (Nat.zero_le _) ⟨rfl, rfl, rfl, rfl, rfl, rfl, rfl, rfl, trivial⟩ ?_
  rintro i hi
  dsimp only
  by_cases hlt:i < (zas S.R).length
  ·obtain ⟨r, hr⟩:=zae hlt
   have hcr:=zf6 hr
   obtain ⟨ht0, hat, hr0, hr1⟩:=zro hj (List.mem_of_getElem? hr)
   have hwk:IntKind.i64.wrap ((i:Int) + 1) = ((i + 1:Nat):Int):=zaa (by omega) (by omega)
   have hms:Kn.mono (.sat (SetV (tS S r))):=SetV.mono
   have hnx:((zas S.R).take (i + 1)).map (tS S) = ((zas S.R).take i).map (tS S) ++ [tS S r]:=by rw [za3 hr, List.map_append]; rfl
   refine Zc ?_;refine Z5 ?_;refine ZaU ?_
   refine qg (id:=9) [(200056, [900]), (200061, [901])] mixed (by kernel_rfl) ?_;refine Zc5 ?_;refine Zet ?_;refine qn (zaz L 901 (WithT (tS S r) 0) (r:=StG b S) rfl rfl rfl rfl rfl WithT.mono (fun u H2 C2 hH hle hr2 hC2 => zx2 hat hne hH hr2 hC2)) rfl rfl ?_;refine Zah ?_;refine Ze3 ?_;refine Ze4 ?_;refine z8 (yg L rfl rfl rfl rfl) rfl ?_;refine z8 (zkm L (X:=SXp) (fun x => scs x.1) (zun (tS S r)) (zdd _) zuq (fun x => ⟨rfl, x.2⟩) rfl rfl rfl rfl rfl) rfl ?_;refine Zw ?_
   refine zc9 11 rfl fun x H1 hs1 hset => ?_
   obtain ⟨⟨f1, p1, f2, p2⟩, hpl⟩:=x
   dsimp only [scs] at hset hpl ⊢
   refine zc9 9 rfl fun bs H2 hs2 hbs => ?_
   obtain ⟨hsb, hbm⟩:=hbs
   have hbl:bs.length = i:=by have:=congrArg List.length hbm; rw [List.length_map, List.length_map, List.length_take] at this; omega
   replace hset:=SetV.le hset hs2.le
   refine Zag ?_;refine qp (yq (.inl rfl) rfl rfl rfl rfl) ?_;refine ZaO ?_;refine Zaa ?_;refine qp (zb9 (s:=4) L rfl rfl rfl (zhq rfl) rfl z7m rfl hpl (by omega) (by omega)) ?_;refine qp (yq (.inr rfl) rfl rfl rfl rfl) ?_;refine Zaq ?_;refine Zbz ?_;refine Zam ?_
   refine zpk (X:=List SB) 9 (r:=fun bs => SlR zxi 4 bs.length (bs.flatMap sbc)) (φ:=fun bs H => SbOK bs H ∧ bs.map (·.1) = ((zas S.R).take (i + 1)).map (tS S)) (znm S (i + 1)) (bs ++ [(tS S r, f1, p1, f2, p2)]) ⟨hsb.snoc hset, by rw [List.map_append, hbm, hnx]; rfl⟩ (by rw [List.length_append, List.flatMap_append]; rfl) ?_
   exact zgq (x:=i) (i + 1) (hs1.trans hs2) hlt (by omega) ⟨rfl, rfl, rfl, rfl, rfl, rfl, rfl, rfl, trivial⟩
  ·obtain rfl:i = (zas S.R).length:=by omega
   refine Zc ?_;refine Z5 ?_;refine ZbH ?_
   refine zc9 9 rfl fun bs H1 hs1 hbs => ?_
   obtain ⟨hsb, hbm⟩:=hbs
   rw [List.take_length] at hbm
   have hbl:(zas S.R).length = bs.length:=by have:=congrArg List.length hbm; rw [List.length_map, List.length_map] at this; exact this.symm
   refine zci 9 rfl ?_
   obtain ⟨hm1, hm2, hm3⟩:=zv6 hj (by omega) hbm
   refine Zak ?_;refine Zdq ?_;refine Za ?_;refine ZaH ?_;refine yo (zaz L 901 (PinsP S.P) (r:=StG b S) rfl rfl rfl rfl rfl PinsP.mono (fun u H2 C2 hH hle hr2 hC2 => zdx hne hH hr2 hC2)) ?_;refine zbq 75 rfl fun v1 H2 hs2 hp1 => ?_;obtain ⟨sv, rfl, hsv⟩:=hp1; obtain ⟨p1, c1, rfl⟩:=zaq hsv; refine z7 (zdu L rfl rfl (zk rfl) rfl rfl rfl (fun u H hH hle _ v1 h1 v2 h2 => z0m (zj2 (zs:=(zas S.R).zip bs) (S:=S) (fr:=true) (fb:=false) hm1 (fun _ => ⟨hm2, hm3, rfl⟩) (by omega) (by rw [zjo hbl]; omega) hH (by rw [zhw hbl]; exact h1) (by rw [zjn hbl]; exact h2) (by rw [zjn hbl]; exact (hsb.le hs2.le).le hle) (hsv.le hle)))) rfl ?_;refine znw 76 902 rfl fun a => ?_;refine ZcJ ?_
   have hself:=zlq S
   refine zb8 902 901 rfl rfl (za4 (StG b S)) ?_
   refine ZQ ?_;refine Za ?_;refine ZK ?_;refine Z2 ?_;refine ZaH ?_;refine yo (zf7 L 902 (.bool true) (r:=zcy (StG a S) (StG b S)) rfl rfl rfl rfl rfl (fun u H2 C2 hH hle hr2 hC2 => by have h:=zps hj (by omega) hj (by omega) hH hr2 hC2; rw [hself] at h; exact h)) ?_;refine Zs ?_;refine ZaY ?_
   refine zhr (r1:=(StG a S).res) (r2:=(StG b S).res) 902 901 rfl (za4 (StG b S)) ?_
   refine Zaw ?_;refine Zd ?_;refine Zcd ?_;refine Zgb ?_;refine z7 (yx (cs:=[_, _, _]) rfl rfl z7f rfl rfl) rfl ?_;refine ZfM ?_;refine qp (yq (.inr rfl) rfl rfl rfl rfl) ?_;refine ZU ?_
   refine zpi 15 903 rfl fun qb => ?_
   have hs12:=hs1.trans hs2
   have hlE:=hl.le hs12.le
   have hpE:=hpv.le hs12.le
   refine zbi 900 (BhG pb b S).res rfl (zix hlE hpE) ?_
   refine zb8 900 901 rfl rfl (za4 (StG b S)) ?_
   refine zbi 903 (BhG qb a S).res rfl (zix hlE hpE) ?_
   refine zb8 903 902 rfl rfl (za4 (StG a S)) ?_
   refine zb8 900 903 rfl rfl (za4 (BoG qb a S)) ?_
   have hj2:=zwi hj (zs:=ys) (by omega)
   obtain ⟨S2, hS2⟩:∃ S2, zok S ys = S2:=⟨_, rfl⟩
   rw [hS2] at hj2
   have hself2:=zlq S2
   have hs012:=hs0.trans hs12
   have hyB:=hy.le hs012.le
   have hoyB:=hoy.le hs012.le
   refine Zeb ?_;refine yo (zf7 L 900 (.int .i64 1) (r:=G2 pb b S qb a S) rfl rfl rfl rfl rfl (fun u H2 C2 hH hle hr2 hC2 => zy7 hj (by omega) hH hr2 hC2)) ?_;refine ZH ?_;refine Zd ?_;refine ZfA ?_;refine qp (zaj L 900 (G2 pb b S qb a S2) (.int .i64 1) (r:=G2 pb b S qb a S) rfl rfl rfl rfl rfl (fun u H2 C2 hH hle hr2 hC2 => by have h:=zy5 hj (by omega) hH (hyB.le hle) (hoyB.le hle) hr2 hC2; rw [hS2] at h; exact zdk h)) ?_;refine ZH ?_;refine Zad ?_;refine ZfA ?_;refine qp (zaj L 900 (G2 pb b S2 qb a S2) (.int .i64 1) (r:=G2 pb b S qb a S2) rfl rfl rfl rfl rfl (fun u H2 C2 hH hle hr2 hC2 => by have h:=zy6 hj (by omega) hH (hyB.le hle) (hoyB.le hle) hr2 hC2; rw [hS2] at h; exact zdk h)) ?_;refine ZH ?_;refine Zg ?_;refine Z2 ?_;refine Zcd ?_;refine yo (zvn L (q:=900) (t':=zsh) rfl rfl z73 rfl rfl rfl) ?_;refine yo (zf7 L 900 (.bool true) (r:=G2 pb b S2 qb a S2) rfl rfl rfl rfl rfl (fun u H2 C2 hH hle hr2 hC2 => by have h:=zwo hj2 (by omega) hj2 (by omega) hH hr2 hC2; rw [hself2] at h; exact h)) ?_;refine Zs ?_;refine ZaY ?_
   refine zhr (r1:=(BoG pb b S2).res) (r2:=(BoG qb a S2).res) 900 902 rfl (za4 (BoG qb a S2)) ?_
   refine zhr (r1:=(BhG pb b S2).res) (r2:=(StG b S2).res) 900 901 rfl (za4 (StG b S2)) ?_
   rw [znl pb b S2]
   refine zc9 900 rfl fun x H3 hs3 hφ3 => ?_
   obtain ⟨lv3, pv3⟩:=x
   dsimp only
   refine zat 2 (RsV rs fr) rfl SlV.mono (hrs.le (hs012.trans hs3).le) ?_
   refine Zca ?_;refine Ze ?_;refine ZdG ?_;refine Zj ?_;refine ZbA ?_;refine ZE ?_
   refine zal (fun i:Nat => [(2, .sat (RsV rs fr)), (7, .is (zdh pb)), (16, .is (.int .i64 (wb rs i).1)), (17, .is (.int .u64 (wb rs i).2)), (18, .is (.int .i64 i)), (900, .own (zan pb [zdh b, lv3, pv3] zsh)), (901, .own (StG b S2).res)]) (fun i => i ≤ rs.length) (fun i => rs.length - i) 0 (Nat.zero_le _) ⟨rfl, rfl, rfl, rfl, rfl, rfl, rfl, trivial⟩ ?_
   rintro i hi
   dsimp only
   by_cases hlt:i < rs.length
   ·obtain ⟨x, hx0⟩:=zae hlt
    have hcr:=zf6 hx0
    have hw:=zt2 hx0
    have hwk:IntKind.i64.wrap ((i:Int) + 1) = ((i + 1:Nat):Int):=zaa (by omega) (by omega)
    have hmx:(if x > (wb rs i).2 then x else (wb rs i).2) = (wb rs (i + 1)).2:=by rw [hw]
    by_cases hle:x ≤ (wb rs i).2
    ·have hw1:(wb rs (i + 1)).1 = 18:=by rw [hw, if_pos hle]
     refine Zc ?_;refine ZaP ?_;refine Za ?_;refine ZdX ?_;refine Zcn ?_;refine ZbN ?_;refine Zd5 ?_;refine Zb2 ?_;refine ZW ?_;refine zf (id:=23) ?_;refine Zb ?_;refine zf (id:=24) ?_;refine Za ?_;refine ZcT ?_;refine z7 (zfq rfl rfl rfl rfl (by assumption)) rfl ?_;refine Zcq ?_;refine ZcR ?_;refine Zam ?_
     exact yi (x:=i) (i + 1) hlt (by omega) ⟨rfl, rfl, by rw [hw1]; rfl, rfl, rfl, rfl, rfl, trivial⟩
    ·have hw1:(wb rs (i + 1)).1 = (wb rs i).1:=by rw [hw, if_neg hle]
     refine Zc ?_;refine ZaP ?_;refine Za ?_;refine ZdX ?_;refine Zcn ?_;refine ZbN ?_;refine Zd5 ?_;refine Zbp ?_;refine Zeu ?_;refine zf (id:=24) ?_;refine Za ?_;refine ZcT ?_;refine z7 (zfq rfl rfl rfl rfl (by assumption)) rfl ?_;refine Zcq ?_;refine ZcR ?_;refine Zam ?_
     exact yi (x:=i) (i + 1) hlt (by omega) ⟨rfl, rfl, by rw [hw1]; rfl, rfl, rfl, rfl, rfl, trivial⟩
   ·obtain rfl:i = rs.length:=by omega
    refine Zc ?_;refine ZaP ?_;refine ZaN ?_;refine Zey ?_
    have hneB:S2.R.length ≠ 0:=hj2.ne
    have hRB:=hj2.hR
    have hPB:=hj2.hP
    obtain ⟨w0, hw0⟩:∃ w0, (wb rs rs.length).1 = w0:=⟨_, rfl⟩
    rw [hw0]
    obtain ⟨hd, hhd⟩:∃ hd, zam S2.P = hd:=⟨_, rfl⟩
    refine zf (id:=25) ?_;refine Za ?_;refine ZaH ?_;refine yo (zaz L 901 (PinsP S2.P) (r:=StG b S2) rfl rfl rfl rfl rfl PinsP.mono (fun u H2 C2 hH hle hr2 hC2 => zdx hneB hH hr2 hC2)) ?_;refine zbq 143 rfl fun v1 H4 hs4 hp1 => ?_;obtain ⟨sv, rfl, hsv⟩:=hp1; obtain ⟨p1, c1, rfl⟩:=zaq hsv; refine z7 (yw (φ:=RsV hd true) L rfl rfl (zk rfl) rfl rfl rfl SlV.mono (fun u H hH hle _ => by have h9:=znd (t:=S2.P.length) (by omega) hH (hsv.le hle); rw [hhd] at h9; exact h9)) rfl ?_;refine Zds ?_;refine zf (id:=26) ?_;refine ZE ?_
    have hhl:=zbj S2.P
    rw [hhd] at hhl
    rw [← z07 (rs:=rs) (l:=hd) (w0:=w0)]
    refine z21 (fun _:Unit => [(2, .sat (RsV rs fr)), (7, .is (zdh pb)), (16, .is (.int .i64 (wh rs hd w0 hd.length))), (17, .is (.int .u64 (wb rs rs.length).2)), (900, .own (zan pb [zdh b, lv3, pv3] zsh)), (901, .own (StG b S2).res)]) (fun _ => True) (fun _ => []) ?rest ?one
    case rest =>
     rintro _ _
     have hwn:IntKind.i64.wrap ((rs.length:Int) + 1) = ((rs.length + 1:Nat):Int):=zaa (by omega) (by omega)
     by_cases hrz:rs.length = 0
     ·have hm1:mkE rs S2.P = 1:=by unfold mkE; rw [if_pos hrz]
      refine Zc ?_;refine zf (id:=31) ?_;refine Zq ?_;refine Zbf ?_;refine zf (id:=32) ?_;refine Ze ?_
      refine qg (id:=33) [(200173, [900]), (200174, [901])] mixed (by kernel_rfl) ?_;refine Zah ?_;refine ZdO ?_;refine z8 (hmk L rfl rfl rfl rfl rfl (by omega:rs.length ≤ 11)) rfl ?_;refine Zc5 ?_;refine qn (zaz L 901 (PinsP S2.P) (r:=StG b S2) rfl rfl rfl rfl rfl PinsP.mono (fun u H2 C2 hH hle hr2 hC2 => zdx hneB hH hr2 hC2)) rfl rfl ?_;refine z8 (zp L rfl rfl (zk rfl) rfl rfl rfl (fun u H hH hle _ v1 h1 v2 h2 v3 h3 => zrd hm1 (by omega) (by omega) (by omega) hH h1 h2 h3)) rfl ?_;refine Zh ?_;refine Zc6 ?_;refine Zc6 ?_;refine Zc0 ?_
      refine Zgy ?_;refine Zah ?_;refine ZdO ?_;refine Zab ?_;refine z8 (hmk L rfl rfl rfl rfl rfl (by omega:rs.length + 1 ≤ 11)) rfl ?_;refine Zc5 ?_;refine qn (zaz L 901 (PinsP S2.P) (r:=StG b S2) rfl rfl rfl rfl rfl PinsP.mono (fun u H2 C2 hH hle hr2 hC2 => zdx hneB hH hr2 hC2)) rfl rfl ?_;refine z8 (zp L rfl rfl (zk rfl) rfl rfl rfl (fun u H hH hle _ v1 h1 v2 h2 v3 h3 => z6h hH h1 h2 h3)) rfl ?_;refine Zh ?_;refine Zc6 ?_;refine Zc6 ?_;refine Zbn ?_;refine Zw ?_;refine Zc ?_
      refine zf (id:=35) ?_;refine Zd ?_;refine ZK ?_;refine Zd ?_;refine ZK ?_;refine Zad ?_;refine ZcA ?_;refine Zd ?_;refine z7 (zmz rfl rfl rfl rfl z6f rfl rfl) rfl ?_;refine Zg ?_;refine ZaY ?_
      refine zf (id:=37) ?_;refine Za ?_;refine ZcA ?_;refine ZcV ?_;refine Zc7 ?_;refine Zc8 ?_;refine Za ?_;refine z7 (zp L rfl rfl (zk rfl) rfl rfl rfl (fun u H hH _ _ => zfh hH)) rfl ?_;refine Zg ?_;refine Zb ?_
      refine ye L (rs:=[.tmp 6]) rfl (fun _ _ h => h) ((hs012.trans hs3).trans hs4) fun u H hH hle => ?_
      rfl
     ·have hwm:=z50 (L:=S2.P) hrz (by omega)
      rw [hw0, hhd] at hwm
      rw [hwm]
      obtain ⟨we, hwe⟩:∃ we, mkE rs S2.P = we:=⟨_, rfl⟩
      rw [hwe]
      by_cases hwz:we = 0
      ·subst hwz
       obtain ⟨hne0, hAs⟩:=zyp hwe
       obtain ⟨S4, hS4⟩:∃ S4:Sto, S4 = ⟨ztz rs, S2.P⟩:=⟨_, rfl⟩
       have hke:zas S4.R = rs:=by rw [hS4]; exact zo7 hAs
       have hel:=zry hne0 hAs
       have hne4:S4.R.length ≠ 0:=fun h => by rw [hS4] at h; have h2:=zbc.1 (by rw [zo7 hAs]; exact zm8 hne0:zce rs rs.length ∈ zas (ztz rs)); have h3:=zdz h2; dsimp only at h; omega
       have hnw:(S4.R.length:Int) = (wb rs rs.length).2:=by
        rw [hS4]
        rcases zt3 (rs:=rs) (Nat.le_refl _) with ⟨_, _, h, _⟩ | ⟨_, h⟩
        ·rw [h]; exact hel
        ·rw [List.take_length] at h; exact absurd hAs h
       have hkz:(zas S4.R).length ≤ 100000:=by rw [hke]; omega
       refine Zc ?_;refine zf (id:=31) ?_;refine Zq ?_;refine Zax ?_
       refine zxc (id:=33) 10 [(200173, [900]), (200174, [901])] mixed (by kernel_rfl) ?_;refine Zah ?_;refine ZdO ?_;refine z8 (hmk L rfl rfl rfl rfl rfl (by omega:rs.length ≤ 11)) rfl ?_;refine Zc5 ?_;refine qn (zaz L 901 (PinsP S2.P) (r:=StG b S2) rfl rfl rfl rfl rfl PinsP.mono (fun u H2 C2 hH hle hr2 hC2 => zdx hneB hH hr2 hC2)) rfl rfl ?_;refine z8 (zdu L rfl rfl (zk rfl) rfl rfl rfl (fun u H hH hle _ v1 h1 v2 h2 v3 h3 => z19 hS4 hwe hAs hne0 (by omega) (by omega) hH h1 h2 h3)) rfl ?_;refine qt ?_;refine zz3 175 904 rfl fun qa => ?_;refine z68 ?_;refine Zh ?_;refine Zc6 ?_;refine Zc6 ?_;refine Zc0 ?_
       refine Zgy ?_;refine Zah ?_;refine ZdO ?_;refine Zab ?_;refine z8 (hmk L rfl rfl rfl rfl rfl (by omega:rs.length + 1 ≤ 11)) rfl ?_;refine Zc5 ?_;refine qn (zaz L 901 (PinsP S2.P) (r:=StG b S2) rfl rfl rfl rfl rfl PinsP.mono (fun u H2 C2 hH hle hr2 hC2 => zdx hneB hH hr2 hC2)) rfl rfl ?_;refine z8 (zp L rfl rfl (zk rfl) rfl rfl rfl (fun u H hH hle _ v1 h1 v2 h2 v3 h3 => z6h hH h1 h2 h3)) rfl ?_;refine Zh ?_;refine Zc6 ?_;refine Zc6 ?_;refine Zbn ?_;refine Zw ?_;refine Zc ?_
       refine zf (id:=35) ?_;refine Zd ?_;refine ZK ?_;refine Zd ?_;refine ZK ?_;refine Zad ?_;refine ZK ?_;refine ZdE ?_;refine ZaY ?_
       refine zf (id:=37) ?_;refine Za ?_;refine ZK ?_;refine Zd ?_;refine yo (zak L 904 (c:=.int .u64 (wb rs rs.length).2) rfl rfl (zk rfl) rfl rfl rfl rfl rfl zyr (fun u H hH hle hb => zp8 hnw hne4 hH hb)) ?_;refine Za ?_;refine Z3 ?_;refine Zd ?_;refine yo (zaz L 904 (RsV rs true) (r:=StG qa S4) rfl rfl rfl rfl rfl SlV.mono (fun u H2 C2 hH hle hr2 hC2 => by have h:=zj3 hne4 hkz hH hr2 hC2; rw [hke] at h; exact h)) ?_;refine Zf ?_;refine z7 (zp L rfl rfl (zk rfl) rfl rfl rfl (fun u H hH hle _ v1 h1 v2 h2 => zsr (by omega) hH h1 h2)) rfl ?_;refine Z3 ?_;refine Zg ?_;refine Zg ?_;refine Za ?_;refine z7 (zp L rfl rfl (zk rfl) rfl rfl rfl (fun u H hH _ _ => zfh hH)) rfl ?_;refine Zg ?_;refine Zb ?_
       refine ye L (rs:=[.tmp 6]) rfl (fun _ _ h => h) ((hs012.trans hs3).trans hs4) fun u H hH hle => ?_
       rfl
      ·refine Zc ?_;refine zf (id:=31) ?_;refine Zq ?_;refine Zax ?_
       refine qg (id:=33) [(200173, [900]), (200174, [901])] mixed (by kernel_rfl) ?_;refine Zah ?_;refine ZdO ?_;refine z8 (hmk L rfl rfl rfl rfl rfl (by omega:rs.length ≤ 11)) rfl ?_;refine Zc5 ?_;refine qn (zaz L 901 (PinsP S2.P) (r:=StG b S2) rfl rfl rfl rfl rfl PinsP.mono (fun u H2 C2 hH hle hr2 hC2 => zdx hneB hH hr2 hC2)) rfl rfl ?_;refine z8 (zp L rfl rfl (zk rfl) rfl rfl rfl (fun u H hH hle _ v1 h1 v2 h2 v3 h3 => zrd hwe (by omega) (by omega) (by omega) hH h1 h2 h3)) rfl ?_;refine Zh ?_;refine Zc6 ?_;refine Zc6 ?_;refine Zc0 ?_
       refine Zgy ?_;refine Zah ?_;refine ZdO ?_;refine Zab ?_;refine z8 (hmk L rfl rfl rfl rfl rfl (by omega:rs.length + 1 ≤ 11)) rfl ?_;refine Zc5 ?_;refine qn (zaz L 901 (PinsP S2.P) (r:=StG b S2) rfl rfl rfl rfl rfl PinsP.mono (fun u H2 C2 hH hle hr2 hC2 => zdx hneB hH hr2 hC2)) rfl rfl ?_;refine z8 (zp L rfl rfl (zk rfl) rfl rfl rfl (fun u H hH hle _ v1 h1 v2 h2 v3 h3 => z6h hH h1 h2 h3)) rfl ?_;refine Zh ?_;refine Zc6 ?_;refine Zc6 ?_;refine Zbn ?_;refine Zw ?_;refine Zc ?_
       refine zf (id:=35) ?_;refine Zd ?_;refine ZK ?_;refine Zd ?_;refine ZK ?_;refine Zad ?_;refine ZcA ?_;refine Zd ?_;refine z7 (zmz rfl rfl rfl rfl z6f rfl rfl) rfl ?_;refine Zg ?_;refine ZaY ?_
       refine zf (id:=37) ?_;refine Za ?_;refine ZcA ?_;refine ZcV ?_;refine Zc7 ?_;refine Zc8 ?_;refine Za ?_;refine z7 (zp L rfl rfl (zk rfl) rfl rfl rfl (fun u H hH _ _ => zfh hH)) rfl ?_;refine Zg ?_;refine Zb ?_
       refine ye L (rs:=[.tmp 6]) rfl (fun _ _ h => h) ((hs012.trans hs3).trans hs4) fun u H hH hle => ?_
       rfl
    refine zal (fun k:Nat => [(2, .sat (RsV rs fr)), (7, .is (zdh pb)), (16, .is (.int .i64 (wh rs hd w0 k))), (17, .is (.int .u64 (wb rs rs.length).2)), (19, .sat (RsV hd true)), (20, .is (.int .i64 k)), (900, .own (zan pb [zdh b, lv3, pv3] zsh)), (901, .own (StG b S2).res)]) (fun k => k ≤ hd.length) (fun k => hd.length - k) 0 (Nat.zero_le _) ⟨rfl, rfl, rfl, rfl, rfl, rfl, rfl, rfl, trivial⟩ ?_
    rintro k hk
    by_cases hlk:k < hd.length
    ·have hwk:IntKind.i64.wrap ((k:Int) + 1) = ((k + 1:Nat):Int):=zaa (by omega) (by omega)
     obtain ⟨x, hx0⟩:=zae hlk
     have hcr:=zf6 hx0
     by_cases hwz:wh rs hd w0 k = 0
     ·have hsu:=z08 hx0 hwz
      rw [hwz]
      obtain ⟨c, hc⟩:∃ c, rs.count x = c:=⟨_, rfl⟩
      by_cases hc0:c = 0
      ·subst hc0
       rw [if_pos hc] at hsu
       refine Zc ?_;refine zf (id:=27) ?_;refine ZaN ?_;refine Zcp ?_;refine Z3 ?_;refine Zar ?_;refine Zbl ?_;refine zf (id:=29) ?_;refine Zf ?_;refine ZcT ?_;refine z7 (zp L rfl rfl (zk rfl) rfl rfl rfl (fun u H hH hle _ v1 h1 => zc5 hc (by omega) hH h1)) rfl ?_;refine Zbf ?_;refine zf (id:=30) ?_;refine Zcq ?_;refine zf (id:=28) ?_;refine Za ?_;refine Zam ?_
       exact yi (x:=k) (k + 1) hlk (by omega) ⟨rfl, rfl, by rw [hsu]; rfl, rfl, rfl, rfl, rfl, rfl, trivial⟩
      ·rw [if_neg (by omega)] at hsu
       refine Zc ?_;refine zf (id:=27) ?_;refine ZaN ?_;refine Zcp ?_;refine Z3 ?_;refine Zar ?_;refine Zbl ?_;refine zf (id:=29) ?_;refine Zf ?_;refine ZcT ?_;refine z7 (zp L rfl rfl (zk rfl) rfl rfl rfl (fun u H hH hle _ v1 h1 => zc5 hc (by omega) hH h1)) rfl ?_;refine ZH ?_;refine Za4 ?_;refine zf (id:=28) ?_;refine Za ?_;refine Zam ?_
       exact yi (x:=k) (k + 1) hlk (by omega) ⟨rfl, rfl, by rw [hsu]; rfl, rfl, rfl, rfl, rfl, rfl, trivial⟩
     ·have hdn:=z09 hwz
      refine Zc ?_;refine zf (id:=27) ?_;refine ZaN ?_;refine Zcp ?_;refine ZH ?_;refine Zg ?_;refine ZcO ?_
      rw [hdn]
      exact za7 () Since.refl trivial rfl ⟨rfl, rfl, rfl, rfl, rfl, rfl, trivial⟩
    ·obtain rfl:k = hd.length:=by omega
     refine Zc ?_;refine zf (id:=27) ?_;refine ZaN ?_;refine Z4 ?_;refine ZdE ?_;refine ZcO ?_
     exact za7 () Since.refl trivial rfl ⟨rfl, rfl, rfl, rfl, rfl, rfl, trivial⟩
end Go.V.L10
set_option maxRecDepth 20000
namespace Go.V.L10
open Go.Proofs Go.ChangeShapes Go.RowKit Go.V
theorem zo2 {k:IntKind}:∀ (l:List Int), l.flatMap (fun z => [Value.int k z]) = l.map (Value.int k)
 | [] => rfl
 | z :: l => by rw [List.flatMap_cons, zo2 l]; rfl
theorem storesMake_in {W:World} {cs ds:List Value} {es:List (List Value)} {rv:Value} (l0:zgr (WwP (hp W)) cs) (l1:zgr (WwP (hp W)) ds) (hl:∀ c ∈ es, LeafsOK [.i .u64] c) (hz:es.length ≤ maxLen) (hs:SlV 49 1 es.flatten es.length false rv (hp W)):Ret Tryz.prog 9 [.agg cs.toArray, .agg ds.toArray, rv] W (hp W) (fun v _ => v = .bool true):=by
 obtain ⟨xv, xs, rfl, hx, ho⟩:=z3l l0
 obtain ⟨yv, ys, rfl, hy, hoy⟩:=z3l l1
 obtain ⟨rs, e1, e2, e3⟩:=znh (f:=fun z:Int => [Value.int .u64 z]) (Ψ:=fun z:Int => 0 ≤ z ∧ z < 18446744073709551616) (fun c hc => by
  obtain ⟨z, rfl, hw⟩:=zjd hc
  refine ⟨z, rfl, ?_⟩
  have:=Go.bounds_u64 hw
  omega) es hl
 rw [e1, zo2, ← e2] at hs
 unfold maxLen at hz
 exact zlc (Heap.Le.refl _) hx ho hy hoy hs e3 (by omega)
end Go.V.L10
set_option maxRecDepth 20000
namespace Go.Proofs.YtcppaheijljnfaaGreat.storesMake
open Go.ChangeShapes Go.WideShapes Go.ChangeAt Go.ChangeMaps Go.RowKit Go.V Go.V.L10
theorem own : ownKnob Tryz.prog.godebug = none := by kernel_rfl
theorem laidOut : laidOutB Tryz.prog = true := by kernel_rfl
theorem la0 : (match Tryz.prog.underlying 24 with | some (.struct _) | some (.array _ _) => true | _ => false) = true := by kernel_rfl
theorem lr1 : Tryz.prog.readableRec 24 = true := by kernel_rfl
theorem lt1 : 24 < Tryz.prog.types.size := of_decide_eq_true (by kernel_rfl)
theorem lf2 : leafI Tryz.prog 20 49 = some [.i .u64] := by kernel_rfl
theorem lc2 : Tryz.prog.cellsOf 49 = ([.i .u64] : List LeafK).length := by kernel_rfl
theorem lr3 : Tryz.prog.readableRec 28 = true := by kernel_rfl
theorem lt3 : 28 < Tryz.prog.types.size := of_decide_eq_true (by kernel_rfl)
theorem lu4 : Tryz.prog.underlying 28 = some (.slice 49) := by kernel_rfl
set_option maxRecDepth 100000 in
theorem lifted (os : Os) (started : os.Started) (H : Type) (enc : TypeId × Value → H) :
    ReturnsInHanded {} Tryz.checked os 9 .any (Rows.storesMakeSpec.pre6 enc Tryz.prog Tryz.f9 Rows.storesMakeRow.domain false) (Rows.storesMakeSpec.post enc Tryz.prog Tryz.f9 false true false false) := by
  refine returnsInHanded_of_change_shaped (C := Tryz.checked) own started (by kernel_rfl) Tryz.func9
    (ChangeSpec.witness6 (enc := enc) (C := Tryz.checked) false ⟨#[], #[.agg #[.slice none 0 0], .agg #[.slice none 0 0], .slice none 0 0], []⟩ 8 (by kernel_rfl) (by kernel_rfl) (by kernel_rfl) (by kernel_rfl)) ?_
  intro W base args ds gs before hval0 hW hcnd hsz hsh _
  have hval : ∀ (j : Nat) t v, Tryz.f9.params[j]? = some t → args[j]? = some v → Value.okWide Tryz.prog W .any base t v := hval0
  have hW' := hW
  obtain ⟨p, q, hA0, hV, rfl, hfz, hnd⟩ := hW
  have hA : DataW.TrodAll enc Tryz.prog W 0 (fun _ => true) true Tryz.f9.params.toList args.toList ds p := hA0
  rw [Tryz.params9] at hA hval hsz
  obtain ⟨v0, v1, v2, d0, d1, d2, p0, p1, p2, rfl, rfl, rfl, h0, h1, h2⟩ := trodAll_three hA
  obtain ⟨rfl, rfl⟩ := trodVars_none hV
  clear hA0 hval0
  obtain ⟨c0, rfl, l0⟩ := open_agD reads_ww la0 (hval 0 24 v0 rfl rfl) h0 (wt_at hsz 0 rfl rfl)
  obtain ⟨c1, rfl, l1⟩ := open_agD reads_ww la0 (hval 1 24 v1 rfl rfl) h1 (wt_at hsz 1 rfl rfl)
  obtain ⟨cs, lcs, zcs, hcs⟩ := open_sl lu4 lf2 lc2 (hval 2 28 v2 rfl rfl) h2
  have hplc := hW'.lt
  simp only [List.append_nil] at hW'
  have hlaw := Go.V.L10.storesMake_in l0 l1 lcs zcs hcs
  unfold Ret at hlaw
  refine hlaw.mono fun e W' hp => ?_
  obtain ⟨v, rfl, H', g, rfl⟩ := hp
  refine ⟨_, rfl, _, _, _, [], p0 ++ (p1 ++ (p2 ++ ([]))), [], hW', trodAll_cons_mk (shut_bool Tryz.underlying4 _) trodAll_mk0, ?_, rfl, g.below.frame _, fun h => by cases h⟩
  exact trodAll_cons_mk (Below.trod laidOut lr1 lt1 h0 g.below (fun x hx => hplc x (by simp [hx]))) (trodAll_cons_mk (Below.trod laidOut lr1 lt1 h1 g.below (fun x hx => hplc x (by simp [hx]))) (trodAll_cons_mk (Below.trod laidOut lr3 lt3 h2 g.below (fun x hx => hplc x (by simp [hx]))) trodAll_mk0))
theorem proved : Rows.StoresMakeSaid :=
  OpenClaim.holds_of_wide 9 Tryz.f9 rfl rfl rfl rfl rfl rfl rfl ⟨rfl, rfl, rfl, rfl, rfl⟩ rfl rfl rfl rfl rfl (by kernel_rfl) Tryz.func9 (by kernel_rfl)
    (of_decide_eq_true (by kernel_rfl)) (by unfold Func.isWrapper; first | (rw [if_pos (by decide +kernel)]; kernel_rfl) | (rw [if_neg (by decide +kernel)]; exact ⟨rfl, rfl⟩))
    (fun os started H enc _ => lifted os started H enc)
#print axioms proved
end Go.Proofs.YtcppaheijljnfaaGreat.storesMake
