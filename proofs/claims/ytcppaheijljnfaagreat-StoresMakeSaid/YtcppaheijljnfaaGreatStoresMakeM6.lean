/- Texts on the way to StoresMake, part 6: one behind another. -/
import Derived.Test.YtcppaheijljnfaaGreatStoresMakeM5
import Derived.ProofKit
import Derived.HandedShaped
import Derived.OpenShut
import Derived.Carry
import Derived.Deep.Slices
import Derived.SizedLaws
set_option linter.unusedVariables false
set_option linter.unusedSimpArgs false
set_option maxRecDepth 20000
namespace Go.V.L10
open Go.Proofs Go.RowKit Go.V Go.V.L2 Go.V.L8 Go.V.L6
theorem _root_.Go.V.Zgb {A B:Prop} (h:B) (t:Wr B → A:=by intro h; refine yo (zay L (q:=900) (vs:=[_, _]) rfl rfl rfl rfl rfl rfl ⟨_, rfl⟩) ?_;exact h.h):A:=t ⟨h⟩
theorem _root_.Go.V.Zc5 {A B:Prop} (h:B) (t:Wr B → A:=by intro h; refine Zfe ?_;refine Zc2 ?_;exact h.h):A:=t ⟨h⟩
theorem zqx (S:Sto):zg8 fun (x:Nat × Value × Ent) (H:Heap) => MapOK x.2.2 S.R ∧ EsV x.2.2 H ∧ PsV (zad S.P) x.2.1 H:=fun _ _ _ ⟨h1, h2, h3⟩ hle => ⟨h1, h2.le hle, h3.le hle⟩
abbrev StG (b:Nat) (S:Sto):GR:=GEx (fun x:Nat × Value × Ent => StO b S.R.length x.1 x.2.1 S.P.length x.2.2) (fun x H => MapOK x.2.2 S.R ∧ EsV x.2.2 H ∧ PsV (zad S.P) x.2.1 H) (zqx S)
theorem zh0 (b:Nat) (S:Sto):(StG b S).res = ExR (fun x:Nat × Value × Ent => (StO b S.R.length x.1 x.2.1 S.P.length x.2.2).res) (fun x H => MapOK x.2.2 S.R ∧ EsV x.2.2 H ∧ PsV (zad S.P) x.2.1 H) (zqx S):=rfl
theorem zdc {S:Sto} {b m:Nat} {s:Value} {es:Ent} {B:Heap} (hm:MapOK es S.R) (hes:EsV es B) (hps:PsV (zad S.P) s B):∀ (v:Value) H u C, B.Le H → (StO b S.R.length m s S.P.length es).res.P v H u C → (StG b S).res.P v H u C:=fun _ _ _ _ hle h => ⟨(m, s, es), ⟨hm, hes.le hle, hps.le hle⟩, h⟩
theorem EsV.snoc {es:Ent} {H:Heap} (h:EsV es H) {k:Int} {t:List U} {v:Value} (hv:SetV t v H):EsV (es ++ [(k, (t, v))]) H:=fun e he => by
 rcases List.mem_append.1 he with he | he
 ·exact h e he
 ·rw [List.mem_singleton.1 he]; exact hv
theorem zdk {P:Program} {f:FuncId} {args:List Value} {w:World} {B:Heap} {C:Nat → Prop} {r:GR} {v:Value} (h:RetY P f args w B C r (fun x _ => x = v)):zd2 P f args w B C r v:=RetL.mono h fun _ _ _ _ hp => hp
attribute [local irreducible] V N X VO Par StepOK Has Ret RetL RetO RetT zcd zd2 RetY Src
set_option maxHeartbeats 4000000 in
set_option maxRecDepth 20000 in
theorem ze2 {S S':Sto} {b:Nat} {l cs:List CH} {rev e:Int} {fl fc:Bool} (hI:z5l S) (hR:S.R.length ≤ 100000) (hn:S.R.length ≠ 0) (zl:∀ c ∈ l, TM c.1) (zc:∀ c ∈ cs, TM c.1) (ll:l.length ≤ 9223372036854775807) (lc:cs.length ≤ 9223372036854775807) (hw:ze0 S l cs = (S', rev, e)) {lv cv:Value} {w:World} {B:Heap} {C:Nat → Prop} (hB:B.Le (hp w))
  (hl:KS tyM l fl lv B) (hc:KS tyC cs fc cv B) (hr:(StG b S).P B w C) (hC:∀ k, C k → k < w.heap.size ∧ B k = none) :
  RetY Tryz.prog 19 [.pointer (some ⟨b, 0, none⟩), lv, cv] w B C (StG b S') (fun v _ => v = .tuple #[.int .u64 rev, .int .i64 e]):=by
 unfold RetY
 refine zau 900 (StG b S) Tryz.func19 rfl Tryz.ntmps19 (Nat.le_of_ble_eq_true rfl) hB hr hC ?_
 refine zat 1 (KS tyM l fl) rfl SlV.mono hl ?_
 refine zat 2 (KS tyC cs fc) rfl SlV.mono hc ?_
 rw [zh0]
 refine zc9 900 rfl fun x H hs0 hφ => ?_
 obtain ⟨m, s, es⟩:=x
 obtain ⟨hm, hes, hps⟩:=hφ
 dsimp only at hm hes hps ⊢
 obtain ⟨ps, pc, rfl⟩:=zaq hps
 obtain ⟨t0, ht0⟩:∃ t0, kpt S.R S.R.length = some t0:=Option.isSome_iff_exists.1 hI.last
 have hA:atS S 0 = (t0, 0):=by unfold atS; rw [if_pos rfl, ht0]
 have ht4:=hI.tl _ _ ht0
 obtain ⟨⟨t1, made, e1⟩, hwr⟩:∃ x, zeo t0 l cs = x:=⟨_, rfl⟩
 unfold ze0 at hw
 rw [hA, hwr] at hw
 dsimp only at hw
 refine ZaX ?_;refine ZS ?_;refine Za ?_;refine yo (zaz L 900 (WithP t0 0) (r:=StO b S.R.length m _ S.P.length es) rfl rfl rfl rfl rfl WithP.mono (fun u H2 C2 hH hle hr2 hC2 => by have h:=zf0 (S:=S) (r:=0) hm hn (hes.le hle) hH hr2 hC2; rw [hA] at h; exact h)) ?_;refine zbq 14 rfl fun v1 H1 hs1 hp1 => ?_;obtain ⟨sv, rfl, hsv⟩:=hp1; obtain ⟨f1, p1, f2, p2, rfl, hpl⟩:=hsv.shape; refine ZbM ?_;refine Zj ?_;refine ZG ?_;refine Zas ?_;refine ZV ?_;refine ZaO ?_;refine Zdq ?_;refine z7 (yw L rfl rfl (zk rfl) rfl rfl rfl WriteP.mono (fun u H2 hH hle _ v1 h1 v2 h2 => zt1 zl zc ll lc ht4 hwr hH (hsv.le hle) h1 h2)) rfl ?_;refine zbq 24 rfl fun v3 H3 hs3 hp3 => ?_;obtain ⟨tv, mv, rfl, htv, hmv⟩:=hp3; obtain ⟨f3, p3, f4, p4, rfl, hpl4⟩:=htv.shape; refine Zaz ?_;refine ZeZ ?_;refine ZgA ?_;refine ZaW ?_
 have hs13:=hs1.trans hs3
 have hes3:=hes.le hs13.le
 have hps3:=hps.le hs13.le
 by_cases he:e1 = 0
 ·subst he
  rw [if_pos rfl] at hw
  have hlen:=hm.len
  have hkl:=hI.kl
  rw [zew]
  refine Zep ?_
  by_cases hk:1024 ≤ (zas S.R).length
  ·rw [if_pos hk] at hw
   cases hw
   refine Z9 ?_;refine Zay ?_;refine Z5 ?_;refine ZaH ?_;refine yo (zp3 (q:=901) (vc:=vcE) mpS rfl rfl rfl rfl rfl) ?_;refine ZbZ ?_;refine Z8 ?_;refine Zk ?_
   refine Zd3 ?_
   refine zbi 900 (StG b S).res rfl (zdc hm hes3 hps3) ?_
   exact zbp L 900 (r:=StG b S) (rs:=[.tmp 6, .tmp 7]) rfl (fun _ _ h => h) (hs0.trans hs13) rfl rfl (fun H hle => rfl)
  ·rw [if_neg hk] at hw
   cases hw
   have hadd:=hm.add t1 (.agg #[f3, .pointer p3, f4, .pointer p4])
   have hwn:IntKind.u64.wrap ((S.R.length:Int) + 1) = ((S.R.length + 1:Nat):Int):=wrap_u64 (by omega) (by omega)
   have hln:(S.R ++ [some t1]).length = S.R.length + 1:=by rw [List.length_append]; rfl
   refine Z9 ?_;refine Zay ?_;refine Z5 ?_;refine ZaH ?_;refine yo (zp3 (q:=901) (vc:=vcE) mpS rfl rfl rfl rfl rfl) ?_;refine Zbs ?_;refine Zcu ?_;refine ZaH ?_;refine ZZ ?_;refine Zax ?_;refine Zb5 ?_;refine ZaH ?_;refine ZZ ?_;refine Zcd ?_;refine zcr (yz L (q:=900) (cs':=stc (S.R.length + 1) m (.slice ps (zad S.P).length pc) S.P.length) rfl rfl rfl rfl rfl rfl rfl rfl rfl) ?_;refine Zm ?_
   refine qg (id:=12) [(200053, [900]), (200057, [900]), (100053, [901])] mixed (by kernel_rfl) ?_;refine Zc5 ?_;refine Zc5 ?_;refine ZeQ ?_;refine zah (zlz (q:=901) (vc:=vcE) ((S.R.length + 1:Nat):Int) (t1, .agg #[f3, .pointer p3, f4, .pointer p4]) mpS kyS rfl rfl rfl rfl rfl rfl hadd.2) rfl ?_;refine ZbB ?_
   refine Zcs ?_;refine ZaH ?_;refine Zk ?_
   refine Zd3 ?_
   refine zbi 900 (StG b ⟨S.R ++ [some t1], S.P⟩).res rfl (fun v H u C hle h => zdc (S:=⟨S.R ++ [some t1], S.P⟩) (by have h2:=hadd.1; rw [hadd.2] at h2; exact h2) (hes3.snoc htv) hps3 v H u C hle (by dsimp only; rw [hln]; exact h)) ?_
   exact zbp L 900 (r:=StG b ⟨S.R ++ [some t1], S.P⟩) (rs:=[.tmp 6, .tmp 7]) rfl (fun _ _ h => h) (hs0.trans hs13) rfl rfl (fun H hle => rfl)
 ·rw [if_neg he] at hw
  cases hw
  refine Z9 ?_;refine ZP ?_;refine ZD ?_;refine Zk ?_
  refine zbi 900 (StG b S).res rfl (zdc hm hes3 hps3) ?_
  exact zbp L 900 (r:=StG b S) (rs:=[.tmp 6, .tmp 7]) rfl (fun _ _ h => h) (hs0.trans hs13) rfl rfl (fun H hle => rfl)
set_option maxHeartbeats 4000000 in
set_option maxRecDepth 20000 in
theorem zj4 {S:Sto} {b f:Nat} {r:Int} {P':List Int} {e:Int} (hn:S.R.length ≠ 0) (hk:(kpt S.R r).isSome = true) (hfn:L.fn f = some ()) (hf:∀ {s:Value} {u:World} {H:Heap}, H.Le (hp u) → PsV (zad S.P) s H → Ret Tryz.prog f [pnv s S.P.length, .int .u64 r] u H (PinP P' e)) {w:World} {B:Heap} {C:Nat → Prop} (hB:B.Le (hp w))
  (hr:(StG b S).P B w C) (hC:∀ k, C k → k < w.heap.size ∧ B k = none) :
  RetY Tryz.prog 50 [.pointer (some ⟨b, 0, none⟩), .int .u64 r, .func (.func f) #[] #[]] w B C (StG b (if e = 0 then ⟨S.R, P'⟩ else S)) (fun v _ => v = .int .i64 e):=by
 unfold RetY
 refine zau 900 (StG b S) Tryz.func50 rfl Tryz.ntmps50 (Nat.le_of_ble_eq_true rfl) hB hr hC ?_
 rw [zh0]
 refine zc9 900 rfl fun x H hs0 hφ => ?_
 obtain ⟨m, s, es⟩:=x
 obtain ⟨hm, hes, hps⟩:=hφ
 dsimp only at hm hes hps ⊢
 obtain ⟨ps, pc, rfl⟩:=zaq hps
 rw [zew]
 refine Zep ?_
 have hg:=hm.get r
 obtain ⟨⟨t0, sv⟩, hgk⟩:∃ x, zdi r es = some x:=by
  rw [← hg, Option.isSome_map] at hk
  exact Option.isSome_iff_exists.1 hk
 have hsv:SetV t0 sv H:=hes _ (zfg hgk)
 obtain ⟨f1, p1, f2, p2, rfl, hpl⟩:=hsv.shape
 have q1:(zdi r es).elim nilSet vcE = .agg #[f1, .pointer p1, f2, .pointer p2]:=by rw [hgk]; rfl
 have q2:(zdi r es).isSome = true:=by rw [hgk]; rfl
 refine Zbx ?_;refine yo (zak L 900 (Φ:=fun H => H b = some (.cells (stc S.R.length m _ S.P.length).toArray tyS)) (c:=.bool false) rfl rfl (zk rfl) rfl rfl rfl rfl rfl ziu (fun u H hH hle hb => zcw hn hb hH)) ?_;refine Zr ?_;refine Z1 ?_;refine ZaH ?_;refine Za ?_;refine yo (zc6 (q:=901) (vc:=vcE) r mpS kyS zrS rfl rfl rfl rfl rfl q1 q2) ?_;refine ZbM ?_;refine Ze ?_;refine Zu ?_;refine Zs ?_;refine Zx ?_;refine Zby ?_;refine Zcd ?_;refine Zgb ?_;refine Za ?_;refine z7 (yw (φ:=PinP P' e) L rfl rfl (zk rfl) rfl (cap:=[]) rfl hfn PinP.mono (fun u H2 hH hle _ => hf hH (hps.le hle))) rfl ?_;refine zbq 31 rfl fun v1 H1 hs1 hp1 => ?_;obtain ⟨s2, rfl, hs2⟩:=hp1; obtain ⟨p5, c5, rfl⟩:=zaq hs2; refine Zaz ?_;refine ZX ?_;refine Zj ?_
 by_cases he:e = 0
 ·subst he
  rw [if_pos rfl]
  refine Z5 ?_;refine Zbf ?_;refine Zbz ?_;refine Zfb ?_;refine Zcd ?_;refine zcr (yz L (q:=900) (cs':=stc S.R.length m (.slice p5 (zad P').length c5) P'.length) rfl rfl rfl rfl rfl rfl rfl rfl rfl) ?_;refine Zm ?_;refine Zcu ?_;refine Zb ?_
  refine Zd3 ?_
  refine zbi 900 (StG b ⟨S.R, P'⟩).res rfl (zdc (S:=⟨S.R, P'⟩) hm (hes.le hs1.le) hs2) ?_
  exact zbp L 900 (r:=StG b ⟨S.R, P'⟩) (rs:=[.tmp 6]) rfl (fun _ _ h => h) (hs0.trans hs1) rfl rfl (fun H hle => rfl)
 ·rw [if_neg he]
  refine Z5 ?_;refine Zax ?_;refine Zcu ?_;refine Zb ?_
  refine Zd3 ?_
  refine zbi 900 (StG b S).res rfl (zdc hm (hes.le hs1.le) (hps.le hs1.le)) ?_
  exact zbp L 900 (r:=StG b S) (rs:=[.tmp 6]) rfl (fun _ _ h => h) (hs0.trans hs1) rfl rfl (fun H hle => rfl)
set_option maxHeartbeats 4000000 in
theorem zio {S:Sto} {b:Nat} {r:Int} {fv:Value} (hn:S.R.length ≠ 0) (hk:¬ (kpt S.R r).isSome = true) {w:World} {B:Heap} {C:Nat → Prop} (hB:B.Le (hp w))
  (hr:(StG b S).P B w C) (hC:∀ k, C k → k < w.heap.size ∧ B k = none) :
  RetY Tryz.prog 50 [.pointer (some ⟨b, 0, none⟩), .int .u64 r, fv] w B C (StG b S) (fun v _ => v = .int .i64 14):=by
 refine RetY.ex hr fun x hφ hr => ?_
 obtain ⟨m, s, es⟩:=x
 obtain ⟨hm, hes, hps⟩:=hφ
 dsimp only at hm hes hps hr ⊢
 unfold RetY
 refine zau 900 (StO b S.R.length m s S.P.length es) Tryz.func50 rfl Tryz.ntmps50 (Nat.le_of_ble_eq_true rfl) hB hr hC ?_
 rw [zew]
 refine Zep ?_
 have hg:=hm.get r
 have hgk:zdi r es = none:=by
  rw [← hg, Option.isSome_map] at hk
  cases h:zdi r es with
  | none => rfl
  | some y => rw [h] at hk; exact absurd rfl hk
 have q1:(zdi r es).elim nilSet vcE = nilSet:=by rw [hgk]; rfl
 have q2:(zdi r es).isSome = false:=by rw [hgk]; rfl
 refine Zbx ?_;refine yo (zak L 900 (Φ:=fun H => H b = some (.cells (stc S.R.length m _ S.P.length).toArray tyS)) (c:=.bool false) rfl rfl (zk rfl) rfl rfl rfl rfl rfl ziu (fun u H hH hle hb => zcw hn hb hH)) ?_;refine Zr ?_;refine Z1 ?_;refine ZaH ?_;refine Za ?_;refine yo (zc6 (q:=901) (vc:=vcE) r mpS kyS zrS rfl rfl rfl rfl rfl q1 q2) ?_;refine Zaz ?_;refine ZX ?_;refine Ze ?_;refine Zu ?_;refine Zs ?_;refine Z0 ?_;refine Zo ?_;refine Zb ?_
 refine Zd3 ?_
 exact zbp L 900 (r:=StO b S.R.length m s S.P.length es) (rs:=[.tmp 6]) rfl (fun _ _ h => h) Since.refl rfl rfl (fun H hle => rfl)
theorem zmm {S S':Sto} {b:Nat} {r e:Int} (hn:S.R.length ≠ 0) (hz:S.P.length ≤ 1000) (hpn:zol S r false = (S', e)) {w:World} {B:Heap} {C:Nat → Prop} (hB:B.Le (hp w)) (hr:(StG b S).P B w C) (hC:∀ k, C k → k < w.heap.size ∧ B k = none) :
  RetY Tryz.prog 20 [.pointer (some ⟨b, 0, none⟩), .int .u64 r] w B C (StG b S') (fun v _ => v = .int .i64 e):=by
 unfold zol at hpn
 unfold RetY
 refine zau 900 (StG b S) Tryz.func20 rfl Tryz.ntmps20 (Nat.le_of_ble_eq_true rfl) hB hr hC ?_
 by_cases hk:(kpt S.R r).isSome = true
 ·rw [if_pos hk] at hpn
  rw [if_neg (by decide)] at hpn
  cases hpn
  have hr0:r ≠ 0:=by have:=zdz hk; omega
  refine ZdL ?_;refine qp (zaj L 900 (StG b ⟨S.R, S.P ++ [r]⟩) (.int .i64 0) (r:=StG b S) rfl rfl rfl rfl rfl (fun u H2 C2 hH hle hr2 hC2 => by have h:=zj4 (P':=S.P ++ [r]) (e:=0) hn hk rfl (fun hH hv => z1u hr0 hz hH hv) hH hr2 hC2; rw [if_pos rfl] at h; exact zdk h)) ?_;refine Zb ?_
  exact zbp L 900 (r:=StG b ⟨S.R, S.P ++ [r]⟩) (rs:=[.tmp 4]) rfl (fun _ _ h => h) Since.refl rfl rfl (fun H hle => rfl)
 ·rw [if_neg hk] at hpn
  cases hpn
  refine ZdL ?_;refine yo (zf7 L 900 (.int .i64 14) (r:=StG b S) rfl rfl rfl rfl rfl (fun u H2 C2 hH hle hr2 hC2 => zio hn hk hH hr2 hC2)) ?_;refine Zb ?_
  exact zbp L 900 (r:=StG b S) (rs:=[.tmp 4]) rfl (fun _ _ h => h) Since.refl rfl rfl (fun H hle => rfl)
theorem zhz {S S':Sto} {b:Nat} {r e:Int} (hn:S.R.length ≠ 0) (hz:S.P.length ≤ 1000) (hpn:zol S r true = (S', e)) {w:World} {B:Heap} {C:Nat → Prop} (hB:B.Le (hp w)) (hr:(StG b S).P B w C) (hC:∀ k, C k → k < w.heap.size ∧ B k = none) :
  RetY Tryz.prog 39 [.pointer (some ⟨b, 0, none⟩), .int .u64 r] w B C (StG b S') (fun v _ => v = .int .i64 e):=by
 unfold zol at hpn
 unfold RetY
 refine zau 900 (StG b S) Tryz.func39 rfl Tryz.ntmps39 (Nat.le_of_ble_eq_true rfl) hB hr hC ?_
 by_cases hk:(kpt S.R r).isSome = true
 ·rw [if_pos hk] at hpn
  rw [if_pos rfl] at hpn
  obtain ⟨⟨P', e'⟩, hu⟩:∃ x, zfz S.P r = x:=⟨_, rfl⟩
  rw [hu] at hpn
  dsimp only at hpn
  have hS:S' = (if ((e':Nat):Int) = 0 then ⟨S.R, P'⟩ else S) ∧ e = ((e':Nat):Int):=by
   by_cases h0:e' = 0
   ·subst h0; rw [if_pos rfl] at hpn; rw [if_pos (show ((0:Nat):Int) = 0 from rfl)]; cases hpn; exact ⟨rfl, rfl⟩
   ·rw [if_neg h0] at hpn; rw [if_neg (by omega)]; cases hpn; exact ⟨rfl, rfl⟩
  obtain ⟨rfl, rfl⟩:=hS
  refine ZdL ?_;refine qp (zaj L 900 (StG b (if ((e':Nat):Int) = 0 then ⟨S.R, P'⟩ else S)) (.int .i64 e') (r:=StG b S) rfl rfl rfl rfl rfl (fun u H2 C2 hH hle hr2 hC2 => zdk (zj4 (P':=P') (e:=e') hn hk rfl (fun hH hv => zud hu hz hH hv) hH hr2 hC2))) ?_;refine Zb ?_
  exact zbp L 900 (r:=StG b (if ((e':Nat):Int) = 0 then ⟨S.R, P'⟩ else S)) (rs:=[.tmp 4]) rfl (fun _ _ h => h) Since.refl rfl rfl (fun H hle => rfl)
 ·rw [if_neg hk] at hpn
  cases hpn
  refine ZdL ?_;refine yo (zf7 L 900 (.int .i64 14) (r:=StG b S) rfl rfl rfl rfl rfl (fun u H2 C2 hH hle hr2 hC2 => zio hn hk hH hr2 hC2)) ?_;refine Zb ?_
  exact zbp L 900 (r:=StG b S) (rs:=[.tmp 4]) rfl (fun _ _ h => h) Since.refl rfl rfl (fun H hle => rfl)
end Go.V.L10
set_option maxRecDepth 20000
namespace Go.V.L10
open Go.Proofs Go.RowKit Go.V
theorem _root_.Go.V.ZcT {A B:Prop} (h:B) (t:Wr B → A:=by intro h; refine Zbe ?_;refine ZcB ?_;exact h.h):A:=t ⟨h⟩
theorem _root_.Go.V.Zd5 {A B:Prop} (h:B) (t:Wr B → A:=by intro h; refine ZcT ?_;refine Za ?_;exact h.h):A:=t ⟨h⟩
theorem _root_.Go.V.Zet {A B:Prop} (h:B) (t:Wr B → A:=by intro h; refine Zf2 ?_;refine ZgB ?_;exact h.h):A:=t ⟨h⟩
theorem ztq {l:List Int} {i:Nat} {x r:Int} (h:l[i]? = some x):(l.take (i + 1)).count r = (l.take i).count r + if x = r then 1 else 0:=by
 rw [za3 h, List.count_append, List.count_singleton]
 congr 1
 by_cases e:x = r <;> simp [e]
theorem z47 {l:List Int} {i:Nat} {r:Int}:(l.take i).count r ≤ l.length:=Nat.le_trans List.count_le_length (by rw [List.length_take]; omega)
def nxF (last n x:Int):Int:=if last < x ∧ (n = 0 ∨ x < n) then x else n
def nxS (last:Int) (l:List Int):Int:=l.foldl (nxF last) 0
theorem zyh {last:Int} {l:List Int} {i:Nat} {x:Int} (h:l[i]? = some x):nxS last (l.take (i + 1)) = nxF last (nxS last (l.take i)) x:=by
 unfold nxS; rw [za3 h, List.foldl_append]; rfl
theorem zyg {last:Int} (h0:0 ≤ last) (l:List Int):(nxS last l = 0 ∧ ∀ x ∈ l, ¬ last < x) ∨ (nxS last l ∈ l ∧ last < nxS last l ∧ ∀ x ∈ l, last < x → nxS last l ≤ x):=by
 have key:∀ (m:List Int) (n:Int) (seen:List Int), ((n = 0 ∧ ∀ x ∈ seen, ¬ last < x) ∨ (n ∈ seen ∧ last < n ∧ ∀ x ∈ seen, last < x → n ≤ x)) → ((m.foldl (nxF last) n = 0 ∧ ∀ x ∈ seen ++ m, ¬ last < x) ∨ (m.foldl (nxF last) n ∈ seen ++ m ∧ last < m.foldl (nxF last) n ∧ ∀ x ∈ seen ++ m, last < x → m.foldl (nxF last) n ≤ x)):=by
  intro m
  induction m with
  | nil => intro n seen h; simpa using h
  | cons y m ih =>
   intro n seen h
   have h1:=ih (nxF last n y) (seen ++ [y]) (by
    unfold nxF
    by_cases hc:last < y ∧ (n = 0 ∨ y < n)
    ·rw [if_pos hc]
     refine .inr ⟨by simp, hc.1, fun x hx hl => ?_⟩
     rcases List.mem_append.1 hx with hx | hx
     ·rcases h with ⟨_, h3⟩ | ⟨_, h3, h4⟩
      ·exact absurd hl (h3 x hx)
      ·have:=h4 x hx hl; rcases hc.2 with h5 | h5 <;> omega
     ·rw [List.mem_singleton.1 hx]; exact Int.le_refl _
    ·rw [if_neg hc]
     rcases h with ⟨h2, h3⟩ | ⟨h2, h3, h4⟩
     ·refine .inl ⟨h2, fun x hx => ?_⟩
      rcases List.mem_append.1 hx with hx | hx
      ·exact h3 x hx
      ·rw [List.mem_singleton.1 hx]; exact fun hl => hc ⟨hl, .inl h2⟩
     ·refine .inr ⟨List.mem_append_left _ h2, h3, fun x hx hl => ?_⟩
      rcases List.mem_append.1 hx with hx | hx
      ·exact h4 x hx hl
      ·rw [List.mem_singleton.1 hx] at hl ⊢
       rcases Int.lt_or_le y n with h5 | h5
       ·exact absurd ⟨hl, .inr h5⟩ hc
       ·exact h5)
   simpa using h1
 simpa [nxS] using key l 0 [] (.inl ⟨rfl, fun x hx => by cases hx⟩)
def zce (h:List Int) (k:Nat):Int:=if k = 0 then 0 else (h[k - 1]?).getD 0
theorem zdo {h:List Int} {k:Nat} {x:Int} (hx:h[k]? = some x):zce h (k + 1) = x:=by
 unfold zce
 rw [if_neg (by omega), Nat.add_sub_cancel, hx]; rfl
theorem zqb {L0:List Int} {i j:Nat} {x y:Int} (hi:(zam L0)[i]? = some x) (hj:(zam L0)[j]? = some y) (hij:i < j):x < y:=by
 have h1:=List.pairwise_iff_getElem.1 (zba L0) i j (get_lt hi) (get_lt hj) hij
 rw [zdg hi, zdg hj] at h1
 exact ztu.1 h1
theorem zwc {L0:List Int} (hp:∀ x ∈ L0, 0 < x) {k:Nat} {x:Int} (hx:(zam L0)[k]? = some x):zce (zam L0) k < x:=by
 unfold zce
 by_cases h:k = 0
 ·rw [if_pos h]; exact hp x (za0.1 (List.mem_of_getElem? hx))
 ·rw [if_neg h]
  have hk:k - 1 < (zam L0).length:=by have:=get_lt hx; omega
  rw [List.getElem?_eq_getElem hk]
  exact zqb (List.getElem?_eq_getElem hk) hx (by omega)
theorem zyu {L0:List Int} (hp:∀ x ∈ L0, 0 < x) {k:Nat} (hk:k ≤ (zam L0).length):0 ≤ zce (zam L0) k:=by
 unfold zce
 by_cases h:k = 0
 ·rw [if_pos h]; exact Int.le_refl _
 ·rw [if_neg h]
  have hk2:k - 1 < (zam L0).length:=by omega
  rw [List.getElem?_eq_getElem hk2]
  exact Int.le_of_lt (hp _ (za0.1 (List.getElem_mem hk2)))
theorem zyi {L0:List Int} (hp:∀ x ∈ L0, 0 < x) {k:Nat} (hk:k ≤ (zam L0).length):(nxS (zce (zam L0) k) L0 = 0 ∧ k = (zam L0).length) ∨ (nxS (zce (zam L0) k) L0 ≠ 0 ∧ (zam L0)[k]? = some (nxS (zce (zam L0) k) L0)):=by
 rcases zyg (zyu hp hk) L0 with ⟨h1, h2⟩ | ⟨h1, h2, h3⟩
 ·refine .inl ⟨h1, ?_⟩
  by_cases hlt:k < (zam L0).length
  ·obtain ⟨x, hx⟩:=zae hlt
   exact absurd (zwc hp hx) (h2 x (za0.1 (List.mem_of_getElem? hx)))
  ·omega
 ·generalize hn:nxS (zce (zam L0) k) L0 = n at *
  refine .inr ⟨fun e => by have:=hp _ h1; omega, ?_⟩
  obtain ⟨j, hj⟩:=List.getElem?_of_mem (za0.2 h1)
  have hjk:k ≤ j:=by
   rcases Nat.lt_or_ge j k with hlt | hge
   ·have:n ≤ zce (zam L0) k:=by
     unfold zce
     have hk2:k - 1 < (zam L0).length:=by omega
     rw [if_neg (by omega), List.getElem?_eq_getElem hk2]
     by_cases e:j = k - 1
     ·subst e; rw [zdg hj]; exact Int.le_refl _
     ·exact Int.le_of_lt (zqb hj (List.getElem?_eq_getElem hk2) (by omega))
    omega
   ·exact hge
  obtain ⟨x, hx⟩:=zae (show k < (zam L0).length by have:=get_lt hj; omega)
  have h4:=h3 x (za0.1 (List.mem_of_getElem? hx)) (zwc hp hx)
  by_cases e:j = k
  ·subst e; exact hj
  ·have:=zqb hx hj (by omega); omega
theorem zen {φ:Value → Heap → Prop} {a tv:Value} {H:Heap} (h:φ tv H):TupS [φ, fun v _ => v = a] (.tuple #[tv, a]) H:=by
 refine ⟨[tv, a], rfl, rfl, fun i φ' x hi hx => ?_⟩
 rcases i with _ | _ | i
 ·cases hi; cases hx; exact h
 ·cases hi; cases hx; rfl
 ·cases hi
theorem zfd {φ:Value → Heap → Prop} {a:Value} (h:Kn.mono (.sat φ)):Kn.mono (.sat (TupS [φ, fun v _ => v = a])):=TupS.mono fun ψ hψ => by
 simp only [List.mem_cons, List.mem_nil_iff, or_false] at hψ
 rcases hψ with rfl | rfl
 ·exact h
 ·exact fun _ _ _ h _ => h
attribute [local irreducible] V N X VO Par StepOK Has Ret RetL RetO RetT zcd zd2 Src
theorem zc5 {l:List Int} {r:Int} {fu:Bool} {c:Nat} (hc:l.count r = c) (hz:l.length ≤ 100000) {v:Value} {w:World} {B:Heap} (hB:B.Le (hp w)) (hv:RsV l fu v B) :
  Ret Tryz.prog 35 [v, .int .u64 r] w B (fun v _ => v = .int .i64 (c:Nat)):=by
 subst hc
 refine yf Tryz.func35 rfl Tryz.ntmps35 (Nat.le_of_ble_eq_true rfl) hB ?_
 refine zat 0 (RsV l fu) rfl SlV.mono hv ?_
 refine ZaD ?_;refine Zj ?_;refine ZdB ?_
 refine zal (fun s:Nat × Nat => [(0, .sat (RsV l fu)), (1, .is (.int .u64 r)), (5, .is (.int .i64 s.2)), (6, .is (.int .i64 s.1))]) (fun s => s.1 ≤ l.length ∧ s.2 = (l.take s.1).count r) (fun s => l.length - s.1) (0, 0) ⟨Nat.zero_le _, rfl⟩ ⟨rfl, rfl, rfl, rfl, trivial⟩ ?_
 rintro ⟨i, c⟩ ⟨hi, hc⟩
 dsimp only at hi hc ⊢
 have hcl:(l.take i).count r ≤ l.length:=z47
 by_cases hlt:i < l.length
 ·obtain ⟨x, hx⟩:=zae hlt
  have hq:=zf6 hx
  have hs:=ztq (r:=r) hx
  have hwi:IntKind.i64.wrap ((i:Int) + 1) = ((i + 1:Nat):Int):=zaa (by omega) (by omega)
  have hwc:IntKind.i64.wrap ((c:Int) + 1) = ((c + 1:Nat):Int):=zaa (by omega) (by omega)
  by_cases hxr:x = r
  ·rw [if_pos hxr] at hs
   refine ZaJ ?_;refine ZaU ?_;refine Zo ?_;refine Zd5 ?_;refine Zbf ?_;refine ZD ?_;refine Zam ?_;refine ZbR ?_;refine Zdv ?_
   exact yi (x:=(i, c)) (i + 1, c + 1) ⟨hlt, by dsimp only; omega⟩ (by dsimp only; omega) ⟨rfl, rfl, rfl, rfl, trivial⟩
  ·rw [if_neg hxr] at hs
   refine ZaJ ?_;refine ZaU ?_;refine Zo ?_;refine Zd5 ?_;refine ZH ?_;refine Za4 ?_;refine Zdv ?_
   exact yi (x:=(i, c)) (i + 1, c) ⟨hlt, by dsimp only; omega⟩ (by dsimp only; omega) ⟨rfl, rfl, rfl, rfl, trivial⟩
 ·obtain rfl:i = l.length:=by omega
  rw [List.take_length] at hc
  subst hc
  refine ZaJ ?_;refine ZbH ?_;refine Z5 ?_;refine Zb ?_
  refine ye L (rs:=[.tmp 4]) rfl (fun _ _ h => h) Since.refl fun u H hH hle => ?_
  rfl
set_option maxHeartbeats 2000000 in
set_option maxRecDepth 10000 in
theorem zof {l:List Int} {fu:Bool} (hpos:∀ x ∈ l, 0 < x) (hz:l.length ≤ 100000) {v:Value} {w:World} {B:Heap} (hB:B.Le (hp w)) (hv:RsV l fu v B) :
  Ret Tryz.prog 57 [v] w B (RsV (zam l) false):=by
 have hhl:(zam l).length ≤ 100000:=Nat.le_trans (zbj l) hz
 refine yf Tryz.func57 rfl Tryz.ntmps57 (Nat.le_of_ble_eq_true rfl) hB ?_
 refine zat 0 (RsV l fu) rfl SlV.mono hv ?_
 refine ZaD ?_;refine Ze ?_;refine ZdB ?_
 refine zd4 3 zjs 1 rfl ?_
 refine zal (fun k:Nat => [(0, .sat (RsV l fu)), (3, .own (SlR zjs 1 ((zam l).take k).length (((zam l).take k).map (Value.int .u64)))), (4, .is (.int .u64 (zce (zam l) k)))]) (fun k => k ≤ (zam l).length) (fun k => (zam l).length - k) 0 (Nat.zero_le _) ⟨rfl, rfl, rfl, trivial⟩ ?_
 rintro k hk
 have hspec:=zyi hpos hk
 obtain ⟨last, hlast⟩:∃ x, x = zce (zam l) k:=⟨_, rfl⟩
 have hln:((zam l).take k).length = k:=by rw [List.length_take]; omega
 rw [← hlast] at hspec ⊢
 refine Zai ?_;refine Zt ?_;refine Zj ?_;refine ZV ?_;refine ZE ?_
 refine zal (fun i:Nat => [(0, .sat (RsV l fu)), (3, .own (SlR zjs 1 ((zam l).take k).length (((zam l).take k).map (Value.int .u64)))), (4, .is (.int .u64 last)), (5, .is (.int .u64 (nxS last (l.take i)))), (6, .is (.int .i64 i))]) (fun i => i ≤ l.length) (fun i => l.length - i) 0 (Nat.zero_le _) ⟨rfl, rfl, rfl, rfl, rfl, trivial⟩ ?_
 rintro i hi
 by_cases hlt:i < l.length
 ·obtain ⟨x, hx⟩:=zae hlt
  have hq:=zf6 hx
  have hs:=zyh (last:=last) hx
  have hwi:IntKind.i64.wrap ((i:Int) + 1) = ((i + 1:Nat):Int):=zaa (by omega) (by omega)
  generalize nxS last (l.take i) = nx at hs ⊢
  unfold nxF at hs
  by_cases h1:last < x
  ·by_cases h2:nx = 0
   ·rw [if_pos ⟨h1, .inl h2⟩] at hs
    refine Zc ?_;refine Z9 ?_;refine ZaU ?_;refine Zp ?_;refine Zd5 ?_;refine ZC ?_;refine Zd ?_;refine Z3 ?_;refine Zfk ?_;refine Zg ?_;refine Zar ?_;refine Z8 ?_;refine ZcT ?_;refine Zcq ?_;refine ZD ?_;refine Zam ?_
    exact yi (x:=i) (i + 1) hlt (by omega) ⟨rfl, rfl, rfl, by rw [hs]; rfl, rfl, trivial⟩
   ·by_cases h3:x < nx
    ·rw [if_pos ⟨h1, .inr h3⟩] at hs
     refine Zc ?_;refine Z9 ?_;refine ZaU ?_;refine Zp ?_;refine Zd5 ?_;refine ZC ?_;refine Zd ?_;refine ZH ?_;refine Za ?_;refine Zd5 ?_;refine ZT ?_;refine Zg ?_;refine Zar ?_;refine Z8 ?_;refine ZcT ?_;refine Zcq ?_;refine ZD ?_;refine Zam ?_
     exact yi (x:=i) (i + 1) hlt (by omega) ⟨rfl, rfl, rfl, by rw [hs]; rfl, rfl, trivial⟩
    ·rw [if_neg (fun h => h.2.elim h2 h3)] at hs
     refine Zc ?_;refine Z9 ?_;refine ZaU ?_;refine Zp ?_;refine Zd5 ?_;refine ZC ?_;refine Zd ?_;refine ZH ?_;refine Za ?_;refine Zd5 ?_;refine Z4 ?_;refine Zg ?_;refine ZdS ?_;refine ZD ?_;refine Zam ?_
     exact yi (x:=i) (i + 1) hlt (by omega) ⟨rfl, rfl, rfl, by rw [hs]; rfl, rfl, trivial⟩
  ·rw [if_neg (fun h => h1 h.1)] at hs
   refine Zc ?_;refine Z9 ?_;refine ZaU ?_;refine Zp ?_;refine Zd5 ?_;refine Z7 ?_;refine ZcV ?_;refine Zc7 ?_;refine ZdS ?_;refine ZD ?_;refine Zam ?_
   exact yi (x:=i) (i + 1) hlt (by omega) ⟨rfl, rfl, rfl, by rw [hs]; rfl, rfl, trivial⟩
 ·obtain rfl:i = l.length:=by omega
  rw [List.take_length]
  generalize nxS last l = nx at hspec ⊢
  rcases hspec with ⟨h1, h2⟩ | ⟨h1, h2⟩
  ·subst h2
   rw [List.take_length]
   refine zci 3 rfl ?_
   refine Zc ?_;refine Z9 ?_;refine Zq ?_;refine ZbU ?_;refine Zc ?_;refine Zcu ?_;refine ZbZ ?_;refine Zag ?_;refine Zf ?_;refine ZaZ ?_
   refine ye L (rs:=[.tmp 2]) rfl (fun _ _ h => h) Since.refl fun u H hH hle => ?_
   exact fun v hv => hv
  ·have hlt2:=get_lt h2
   refine Zc ?_;refine Z9 ?_;refine Zq ?_;refine ZbU ?_;refine Zc ?_;refine Zcu ?_;refine Zax ?_;refine Zak ?_;refine qp (yq (.inl rfl) rfl rfl rfl rfl) ?_;refine Za ?_;refine Zaa ?_;refine Zfy ?_;refine qp (yq (.inr rfl) rfl rfl rfl rfl) ?_;refine Z6 ?_;refine ZQ ?_;refine Za ?_;refine Za3 ?_
   exact yi (x:=k) (k + 1) hlt2 (by omega) ⟨rfl, by rw [za3 h2]; exact zmr, by rw [zdo h2]; rfl, trivial⟩
theorem zq3 {l:List Int} {x:Int} {fu:Bool} {v:Value} {H:Heap} (h:SlV zjs 1 (l.map (Value.int .u64) ++ [Value.int .u64 x]) (l.length + 1) fu v H):RsV (l ++ [x]) fu v H:=by
 unfold RsV; rw [List.map_append, List.length_append]; exact h
abbrev RP2 (l:List Int) (e:Int):Value → Heap → Prop:=TupS [RsV l false, fun v _ => v = .int .i64 e]
theorem zq5 {l:List Int} {e:Int}:Kn.mono (.sat (RP2 l e)):=zfd SlV.mono
set_option maxHeartbeats 1000000 in
theorem zx4 {l:List Int} {r:Int} {fu:Bool} (hr:r ≠ 0) (hpos:∀ x ∈ l, 0 < x) (hz:l.length ≤ 1000) {v:Value} {w:World} {B:Heap} (hB:B.Le (hp w)) (hv:RsV l fu v B) :
  Ret Tryz.prog 85 [v, .int .u64 r] w B (RP2 (l ++ [r]) 0):=by
 obtain ⟨c, hc⟩:∃ c, l.count r = c:=⟨_, rfl⟩
 have hcz:c ≤ 1000:=by rw [← hc]; exact Nat.le_trans List.count_le_length hz
 have hhl:(zam l).length ≤ 1000:=Nat.le_trans (zbj l) hz
 have hlen:(l.map (Value.int .u64)).length = l.length * 1:=by simp
 have hpl:=zms l
 refine yf Tryz.func85 rfl Tryz.ntmps85 (Nat.le_of_ble_eq_true rfl) hB ?_
 refine zat 0 (RsV l fu) rfl SlV.mono hv ?_
 by_cases h0:c = 0
 ·refine ZaX ?_;refine ZN ?_;refine Zax ?_;refine Zeg ?_;refine Za ?_;refine z7 (zp L rfl rfl (zk rfl) rfl rfl rfl (fun u H hH hle _ v1 h1 => zc5 hc (by omega) hH h1)) rfl ?_;refine Zj ?_;refine Zu ?_;refine ZA ?_;refine Zd ?_;refine Z3 ?_;refine Za ?_;refine Zf ?_;refine z7 (yw (φ:=RsV (zam l) false) L rfl rfl (zk rfl) rfl rfl rfl SlV.mono (fun u H hH hle _ v1 h1 => zof hpos (by omega) hH h1)) rfl ?_;refine ZcX ?_;refine ZA ?_;refine Zg ?_;refine ZaY ?_;refine Zz ?_;refine Zf ?_;refine z7 (zc7 L rfl rfl rfl (zik rfl) rfl zzb hlen hpl (by omega) (by omega)) rfl ?_;refine Za ?_;refine Zaa ?_;refine Zfy ?_;refine qp (yq (.inr rfl) rfl rfl rfl rfl) ?_;refine Zb ?_
  refine zci 4 rfl ?_
  refine ye L (rs:=[.tmp 4, .tmp 5]) rfl (fun _ _ h => h) Since.refl fun u H hH hle => ?_
  exact fun v hv => zen (zq3 hv)
 ·refine ZaX ?_;refine ZN ?_;refine Zax ?_;refine Zeg ?_;refine Za ?_;refine z7 (zp L rfl rfl (zk rfl) rfl rfl rfl (fun u H hH hle _ v1 h1 => zc5 hc (by omega) hH h1)) rfl ?_;refine Zj ?_;refine Zu ?_;refine ZA ?_;refine Zd ?_;refine ZH ?_;refine Zc9 ?_;refine ZaY ?_;refine Zz ?_;refine Zf ?_;refine z7 (zc7 L rfl rfl rfl (zik rfl) rfl zzb hlen hpl (by omega) (by omega)) rfl ?_;refine Za ?_;refine Zaa ?_;refine Zfy ?_;refine qp (yq (.inr rfl) rfl rfl rfl rfl) ?_;refine Zb ?_
  refine zci 4 rfl ?_
  refine ye L (rs:=[.tmp 4, .tmp 5]) rfl (fun _ _ h => h) Since.refl fun u H hH hle => ?_
  exact fun v hv => zen (zq3 hv)
theorem zy8 {l:List Int} {i:Nat} {r:Int} (h:∀ x ∈ l.take i, x ≠ r) (hx:l[i]? = some r):l.erase r = l.take i ++ l.drop (i + 1):=by
 have hi:=get_lt hx
 have e:l = l.take i ++ r :: l.drop (i + 1):=by
  rw [show r :: l.drop (i + 1) = l.drop i by rw [List.drop_eq_getElem_cons hi, zdg hx], List.take_append_drop]
 conv => lhs; rw [e]
 rw [List.erase_append_right _ (fun hm => h _ hm rfl), List.erase_cons_head]
set_option maxHeartbeats 1000000 in
theorem zsq {l l1:List Int} {r:Int} {e:Nat} {fu:Bool} (hr:zfz l r = (l1, e)) (hz:l.length ≤ 1000) {v:Value} {w:World} {B:Heap} (hB:B.Le (hp w)) (hv:RsV l fu v B) :
  Ret Tryz.prog 86 [v, .int .u64 r] w B (RP2 l1 e):=by
 unfold zfz at hr
 refine yf Tryz.func86 rfl Tryz.ntmps86 (Nat.le_of_ble_eq_true rfl) hB ?_
 refine zat 0 (RsV l fu) rfl SlV.mono hv ?_
 refine ZaX ?_;refine ZbC ?_;refine ZE ?_
 refine zal (fun i:Nat => [(0, .sat (RsV l fu)), (1, .is (.int .u64 r)), (4, .is (.slice none 0 0)), (5, .is (.int .i64 0)), (6, .is (.int .i64 i))]) (fun i => i ≤ l.length ∧ ∀ x ∈ l.take i, x ≠ r) (fun i => l.length - i) 0 ⟨Nat.zero_le _, fun x hx => by cases hx⟩ ⟨rfl, rfl, rfl, rfl, rfl, trivial⟩ ?_
 rintro i ⟨hi, hn⟩
 by_cases hlt:i < l.length
 ·obtain ⟨x, hx⟩:=zae hlt
  have hq:=zf6 hx
  have hwi:IntKind.i64.wrap ((i:Int) + 1) = ((i + 1:Nat):Int):=zaa (by omega) (by omega)
  by_cases hxr:x = r
  ·subst hxr
   have hc:¬ l.count x = 0:=by have:=List.count_pos_iff.2 (List.mem_of_getElem? hx); omega
   rw [if_neg hc] at hr
   cases hr
   have he:=zy8 hn hx
   have q1:((l.map (Value.int .u64)).drop (0 * 1)).take ((i - 0) * 1) = (l.take i).map (Value.int .u64):=by simp
   have q2:((l.map (Value.int .u64)).drop ((i + 1) * 1)).take ((l.length - (i + 1)) * 1) = (l.drop (i + 1)).map (Value.int .u64):=by
    rw [Nat.mul_one, Nat.mul_one, ← List.map_drop, List.take_of_length_le (by simp)]
   have hl1:((l.take i).map (Value.int .u64)).length = (i - 0) * 1:=by rw [List.length_map, List.length_take]; omega
   have hl2:((l.drop (i + 1)).map (Value.int .u64)).length = (l.length - (i + 1)) * 1:=by rw [List.length_map, List.length_drop]; omega
   have hp1:=zms (l.take i)
   have hp2:=zms (l.drop (i + 1))
   have hlen:i - 0 + (l.length - (i + 1)) = (l.erase x).length:=by rw [he, List.length_append, List.length_take, List.length_drop]; omega
   refine ZcH ?_;refine ZaU ?_;refine ZV ?_;refine Zd5 ?_;refine ZbZ ?_;refine qg (id:=5) [(27, [22]), (4, [27])] mixed (by kernel_rfl) ?_;refine ZeG ?_;refine z8 (zbb L (kl:=.i64) (pl:=0) (km:=.i64) (pm:=0) 0 i false rfl rfl rfl rfl rfl rfl ⟨rfl, rfl⟩ (fun h => by cases h) (by omega) (by omega) q1) rfl ?_;refine z8 (zc7 L rfl rfl rfl (zik rfl) rfl zzb hl1 hp1 (by omega) (by omega)) rfl ?_;refine ZeG ?_;refine Zab ?_;refine z8 (zbb L (kh:=.i64) (ph:=0) (km:=.i64) (pm:=0) (i + 1) l.length false rfl rfl rfl rfl rfl ⟨rfl, rfl⟩ ⟨rfl, rfl⟩ (fun h => by cases h) (by omega) (by omega) q2) rfl ?_;refine za2 (zb9 L rfl rfl rfl (zik rfl) rfl zzb hl2 hp2 (by omega) (by omega)) rfl rfl ?_;refine za2 (yq (.inr rfl) rfl rfl rfl rfl) rfl rfl ?_;refine Zw ?_
   rw [← List.map_append, ← he, hlen]
   refine zci 4 rfl ?_
   refine ye L (rs:=[.tmp 4, .tmp 5]) rfl (fun _ _ h => h) Since.refl fun u H hH hle => ?_
   exact fun v hv => zen hv
  ·refine ZcH ?_;refine ZaU ?_;refine ZV ?_;refine Zd5 ?_;refine ZH ?_;refine Za4 ?_;refine Z1 ?_;refine Zam ?_
   exact yi (x:=i) (i + 1) ⟨hlt, fun y hy => by
    rw [za3 hx] at hy
    rcases List.mem_append.1 hy with hy | hy
    ·exact hn y hy
    ·rw [List.mem_singleton.1 hy]; exact hxr⟩ (by omega) ⟨rfl, rfl, rfl, rfl, rfl, trivial⟩
 ·obtain rfl:i = l.length:=by omega
  rw [List.take_length] at hn
  rw [if_pos (List.count_eq_zero.2 fun hm => hn r hm rfl)] at hr
  cases hr
  refine ZcH ?_;refine ZbH ?_;refine Zz ?_;refine Zk ?_
  refine ye L (rs:=[.tmp 4, .tmp 5]) rfl (fun _ _ h => h) Since.refl fun u H hH hle => ?_
  exact zen SlV.nil
theorem zwn {l R:List Int} {keep i:Nat} {x:Int} (h:R[i]? = some x):(List.filter (fun r => decide (l.count r = 0)) ((R.take (i + 1)).take (R.length - keep))) = (List.filter (fun r => decide (l.count r = 0)) ((R.take i).take (R.length - keep))) ++ if l.count x = 0 ∧ keep < R.length - i then [x] else []:=by
 rw [List.take_take, List.take_take]
 by_cases hk:keep < R.length - i
 ·rw [Nat.min_eq_right (show i + 1 ≤ R.length - keep by omega), Nat.min_eq_right (show i ≤ R.length - keep by omega), za3 h, List.filter_append]
  congr 1
  by_cases h0:l.count x = 0
  ·rw [if_pos ⟨h0, hk⟩]; simp [h0]
  ·rw [if_neg (fun h => h0 h.1)]; simp [h0]
 ·rw [Nat.min_eq_left (show R.length - keep ≤ i + 1 by omega), Nat.min_eq_left (show R.length - keep ≤ i by omega), if_neg (fun h => hk h.2), List.append_nil]
set_option maxHeartbeats 1000000 in
set_option maxRecDepth 10000 in
theorem zut {l R:List Int} {keep:Nat} {fu fr:Bool} (hz:l.length ≤ 100000) (hR:R.length ≤ 100000) (hkp:keep ≤ 100000) {v1 v2:Value} {w:World} {B:Heap} (hB:B.Le (hp w)) (hv:RsV l fu v1 B) (hr:RsV R fr v2 B) :
  Ret Tryz.prog 87 [v1, v2, .int .i64 keep] w B (RsV (zdp l R keep) false):=by
 have hgo:zdp l R keep = (R.take (R.length - keep)).filter fun r => decide (l.count r = 0):=rfl
 rw [hgo]
 clear hgo
 refine yf Tryz.func87 rfl Tryz.ntmps87 (Nat.le_of_ble_eq_true rfl) hB ?_
 refine zat 0 (RsV l fu) rfl SlV.mono hv ?_
 refine zat 1 (RsV R fr) rfl SlV.mono hr ?_
 refine ZaD ?_;refine Zj ?_
 refine zd4 7 zjs 1 rfl ?_
 refine ZdB ?_
 refine zal (fun y:Nat × List Int => [(0, .sat (RsV l fu)), (1, .sat (RsV R fr)), (2, .is (.int .i64 keep)), (7, .own (SlR zjs 1 y.2.length (y.2.map (Value.int .u64)))), (8, .is (.int .i64 y.1))])
  (fun y => y.1 ≤ R.length ∧ y.2 = List.filter (fun r => decide (l.count r = 0)) ((R.take y.1).take (R.length - keep))) (fun y => R.length - y.1) (0, []) ⟨Nat.zero_le _, by simp⟩ ⟨rfl, rfl, rfl, rfl, rfl, trivial⟩ ?_
 rintro ⟨i, out⟩ ⟨hi, hout⟩
 dsimp only at hi hout ⊢
 have hol:out.length ≤ i:=by rw [hout]; exact Nat.le_trans (List.length_filter_le ..) (by rw [List.length_take, List.length_take]; omega)
 by_cases hlt:i < R.length
 ·obtain ⟨x, hx⟩:=zae hlt
  have hq:=zf6 hx
  have hs:=zwn (l:=l) (keep:=keep) hx
  obtain ⟨c, hc⟩:∃ c, l.count x = c:=⟨_, rfl⟩
  have hcz:c ≤ 100000:=by rw [← hc]; exact Nat.le_trans List.count_le_length hz
  have hwi:IntKind.i64.wrap ((i:Int) + 1) = ((i + 1:Nat):Int):=zaa (by omega) (by omega)
  have hws:IntKind.i64.wrap ((R.length:Int) - (i:Int)) = ((R.length - i:Nat):Int):=zaa (by omega) (by omega) |>.trans (by omega)
  rw [hc] at hs
  by_cases h0:c = 0
  ·by_cases hk:keep < R.length - i
   ·rw [if_pos ⟨h0, hk⟩, ← hout] at hs
    refine ZaJ ?_;refine ZaU ?_;refine Zo ?_;refine Zf ?_;refine ZcT ?_;refine z7 (zp L rfl rfl (zk rfl) rfl rfl rfl (fun u H hH hle _ v1 h1 => zc5 hc hz hH h1)) rfl ?_;refine Z3 ?_;refine ZaN ?_;refine Zal ?_;refine Za ?_;refine ZC ?_;refine Zar ?_;refine Zz ?_;refine qp (yq (.inl rfl) rfl rfl rfl rfl) ?_;refine ZcT ?_;refine Zaa ?_;refine Zfy ?_;refine qp (yq (.inr rfl) rfl rfl rfl rfl) ?_;refine Zaq ?_;refine Zdv ?_
    exact yi (x:=(i, out)) (i + 1, out ++ [x]) ⟨hlt, hs.symm⟩ (by dsimp only; omega) ⟨rfl, rfl, rfl, zmr, rfl, trivial⟩
   ·rw [if_neg (fun h => hk h.2), List.append_nil, ← hout] at hs
    refine ZaJ ?_;refine ZaU ?_;refine Zo ?_;refine Zf ?_;refine ZcT ?_;refine z7 (zp L rfl rfl (zk rfl) rfl rfl rfl (fun u H hH hle _ v1 h1 => zc5 hc hz hH h1)) rfl ?_;refine Z3 ?_;refine ZaN ?_;refine Zal ?_;refine Za ?_;refine Zch ?_;refine Za4 ?_;refine Zdv ?_
    exact yi (x:=(i, out)) (i + 1, out) ⟨hlt, hs.symm⟩ (by dsimp only; omega) ⟨rfl, rfl, rfl, rfl, rfl, trivial⟩
  ·rw [if_neg (fun h => h0 h.1), List.append_nil, ← hout] at hs
   refine ZaJ ?_;refine ZaU ?_;refine Zo ?_;refine Zf ?_;refine ZcT ?_;refine z7 (zp L rfl rfl (zk rfl) rfl rfl rfl (fun u H hH hle _ v1 h1 => zc5 hc hz hH h1)) rfl ?_;refine ZH ?_;refine Zfk ?_;refine ZdS ?_;refine Zdv ?_
   exact yi (x:=(i, out)) (i + 1, out) ⟨hlt, hs.symm⟩ (by dsimp only; omega) ⟨rfl, rfl, rfl, rfl, rfl, trivial⟩
 ·obtain rfl:i = R.length:=by omega
  rw [List.take_length] at hout
  rw [← hout]
  refine zci 7 rfl ?_
  refine ZaJ ?_;refine ZbH ?_;refine Zp ?_;refine Zf ?_;refine ZaZ ?_
  refine ye L (rs:=[.tmp 6]) rfl (fun _ _ h => h) Since.refl fun u H hH hle => ?_
  exact fun v hv => hv
def b01 (b:Bool):Int:=if b then 1 else 0
set_option maxHeartbeats 1000000 in
theorem zeg {a b:List Int} {f:Bool} {fa fb:Bool} (hf:decide (a = b) = f) (ha:a.length ≤ 100000) (hb:b.length ≤ 100000) {v1 v2:Value} {w:World} {B:Heap} (hB:B.Le (hp w)) (h1:RsV a fa v1 B) (h2:RsV b fb v2 B) :
  Ret Tryz.prog 22 [v1, v2] w B (fun v _ => v = .int .i64 (b01 f)):=by
 subst hf
 refine yf Tryz.func22 rfl Tryz.ntmps22 (Nat.le_of_ble_eq_true rfl) hB ?_
 refine zat 0 (RsV a fa) rfl SlV.mono h1 ?_
 refine zat 1 (RsV b fb) rfl SlV.mono h2 ?_
 by_cases hl:a.length = b.length
 ·refine ZdY ?_;refine Zay ?_;refine Zt ?_;refine ZE ?_
  refine zal (fun i:Nat => [(0, .sat (RsV a fa)), (1, .sat (RsV b fb)), (5, .is (.int .i64 i))]) (fun i => i ≤ a.length ∧ a.take i = b.take i) (fun i => a.length - i) 0 ⟨Nat.zero_le _, rfl⟩ ⟨rfl, rfl, rfl, trivial⟩ ?_
  rintro i ⟨hi, ht⟩
  by_cases hlt:i < a.length
  ·obtain ⟨x, hx⟩:=zae hlt
   obtain ⟨y, hy⟩:=zae (show i < b.length by omega)
   have hc1:=zf6 hx
   have hc2:=zf6 hy
   have hwk:IntKind.i64.wrap ((i:Int) + 1) = ((i + 1:Nat):Int):=zaa (by omega) (by omega)
   by_cases hxy:x = y
   ·refine Zdf ?_;refine Zet ?_;refine Zet ?_;refine ZdN ?_;refine ZaI ?_;refine ZbF ?_;refine Z9 ?_;refine Zam ?_
    exact yi (x:=i) (i + 1) ⟨hlt, by rw [za3 hx, za3 hy, ht, hxy]⟩ (by omega) ⟨rfl, rfl, rfl, trivial⟩
   ·rw [decide_eq_false (z2y hx hy hxy)]
    refine Zdf ?_;refine Zet ?_;refine Zet ?_;refine Zga ?_;refine ZdW ?_;refine ZcU ?_
    refine ye L (rs:=[.tmp 4]) rfl (fun _ _ h => h) Since.refl fun u H hH hle => ?_
    rfl
  ·obtain rfl:i = a.length:=by omega
   have hab:a = b:=by rw [List.take_length, hl, List.take_length] at ht; exact ht
   rw [decide_eq_true hab]
   refine ZbX ?_;refine ZbH ?_;refine Zd8 ?_
   refine ye L (rs:=[.tmp 4]) rfl (fun _ _ h => h) Since.refl fun u H hH hle => ?_
   rfl
 ·rw [decide_eq_false (zwa hl)]
  refine ZdY ?_;refine ZP ?_;refine Zy ?_;refine Zb ?_
  refine ye L (rs:=[.tmp 4]) rfl (fun _ _ h => h) Since.refl fun u H hH hle => ?_
  rfl
end Go.V.L10
set_option maxRecDepth 20000
namespace Go.V.L10
open Go.Proofs Go.RowKit Go.V Go.V.L2 Go.V.L8 Go.V.L6
def z3e (es:Ent) (l:List Int):Ent:=l.foldl (fun e g => zs8 g e) es
theorem zwu {es:Ent} {l:List Int} {i:Nat} {g:Int} (h:l[i]? = some g):z3e es (l.take (i + 1)) = zs8 g (z3e es (l.take i)):=by unfold z3e; rw [za3 h, List.foldl_append]; rfl
theorem MapOK.dels:∀ {l:List Int} {es:Ent} {R:List (Option (List U))}, MapOK es R → (∀ g ∈ l, 0 < g) → MapOK (z3e es l) (clrL R l)
 | [], _, _, h, _ => h
 | g :: l, _, _, h, hg => MapOK.dels (l:=l) (h.del (hg g (List.mem_cons_self ..))) fun x hx => hg x (List.mem_cons_of_mem _ hx)
theorem EsV.dels:∀ {l:List Int} {es:Ent} {H:Heap}, EsV es H → EsV (z3e es l) H
 | [], _, _, h => h
 | g :: l, _, _, h => EsV.dels (l:=l) fun e he => h e ((zm4 g _).subset he)
theorem zy2 {P0:List Int} {R:List (Option (List U))} {k:Nat}:∀ g ∈ zdp P0 (zas R) k, 0 < g:=fun g hg => by
 unfold zdp at hg
 have h1:=List.mem_of_mem_take (List.mem_filter.1 hg).1
 exact (zdz (zbc.1 h1)).1
theorem SetV.sst {l:List U} {v:Value} {H:Heap} (h:SetV l v H):Sst zbh l:=by
 obtain ⟨_, _, _, _, ht, _⟩:=h
 exact ht.st
theorem zbk {b n m t:Nat} {s:Value} {es:Ent}:∀ v H u C, (StO b n m s t es).res.P v H u C → joinH H u C b = some (.cells (stc n m s t).toArray tyS):=by rw [zew]; exact zv8
theorem zzl {b n m t:Nat} {s:Value} {es:Ent}:∀ v H u C, (StO b n m s t es).res.P v H u C → u.heap[b]? = some (.cells (stc n m s t).toArray tyS):=by rw [zew]; exact zw9
def zrz (S:Sto) (a b:Int):List CH × Int:=if (atS S a).2 = 0 then (if (atS S b).2 = 0 then (z5v (atS S a).1 (atS S b).1, 0) else ([], (atS S b).2)) else ([], (atS S a).2)
theorem zqm {S:Sto} (hI:z5l S) (r:Int):(atS S r).1.length ≤ 4096:=by
 unfold atS
 split
 ·rename_i t h; exact hI.tl _ _ h
 ·exact Nat.zero_le _
attribute [local irreducible] V N X VO Par StepOK Has Ret RetL RetO RetT zcd zd2 RetY Src
abbrev zxg (g:List Int) (e:Int):Value → Heap → Prop:=TupS [RsV g true, fun v _ => v = .int .i64 e]
set_option maxHeartbeats 4000000 in
set_option maxRecDepth 20000 in
theorem zep {S:Sto} {b:Nat} {keep:Int} (hn:S.R.length ≠ 0) (hz:S.P.length ≤ 100000) (hR:S.R.length ≤ 100000) {w:World} {B:Heap} {C:Nat → Prop} (hB:B.Le (hp w)) (hr:(StG b S).P B w C) (hC:∀ k, C k → k < w.heap.size ∧ B k = none) :
  RetY Tryz.prog 21 [.pointer (some ⟨b, 0, none⟩), .int .i64 keep] w B C (StG b (zdq S keep).1) (zxg (zdq S keep).2.1 (zdq S keep).2.2):=by
 unfold RetY
 refine zau 900 (StG b S) Tryz.func21 rfl Tryz.ntmps21 (Nat.le_of_ble_eq_true rfl) hB hr hC ?_
 rw [zh0]
 refine zc9 900 rfl fun x H hs0 hφ => ?_
 obtain ⟨m, s, es⟩:=x
 obtain ⟨hm, hes, hps⟩:=hφ
 dsimp only at hm hes hps ⊢
 obtain ⟨ps, pc, rfl⟩:=zaq hps
 have hlen:=hm.len
 have hkl:=zco S.R
 by_cases hk1:keep < 1
 ·have hS:zdq S keep = (S, [], 4):=by unfold zdq; rw [if_neg (by omega)]
  rw [hS]
  refine ZR ?_;refine Zav ?_;refine Zdt ?_;refine yo (zak L 900 (Φ:=fun H => H b = some (.cells (stc S.R.length m (.slice ps (zad S.P).length pc) S.P.length).toArray tyS)) (c:=.bool false) rfl rfl (zk rfl) rfl rfl rfl rfl rfl zbk (fun u H hH hle hb => zcw hn hb hH)) ?_;refine Zbq ?_;refine Z1 ?_;refine ZT ?_;refine ZdE ?_;refine Zbr ?_;refine ZV ?_;refine Zk ?_
  refine zbi 900 (StG b S).res rfl (zdc hm hes hps) ?_
  exact zbp L 900 (r:=StG b S) (rs:=[.tmp 4, .tmp 5]) rfl (fun _ _ h => h) hs0 rfl rfl (fun H hle => zen SlV.nil)
 ·by_cases hk2:1024 < keep
  ·have hS:zdq S keep = (S, [], 4):=by unfold zdq; rw [if_neg (by omega)]
   rw [hS]
   refine ZR ?_;refine Zav ?_;refine Zdt ?_;refine yo (zak L 900 (Φ:=fun H => H b = some (.cells (stc S.R.length m (.slice ps (zad S.P).length pc) S.P.length).toArray tyS)) (c:=.bool false) rfl rfl (zk rfl) rfl rfl rfl rfl rfl zbk (fun u H hH hle hb => zcw hn hb hH)) ?_;refine Zbq ?_;refine Z1 ?_;refine Z4 ?_;refine Zd ?_;refine ZdR ?_;refine Zbr ?_;refine ZV ?_;refine Zk ?_
   refine zbi 900 (StG b S).res rfl (zdc hm hes hps) ?_
   exact zbp L 900 (r:=StG b S) (rs:=[.tmp 4, .tmp 5]) rfl (fun _ _ h => h) hs0 rfl rfl (fun H hle => zen SlV.nil)
  ·obtain ⟨k, rfl⟩:∃ k:Nat, keep = (k:Int):=⟨keep.toNat, by omega⟩
   have hS:zdq S k = (⟨clrL S.R (zdp S.P (zas S.R) k), S.P⟩, zdp S.P (zas S.R) k, 0):=by unfold zdq; rw [if_pos (by omega)]; rfl
   rw [hS]
   have hgp:∀ x ∈ zdp S.P (zas S.R) k, 0 < x:=zy2
   have hgl:(zdp S.P (zas S.R) k).length ≤ 100000:=by
    unfold zdp
    refine Nat.le_trans (List.length_filter_le ..) ?_
    rw [List.length_take]; omega
   generalize hg:zdp S.P (zas S.R) k = g at hgp hgl
   refine ZR ?_;refine Zav ?_;refine Zdt ?_;refine yo (zak L 900 (Φ:=fun H => H b = some (.cells (stc S.R.length m (.slice ps (zad S.P).length pc) S.P.length).toArray tyS)) (c:=.bool false) rfl rfl (zk rfl) rfl rfl rfl rfl rfl zbk (fun u H hH hle hb => zcw hn hb hH)) ?_;refine Zbq ?_;refine Z1 ?_;refine Z4 ?_;refine Zd ?_;refine Zch ?_;refine Zff ?_;refine ZbF ?_;refine zh ?_
   refine qg (id:=5) [(200022, [900]), (200024, [900])] mixed (by kernel_rfl) ?_;refine Zfe ?_;refine qn (zvo L (q:=900) (vs:=[_, _]) rfl rfl zzl rfl rfl rfl rfl ⟨_, rfl⟩) rfl rfl ?_;refine Zh ?_;refine qn (zaz L 900 (RsV (zas S.R) true) (r:=StO b S.R.length m _ S.P.length es) rfl rfl rfl rfl rfl SlV.mono (fun u H2 C2 hH hle hr2 hC2 => (zfi hm hn (by omega) hH hr2 hC2).pubY zeu)) rfl rfl ?_;refine Zh ?_;refine z8 (yw (φ:=RsV g true) L rfl rfl (zk rfl) rfl rfl rfl SlV.mono (fun u H2 hH hle _ v1 h1 => by rw [← hg]; exact zy1 hz (by omega) (by omega) hH (hps.le hle) h1)) rfl ?_;refine ZdJ ?_;refine Zc ?_
   rw [zew]
   refine Zep ?_
   refine Zz ?_;refine ZcD ?_
   refine zal (fun y:Nat × Ent => [(0, .is (.pointer (some ⟨b, 0, none⟩))), (6, .sat (RsV g true)), (27, .sat (RsV g true)), (28, .is (.int .i64 g.length)), (29, .is (.int .i64 y.1)), (900, .own (zan b (stc S.R.length m (.slice ps (zad S.P).length pc) S.P.length) tyS)), (901, .own (zla m .u64 vcE y.2))])
    (fun y => y.1 ≤ g.length ∧ y.2 = z3e es (g.take y.1)) (fun y => g.length - y.1) (0, es) ⟨Nat.zero_le _, rfl⟩ ⟨rfl, rfl, rfl, rfl, rfl, rfl, rfl, trivial⟩ ?_
   rintro ⟨i, ec⟩ ⟨hi, hec⟩
   dsimp only at hi hec ⊢
   by_cases hlt:i < g.length
   ·obtain ⟨x, hx⟩:=zae hlt
    have hc:=zf6 hx
    have hnx:=zwu (es:=es) hx
    have hwk:IntKind.i64.wrap ((i:Int) + 1) = ((i + 1:Nat):Int):=zaa (by omega) (by omega)
    refine zh ?_;refine Zp ?_;refine Zan ?_;refine Z8 ?_;refine Zao ?_;refine ZcB ?_;refine Zb ?_;refine Zcu ?_;refine ZaH ?_;refine Za ?_;refine zcr (zs2 (q:=901) (vc:=vcE) x mpS kyS rfl rfl rfl rfl rfl) ?_;refine Zaq ?_;refine Zag ?_;refine Zd1 ?_
    exact yi (x:=(i, ec)) (i + 1, zs8 x ec) ⟨hlt, by rw [hnx, hec]⟩ (by dsimp only; omega) ⟨rfl, rfl, rfl, rfl, rfl, rfl, rfl, trivial⟩
   ·obtain rfl:i = g.length:=by omega
    rw [List.take_length] at hec
    subst hec
    refine zh ?_;refine Zp ?_;refine Zbb ?_;refine Zak ?_;refine Zf ?_;refine Zb6 ?_;refine Zb ?_
    refine Zd3 ?_
    refine zbi 900 (StG b ⟨clrL S.R g, S.P⟩).res rfl (fun v H u C hle h => zdc (S:=⟨clrL S.R g, S.P⟩) (hm.dels hgp) hes.dels hps v H u C hle (by dsimp only; rw [zem]; exact h)) ?_
    exact zbp L 900 (r:=StG b ⟨clrL S.R g, S.P⟩) (rs:=[.tmp 4, .tmp 5]) rfl (fun _ _ h => h) hs0 rfl rfl (fun H hle => fun v hv => zen hv)
abbrev z7p (l:List CH) (e:Int):Value → Heap → Prop:=TupS [KS tyC l true, fun v _ => v = .int .i64 e]
set_option maxHeartbeats 4000000 in
set_option maxRecDepth 20000 in
theorem zsp {S:Sto} {b:Nat} {p q:Int} (hI:z5l S) (hn:S.R.length ≠ 0) {w:World} {B:Heap} {C:Nat → Prop} (hB:B.Le (hp w)) (hr:(StG b S).P B w C) (hC:∀ k, C k → k < w.heap.size ∧ B k = none) :
  RetY Tryz.prog 28 [.pointer (some ⟨b, 0, none⟩), .int .u64 p, .int .u64 q] w B C (StG b S) (z7p (zrz S p q).1 (zrz S p q).2):=by
 refine RetY.ex hr fun x hφ hr => ?_
 obtain ⟨m, s, es⟩:=x
 obtain ⟨hm, hes, hps⟩:=hφ
 dsimp only at hm hes hps hr ⊢
 unfold RetY
 refine zau 900 (StO b S.R.length m s S.P.length es) Tryz.func28 rfl Tryz.ntmps28 (Nat.le_of_ble_eq_true rfl) hB hr hC ?_
 have la:=zqm hI p
 have lb:=zqm hI q
 unfold zrz
 obtain ⟨⟨ta, ea⟩, ha⟩:∃ x, atS S p = x:=⟨_, rfl⟩
 obtain ⟨⟨tb, eb⟩, hb⟩:∃ x, atS S q = x:=⟨_, rfl⟩
 rw [ha] at la ⊢
 rw [hb] at lb ⊢
 dsimp only at la lb ⊢
 refine ZaX ?_;refine ZS ?_;refine Zd ?_;refine yo (zaz L 900 (WithP ta ea) (r:=StO b S.R.length m _ S.P.length es) rfl rfl rfl rfl rfl WithP.mono (fun u H2 C2 hH hle hr2 hC2 => by have h:=zf0 (S:=S) (r:=p) hm hn (hes.le hle) hH hr2 hC2; rw [ha] at h; exact h)) ?_;refine zbq 14 rfl fun v1 H1 hs1 hp1 => ?_;obtain ⟨sv, rfl, hsv⟩:=hp1; obtain ⟨f1, p1, f2, p2, rfl, hpl⟩:=hsv.shape; refine ZbM ?_;refine Zj ?_
 by_cases h1:ea = 0
 ·subst h1
  rw [if_pos rfl]
  have hes1:=hes.le hs1.le
  refine ZG ?_;refine Zas ?_;refine ZcS ?_;refine yo (zaz L 900 (WithP tb eb) (r:=StO b S.R.length m _ S.P.length es) rfl rfl rfl rfl rfl WithP.mono (fun u H2 C2 hH hle hr2 hC2 => by have h:=zf0 (S:=S) (r:=q) hm hn (hes1.le hle) hH hr2 hC2; rw [hb] at h; exact h)) ?_;refine zbq 23 rfl fun v2 H2 hs2 hp2 => ?_;obtain ⟨sw, rfl, hsw⟩:=hp2; obtain ⟨f3, p3, f4, p4, rfl, hpl2⟩:=hsw.shape; refine ZbM ?_;refine Zj ?_
  by_cases h2:eb = 0
  ·subst h2
   rw [if_pos rfl]
   refine Z9 ?_;refine Zas ?_;refine Zp ?_;refine ZaO ?_;refine ZaO ?_;refine z7 (yw (φ:=KS tyC (z5v ta tb) true) L rfl rfl (zk rfl) rfl rfl rfl SlV.mono (fun u H3 hH hle _ => zo8 la lb hsv.sst hsw.sst rfl hH (hsv.le (hs2.le.trans hle)) (hsw.le hle))) rfl ?_;refine Zb6 ?_;refine Zb ?_
   exact zbp L 900 (r:=StO b S.R.length m s S.P.length es) (rs:=[.tmp 6, .tmp 7]) rfl (fun _ _ h => h) (hs1.trans hs2) rfl rfl (fun H hle => fun v hv => zen hv)
  ·rw [if_neg h2]
   refine Z9 ?_;refine ZP ?_;refine ZD ?_;refine Zk ?_
   exact zbp L 900 (r:=StO b S.R.length m s S.P.length es) (rs:=[.tmp 6, .tmp 7]) rfl (fun _ _ h => h) (hs1.trans hs2) rfl rfl (fun H hle => zen SlV.nil)
 ·rw [if_neg h1]
  refine ZG ?_;refine ZP ?_;refine Z1 ?_;refine Zk ?_
  exact zbp L 900 (r:=StO b S.R.length m s S.P.length es) (rs:=[.tmp 6, .tmp 7]) rfl (fun _ _ h => h) hs1 rfl rfl (fun H hle => zen SlV.nil)
end Go.V.L10
set_option maxRecDepth 20000
namespace Go.V
open Go.RowKit
def zli {X:Type} (vf:X → Value) (g:X → GR):Res where
 P v H u C:=∃ x, v = vf x ∧ (g x).P H u C
 st:=fun ⟨x, h1, h2⟩ a b c d => ⟨x, h1, (g x).st h2 a b c d⟩
abbrev zxh {X:Type} (vf:X → Value) (g:X → GR) (ty:TypeId):Res:=zli (fun p:Nat × X => .pointer (some ⟨p.1, 0, none⟩)) fun p => zcy (zab p.1 (zav (vf p.2)) ty) (g p.2)
abbrev z5q {V:Type} (kd:IntKind) (vc:V → Value) (l:List (Int × V)):Res:=zli (fun m:Nat => .map (some m)) fun m => z5z m kd vc l
def MapVis {V:Type} (b:Nat) (kd:IntKind) (vc:V → Value) (l:List (Int × V)) (H:Heap):Prop:=∃ es ck, H b = some (.map es ck) ∧ MiE kd vc l es.toList
theorem MapVis.le {V:Type} {b:Nat} {kd:IntKind} {vc:V → Value} {l:List (Int × V)} {H H':Heap} (h:MapVis b kd vc l H) (hle:H.Le H'):MapVis b kd vc l H':=let ⟨es, ck, h1, h2⟩:=h; ⟨es, ck, hle _ _ h1, h2⟩
section
variable {P:Program} {F:Fr} {B:Heap} {O:Boxes} {n:Nat} {ops:Array Oper} {κ:Kap} {d:Nat} {ty:TypeId} {pos:String} {aft:Array Edge} {g:Option (Nat × Bool)} {Q:Exit → Act → World → Prop} {a:Act} {u:World} {os:List Oper}
theorem zod {t:TypeId} {parts:Array (Nat × Operand)} {places:List (Nat × Nat)} {z cs:List Value} {vs:List (Nat × Value)} {a:Act} {u:World} {H:Heap} {fp:Nat → Nat → Prop} (e:Env F B O κ ⟨some d, .build t parts, ty, pos, aft, g⟩ a u H fp)
  (hp:PL P t places z) (hv:evP κ parts.toList = some vs) (hc:zhp places z vs = some cs):(execOp a.eval ⟨some d, .build t parts, ty, pos, aft, g⟩).run P u = .ok (.value (.agg cs.toArray)) u:=by
 have hm:=zng e parts.toList vs (fun p hp' => by simp [Op.operands]; exact ⟨p.1, by simpa using hp'⟩) hv
 obtain ⟨zv, hz1, hz2⟩:=hp.zr
 have hbt:P.built t vs = some cs.toArray:=by
  have hpl:=hp.pl
  unfold plI at hpl
  unfold zrI at hz1
  split at hz1
  ·rename_i it hit
   unfold Program.built
   split at hpl
   ·rename_i fs hu
    simp only [hit, hu, hz1, hpl]
    rw [zbn, hz2]
    exact zc4 (fun i p h => by simpa using h) vs z cs hc
   ·rename_i m el hu
    split at hpl
    ·rename_i ie hie
     simp only [hit, hu, hz1, hie]
     cases hpl
     rw [zbn, hz2]
     exact zc4 (fun i p h => by
      rw [List.getElem?_map] at h
      cases hr:(List.range m)[i]? with
      | none => rw [hr] at h; cases h
      | some j =>
       rw [hr] at h
       have:j = i:=by
        have:=List.getElem?_eq_some_iff.1 hr
        obtain ⟨h1, h2⟩:=this
        simpa using h2.symm
       subst this
       simpa using h) vs z cs hc
    ·cases hpl
   ·cases hpl
  ·cases hz1
 have hr:=run_build (P:=P) u t vs.toArray cs.toArray (by simpa using hbt)
 have harr:(parts.map fun (p:Nat × Operand) => (p.1, a.eval p.2)) = vs.toArray:=by
  rw [← hm, ← List.map_toArray, Array.toArray_toList]
 simp only [execOp, Sem.run_bind]
 show Result.andThen ((Instr.build t (parts.map fun (p:Nat × Operand) => (p.1, a.eval p.2))).run P u) _ = _
 rw [harr, hr]
 rfl
theorem zia {X:Type} {q:Nat} {vf:X → Value} {gg:X → GR} {t:TypeId} {parts:Array (Nat × Operand)} {places:List (Nat × Nat)} {z:List Value} (vs:X → List (Nat × Value)) (cs:X → List Value) (hq:κ q = some (.own (zli vf gg))) (hn:Nat.blt d n = true) (hg:gK ops κ ⟨some d, .build t parts, ty, pos, aft, g⟩ = some true)
  (hne:Nat.beq q d = false) (hp:PL P t places z) (hv:∀ x, evP (upd κ q (.is (vf x))) parts.toList = some (vs x)) (hc:∀ x, zhp places z (vs x) = some (cs x)):StepOK2 P F B n ops O κ ⟨some d, .build t parts, ty, pos, aft, g⟩ q zec d (.own (zli (fun x => .agg (cs x).toArray) gg)):=by
 rintro κ' a u hlk hks ⟨H, fp, hh⟩
 unfold After
 rw [if_pos (zag hh hlk hg)]
 have hk':κ' q = some (.own (zli vf gg)):=hks.trans hq
 obtain ⟨⟨x, hx, hown⟩, hM⟩:=hh.slot q _ hk'
 have e:=(hh.name q).env (κ:=upd κ q (.is (vf x))) (ops:=ops) (o:=⟨some d, .build t parts, ty, pos, aft, g⟩) fun s hs => by
  by_cases h:s = q
  ·subst h; rw [zaf, zaf, hx]
  ·rw [zac _ _ h, zac _ _ h]; exact hlk s hs
 rw [zod e hp (hv x) (hc x)]
 simp only [Upon]
 exact ⟨H, _, hh.usePut (C:=fp q) hk' ⟨Keep.refl _ _, hh.sub, Heap.Le.refl _, fun _ _ _ => rfl⟩ (by simp [Act.put]) rfl (fun t ht => zap ht) (by rw [zar (by rw [hh.size]; exact zk hn)]; exact ⟨x, rfl, hown⟩) fun k hk => ⟨.inl hk, (hM k hk).1, (hM k hk).2.1⟩⟩
theorem zyf {X:Type} {q:Nat} {vf:X → Value} {gg:X → GR} {t:TypeId} (hq:κ q = some (.own (zli vf gg))) (hn:Nat.blt d n = true) (hg:gK ops κ ⟨some d, .box t (.tmp q), ty, pos, aft, g⟩ = some true)
  (hne:Nat.beq q d = false):StepOK2 P F B n ops O κ ⟨some d, .box t (.tmp q), ty, pos, aft, g⟩ q zec d (.own (zxh vf gg t)):=by
 rintro κ' a u hlk hks ⟨H, fp, hh⟩
 unfold After
 rw [if_pos (zag hh hlk hg)]
 have hk':κ' q = some (.own (zli vf gg)):=hks.trans hq
 obtain ⟨⟨x, hx, hown⟩, hM⟩:=hh.slot q _ hk'
 have hrun:(execOp a.eval ⟨some d, .box t (.tmp q), ty, pos, aft, g⟩).run P u = .ok (.value (.pointer (some ⟨u.heap.size, 0, none⟩))) (u.alloc (.cells (zav (vf x)).toArray t)):=by
  simp [execOp, hx, Instr.box, newVar, newRow, zbn]
 rw [hrun]
 simp only [Upon]
 have hgr:Grow (fp q) u H (u.alloc (.cells (zav (vf x)).toArray t)) H:=by
  have h1:=Grow.hid hh.sub (.cells (zav (vf x)).toArray t)
  exact ⟨⟨h1.keep.os, h1.keep.tape, h1.keep.output, h1.keep.size, fun k hk _ => h1.keep.block k hk (fun h => h), h1.keep.dr⟩, h1.sub, h1.le, fun k hk _ => h1.fresh k hk (fun h => h)⟩
 have hsz:u.heap.size < (u.alloc (.cells (zav (vf x)).toArray t)).heap.size:=zai (zao u _)
 refine ⟨H, _, hh.usePut (C:=fun k => k = u.heap.size ∨ fp q k) hk' hgr (by simp [Act.put]) rfl (fun t ht => zap ht) ?_ fun k hk => ?_⟩
 ·rw [zar (by rw [hh.size]; exact zk hn)]
  refine ⟨(u.heap.size, x), rfl, fun k => k = u.heap.size, fp q, ⟨zao _ _, fun _ => Iff.rfl⟩, (gg x).st hown (Heap.Le.refl _) hgr.sub ⟨hgr.keep.os, hgr.keep.tape, hgr.keep.output, hgr.keep.size, hgr.keep.dr⟩ (fun k hk => ?_), fun k => Iff.rfl, fun k h1 h2 => ?_⟩
  ·exact zb0 u _ (hM k hk).1
  ·have:=(hM k h2).1; omega
 ·rcases hk with rfl | hk
  ·exact ⟨.inr (Nat.le_refl _), by omega, zbd hh.sub (Nat.le_refl _)⟩
  ·exact ⟨.inl hk, by have:=(hM k hk).1; omega, (hM k hk).2.1⟩
theorem Has.holdRf {X:Type} {t q:Nat} {vf:X → Value} {gg:X → GR} (hk:κ t = some (.own (zli vf gg))) (h:Has F B O n κ a u):∃ x, Has F B O n (upd (upd (upd κ t zec) q (.own (gg x).res)) t (.is (vf x))) a u:=by
 obtain ⟨H, fp, h⟩:=h
 obtain ⟨⟨x, hv, hx⟩, hM⟩:=h.slot t _ hk
 have h2:=h.usePut (d:=q) (a':=a) (r':=(gg x).res) (C:=fp t) hk ⟨Keep.refl _ _, h.sub, Heap.Le.refl _, fun _ _ _ => rfl⟩ rfl rfl (fun _ _ => rfl) hx fun k hk => ⟨.inl hk, (hM k hk).1, (hM k hk).2.1⟩
 have h3:=h2.name t
 rw [hv] at h3
 exact ⟨x, H, _, h3⟩
theorem zht (t q:Nat) {X:Type} {vf:X → Value} {gg:X → GR} {c:Code} (hk:κ t = some (.own (zli vf gg))) (h:∀ x, V P F B n O (upd (upd (upd κ t zec) q (.own (gg x).res)) t (.is (vf x))) c Q):V P F B n O κ c Q:=fun a u hh => let ⟨x, h'⟩:=hh.holdRf (q:=q) hk; h x a u h'
theorem znw (t q:Nat) {X:Type} {vf:X → Value} {gg:X → GR} (hk:κ t = some (.own (zli vf gg))) (h:∀ x, VO P F B n O ops (upd (upd (upd κ t zec) q (.own (gg x).res)) t (.is (vf x))) os Q):VO P F B n O ops κ os Q:=fun a u hh => let ⟨x, h'⟩:=hh.holdRf (q:=q) hk; h x a u h'
theorem Has.packRf {X:Type} {t q:Nat} {vf:X → Value} {gg:X → GR} (x:X) (hk:κ q = some (.own (gg x).res)) (ht:κ t = some (.is (vf x))) (h:Has F B O n κ a u):Has F B O n (upd (upd κ q zec) t (.own (zli vf gg))) a u:=by
 obtain ⟨H, fp, h⟩:=h
 obtain ⟨hx, hM⟩:=h.slot q _ hk
 have hv:a.eval (.tmp t) = vf x:=h.slot t _ ht
 exact ⟨H, _, h.usePut (d:=t) (a':=a) (r':=zli vf gg) (C:=fp q) hk ⟨Keep.refl _ _, h.sub, Heap.Le.refl _, fun _ _ _ => rfl⟩ rfl rfl (fun _ _ => rfl) ⟨x, hv, hx⟩ fun k hk => ⟨.inl hk, (hM k hk).1, (hM k hk).2.1⟩⟩
theorem zsc (t q:Nat) {X:Type} (vf:X → Value) (gg:X → GR) {c:Code} (x:X) (hk:κ q = some (.own (gg x).res)) (ht:κ t = some (.is (vf x))) (h:V P F B n O (upd (upd κ q zec) t (.own (zli vf gg))) c Q):V P F B n O κ c Q:=fun a u hh => h a u (hh.packRf x hk ht)
theorem z20 (L:Tabs P) {fn:Func} {B0:Heap} (gs:Nat) {r0:GR} {r:Res} {rs:List ResultVar} {v:Value} (hrs:fn.results = rs.toArray)
  (hQ:∀ a u, bodyPostM Fence.wide 0 P fn (zfs F.w0 B0 F.L (z5n F.w0 r)) .ret a u → Q .ret a u) (hs:Since F B0 B) (hk:κ gs = some (.own r0.res))
  (h:∀ H, zpj L F B O κ H rs [] (fun vs => tup vs = v)) (hr:∀ H u C, B.Le H → H.Le (hp u) → r0.P H u C → r.P v H u C) (hL:F.L = noL:=by rfl) (hd:F.ds = []:=by rfl):V P F B n O κ .ret Q:=fun a u hh => by
 obtain ⟨H, fp, hH⟩:=hh
 refine wpIn_ret (hQ a u ?_)
 have h0:=hH.defers
 rw [hd] at h0
 show LeavesInM _ _ _ _ _ _ a.defers _ _
 rw [h0]
 obtain ⟨vs, h1, h2⟩:=zb7 L hH hrs (h H)
 obtain ⟨hown, hM⟩:=hH.slot gs _ hk
 refine ⟨_, h1, _, rfl, H, ⟨hH.keep, hH.sub, hs.le.trans hH.base, fun k hk hl => (hH.fresh k hk hl).trans (hs.fresh k hk hl)⟩, fp gs, ?_, fun k hk => ?_⟩
 ·rw [h2]
  exact hr H u (fp gs) hH.base hH.sub hown
 ·obtain ⟨g1, g2, g3, _⟩:=hM k hk
  refine ⟨?_, g1, g2⟩
  rcases g3 with g3 | g3
  ·exact g3
  ·have g3':F.L k:=g3
   rw [hL] at g3'; exact g3'.elim
theorem StepOK.turn {o:Oper} {r r':Res} (h:StepOK P F B n ops O κ o d (.own r)) (hr:∀ v H u C, B.Le H → r.P v H u C → r'.P v H u C):StepOK P F B n ops O κ o d (.own r') :=
 fun κ' a u hl hh => After.mono (fun a' u' h2 => by have:=h2.turnO (t:=d) (r':=r') (zaf ..) hr; rwa [zbf] at this) (h κ' a u hl hh)
theorem zyq {V:Type} {kd:IntKind} {vc:V → Value} {l:List (Int × V)}:∀ v H u C, B.Le H → (zty kd vc l).P v H u C → (z5q kd vc l).P v H u C:=fun _ _ _ _ _ ⟨b, h1, h2, h3⟩ => ⟨b, h1, h2, h3⟩
theorem StepOK2.turn {o:Oper} {q:Nat} {k1:Kn} {r r':Res} (h:StepOK2 P F B n ops O κ o q k1 d (.own r)) (hr:∀ v H u C, B.Le H → r.P v H u C → r'.P v H u C):StepOK2 P F B n ops O κ o q k1 d (.own r') :=
 fun κ' a u hl hq hh => After.mono (fun a' u' h2 => by have:=h2.turnO (t:=d) (r':=r') (zaf ..) hr; rwa [zbf] at this) (h κ' a u hl hq hh)
abbrev z66 (s m:Nat) (xs:List Value):Type:={p:Nat × Nat × List Value // m ≤ p.2.1 ∧ p.2.1 ≤ maxLen ∧ (xs ++ p.2.2).length = p.2.1 * s}
abbrev z77 (e:TypeId) (s m:Nat) (xs:List Value):Res:=zli (fun p:z66 s m xs => .slice (some ⟨p.1.1, 0, none⟩) m p.1.2.1) fun p => zab p.1.1 (xs ++ p.1.2.2) e
theorem z0c {e:TypeId} {s m:Nat} {xs:List Value} (hm:m ≠ 0):∀ v H u C, B.Le H → (SlR e s m xs).P v H u C → (z77 e s m xs).P v H u C:=fun _ _ _ _ _ ⟨_, h⟩ => by
 rcases h with ⟨h0, _⟩ | ⟨b, cap, rest, h1, h2, h3, h4, h5, h6⟩
 ·exact absurd h0 hm
 ·exact ⟨⟨(b, cap, rest), h3, h4, h5⟩, h1, h2, h6⟩
theorem zly (L:Tabs P) {X:Type} {t t':TypeId} {s q:Nat} {ag:Bool} {z:Nat} {cs:List Value} {vf:X → Value} {gg:X → GR} (hq:κ q = some (.own (zli vf gg))) (hf:∀ x, (zav (vf x)).length = z ∧ (zav (vf x)).all zbs = true)
  (hg:gK ops κ ⟨none, .store t (.tmp s) (.tmp q), ty, pos, aft, g⟩ = some true) (hk:κ s = some (.own (Cell cs t'))) (hl:L.ld t = some (ag, z)) (hcs:cs.length = z) (hne:Nat.beq q s = false) :
  StepOK2 P F B n ops O κ ⟨none, .store t (.tmp s) (.tmp q), ty, pos, aft, g⟩ q zec s (.own (zxh vf gg t')):=by
 have hne':q ≠ s:=Nat.ne_of_beq_eq_false hne
 rintro κ' a u hlk hks ⟨H, fp, hh⟩
 unfold After
 rw [if_pos (zag hh hlk hg)]
 have hkq:κ' q = some (.own (zli vf gg)):=hks.trans hq
 have hkss:κ' s = some (.own (Cell cs t')):=(hlk s (zdv (by simp [Op.operands]))).trans hk
 obtain ⟨⟨x, hx, hown⟩, hMq⟩:=hh.slot q _ hkq
 have h0:=hh.usePut (d:=q) (a':=a) (r':=(gg x).res) (C:=fp q) hkq ⟨Keep.refl _ _, hh.sub, Heap.Le.refl _, fun _ _ _ => rfl⟩ rfl rfl (fun _ _ => rfl) hown fun k hk => ⟨.inl hk, (hMq k hk).1, (hMq k hk).2.1⟩
 rw [zbf] at h0
 have hks0:upd κ' q (.own (gg x).res) s = some (.own (Cell cs t')):=by rw [zac _ _ (Ne.symm hne')]; exact hkss
 obtain ⟨⟨b, hes, hb, hC⟩, hM⟩:=h0.slot s _ hks0
 have hrun:(execOp a.eval ⟨none, .store t (.tmp s) (.tmp q), ty, pos, aft, g⟩).run P u = .ok .skip (u.setRow b (zav (vf x)).toArray):=by
  simp only [execOp, hes, hx, Instr.storeAt, Instr.sureAddr, Sem.run_bind, Sem.run_pure, Result.andThen_ok]
  have:=zb4 (P:=P) (off:=0) (v:=vf x) (Tabs.ld_spec hl) hb (hf x).1 (by omega) (hf x).2
  rw [this, List.drop_of_length_le (by omega)]
  simp
 rw [hrun]
 simp only [Upon, Act.put]
 have hset:=setRow_heap u b cs.toArray (zav (vf x)).toArray t' (0, 0) hb
 have hbm:=hM b ((hC b).2 rfl)
 have h1:=h0.usePut (d:=s) (a':=a) (r':=Cell (zav (vf x)) t') (C:=fun k => k = b) hks0 (zbu h0.sub hb ((hC b).2 rfl) hbm.2.1 _) rfl rfl (fun _ _ => rfl) ⟨b, hes, hset, fun _ => Iff.rfl⟩ (fun k hk => by
  subst hk; exact ⟨.inl ((hC k).2 rfl), by rw [setRow_size]; exact hbm.1, hbm.2.1⟩)
 rw [zbf] at h1
 have h2:Has F B O n _ a _:=⟨H, _, h1⟩
 have h3:=h2.join2 (q:=s) (g1:=q) (r1:=Cell (zav (vf x)) t') (r2:=(gg x).res) (Ne.symm hne') (za4 _) (zaf ..) (by rw [zac _ _ hne', zaf])
 have h4:=h3.turnO (t:=s) (r:=zg9 (Cell (zav (vf x)) t') (gg x).res) (r':=zxh vf gg t') (zaf ..) fun v H u C _ ⟨C1, C2, ⟨b, g1, g2, g3⟩, g4, g5, g6⟩ => ⟨(b, x), g1, C1, C2, ⟨g2, g3⟩, g4, g5, g6⟩
 have he:upd (upd (upd (upd (upd κ' q (.own (gg x).res)) s (.own (Cell (zav (vf x)) t'))) q zec) s (.own (zg9 (Cell (zav (vf x)) t') (gg x).res))) s (.own (zxh vf gg t')) = upd (upd κ' q zec) s (.own (zxh vf gg t')):=by
  funext k
  by_cases h5:k = s
  ·subst h5; rw [zaf, zaf]
  ·rw [zac _ _ h5, zac _ _ h5, zac _ _ h5]
   by_cases h6:k = q
   ·subst h6; rw [zaf, zaf]
   ·rw [zac _ _ h6, zac _ _ h5, zac _ _ h6, zac _ _ h6]
 rw [he] at h4
 exact h4
variable {Y:Type} {kd:IntKind} {vc:Y → Value} {l:List (Int × Y)}
theorem zp1 (kd:IntKind) (vc:Y → Value) {t kt et:TypeId} {x:Operand} {k:IntKind} {c:Int} (hn:Nat.blt d n = true) (ht:P.underlying t = some (.map kt et)) (hx:evK κ x = some (.int k c)) (hg:gK ops κ ⟨some d, .makeMap t (some x), ty, pos, aft, g⟩ = some true) :
  StepOK P F B n ops O κ ⟨some d, .makeMap t (some x), ty, pos, aft, g⟩ d (.own (z5q kd vc [])):=by
 refine StepOK.turn (r:=zty kd vc []) ?_ zyq
 rintro κ' a u hl ⟨H, fp, hh⟩
 have hn:d < n:=by simpa using hn
 unfold After
 rw [if_pos (zag hh hl hg)]
 have e:=hh.env hl
 have h1:=e.is_ x _ (by simp [Op.operands]) hx
 have hrun:(execOp a.eval ⟨some d, .makeMap t (some x), ty, pos, aft, g⟩).run P u = .ok (.value (.map (some u.heap.size))) (u.alloc (.map #[] 0)):=by
  simp [execOp, Instr.makeMap, h1, asInt, asIntOf, run_underlying ht, Sem.run_bind]
 rw [hrun]
 simp only [Upon]
 have hg2:=hh.grow (Grow.hid hh.sub (.map #[] 0))
 refine ⟨H, _, hg2.putR (C:=fun k => k = u.heap.size) (by simp [Act.put]) rfl (fun t ht => zap ht) ⟨u.heap.size, zar (by rw [hh.size]; exact hn), ⟨_, _, zao _ _, rfl, zw8⟩, fun _ => Iff.rfl⟩ (fun k hk => ?_) fun t r' _ ht k hf hk => ?_⟩
 ·subst hk
  exact ⟨zai (zao u _), zbd hh.sub (Nat.le_refl _), .inl hh.keep.size, fun y hy e => by have:=zai (hh.boxes y hy).1; omega⟩
 ·have:=((hh.slot t _ ht).2 k hf).1
  omega
theorem zkn {x y:Operand} {b:Nat} {t kt et:TypeId} (k:Int) {r z:Value} (ht:P.underlying t = some (.map kt et)) (hkt:P.underlying kt = some (.int kd)) (hz:∀ w, (zeroValue et).run P w = .ok z w)
  (hv:MapVis b kd vc l B) (hx:evK κ x = some (.map (some b))) (hy:evK κ y = some (.int kd k)) (hn:Nat.blt d n = true) (hg:gK ops κ ⟨some d, .lookup t x y false, ty, pos, aft, g⟩ = some true)
  (hr:(zdi k l).elim z vc = r) :
  StepOK P F B n ops O κ ⟨some d, .lookup t x y false, ty, pos, aft, g⟩ d (.is r) :=
 zaw rfl (zk hn) hg trivial fun a u H fp e => by
  have h1:=e.is_ x _ (by simp [Op.operands]) hx
  have h2:=e.is_ y _ (by simp [Op.operands]) hy
  obtain ⟨es, ck, hb, he⟩:=hv
  refine ⟨(zdi k l).elim z vc, ?_, hr⟩
  simp only [execOp, h1, h2, Sem.run_bind, zpv ht hkt (e.sub _ _ (e.base _ _ hb)) he k (hz u), Result.andThen_ok]
  rfl
end
end Go.V
set_option maxRecDepth 20000
namespace Go.V.L10
open Go.Proofs Go.RowKit Go.V Go.V.L2 Go.V.L8 Go.V.L6
abbrev zdh (b:Nat):Value:=.pointer (some ⟨b, 0, none⟩)
abbrev z65 (S:Sto):Res:=zli zdh fun b => StG b S
theorem zv4 {Y:Type}:MapOK ([]:List (Int × (List U × Y))) []:=⟨List.nodup_nil, fun r => by
 cases h:kpt ([]:List (Option (List U))) r with
 | none => rfl
 | some t => have:=zdz (R:=[]) (r:=r) (by rw [h]; rfl); simp at this; omega⟩
theorem zv5:MapOK [((1:Int), (([]:List U), nilSet))] newS.R:=by
 have h:=(zv4 (Y:=Value)).add [] nilSet
 have h2:=h.1
 rw [h.2] at h2
 exact h2
theorem zyn {Y:Type} {k:Int} {y:Y} {l:List (Int × Y)} (h:k ∉ l.map Prod.fst):zp7 k y l = l ++ [(k, y)]:=by
 refine zhf (i:=0) ?_
 have h1:¬ (zdi k l).isSome = true:=fun hs => h (zej.1 hs)
 unfold zdi at h1
 cases hm:zdy k l 0 with
 | none => rfl
 | some q => rw [hm] at h1; exact absurd rfl h1
attribute [local irreducible] V N X VO Par StepOK Has Ret RetL RetO RetT zcd zd2 RetY Src
set_option maxHeartbeats 2000000 in
set_option maxRecDepth 20000 in
theorem zq0 {w:World} {B:Heap} (hB:B.Le (hp w)):RetO Tryz.prog 18 [] w B (z65 newS):=by
 refine zea Tryz.func18 rfl Tryz.ntmps18 (Nat.le_of_ble_eq_true rfl) hB ?_
 refine ZaD ?_;refine z7 (zp2 (hint:=none) .u64 vcE rfl rfl) rfl ?_;refine zt4 1 901 rfl fun m => ?_;refine Ze6 ?_;refine zcr (zsy (q:=901) (vc:=vcE) 1 ([], nilSet) mpS kyS rfl rfl rfl rfl rfl rfl rfl) ?_;refine Za ?_;refine z7 (yx (cs:=[_, _, _, _]) rfl rfl z7e rfl rfl) rfl ?_;refine ZfM ?_;refine qp (yq (.inr rfl) rfl rfl rfl rfl) ?_;refine Z6 ?_
 refine zpi 0 900 rfl fun b => ?_
 refine zb8 900 901 rfl rfl (za4 (z5z m .u64 vcE [((1:Int), (([]:List U), nilSet))])) ?_
 refine zbi 900 (StG b newS).res rfl (fun v H u C hle h => zdc (S:=newS) (s:=.slice none 0 0) (m:=m) (B:=B) zv5 (fun e he => by rw [List.mem_singleton.1 he]; exact SetV.nil) SlV.nil v H u C hle h) ?_
 refine zsc 0 900 zdh (fun b => StG b newS) b rfl rfl ?_
 exact ziz rfl (fun _ _ h => h) Since.refl rfl
end Go.V.L10
set_option maxRecDepth 20000
namespace Go.V.L10
open Go.Proofs Go.RowKit Go.V Go.V.L2 Go.V.L8 Go.V.L6
theorem _root_.Go.V.Zgc {A B:Prop} (h:B) (t:Wr B → A:=by intro h; refine Zcd ?_;refine yo (qq L (q:=902) rfl rfl rfl rfl rfl rfl) ?_;exact h.h):A:=t ⟨h⟩
abbrev SB:=List U × (Value × Option Addr × Value × Option Addr)
abbrev sbv (b:SB):Value:=.agg #[b.2.1, .pointer b.2.2.1, b.2.2.2.1, .pointer b.2.2.2.2]
def sbc (b:SB):List Value:=[b.2.1, .pointer b.2.2.1, b.2.2.2.1, .pointer b.2.2.2.2]
theorem z1m (b:SB):(sbc b).length = 4:=rfl
abbrev z76 (z:Int × SB):Int × (List U × Value):=(z.1, (z.2.1, sbv z.2))
def zsE (zs:List (Int × SB)):Ent:=zs.map z76
def SbOK (bs:List SB) (H:Heap):Prop:=∀ b ∈ bs, SetV b.1 (sbv b) H
theorem SbOK.le {bs:List SB} {H H':Heap} (h:SbOK bs H) (hle:H.Le H'):SbOK bs H':=fun b hb => (h b hb).le hle
theorem SbOK.mem_plain {bs:List SB} {H:Heap} (h:SbOK bs H) (b:SB) (hb:b ∈ bs):(sbc b).all zbs = true:=by
 obtain ⟨f1, p1, f2, p2, hv, hp⟩:=(h b hb).shape
 unfold sbv at hv
 cases hv
 exact hp
abbrev SsV (bs:List SB) (fu:Bool):Value → Heap → Prop:=SlV zxi 4 (bs.flatMap sbc) bs.length fu
theorem z56 {bs:List SB} {i:Nat} {b:SB} (h:bs[i]? = some b):((bs.flatMap sbc).drop (i * 4)).take 4 = [b.2.1, .pointer b.2.2.1, b.2.2.2.1, .pointer b.2.2.2.2]:=zc8 z1m bs i b h
def zmf (rs:List Int):Prop:=(0 :: rs).Pairwise (· < ·)
instance (rs:List Int):Decidable (zmf rs):=inferInstanceAs (Decidable ((0 :: rs).Pairwise (· < ·)))
theorem zr6 {rs:List Int} (h:zmf rs) {i:Nat} {x:Int} (hx:rs[i]? = some x):zce rs i < x:=by
 have h2:=List.pairwise_cons.1 h
 cases i with
 | zero => exact h2.1 x (List.mem_of_getElem? hx)
 | succ i =>
  obtain ⟨y, hy⟩:=zae (show i < rs.length by have:=get_lt hx; omega)
  rw [zdo hy]
  have h3:=List.pairwise_iff_getElem.1 h2.2 i (i + 1) (get_lt hy) (get_lt hx) (Nat.lt_succ_self i)
  rwa [zdg hy, zdg hx] at h3
theorem zr5 {rs:List Int} {i:Nat} {x:Int} (h:zmf (rs.take i)) (hle:∀ a ∈ 0 :: rs.take i, a ≤ zce rs i) (hx:rs[i]? = some x) (hlt:zce rs i < x):zmf (rs.take (i + 1)) ∧ ∀ a ∈ 0 :: rs.take (i + 1), a ≤ zce rs (i + 1):=by
 rw [za3 hx, zdo hx]
 constructor
 ·unfold zmf at h ⊢
  rw [← List.cons_append, List.pairwise_append]
  refine ⟨h, List.pairwise_singleton _ _, fun a ha b hb => ?_⟩
  rw [List.mem_singleton.1 hb]
  have:=hle a ha
  omega
 ·intro a ha
  rw [← List.cons_append, List.mem_append, List.mem_singleton] at ha
  rcases ha with ha | rfl
  ·have:=hle a ha; omega
  ·omega
def mkE (rs L0:List Int):Int:=if rs.length = 0 then 1 else if 1024 < rs.length then 3 else if zmf rs then (if ∀ h ∈ zam L0, h ∈ rs then 0 else 14) else 18
def MkR (e:Int) (S:Sto):Res where
 P v H u C:=(e = 0 ∧ ∃ b, v = .tuple #[zdh b, .int .i64 0] ∧ (StG b S).P H u C) ∨ (e ≠ 0 ∧ v = .tuple #[.pointer none, .int .i64 e] ∧ ∀ k, ¬ C k)
 st:=fun h a b c d => h.imp (fun ⟨h1, x, h2, h3⟩ => ⟨h1, x, h2, (StG x S).st h3 a b c d⟩) id
theorem z0m {f:FuncId} {args:List Value} {w:World} {B:Heap} {S:Sto} (h:RetO Tryz.prog f args w B (MkR 0 S)):RetO Tryz.prog f args w B (zli (fun b => .tuple #[zdh b, .int .i64 0]) fun b => StG b S) :=
 RetL.mono h fun _ _ _ _ ⟨C, h1, h2⟩ => ⟨C, h1.elim (fun ⟨_, b, hb, hs⟩ => ⟨b, hb, hs⟩) fun h => absurd rfl h.1, h2⟩
theorem z18 {f:FuncId} {args:List Value} {w:World} {B:Heap} {e:Int} {S:Sto} (he:e ≠ 0) (h:RetO Tryz.prog f args w B (MkR e S)):Ret Tryz.prog f args w B fun v _ => v = .tuple #[.pointer none, .int .i64 e] :=
 RetL.mono h fun _ _ _ _ ⟨_, h1, _⟩ => h1.elim (fun h => absurd h.1 he) fun h => h.2.1
attribute [local irreducible] V N X VO Par StepOK Has Ret RetL RetO RetT zcd zd2 RetY Src
theorem zso {rs:List Int} {bs:List SB} {fr fb:Bool} (hne:rs.length ≠ bs.length) (hr0:rs.length ≠ 0) {v1 v2 s:Value} {t:Nat} (hs:∃ p k c, s = .slice p k c) {w:World} {B:Heap} (hB:B.Le (hp w)) (h1:RsV rs fr v1 B) (h2:SsV bs fb v2 B) :
  Ret Tryz.prog 41 [v1, v2, pnv s t] w B fun v _ => v = .tuple #[.pointer none, .int .i64 1]:=by
 obtain ⟨p, k, c, rfl⟩:=hs
 refine yf Tryz.func41 rfl Tryz.ntmps41 (Nat.le_of_ble_eq_true rfl) hB ?_
 refine zat 0 (RsV rs fr) rfl SlV.mono h1 ?_
 refine zat 1 (SsV bs fb) rfl SlV.mono h2 ?_
 refine ZY ?_;refine Zav ?_;refine Zfw ?_;refine Zq ?_;refine ZH ?_;refine ZaN ?_;refine Zq ?_;refine ZcA ?_;refine Zg ?_;refine Zbr ?_;refine Zy ?_;refine Zk ?_
 refine ye L (rs:=[.tmp 6, .tmp 7]) rfl (fun _ _ h => h) Since.refl fun u H hH hle => ?_
 rfl
set_option maxHeartbeats 4000000 in
set_option maxRecDepth 20000 in
theorem zj2 {zs:List (Int × SB)} {L0:List Int} {S:Sto} {e:Int} {fr fb:Bool} (he:mkE (zs.map (·.1)) L0 = e) (hS:e = 0 → MapOK (zsE zs) S.R ∧ (S.R.length:Int) = zce (zs.map (·.1)) zs.length ∧ S.P = L0) (hz:L0.length ≤ 100000) (hZ:zs.length ≤ 100000)
  {v1 v2 s:Value} {w:World} {B:Heap} (hB:B.Le (hp w)) (h1:RsV (zs.map (·.1)) fr v1 B) (h2:SsV (zs.map (·.2)) fb v2 B) (hb:SbOK (zs.map (·.2)) B) (hv:PsV (zad L0) s B) :
  RetO Tryz.prog 41 [v1, v2, pnv s L0.length] w B (MkR e S):=by
 obtain ⟨ps, pc, rfl⟩:=zaq hv
 obtain ⟨rs, hrs⟩:∃ rs, rs = zs.map (·.1):=⟨_, rfl⟩
 obtain ⟨bs, hbs⟩:∃ bs, bs = zs.map (·.2):=⟨_, rfl⟩
 have lr:rs.length = zs.length:=by rw [hrs, List.length_map]
 have lb:bs.length = zs.length:=by rw [hbs, List.length_map]
 rw [← hrs] at he hS h1
 rw [← hbs] at h2 hb
 unfold mkE at he
 refine zea Tryz.func41 rfl Tryz.ntmps41 (Nat.le_of_ble_eq_true rfl) hB ?_
 refine zat 0 (RsV rs fr) rfl SlV.mono h1 ?_
 refine zat 1 (SsV bs fb) rfl SlV.mono h2 ?_
 by_cases h0:rs.length = 0
 ·rw [if_pos h0] at he
  refine ZY ?_;refine Zav ?_;refine Zfw ?_;refine Zq ?_;refine Z3 ?_;refine ZfF ?_;refine Zc8 ?_;refine Zbr ?_;refine Zy ?_;refine Zk ?_
  exact znn L (rs:=[.tmp 6, .tmp 7]) rfl (fun _ _ h => h) Since.refl (fun _ => rfl) (fun H u _ => .inr ⟨by omega, by rw [← he]; rfl, fun _ h => h⟩)
 ·rw [if_neg h0] at he
  by_cases hk:1024 < rs.length
  ·rw [if_pos hk] at he
   refine ZY ?_;refine Zav ?_;refine Zfw ?_;refine Zq ?_;refine ZH ?_;refine ZaN ?_;refine Zq ?_;refine ZK ?_;refine Zg ?_;refine Zbq ?_;refine Zt ?_;refine Zq ?_;refine ZC ?_;refine Zbr ?_;refine ZV ?_;refine Zk ?_
   exact znn L (rs:=[.tmp 6, .tmp 7]) rfl (fun _ _ h => h) Since.refl (fun _ => rfl) (fun H u _ => .inr ⟨by omega, by rw [← he]; rfl, fun _ h => h⟩)
  ·rw [if_neg hk] at he
   refine ZY ?_;refine Zav ?_;refine Zfw ?_;refine Zq ?_;refine ZH ?_;refine ZaN ?_;refine Zq ?_;refine ZK ?_;refine Zg ?_;refine Zbq ?_;refine Zt ?_;refine Zq ?_;refine Z7 ?_;refine Zff ?_;refine ZbF ?_;refine zh ?_
   refine qg (id:=5) [(34, [32]), (35, [34]), (8, [35])] mixed (by kernel_rfl) ?_;refine ZdO ?_;refine z8 (zp1 .u64 vcE rfl mpS rfl rfl) rfl ?_;refine ZbS ?_;refine za2 (zia (q:=32) (fun k => [(0, .int .u64 0), (1, .map (some k)), (2, .agg #[.slice ps (zad L0).length pc, .int .i64 L0.length])]) (fun k => stc 0 k (.slice ps (zad L0).length pc) L0.length) rfl rfl rfl rfl z7e (fun _ => rfl) (fun _ => rfl)) rfl rfl ?_;refine za2 (zyf rfl rfl rfl rfl) rfl rfl ?_;refine za2 (yq (.inr rfl) rfl rfl rfl rfl) rfl rfl ?_;refine Zaj ?_;refine Zc ?_
   refine zht 8 902 rfl fun x => ?_
   obtain ⟨b2, m2⟩:=x
   rw [zhj]
   refine zhr 902 903 rfl (za4 _) ?_
   refine Zz ?_;refine ZcD ?_
   have lz:(zsE zs).length = rs.length:=by unfold zsE; rw [List.length_map, lr]
   refine zal (fun y:Nat => [(1, .sat (SsV bs fb)), (5, .sat (At [.slice ps (zad L0).length pc, .int .i64 L0.length] 74 0)), (8, .is (zdh b2)), (36, .sat (RsV rs fr)), (37, .is (.int .i64 rs.length)), (38, .is (.int .i64 y)), (902, .own (zan b2 [.int .u64 (zce rs y), .map (some m2), .slice ps (zad L0).length pc, .int .i64 L0.length] tyS)), (903, .own (zla m2 .u64 vcE ((zsE zs).take y)))])
    (fun y => y ≤ rs.length ∧ zmf (rs.take y) ∧ ∀ a ∈ 0 :: rs.take y, a ≤ zce rs y) (fun y => rs.length - y) 0 ⟨Nat.zero_le _, List.pairwise_singleton _ _, fun a ha => by rw [List.take_zero, List.mem_singleton] at ha; subst ha; exact Int.le_refl _⟩ ⟨rfl, rfl, rfl, rfl, rfl, rfl, rfl, rfl, trivial⟩ ?_
   rintro i ⟨hi, hA, hmx⟩
   dsimp only at hi hA hmx ⊢
   by_cases hlt:i < rs.length
   ·obtain ⟨z, hzi⟩:=zae (show i < zs.length by omega)
    obtain ⟨x, c0⟩:=z
    have hx:rs[i]? = some x:=by rw [hrs, List.getElem?_map, hzi]; rfl
    have hbi:bs[i]? = some c0:=by rw [hbs, List.getElem?_map, hzi]; rfl
    have hei:(zsE zs)[i]? = some (x, (c0.1, sbv c0)):=by unfold zsE; rw [List.getElem?_map, hzi]; rfl
    obtain ⟨t0, f1, p1, f2, p2⟩:=c0
    have hc:=zf6 hx
    have hcb:=z56 hbi
    have hwk:IntKind.i64.wrap ((i:Int) + 1) = ((i + 1:Nat):Int):=zaa (by omega) (by omega)
    by_cases hle:x ≤ zce rs i
    ·have hnA:¬ zmf rs:=fun h => by have:=zr6 h hx; omega
     rw [if_neg hnA] at he
     refine zh ?_;refine Zp ?_;refine Zan ?_;refine Z8 ?_;refine Zb7 ?_;refine ZcB ?_;refine ZaW ?_;refine Zdy ?_;refine Zgc ?_;refine Zb2 ?_;refine Z0 ?_;refine Zag ?_;refine Zk ?_
     exact znn L (rs:=[.tmp 6, .tmp 7]) rfl (fun _ _ h => h) Since.refl (fun _ => rfl) (fun H u _ => .inr ⟨by omega, by rw [← he]; rfl, fun _ h => h⟩)
    ·have hsn:=zr5 hA hmx hx (by omega)
     have hnk:x ∉ ((zsE zs).take i).map Prod.fst:=fun hm2 => by
      have h3:((zsE zs).take i).map Prod.fst = rs.take i:=by rw [List.map_take]; unfold zsE; rw [List.map_map, hrs]; rfl
      rw [h3] at hm2
      have:=hmx x (List.mem_cons_of_mem _ hm2)
      omega
     have hput:=zyn (y:=(t0, sbv (t0, f1, p1, f2, p2))) hnk
     rw [← za3 hei] at hput
     have hls:=zdo hx
     refine zh ?_;refine Zp ?_;refine Zan ?_;refine Z8 ?_;refine Zb7 ?_;refine ZcB ?_;refine ZaW ?_;refine Zdy ?_;refine Zgc ?_;refine Zbp ?_;refine Zx ?_;refine Zak ?_;refine Zd ?_;refine Zcd ?_;refine zcr (yz L (q:=902) (cs':=[.int .u64 x, .map (some m2), .slice ps (zad L0).length pc, .int .i64 L0.length]) rfl rfl rfl rfl rfl rfl rfl rfl rfl) ?_;refine Z6 ?_
     refine qg (id:=12) [(200056, [902]), (100056, [903])] mixed (by kernel_rfl) ?_;refine Zfe ?_;refine qn (qq L (q:=902) rfl rfl rfl rfl rfl rfl) rfl rfl ?_;refine Zh ?_;refine Zf2 ?_;refine z8 (yh L (vs:=[_, _, _, _]) rfl rfl rfl rfl rfl ⟨_, rfl⟩) rfl ?_;refine zah (zlz (q:=903) (vc:=vcE) x (t0, sbv (t0, f1, p1, f2, p2)) mpS kyS rfl rfl rfl rfl rfl rfl hput) rfl ?_;refine Zba ?_;refine Zcr ?_;refine Zd1 ?_
     exact yi (x:=i) (i + 1) ⟨hlt, hsn.1, hsn.2⟩ (by omega) ⟨rfl, rfl, rfl, rfl, rfl, rfl, by rw [hls]; rfl, rfl, trivial⟩
   ·obtain rfl:i = rs.length:=by omega
    rw [List.take_length] at hA hmx
    rw [if_pos hA] at he
    rw [show (zsE zs).take rs.length = zsE zs by rw [← lz, List.take_length]]
    have hfs:(zsE zs).map Prod.fst = rs:=by unfold zsE; rw [List.map_map, hrs]; rfl
    have hhl:=zbj L0
    refine zh ?_;refine Zp ?_;refine Zgj ?_;refine Zc ?_;refine Zaw ?_;refine Zcj ?_;refine z7 (yw (φ:=RsV (zam L0) true) L rfl rfl (zk rfl) rfl rfl rfl SlV.mono (fun u H2 hH hle _ => znd hz hH (hv.le hle))) rfl ?_;refine ZcX ?_;refine ZeE ?_
    refine zal (fun y:Nat => [(8, .is (zdh b2)), (64, .sat (RsV (zam L0) true)), (65, .is (.int .i64 (zam L0).length)), (66, .is (.int .i64 y)), (902, .own (zan b2 [.int .u64 (zce rs rs.length), .map (some m2), .slice ps (zad L0).length pc, .int .i64 L0.length] tyS)), (903, .own (zla m2 .u64 vcE (zsE zs)))])
     (fun y => y ≤ (zam L0).length ∧ ∀ h ∈ (zam L0).take y, h ∈ rs) (fun y => (zam L0).length - y) 0 ⟨Nat.zero_le _, fun h hh => by rw [List.take_zero] at hh; cases hh⟩ ⟨rfl, rfl, rfl, rfl, rfl, rfl, trivial⟩ ?_
    rintro j ⟨hj, hin⟩
    dsimp only at hj hin ⊢
    by_cases hlt2:j < (zam L0).length
    ·obtain ⟨h, hh⟩:=zae hlt2
     have hc:=zf6 hh
     have hwk:IntKind.i64.wrap ((j:Int) + 1) = ((j + 1:Nat):Int):=zaa (by omega) (by omega)
     cases hgk:zdi h (zsE zs) with
     | none =>
      have hni:h ∉ rs:=fun hm2 => by rw [← hfs, ← zej, hgk] at hm2; cases hm2
      rw [if_neg (fun hall => hni (hall h (List.mem_of_getElem? hh)))] at he
      have q1:(zdi h (zsE zs)).elim nilSet vcE = nilSet:=by rw [hgk]; rfl
      have q2:(zdi h (zsE zs)).isSome = false:=by rw [hgk]; rfl
      refine zh ?_;refine Za9 ?_;refine Zan ?_;refine Zap ?_;refine Zao ?_;refine ZcB ?_;refine Ze ?_;refine Zca ?_;refine Za ?_;refine Zgc ?_;refine Za ?_;refine yo (zc6 (q:=903) (vc:=vcE) h mpS kyS zrS rfl rfl rfl rfl rfl q1 q2) ?_;refine Zaz ?_;refine ZX ?_;refine Ze ?_;refine Zbt ?_;refine Zs ?_;refine Z0 ?_;refine ZbA ?_;refine Zk ?_
      exact znn L (rs:=[.tmp 6, .tmp 7]) rfl (fun _ _ h => h) Since.refl (fun _ => rfl) (fun H u _ => .inr ⟨by omega, by rw [← he]; rfl, fun _ h => h⟩)
     | some y =>
      have hir:h ∈ rs:=by rw [← hfs, ← zej, hgk]; rfl
      obtain ⟨z, hz1, hz2⟩:=List.mem_map.1 (zfg hgk)
      obtain ⟨k0, t0, f1, p1, f2, p2⟩:=z
      cases hz2
      have q1:(zdi k0 (zsE zs)).elim nilSet vcE = .agg #[f1, .pointer p1, f2, .pointer p2]:=by rw [hgk]; rfl
      have q2:(zdi k0 (zsE zs)).isSome = true:=by rw [hgk]; rfl
      have hpl:=(hb.mem_plain (t0, f1, p1, f2, p2) (by rw [hbs]; exact List.mem_map_of_mem (f:=(·.2)) hz1))
      refine zh ?_;refine Za9 ?_;refine Zan ?_;refine Zap ?_;refine Zao ?_;refine ZcB ?_;refine Ze ?_;refine Zca ?_;refine Za ?_;refine Zgc ?_;refine Za ?_;refine yo (zc6 (q:=903) (vc:=vcE) k0 mpS kyS zrS rfl rfl rfl rfl rfl q1 q2) ?_;refine ZbM ?_;refine Ze ?_;refine Zbt ?_;refine Zs ?_;refine Za4 ?_;refine ZaP ?_;refine Zd1 ?_
      exact yi (x:=j) (j + 1) ⟨hlt2, fun a ha => by
       rw [za3 hh, List.mem_append, List.mem_singleton] at ha
       rcases ha with ha | rfl
       ·exact hin a ha
       ·exact hir⟩ (by omega) ⟨rfl, rfl, rfl, rfl, rfl, rfl, trivial⟩
    ·obtain rfl:j = (zam L0).length:=by omega
     rw [List.take_length] at hin
     rw [if_pos hin] at he
     obtain ⟨hm, hl, hP⟩:=hS he.symm
     subst hP
     refine zh ?_;refine Za9 ?_;refine Zbb ?_;refine ZcR ?_;refine Zk ?_
     subst he
     rw [show zce rs rs.length = (S.R.length:Int) by rw [hl, lr]]
     refine zb8 902 903 rfl rfl (za4 _) ?_
     refine zbi 902 (StG b2 S).res rfl (zdc (B:=B) (s:=.slice ps (zad S.P).length pc) (m:=m2) hm (fun e he => by
      obtain ⟨z, hz1, rfl⟩:=List.mem_map.1 he
      exact hb z.2 (by rw [hbs]; exact List.mem_map_of_mem (f:=(·.2)) hz1)) hv) ?_
     exact z20 L 902 (r0:=StG b2 S) (rs:=[.tmp 6, .tmp 7]) rfl (fun _ _ h => h) Since.refl rfl (fun _ => rfl) (fun H u C _ _ h => .inl ⟨rfl, b2, rfl, h⟩)
end Go.V.L10
set_option maxRecDepth 20000
namespace Go.V.L10
open Go.Proofs Go.RowKit Go.V Go.V.L2 Go.V.L8 Go.V.L6
theorem _root_.Go.V.Zgd {A B:Prop} (h:B) (t:Wr B → A:=by intro h; refine qg (id:=2) [(200009, [900]), (200011, [901]), (200016, [901]), (200022, [900]), (200024, [901])] mixed (by kernel_rfl) ?_;exact h.h):A:=t ⟨h⟩
theorem z72 {α:Type} {p:α → Bool} {l:List α} {i:Nat} {x:α} (h:l[i]? = some x) (hx:p x = true) (hb:∀ (j:Nat) y, j < i → l[j]? = some y → p y = false):l.findIdx? p = some i:=by
 rw [List.findIdx?_eq_some_iff_getElem]
 have hi:i < l.length:=get_lt h
 rw [List.getElem?_eq_getElem hi] at h
 cases h
 exact ⟨hi, hx, fun j hj => by simp [hb j _ hj (List.getElem?_eq_getElem (by omega))]⟩
theorem z71 {α:Type} {p:α → Bool} {l:List α} (hb:∀ (j:Nat) y, l[j]? = some y → p y = false):l.findIdx? p = none:=by
 rw [List.findIdx?_eq_none_iff]
 intro x hx
 obtain ⟨j, hj⟩:=List.getElem?_of_mem hx
 exact hb j x hj
def z6t:Option Nat → Int
 | some i => i
 | none => -1
theorem zyz {α:Type} {p:α → Bool} {l:List α}:decide (0 ≤ z6t (l.findIdx? p)) = l.any p:=by
 cases hf:l.findIdx? p with
 | none =>
  rw [List.findIdx?_eq_none_iff] at hf
  have:l.any p = false:=List.any_eq_false.2 fun x hx => by simpa using hf x hx
  rw [this]; rfl
 | some i =>
  rw [List.findIdx?_eq_some_iff_getElem] at hf
  obtain ⟨hi, hx, _⟩:=hf
  rw [List.any_eq_true.2 ⟨_, List.getElem_mem hi, hx⟩]
  exact decide_eq_true (Int.natCast_nonneg _)
def StV (a n m:Nat) (s:Value) (t:Nat) (es:Ent) (H:Heap):Prop:=H a = some (.cells (stc n m s t).toArray tyS) ∧ MapVis m .u64 vcE es H
theorem StV.le {a n m t:Nat} {s:Value} {es:Ent} {H H':Heap} (h:StV a n m s t es H) (hle:H.Le H'):StV a n m s t es H':=⟨hle _ _ h.1, h.2.le hle⟩
theorem z0b {b n m t:Nat} {s:Value} {es:Ent} {v:Value} {H:Heap} {u:World} {C D:Nat → Prop} (h:(StO b n m s t es).res.P v H u C) (hD:∀ k, C k → D k):StV b n m s t es (joinH H u D):=by
 rw [zew] at h
 obtain ⟨C1, C2, ⟨hb, hC1⟩, ⟨⟨ar, ck, hm, he, _⟩, hC2⟩, h3, _⟩:=h
 exact ⟨(zfk (hD _ ((h3 _).2 (.inl ((hC1 _).2 rfl))))).trans hb, ar, ck, (zfk (hD _ ((h3 _).2 (.inr ((hC2 _).2 rfl))))).trans hm, he⟩
theorem z1g {b n m t b' n' m' t':Nat} {s s':Value} {es es':Ent}:∀ v H u C, (zg9 (StO b n m s t es).res (StO b' n' m' s' t' es').res).P v H u C → StV b n m s t es (joinH H u C) ∧ StV b' n' m' s' t' es' (joinH H u C) :=
 fun _ _ _ _ ⟨_, _, h1, h2, h3, _⟩ => ⟨z0b h1 fun k hk => (h3 k).2 (.inl hk), z0b h2 fun k hk => (h3 k).2 (.inr hk)⟩
def zf5 (A B:Sto):Bool:=decide (A.R = B.R) && decide (zad A.P = zad B.P)
theorem z1h {A B:List (Option (List U))} (hl:A.length = B.length) (h:∀ r ∈ zas A, kpt A r = kpt B r) (hk:zas A = zas B):A = B:=by
 apply List.ext_getElem?
 intro i
 rcases Nat.lt_or_ge i A.length with hi | hi
 ·have h1:kpt A ((i + 1:Nat):Int) = kpt B ((i + 1:Nat):Int):=by
   by_cases hm:((i + 1:Nat):Int) ∈ zas A
   ·exact h _ hm
   ·have hm2:((i + 1:Nat):Int) ∉ zas B:=hk ▸ hm
    rw [zbc] at hm hm2
    cases ha:kpt A ((i + 1:Nat):Int) with
    | some x => rw [ha] at hm; exact absurd rfl hm
    | none =>
     cases hb:kpt B ((i + 1:Nat):Int) with
     | some x => rw [hb] at hm2; exact absurd rfl hm2
     | none => rfl
  rw [zek, zek, List.getElem?_eq_getElem hi, List.getElem?_eq_getElem (by omega)] at h1
  rw [List.getElem?_eq_getElem hi, List.getElem?_eq_getElem (by omega)]
  exact congrArg some h1
 ·rw [List.getElem?_eq_none hi, List.getElem?_eq_none (by omega)]
attribute [local irreducible] V N X VO Par StepOK Has Ret RetL RetO RetT zcd zd2 RetY Src
theorem zif {a b:List Int} {f:Bool} {fa fb:Bool} (hf:decide (a = b) = f) (ha:a.length ≤ 100000) {v1 v2:Value} {w:World} {B:Heap} (hB:B.Le (hp w)) (h1:RsV a fa v1 B) (h2:RsV b fb v2 B) :
  Ret Tryz.prog 64 [v1, v2] w B (fun v _ => v = .bool f):=by
 subst hf
 refine yf Tryz.func64 rfl Tryz.ntmps64 (Nat.le_of_ble_eq_true rfl) hB ?_
 refine zat 0 (RsV a fa) rfl SlV.mono h1 ?_
 refine zat 1 (RsV b fb) rfl SlV.mono h2 ?_
 by_cases hl:a.length = b.length
 ·refine ZdY ?_;refine Zay ?_;refine Zt ?_;refine ZcD ?_
  refine zal (fun i:Nat => [(0, .sat (RsV a fa)), (1, .sat (RsV b fb)), (12, .is (.int .i64 a.length)), (13, .is (.int .i64 i))]) (fun i => i ≤ a.length ∧ a.take i = b.take i) (fun i => a.length - i) 0 ⟨Nat.zero_le _, rfl⟩ ⟨rfl, rfl, rfl, rfl, trivial⟩ ?_
  rintro i ⟨hi, ht⟩
  by_cases hlt:i < a.length
  ·obtain ⟨x, hx⟩:=zae hlt
   obtain ⟨y, hy⟩:=zae (show i < b.length by omega)
   have hc1:=zf6 hx
   have hc2:=zf6 hy
   have hwk:IntKind.i64.wrap ((i:Int) + 1) = ((i + 1:Nat):Int):=zaa (by omega) (by omega)
   by_cases hxy:x = y
   ·refine Zd7 ?_;refine Zew ?_;refine Zet ?_;refine Zet ?_;refine ZdN ?_;refine ZaI ?_;refine ZbF ?_;refine Z8 ?_;refine Zd1 ?_
    exact yi (x:=i) (i + 1) ⟨hlt, by rw [za3 hx, za3 hy, ht, hxy]⟩ (by omega) ⟨rfl, rfl, rfl, rfl, trivial⟩
   ·rw [decide_eq_false (z2y hx hy hxy)]
    refine Zd7 ?_;refine Zew ?_;refine Zet ?_;refine Zet ?_;refine Zga ?_;refine ZdW ?_;refine ZcU ?_
    refine ye L (rs:=[.tmp 4]) rfl (fun _ _ h => h) Since.refl fun u H hH hle => ?_
    rfl
  ·obtain rfl:i = a.length:=by omega
   have hab:a = b:=by rw [List.take_length, hl, List.take_length] at ht; exact ht
   rw [decide_eq_true hab]
   refine ZeF ?_;refine Zbb ?_;refine ZM ?_;refine Zb ?_
   refine ye L (rs:=[.tmp 4]) rfl (fun _ _ h => h) Since.refl fun u H hH hle => ?_
   rfl
 ·rw [decide_eq_false (zwa hl)]
  refine ZdY ?_;refine ZP ?_;refine Zy ?_;refine Zb ?_
  refine ye L (rs:=[.tmp 4]) rfl (fun _ _ h => h) Since.refl fun u H hH hle => ?_
  rfl
theorem zrr {l:List Int} {fu:Bool} {p:Int → Bool} {f:Nat} {cap:List Value} (hfn:L.fn f = some ()) (hlm:l.length ≤ 100000) {v:Value} {w:World} {B:Heap} (hf:∀ r ∈ l, ∀ (u:World) (H:Heap), B.Le H → H.Le (hp u) → Ret Tryz.prog f ([.int .u64 r] ++ cap) u H (fun x _ => x = .bool (p r))) (hv:RsV l fu v B) (hB:B.Le (hp w)) :
  Ret Tryz.prog 96 [v, .func (.func f) #[] cap.toArray] w B (fun r _ => r = .int .i64 (z6t (l.findIdx? p))):=by
 refine yf Tryz.func96 rfl Tryz.ntmps96 (Nat.le_of_ble_eq_true rfl) hB ?_
 refine zat 0 (RsV l fu) rfl SlV.mono hv ?_
 refine ZeW ?_;refine ZeE ?_
 refine zal (fun i:Nat => [(0, .sat (RsV l fu)), (1, .is (.func (.func f) #[] cap.toArray)), (7, .is (.int .i64 l.length)), (8, .is (.int .i64 i))]) (fun i => i ≤ l.length ∧ ∀ (j:Nat) y, j < i → l[j]? = some y → p y = false) (fun i => l.length - i) 0 ⟨Nat.zero_le _, fun j _ h => absurd h (Nat.not_lt_zero _)⟩ ⟨rfl, rfl, rfl, rfl, trivial⟩ ?_
 rintro i ⟨h1, h2⟩
 by_cases hlt:i < l.length
 ·obtain ⟨x, hx⟩:=zae hlt
  have hc:=zf6 hx
  have hmx:=List.mem_of_getElem? hx
  have hwk:IntKind.i64.wrap ((i:Int) + 1) = ((i + 1:Nat):Int):=zaa (by omega) (by omega)
  cases hb:p x with
  | true =>
   rw [z72 hx hb h2]
   refine zh ?_;refine Zy ?_;refine Zan ?_;refine Z1 ?_;refine Ze ?_;refine Zu ?_;refine ZcT ?_;refine z7 (zp (cap:=cap) L rfl rfl (zk rfl) rfl rfl hfn (fun u H hH hle _ => hb ▸ hf x hmx u H hle hH)) rfl ?_;refine Z0 ?_;refine Z9 ?_;refine Zb ?_
   refine ye L (rs:=[.tmp 4]) rfl (fun _ _ h => h) Since.refl fun u H hH hle => ?_
   rfl
  | false =>
   refine zh ?_;refine Zy ?_;refine Zan ?_;refine Z1 ?_;refine Ze ?_;refine Zu ?_;refine ZcT ?_;refine z7 (zp (cap:=cap) L rfl rfl (zk rfl) rfl rfl hfn (fun u H hH hle _ => hb ▸ hf x hmx u H hle hH)) rfl ?_;refine Za4 ?_;refine Zz ?_;refine Zd1 ?_
   exact yi (x:=i) (i + 1) ⟨hlt, fun j y hj hy => by
    rcases Nat.lt_or_ge j i with h | h
    ·exact h2 j y h hy
    ·have:j = i:=by omega
     subst this; rw [hx] at hy; cases hy; exact hb⟩ (by omega) ⟨rfl, rfl, rfl, rfl, trivial⟩
 ·rw [z71 (fun j y hy => h2 j y (by have:=get_lt hy; omega) hy)]
  refine zh ?_;refine Zy ?_;refine Zbb ?_;refine ZcU ?_
  refine ye L (rs:=[.tmp 4]) rfl (fun _ _ h => h) Since.refl fun u H hH hle => ?_
  rfl
theorem zwx {l:List Int} {fu:Bool} {p:Int → Bool} {f:Nat} {cap:List Value} {b:Bool} (hb:l.any p = b) (hfn:L.fn f = some ()) (hlm:l.length ≤ 100000) {v:Value} {w:World} {B:Heap} (hf:∀ r ∈ l, ∀ (u:World) (H:Heap), B.Le H → H.Le (hp u) → Ret Tryz.prog f ([.int .u64 r] ++ cap) u H (fun x _ => x = .bool (p r))) (hv:RsV l fu v B) (hB:B.Le (hp w)) :
  Ret Tryz.prog 65 [v, .func (.func f) #[] cap.toArray] w B (fun r _ => r = .bool b):=by
 rw [← zyz] at hb
 generalize hJ:z6t (l.findIdx? p) = J at *
 subst hb
 refine yf Tryz.func65 rfl Tryz.ntmps65 (Nat.le_of_ble_eq_true rfl) hB ?_
 by_cases h0:0 ≤ J
 ·rw [decide_eq_true h0]
  refine ZdL ?_;refine z7 (zp L rfl rfl (zk rfl) rfl rfl rfl (fun u H hH hle _ => hJ ▸ zrr hfn hlm (fun r hr u2 H2 hle2 hH2 => hf r hr u2 H2 (hle.trans hle2) hH2) (hv.le hle) hH)) rfl ?_;refine Zat ?_;refine Zb ?_
  refine ye L (rs:=[.tmp 4]) rfl (fun _ _ h => h) Since.refl fun u H hH hle => ?_
  rfl
 ·rw [decide_eq_false h0]
  refine ZdL ?_;refine z7 (zp L rfl rfl (zk rfl) rfl rfl rfl (fun u H hH hle _ => hJ ▸ zrr hfn hlm (fun r hr u2 H2 hle2 hH2 => hf r hr u2 H2 (hle.trans hle2) hH2) (hv.le hle) hH)) rfl ?_;refine ZA ?_;refine Zb ?_
  refine ye L (rs:=[.tmp 4]) rfl (fun _ _ h => h) Since.refl fun u H hH hle => ?_
  rfl
abbrev z7d:TypeId:=29
theorem zsl {a b n1 n2 m1 m2 t1 t2 c1 c2:Nat} {s1 s2:Value} {ea eb:Ent} {r:Int} {la lb:List U} {va vb:Value} (ga:zdi r ea = some (la, va)) (gb:zdi r eb = some (lb, vb)) (hla:la.length ≤ 100000) (hlb:lb.length ≤ 100000) {w:World} {B:Heap} (hB:B.Le (hp w))
  (h1:B c1 = some (.cells #[zdh a] z7d)) (h2:B c2 = some (.cells #[zdh b] z7d)) (ha:StV a n1 m1 s1 t1 ea B) (hb:StV b n2 m2 s2 t2 eb B) (hsa:SetV la va B) (hsb:SetV lb vb B) :
  Ret Tryz.prog 66 [.int .u64 r, zdh c1, zdh c2] w B (fun v _ => v = .bool (!decide (la = lb))):=by
 obtain ⟨f1, p1, k1, x1, rfl, hp1⟩:=hsa.shape
 obtain ⟨f2, p2, k2, x2, rfl, hp2⟩:=hsb.shape
 have hla1:=ha.1
 have hlb1:=hb.1
 have q1:(zdi r ea).elim nilSet vcE = .agg #[f1, .pointer p1, k1, .pointer x1]:=congrArg (fun o => Option.elim o nilSet vcE) ga
 have q2:(zdi r eb).elim nilSet vcE = .agg #[f2, .pointer p2, k2, .pointer x2]:=congrArg (fun o => Option.elim o nilSet vcE) gb
 refine yf Tryz.func66 rfl Tryz.ntmps66 (Nat.le_of_ble_eq_true rfl) hB ?_
 refine ZR ?_;refine ZcZ ?_;refine ZB ?_;refine Zcx ?_;refine Zh ?_;refine z8 (zkn r mpS kyS zrS ha.2 rfl rfl rfl rfl q1) rfl ?_;refine ZB ?_;refine Zcx ?_;refine Zh ?_;refine z8 (zkn r mpS kyS zrS hb.2 rfl rfl rfl rfl q2) rfl ?_;refine z8 (zp L rfl rfl (zk rfl) rfl rfl rfl (fun u H hH hle _ => zum hla hlb rfl hH (hsa.le hle) (hsb.le hle))) rfl ?_;refine ZI ?_;refine Zw ?_
 refine ye L (rs:=[.tmp 4]) rfl (fun _ _ h => h) Since.refl fun u H hH hle => ?_
 rfl
set_option maxHeartbeats 4000000 in
set_option maxRecDepth 20000 in
theorem zlp {A D:Sto} {a b:Nat} (hna:A.R.length ≠ 0) (hnb:D.R.length ≠ 0) (ka:(zas A.R).length ≤ 100000) (kb:(zas D.R).length ≤ 100000) (za:A.P.length ≤ 100000) (zb:D.P.length ≤ 100000) (ta:∀ r t, kpt A.R r = some t → t.length ≤ 100000) (tb:∀ r t, kpt D.R r = some t → t.length ≤ 100000)
  {w:World} {B:Heap} {C:Nat → Prop} (hB:B.Le (hp w)) (hr:(zcy (StG a A) (StG b D)).P B w C) (hC:∀ k, C k → k < w.heap.size ∧ B k = none) :
  RetY Tryz.prog 33 [zdh a, zdh b] w B C (zcy (StG a A) (StG b D)) (fun v _ => v = .bool (zf5 A D)):=by
 unfold RetY
 refine zau 900 (zcy (StG a A) (StG b D)) Tryz.func33 rfl Tryz.ntmps33 (Nat.le_of_ble_eq_true rfl) hB hr hC ?_
 rw [zhj]
 refine Zep ?_
 rw [zh0, zh0]
 refine zc9 900 rfl fun x H hs0 hφ => ?_
 refine zc9 901 rfl fun y H' hs1 hφ' => ?_
 obtain ⟨m1, s1, e1⟩:=x
 obtain ⟨hm1, he1, hp1⟩:=hφ
 obtain ⟨m2, s2, e2⟩:=y
 obtain ⟨hm2, he2, hp2⟩:=hφ'
 dsimp only at hm1 he1 hp1 hm2 he2 hp2 ⊢
 have hs01:=hs0.trans hs1
 replace he1:=he1.le hs1.le
 replace hp1:=hp1.le hs1.le
 obtain ⟨q1, c1, rfl⟩:=zaq hp1
 obtain ⟨q2, c2, rfl⟩:=zaq hp2
 have hl1:=hm1.len
 have hl2:=hm2.len
 refine ZY ?_;refine zbq 2 rfl fun v1 H1 hs2 hv1 => ?_;obtain ⟨d1, rfl, hd1⟩:=hv1; refine ZcC ?_;refine zbq 3 rfl fun v2 H2 hs3 hv2 => ?_;obtain ⟨d2, rfl, hd2⟩:=hv2; refine Ze ?_
 replace hd1:=hs3.le _ _ hd1
 have hs23:=hs2.trans hs3
 replace he1:=he1.le hs23.le
 replace hp1:=hp1.le hs23.le
 replace he2:=he2.le hs23.le
 replace hp2:=hp2.le hs23.le
 have hsf:=hs01.trans hs23
 refine Zae ?_;refine Zed ?_;refine yo (zaz L 900 (RsV (zas A.R) true) (r:=StO a A.R.length m1 (.slice q1 (zad A.P).length c1) A.P.length e1) rfl rfl rfl rfl rfl SlV.mono (fun u H2 C2 hH hle hr2 hC2 => (zfi hm1 hna (by omega) hH hr2 hC2).pubY zeu)) ?_;refine Zds ?_
 by_cases hN:A.R.length = D.R.length
 ·by_cases hK:zas A.R = zas D.R
  ·by_cases hP:zad A.P = zad D.P
   ·have hS:zf5 A D = decide (A.R = D.R):=by unfold zf5; rw [decide_eq_true hP, Bool.and_true]
    have hany:(zas A.R).any (fun r => !decide (kpt A.R r = kpt D.R r)) = !decide (A.R = D.R):=by
     by_cases h:A.R = D.R
     ·rw [decide_eq_true h, h]; simp
     ·rw [decide_eq_false h]
      cases hh:(zas A.R).any (fun r => !decide (kpt A.R r = kpt D.R r)) with
      | true => rfl
      | false => exact absurd (z1h hN (fun r hr => by have:=List.any_eq_false.1 hh r hr; simpa using this) hK) h
    have hent1:∀ r ∈ zas A.R, ∃ t v, kpt A.R r = some t ∧ zdi r e1 = some (t, v) ∧ SetV t v _:=fun r hr => by
     have h1:=zbc.1 hr
     rw [← hm1.get r, Option.isSome_map] at h1
     obtain ⟨⟨t, v⟩, h2⟩:=Option.isSome_iff_exists.1 h1
     exact ⟨t, v, by rw [← hm1.get r, h2]; rfl, h2, he1 _ (zfg h2)⟩
    have hent2:∀ r ∈ zas A.R, ∃ t v, kpt D.R r = some t ∧ zdi r e2 = some (t, v) ∧ SetV t v _:=fun r hr => by
     have h1:=zbc.1 (hK ▸ hr)
     rw [← hm2.get r, Option.isSome_map] at h1
     obtain ⟨⟨t, v⟩, h2⟩:=Option.isSome_iff_exists.1 h1
     exact ⟨t, v, by rw [← hm2.get r, h2]; rfl, h2, he2 _ (zfg h2)⟩
    refine Zgd ?_;refine ZB ?_;refine qn (zak L 900 (Φ:=fun H => H a = some (.cells (stc A.R.length m1 (.slice q1 (zad A.P).length c1) A.P.length).toArray tyS)) (c:=.int .u64 A.R.length) rfl rfl (zk rfl) rfl rfl rfl rfl rfl zbk (fun u H hH hle hb => zcb hna hb hH)) rfl rfl ?_;refine ZB ?_;refine qn (zak L 901 (Φ:=fun H => H b = some (.cells (stc D.R.length m2 (.slice q2 (zad D.P).length c2) D.P.length).toArray tyS)) (c:=.int .u64 D.R.length) rfl rfl (zk rfl) rfl rfl rfl rfl rfl zbk (fun u H hH hle hb => zcb hnb hb hH)) rfl rfl ?_;refine ZdN ?_;refine Zh ?_;refine Zah ?_;refine ZB ?_;refine qn (zaz L 901 (RsV (zas D.R) true) (r:=StO b D.R.length m2 (.slice q2 (zad D.P).length c2) D.P.length e2) rfl rfl rfl rfl rfl SlV.mono (fun u H2 C2 hH hle hr2 hC2 => (zfi hm2 hnb (by omega) hH hr2 hC2).pubY zeu)) rfl rfl ?_;refine z8 (zp L rfl rfl (zk rfl) rfl rfl rfl (fun u H hH _ _ v1 h1 v2 h2 => zif (decide_eq_true hK) ka hH h1 h2)) rfl ?_;refine ZI ?_;refine Za1 ?_;refine Zeh ?_;refine qn (zak L 900 (Φ:=fun H => H a = some (.cells (stc A.R.length m1 (.slice q1 (zad A.P).length c1) A.P.length).toArray tyS)) (c:=pnv (.slice q1 (zad A.P).length c1) A.P.length) rfl rfl (zk rfl) rfl rfl rfl rfl rfl zbk (fun u H hH hle hb => pins_ret ⟨_, _, _, rfl⟩ hna hb hH)) rfl rfl ?_;refine ZB ?_;refine qn (zak L 901 (Φ:=fun H => H b = some (.cells (stc D.R.length m2 (.slice q2 (zad D.P).length c2) D.P.length).toArray tyS)) (c:=pnv (.slice q2 (zad D.P).length c2) D.P.length) rfl rfl (zk rfl) rfl rfl rfl rfl rfl zbk (fun u H hH hle hb => pins_ret ⟨_, _, _, rfl⟩ hnb hb hH)) rfl rfl ?_;refine z8 (zp L rfl rfl (zk rfl) rfl rfl rfl (fun u H hH hle _ => zoj (decide_eq_true hP) za zb hH (hp1.le hle) (hp2.le hle))) rfl ?_;refine ZI ?_;refine Zei ?_
    refine zb8 900 901 rfl rfl (za4 (StO b D.R.length m2 (.slice q2 (zad D.P).length c2) D.P.length e2)) ?_
    have hcl:∀ (u:World) (H3:Heap), H3.Le (hp u) → H2.Le H3 → (StV a A.R.length m1 (.slice q1 (zad A.P).length c1) A.P.length e1 H3 ∧ StV b D.R.length m2 (.slice q2 (zad D.P).length c2) D.P.length e2 H3) → ∀ v1, RsV (zas A.R) true v1 H3 → Ret Tryz.prog 65 [v1, .func (.func 66) #[] #[zdh d1, zdh d2]] u H3 (fun r _ => r = .bool (!decide (A.R = D.R))):=fun u H3 hH hle hb v1 h1 => zwx (cap:=[zdh d1, zdh d2]) (p:=fun r => !decide (kpt A.R r = kpt D.R r)) hany rfl ka (fun r hr u2 H4 hle2 hH2 => by
     obtain ⟨x1, w1, g1, g2, g3⟩:=hent1 r hr
     obtain ⟨x2, w2, g4, g5, g6⟩:=hent2 r hr
     have hle3:=hle.trans hle2
     have h:=zsl g2 g5 (ta _ _ g1) (tb _ _ g4) hH2 (hle3 _ _ hd1) (hle3 _ _ hd2) (hb.1.le hle2) (hb.2.le hle2) (g3.le hle3) (g6.le hle3)
     rw [g1, g4, show decide (some x1 = some x2) = decide (x1 = x2) by simp]
     exact h) h1 hH
    refine ZV ?_;refine Zf ?_;refine z7 (zff rfl rfl rfl rfl) rfl ?_;refine yo (zak L 900 (Φ:=fun H => StV a A.R.length m1 (.slice q1 (zad A.P).length c1) A.P.length e1 H ∧ StV b D.R.length m2 (.slice q2 (zad D.P).length c2) D.P.length e2 H) (c:=.bool (!decide (A.R = D.R))) rfl rfl (zk rfl) rfl rfl rfl rfl rfl z1g (fun u H hH hle hb v1 h1 => hcl u H hH hle hb v1 h1)) ?_;refine Zs ?_;refine Zb ?_
    refine zhr 900 901 rfl (za4 (StO b D.R.length m2 (.slice q2 (zad D.P).length c2) D.P.length e2)) ?_
    refine zbi 900 (StG a A).res rfl (zdc hm1 he1 hp1) ?_
    refine zbi 901 (StG b D).res rfl (zdc hm2 he2 hp2) ?_
    refine zb8 900 901 rfl rfl (za4 (StG b D)) ?_
    exact zbp L 900 (r:=zcy (StG a A) (StG b D)) (rs:=[.tmp 4]) rfl (fun _ _ h => h) hsf rfl rfl (fun H hle => by rw [hS]; generalize decide (A.R = D.R) = q; cases q <;> rfl)
   ·have hS:zf5 A D = false:=by unfold zf5; rw [decide_eq_false hP, Bool.and_false]
    refine Zgd ?_;refine ZB ?_;refine qn (zak L 900 (Φ:=fun H => H a = some (.cells (stc A.R.length m1 (.slice q1 (zad A.P).length c1) A.P.length).toArray tyS)) (c:=.int .u64 A.R.length) rfl rfl (zk rfl) rfl rfl rfl rfl rfl zbk (fun u H hH hle hb => zcb hna hb hH)) rfl rfl ?_;refine ZB ?_;refine qn (zak L 901 (Φ:=fun H => H b = some (.cells (stc D.R.length m2 (.slice q2 (zad D.P).length c2) D.P.length).toArray tyS)) (c:=.int .u64 D.R.length) rfl rfl (zk rfl) rfl rfl rfl rfl rfl zbk (fun u H hH hle hb => zcb hnb hb hH)) rfl rfl ?_;refine ZdN ?_;refine Zh ?_;refine Zah ?_;refine ZB ?_;refine qn (zaz L 901 (RsV (zas D.R) true) (r:=StO b D.R.length m2 (.slice q2 (zad D.P).length c2) D.P.length e2) rfl rfl rfl rfl rfl SlV.mono (fun u H2 C2 hH hle hr2 hC2 => (zfi hm2 hnb (by omega) hH hr2 hC2).pubY zeu)) rfl rfl ?_;refine z8 (zp L rfl rfl (zk rfl) rfl rfl rfl (fun u H hH _ _ v1 h1 v2 h2 => zif (decide_eq_true hK) ka hH h1 h2)) rfl ?_;refine ZI ?_;refine Za1 ?_;refine Zeh ?_;refine qn (zak L 900 (Φ:=fun H => H a = some (.cells (stc A.R.length m1 (.slice q1 (zad A.P).length c1) A.P.length).toArray tyS)) (c:=pnv (.slice q1 (zad A.P).length c1) A.P.length) rfl rfl (zk rfl) rfl rfl rfl rfl rfl zbk (fun u H hH hle hb => pins_ret ⟨_, _, _, rfl⟩ hna hb hH)) rfl rfl ?_;refine ZB ?_;refine qn (zak L 901 (Φ:=fun H => H b = some (.cells (stc D.R.length m2 (.slice q2 (zad D.P).length c2) D.P.length).toArray tyS)) (c:=pnv (.slice q2 (zad D.P).length c2) D.P.length) rfl rfl (zk rfl) rfl rfl rfl rfl rfl zbk (fun u H hH hle hb => pins_ret ⟨_, _, _, rfl⟩ hnb hb hH)) rfl rfl ?_;refine z8 (zp L rfl rfl (zk rfl) rfl rfl rfl (fun u H hH hle _ => zoj (decide_eq_false hP) za zb hH (hp1.le hle) (hp2.le hle))) rfl ?_;refine ZI ?_;refine Zfd ?_;refine ZdA ?_;refine Zt ?_;refine Zb ?_
    refine zbi 900 (StG a A).res rfl (zdc hm1 he1 hp1) ?_
    refine zbi 901 (StG b D).res rfl (zdc hm2 he2 hp2) ?_
    refine zb8 900 901 rfl rfl (za4 (StG b D)) ?_
    exact zbp L 900 (r:=zcy (StG a A) (StG b D)) (rs:=[.tmp 4]) rfl (fun _ _ h => h) hsf rfl rfl (fun H hle => by rw [hS]; rfl)
  ·have hS:zf5 A D = false:=by unfold zf5; rw [decide_eq_false (fun h => hK (by rw [h])), Bool.false_and]
   refine Zgd ?_;refine ZB ?_;refine qn (zak L 900 (Φ:=fun H => H a = some (.cells (stc A.R.length m1 (.slice q1 (zad A.P).length c1) A.P.length).toArray tyS)) (c:=.int .u64 A.R.length) rfl rfl (zk rfl) rfl rfl rfl rfl rfl zbk (fun u H hH hle hb => zcb hna hb hH)) rfl rfl ?_;refine ZB ?_;refine qn (zak L 901 (Φ:=fun H => H b = some (.cells (stc D.R.length m2 (.slice q2 (zad D.P).length c2) D.P.length).toArray tyS)) (c:=.int .u64 D.R.length) rfl rfl (zk rfl) rfl rfl rfl rfl rfl zbk (fun u H hH hle hb => zcb hnb hb hH)) rfl rfl ?_;refine ZdN ?_;refine Zh ?_;refine Zah ?_;refine ZB ?_;refine qn (zaz L 901 (RsV (zas D.R) true) (r:=StO b D.R.length m2 (.slice q2 (zad D.P).length c2) D.P.length e2) rfl rfl rfl rfl rfl SlV.mono (fun u H2 C2 hH hle hr2 hC2 => (zfi hm2 hnb (by omega) hH hr2 hC2).pubY zeu)) rfl rfl ?_;refine z8 (zp L rfl rfl (zk rfl) rfl rfl rfl (fun u H hH _ _ v1 h1 v2 h2 => zif (decide_eq_false hK) ka hH h1 h2)) rfl ?_;refine ZI ?_;refine Za1 ?_;refine Zfo ?_;refine Zdg ?_;refine Zfd ?_;refine ZdA ?_;refine Zt ?_;refine Zb ?_
   refine zbi 900 (StG a A).res rfl (zdc hm1 he1 hp1) ?_
   refine zbi 901 (StG b D).res rfl (zdc hm2 he2 hp2) ?_
   refine zb8 900 901 rfl rfl (za4 (StG b D)) ?_
   exact zbp L 900 (r:=zcy (StG a A) (StG b D)) (rs:=[.tmp 4]) rfl (fun _ _ h => h) hsf rfl rfl (fun H hle => by rw [hS]; rfl)
 ·have hS:zf5 A D = false:=by unfold zf5; rw [decide_eq_false (fun h => hN (by rw [h])), Bool.false_and]
  refine Zgd ?_;refine ZB ?_;refine qn (zak L 900 (Φ:=fun H => H a = some (.cells (stc A.R.length m1 (.slice q1 (zad A.P).length c1) A.P.length).toArray tyS)) (c:=.int .u64 A.R.length) rfl rfl (zk rfl) rfl rfl rfl rfl rfl zbk (fun u H hH hle hb => zcb hna hb hH)) rfl rfl ?_;refine ZB ?_;refine qn (zak L 901 (Φ:=fun H => H b = some (.cells (stc D.R.length m2 (.slice q2 (zad D.P).length c2) D.P.length).toArray tyS)) (c:=.int .u64 D.R.length) rfl rfl (zk rfl) rfl rfl rfl rfl rfl zbk (fun u H hH hle hb => zcb hnb hb hH)) rfl rfl ?_;refine Zga ?_;refine Zfo ?_;refine ZaM ?_;refine Za1 ?_;refine Zfo ?_;refine Zdg ?_;refine Zfd ?_;refine ZdA ?_;refine Zt ?_;refine Zb ?_
  refine zbi 900 (StG a A).res rfl (zdc hm1 he1 hp1) ?_
  refine zbi 901 (StG b D).res rfl (zdc hm2 he2 hp2) ?_
  refine zb8 900 901 rfl rfl (za4 (StG b D)) ?_
  exact zbp L 900 (r:=zcy (StG a A) (StG b D)) (rs:=[.tmp 4]) rfl (fun _ _ h => h) hsf rfl rfl (fun H hle => by rw [hS]; rfl)
end Go.V.L10
set_option maxRecDepth 20000
namespace Go.V.L10
open Go.Proofs Go.RowKit Go.V Go.V.L2 Go.V.L8 Go.V.L6
abbrev z7c:TypeId:=89
abbrev z52:TypeId:=32
abbrev zlj:=Option (List U) × Value
def rrc (z:zlj):List Value:=[.bool z.1.isSome, z.2]
theorem zh3 (z:zlj):(rrc z).length = 2:=rfl
def RowOK (zs:List zlj) (H:Heap):Prop:=∀ z ∈ zs, US (z.1.getD []) false z.2 H
theorem RowOK.le {zs:List zlj} {H H':Heap} (h:RowOK zs H) (hle:H.Le H'):RowOK zs H':=fun z hz => (h z hz).le hle
abbrev RwV (zs:List zlj):Value → Heap → Prop:=SlV z7c 2 (zs.flatMap rrc) zs.length false
def RlV (R:List (Option (List U))):Value → Heap → Prop:=fun v H => ∃ zs:List zlj, zs.map (·.1) = R ∧ RowOK zs H ∧ RwV zs v H
theorem RlV.le {R:List (Option (List U))} {v:Value} {H H':Heap} (h:RlV R v H) (hle:H.Le H'):RlV R v H':=let ⟨zs, h1, h2, h3⟩:=h; ⟨zs, h1, h2.le hle, h3.le hle⟩
def RsS (S:Sto):Value → Heap → Prop:=fun v H => ∃ lv pv, v = .agg #[lv, pv] ∧ RlV S.R lv H ∧ RsV S.P false pv H
theorem RsS.mono {S:Sto}:Kn.mono (.sat (RsS S)):=fun _ _ _ ⟨lv, pv, h1, h2, h3⟩ hle => ⟨lv, pv, h1, h2.le hle, h3.le hle⟩
theorem RsS.le {S:Sto} {v:Value} {H H':Heap} (h:RsS S v H) (hle:H.Le H'):RsS S v H':=RsS.mono _ _ _ h hle
theorem zss {zs:List zlj} {i:Nat} {z:zlj} (h:zs[i]? = some z):((zs.flatMap rrc).drop (i * 2)).take 2 = [.bool z.1.isSome, z.2]:=zc8 zh3 zs i z h
theorem zq4 {zs:List zlj} {H:Heap} (h:RowOK zs H):(zs.flatMap rrc).all zbs = true:=by
 rw [List.all_eq_true]
 intro x hx
 obtain ⟨z, hz, hx⟩:=List.mem_flatMap.1 hx
 obtain ⟨p, c, hs⟩:=zaq (h z hz)
 unfold rrc at hx
 rw [hs] at hx
 simp only [List.mem_cons, List.mem_nil_iff, or_false] at hx
 rcases hx with rfl | rfl <;> rfl
theorem zlu {zs:List zlj} {R:List (Option (List U))} (h:zs.map (·.1) = R) {i:Nat} {o:Option (List U)} (ho:R[i]? = some o):∃ v, zs[i]? = some (o, v):=by
 rw [← h, List.getElem?_map] at ho
 cases hz:zs[i]? with
 | none => rw [hz] at ho; cases ho
 | some z => rw [hz] at ho; cases ho; exact ⟨z.2, rfl⟩
def zkt (R:List (Option (List U))) (i:Nat):List Int:=((List.range i).filter fun i => ((R[i]?).join).isSome).map fun i => ((i + 1:Nat):Int)
theorem ztd {R:List (Option (List U))} {i:Nat}:zkt R (i + 1) = zkt R i ++ if ((R[i]?).join).isSome = true then [((i + 1:Nat):Int)] else []:=by
 unfold zkt
 rw [List.range_succ, List.filter_append, List.map_append]
 congr 1
 by_cases h:((R[i]?).join).isSome = true
 ·rw [if_pos h]; simp [h]
 ·rw [if_neg h]; simp [h]
theorem zks (R:List (Option (List U))) (i:Nat):(zkt R i).length ≤ i:=by
 unfold zkt
 rw [List.length_map]
 exact Nat.le_trans (List.length_filter_le ..) (by simp)
abbrev z5u (t:List U) (e:Int):Value → Heap → Prop:=TupS [US t false, fun v _ => v = .int .i64 e]
attribute [local irreducible] V N X VO Par StepOK Has Ret RetL RetO RetT zcd zd2 RetY Src
theorem zst {w:World} {B:Heap} (hB:B.Le (hp w)):Ret Tryz.prog 42 [] w B (RsS newS):=by
 refine yf Tryz.func42 rfl Tryz.ntmps42 (Nat.le_of_ble_eq_true rfl) hB ?_
 refine ZcL ?_;refine Zm ?_;refine Zae ?_;refine z7 (yx (cs:=[_, _]) rfl rfl z57 rfl rfl) rfl ?_;refine Zaa ?_;refine zbq 2 rfl fun v1 H1 hs1 hv1 => ?_;obtain ⟨d1, rfl, hd1⟩:=hv1; refine z7 (yx (cs:=[_, _]) rfl rfl z30 rfl rfl) rfl ?_;refine Zbg ?_
 refine ye L (rs:=[.cell 0 32]) rfl (fun _ _ h => h) hs1 fun u H hH hle => ?_
 exact ⟨_, yl rfl, rfl, _, _, rfl, ⟨[(some [], .slice none 0 0)], rfl, fun z hz => by rw [List.mem_singleton.1 hz]; exact SlV.nil, (SlB.toV (n:=1) ⟨d1, rfl, hle _ _ hd1⟩ rfl).nofu⟩, SlV.nil⟩
theorem zfc {R:List (Option (List U))} {zs:List zlj} (hzs:zs.map (·.1) = R) (hR:R.length ≤ 100000) {lv pv:Value} (hpv:∃ p k c, pv = .slice p k c) {w:World} {B:Heap} (hB:B.Le (hp w)) (hl:RwV zs lv B) :
  Ret Tryz.prog 34 [.agg #[lv, pv]] w B (RsV (zas R) false):=by
 have hzl:zs.length = R.length:=by rw [← hzs, List.length_map]
 obtain ⟨p, c, rfl⟩:=zaq hl
 obtain ⟨p2, k2, c2, rfl⟩:=hpv
 refine yf Tryz.func34 rfl Tryz.ntmps34 (Nat.le_of_ble_eq_true rfl) hB ?_
 refine Zb0 ?_;refine Zj ?_
 refine zd4 3 zjs 1 rfl ?_
 refine ZdB ?_
 refine zal (fun y:Nat => [(1, .sat (At [.slice p zs.length c, .slice p2 k2 c2] z52 0)), (3, .own (SlR zjs 1 (zkt R y).length ((zkt R y).map (Value.int .u64)))), (4, .is (.int .i64 y))])
  (fun y => y ≤ R.length) (fun y => R.length - y) 0 (Nat.zero_le _) ⟨rfl, rfl, rfl, trivial⟩ ?_
 rintro i hi
 dsimp only at hi ⊢
 have htl:=zks R i
 by_cases hlt:i < R.length
 ·obtain ⟨o, ho⟩:=zae hlt
  obtain ⟨v, hv⟩:=zlu hzs ho
  have hc:=zss hv
  have hwk:IntKind.i64.wrap ((i:Int) + 1) = ((i + 1:Nat):Int):=zaa (by omega) (by omega)
  have hwu:IntKind.u64.wrap ((i + 1:Nat):Int) = ((i + 1:Nat):Int):=wrap_u64 (by omega) (by omega)
  have hs:=ztd (R:=R) (i:=i)
  rw [ho] at hs
  cases o with
  | none =>
   have hs2:zkt R (i + 1) = zkt R i:=hs.trans (List.append_nil _)
   refine ZaJ ?_;refine Zbk ?_;refine ZbG ?_;refine Zbl ?_;refine Zo ?_;refine ZbO ?_;refine Zb7 ?_;refine Zd0 ?_;refine Za4 ?_;refine Zdv ?_
   exact yi (x:=i) (i + 1) hlt (by omega) ⟨rfl, by rw [hs2]; rfl, rfl, trivial⟩
  | some t =>
   have hs2:zkt R (i + 1) = zkt R i ++ [((i + 1:Nat):Int)]:=hs
   refine ZaJ ?_;refine Zbk ?_;refine ZbG ?_;refine Zbl ?_;refine Zo ?_;refine ZbO ?_;refine Zb7 ?_;refine Zd0 ?_;refine ZW ?_;refine Zz ?_;refine qp (yq (.inl rfl) rfl rfl rfl rfl) ?_;refine Za ?_;refine ZZ ?_;refine z7 (zax rfl rfl rfl zbl.1 zbl.2 (wrap_u64 (by omega) (by omega))) rfl ?_;refine Zaa ?_;refine Zfy ?_;refine qp (yq (.inr rfl) rfl rfl rfl rfl) ?_;refine Zaq ?_;refine Zdv ?_
   exact yi (x:=i) (i + 1) hlt (by omega) ⟨rfl, by rw [hs2]; exact zmr, rfl, trivial⟩
 ·obtain rfl:i = R.length:=by omega
  refine ZaJ ?_;refine Zbk ?_;refine Zey ?_
  refine zci 3 rfl ?_
  refine Zp ?_;refine Zf ?_;refine ZaZ ?_
  refine ye L (rs:=[.tmp 2]) rfl (fun _ _ h => h) Since.refl fun u H hH hle => ?_
  exact fun v hv => hv
set_option maxHeartbeats 1000000 in
theorem zuz {S:Sto} {r:Int} (hn:S.R.length ≠ 0) (hr0:0 ≤ r) (hr1:r < 18446744073709551616) (hz:S.R.length ≤ 1000000000) {v:Value} {w:World} {B:Heap} (hB:B.Le (hp w)) (hv:RsS S v B) :
  Ret Tryz.prog 27 [v, .int .u64 r] w B (z5u (atS S r).1 (atS S r).2):=by
 obtain ⟨lv, pv, rfl, ⟨zs, hzs, hrow, hlv⟩, hpv⟩:=hv
 have hzl:zs.length = S.R.length:=by rw [← hzs, List.length_map]
 obtain ⟨p, c, rfl⟩:=zaq hlv
 obtain ⟨p2, c2, rfl⟩:=zaq hpv
 obtain ⟨k, hk⟩:∃ k:Nat, (k:Int) = if r = 0 then (S.R.length:Int) else r:=⟨(if r = 0 then (S.R.length:Int) else r).toNat, by split <;> omega⟩
 have hat:atS S r = match kpt S.R k with | some t => (t, 0) | none => ([], 14):=by rw [hk]; rfl
 have hk1:1 ≤ k:=by split at hk <;> omega
 obtain ⟨j, rfl⟩:∃ j, k = j + 1:=⟨k - 1, by omega⟩
 have hwl:IntKind.u64.wrap ((zs.length:Nat):Int) = ((zs.length:Nat):Int):=wrap_u64 (by omega) (by omega)
 have hws:IntKind.u64.wrap (((j + 1:Nat):Int) - 1) = ((j:Nat):Int):=(wrap_u64 (by omega) (by split at hk <;> omega)).trans (by omega)
 rw [zek] at hat
 by_cases hr:r = 0
 ·rw [if_pos hr] at hk
  subst hr
  have hjl:j < S.R.length:=by omega
  obtain ⟨o, ho⟩:=zae hjl
  obtain ⟨v, hv⟩:=zlu hzs ho
  have hc:=zss hv
  have hjz:zs.length = j + 1:=by omega
  rw [ho] at hat
  have hws2:IntKind.u64.wrap (((zs.length:Nat):Int) - 1) = ((j:Nat):Int):=by rw [hjz]; exact hws
  cases o with
  | none =>
   rw [hat]
   refine yf Tryz.func27 rfl Tryz.ntmps27 (Nat.le_of_ble_eq_true rfl) hB ?_
   refine ZcN ?_;refine ZN ?_;refine Zbf ?_;refine Zy ?_;refine Zbk ?_;refine z7 (zax rfl rfl rfl zbl.1 zbl.2 (wrap_u64 (by omega) (by omega))) rfl ?_;refine ZcQ ?_;refine Zbk ?_;refine z7 (zax rfl rfl rfl zbl.1 zbl.2 (wrap_u64 (by omega) (by omega))) rfl ?_;refine Z7 ?_;refine Za ?_;refine ZbO ?_;refine Zal ?_;refine Zao ?_;refine Zd0 ?_;refine Zea ?_;refine ZcK ?_;refine Zk ?_
   refine ye L (rs:=[.tmp 4, .tmp 5]) rfl (fun _ _ h => h) Since.refl fun u H hH hle => ?_
   exact zen SlV.nil
  | some t =>
   have hrz:US t false v B:=hrow (some t, v) (List.mem_of_getElem? hv)
   obtain ⟨p3, c3, rfl⟩:=zaq hrz
   rw [hat]
   refine yf Tryz.func27 rfl Tryz.ntmps27 (Nat.le_of_ble_eq_true rfl) hB ?_
   refine ZcN ?_;refine ZN ?_;refine Zbf ?_;refine Zy ?_;refine Zbk ?_;refine z7 (zax rfl rfl rfl zbl.1 zbl.2 (wrap_u64 (by omega) (by omega))) rfl ?_;refine ZcQ ?_;refine Zbk ?_;refine z7 (zax rfl rfl rfl zbl.1 zbl.2 (wrap_u64 (by omega) (by omega))) rfl ?_;refine Z7 ?_;refine Za ?_;refine ZbO ?_;refine Zal ?_;refine Zao ?_;refine Zd0 ?_;refine Zs ?_;refine ZaY ?_;refine Zo ?_;refine ZbO ?_;refine Zal ?_;refine Zao ?_;refine Zd0 ?_;refine Zk ?_
   refine ye L (rs:=[.tmp 4, .tmp 5]) rfl (fun _ _ h => h) Since.refl fun u H hH hle => ?_
   exact zen (hrz.le hle)
 ·rw [if_neg hr] at hk
  subst hk
  by_cases hjl:j < S.R.length
  ·obtain ⟨o, ho⟩:=zae hjl
   obtain ⟨v, hv⟩:=zlu hzs ho
   have hc:=zss hv
   rw [ho] at hat
   cases o with
   | none =>
    rw [hat]
    refine yf Tryz.func27 rfl Tryz.ntmps27 (Nat.le_of_ble_eq_true rfl) hB ?_
    refine ZcN ?_;refine ZN ?_;refine Zbs ?_;refine Z1 ?_;refine Zbk ?_;refine z7 (zax rfl rfl rfl zbl.1 zbl.2 (wrap_u64 (by omega) (by omega))) rfl ?_;refine Z7 ?_;refine Za ?_;refine ZbO ?_;refine Zal ?_;refine Zao ?_;refine Zd0 ?_;refine Zea ?_;refine ZcK ?_;refine Zk ?_
    refine ye L (rs:=[.tmp 4, .tmp 5]) rfl (fun _ _ h => h) Since.refl fun u H hH hle => ?_
    exact zen SlV.nil
   | some t =>
    have hrz:US t false v B:=hrow (some t, v) (List.mem_of_getElem? hv)
    obtain ⟨p3, c3, rfl⟩:=zaq hrz
    rw [hat]
    refine yf Tryz.func27 rfl Tryz.ntmps27 (Nat.le_of_ble_eq_true rfl) hB ?_
    refine ZcN ?_;refine ZN ?_;refine Zbs ?_;refine Z1 ?_;refine Zbk ?_;refine z7 (zax rfl rfl rfl zbl.1 zbl.2 (wrap_u64 (by omega) (by omega))) rfl ?_;refine Z7 ?_;refine Za ?_;refine ZbO ?_;refine Zal ?_;refine Zao ?_;refine Zd0 ?_;refine Zs ?_;refine ZaY ?_;refine Zo ?_;refine ZbO ?_;refine Zal ?_;refine Zao ?_;refine Zd0 ?_;refine Zk ?_
    refine ye L (rs:=[.tmp 4, .tmp 5]) rfl (fun _ _ h => h) Since.refl fun u H hH hle => ?_
    exact zen (hrz.le hle)
  ·rw [List.getElem?_eq_none (by omega)] at hat
   rw [hat]
   refine yf Tryz.func27 rfl Tryz.ntmps27 (Nat.le_of_ble_eq_true rfl) hB ?_
   refine ZcN ?_;refine ZN ?_;refine Zbs ?_;refine Z1 ?_;refine Zbk ?_;refine z7 (zax rfl rfl rfl zbl.1 zbl.2 (wrap_u64 (by omega) (by omega))) rfl ?_;refine ZC ?_;refine ZcV ?_;refine Zg ?_;refine ZcK ?_;refine Zk ?_
   refine ye L (rs:=[.tmp 4, .tmp 5]) rfl (fun _ _ h => h) Since.refl fun u H hH hle => ?_
   exact zen SlV.nil
end Go.V.L10
set_option maxRecDepth 20000
namespace Go.V.L10
open Go.Proofs Go.RowKit Go.V Go.V.L2 Go.V.L8 Go.V.L6
theorem _root_.Go.V.Zgx {A B:Prop} (h:B) (t:Wr B → A:=by intro h; refine Za5 ?_;refine z8 (StepOK.seeV (qf L (qo rfl) rfl rfl rfl rfl) (by assumption)) rfl ?_;exact h.h):A:=t ⟨h⟩
theorem z0g {φ:Value → Heap → Prop} {a v:Value} {H:Heap} (h:TupS [φ, fun v _ => v = a] v H):∃ tv, v = .tuple #[tv, a] ∧ φ tv H:=by
 obtain ⟨vs, rfl, hl, hp⟩:=h
 match vs, hl with
 | [x, y], _ =>
  have h2:=hp 1 _ y rfl rfl
  exact ⟨x, by rw [← h2], hp 0 _ x rfl rfl⟩
abbrev Wr10P (S:Sto) (rev e:Int):Value → Heap → Prop:=TupS [RsS S, fun v _ => v = .int .u64 rev, fun v _ => v = .int .i64 e]
theorem z54 {φ:Value → Heap → Prop} {a b v:Value} {H:Heap} (h:φ v H):TupS [φ, fun v _ => v = a, fun v _ => v = b] (.tuple #[v, a, b]) H:=by
 refine ⟨[v, a, b], rfl, rfl, fun i ψ x hi hx => ?_⟩
 rcases i with _ | _ | _ | i
 ·cases hi; cases hx; exact h
 ·cases hi; cases hx; rfl
 ·cases hi; cases hx; rfl
 ·cases hi
theorem Wr10P.mono {S:Sto} {rev e:Int}:Kn.mono (.sat (Wr10P S rev e)):=TupS.mono fun ψ hψ => by
 simp only [List.mem_cons, List.mem_nil_iff, or_false] at hψ
 rcases hψ with rfl | rfl | rfl
 ·exact RsS.mono
 ·exact fun _ _ _ h _ => h
 ·exact fun _ _ _ h _ => h
attribute [local irreducible] V N X VO Par StepOK Has Ret RetL RetO RetT zcd zd2 RetY Src
set_option maxHeartbeats 4000000 in
set_option maxRecDepth 20000 in
theorem zn7 {S S':Sto} {l cs:List CH} {rev e:Int} {fl fc:Bool} (hI:z5l S) (hR:S.R.length ≤ 100000) (hn:S.R.length ≠ 0) (hss:∀ r t, kpt S.R r = some t → Sst zbh t ∧ ∀ x ∈ t, TZ x) (zl:∀ c ∈ l, TM c.1) (zc:∀ c ∈ cs, TM c.1) (ll:l.length ≤ 9223372036854775807) (lc:cs.length ≤ 9223372036854775807) (hw:ze0 S l cs = (S', rev, e)) {v lv cv:Value} {w:World} {B:Heap} (hB:B.Le (hp w)) (hv:RsS S v B) (hl:KS tyM l fl lv B) (hc:KS tyC cs fc cv B) :
  Ret Tryz.prog 53 [v, lv, cv] w B (Wr10P S' rev e):=by
 obtain ⟨rv, pv, rfl, ⟨zs, hzs, hrow, hrv⟩, hpv⟩:=hv
 have hzl:zs.length = S.R.length:=by rw [← hzs, List.length_map]
 obtain ⟨p, c, rfl⟩:=zaq hrv
 obtain ⟨p2, c2, rfl⟩:=zaq hpv
 obtain ⟨t0, ht0⟩:∃ t0, kpt S.R S.R.length = some t0:=Option.isSome_iff_exists.1 hI.last
 have hA:atS S 0 = (t0, 0):=by unfold atS; rw [if_pos rfl, ht0]
 have ht4:=hI.tl _ _ ht0
 have hts:=hss _ _ ht0
 obtain ⟨⟨t1, made, e1⟩, hwr⟩:∃ x, zeo t0 l cs = x:=⟨_, rfl⟩
 unfold ze0 at hw
 rw [hA, hwr] at hw
 dsimp only at hw
 obtain ⟨j, hj⟩:∃ j, zs.length = j + 1:=⟨zs.length - 1, by omega⟩
 have hws:IntKind.i64.wrap (((zs.length:Nat):Int) - 1) = ((j:Nat):Int):=(zaa (by omega) (by omega)).trans (by omega)
 obtain ⟨v0, hv0⟩:∃ v, zs[j]? = some (some t0, v):=zlu hzs (by
  obtain ⟨o, ho⟩:=zae (show j < S.R.length by omega)
  have h2:S.R.length = j + 1:=by omega
  rw [h2, zek, ho] at ht0
  cases o with
  | none => cases ht0
  | some t => cases ht0; exact ho)
 have hrz:US t0 false v0 B:=hrow (some t0, v0) (List.mem_of_getElem? hv0)
 obtain ⟨p3, c3, rfl⟩:=zaq hrz
 have hc0:=zss hv0
 have hkl:=zks S.R S.R.length
 refine yf Tryz.func53 rfl Tryz.ntmps53 (Nat.le_of_ble_eq_true rfl) hB ?_
 refine zat 1 (KS tyM l fl) rfl SlV.mono hl ?_
 refine zat 2 (KS tyC cs fc) rfl SlV.mono hc ?_
 refine ZY ?_;refine ZaL ?_;refine ZS ?_;refine ZbO ?_;refine Zbk ?_;refine Za7 ?_;refine Zao ?_;refine Zd0 ?_;refine Zdq ?_;refine z7 (yw (φ:=RWriteP t1 made e1) L rfl rfl (zk rfl) rfl rfl rfl RWriteP.mono (fun u H hH hle _ v1 h1 v2 h2 => zpu zl zc ll lc ht4 hts.1 hts.2 hwr hH (hrz.le hle) h1 h2)) rfl ?_;refine zbq 25 rfl fun v1 H1 hs1 hp1 => ?_;obtain ⟨tv, mv, rfl, htv, hmv⟩:=hp1; obtain ⟨p4, c4, rfl⟩:=zaq htv; refine Zaz ?_;refine ZeZ ?_;refine ZF ?_;refine ZaW ?_
 have hrow1:=hrow.le hs1.le
 have hrv1:=hrv.le hs1.le
 have hpv1:=hpv.le hs1.le
 by_cases he:e1 = 0
 ·subst he
  rw [if_pos rfl] at hw
  by_cases hk:1024 ≤ (zas S.R).length
  ·rw [if_pos hk] at hw
   cases hw
   refine ZG ?_;refine Z3 ?_;refine Za ?_;refine Zcj ?_;refine z7 (yw (φ:=RsV (zas S.R) false) L rfl rfl (zk rfl) rfl rfl rfl SlV.mono (fun u H hH hle _ => zfc hzs (by omega) ⟨_, _, _, rfl⟩ hH (hrv1.le hle))) rfl ?_;refine ZcX ?_;refine Zat ?_;refine Zar ?_;refine Zt ?_;refine Zj ?_;refine Zu ?_;refine ZP ?_;refine Zo ?_;refine Zc4 ?_;refine Zau ?_;refine Zk ?_
   refine ye L (rs:=[.cell 6 32, .tmp 7, .tmp 8]) rfl (fun _ _ h => h) hs1 fun u H hH hle => ?_
   exact ⟨_, yl rfl, rfl, z54 ⟨_, _, rfl, ⟨zs, hzs, hrow1.le hle, hrv1.le hle⟩, hpv1.le hle⟩⟩
  ·rw [if_neg hk] at hw
   cases hw
   have hlen:(zs.flatMap rrc).length = zs.length * 2:=zcq zh3 zs
   have hpl:=zq4 hrow
   have hwu:IntKind.u64.wrap ((zs.length + 1:Nat):Int) = ((S.R.length + 1:Nat):Int):=(wrap_u64 (by omega) (by omega)).trans (by omega)
   refine ZG ?_;refine Z3 ?_;refine Za ?_;refine Zcj ?_;refine z7 (yw (φ:=RsV (zas S.R) false) L rfl rfl (zk rfl) rfl rfl rfl SlV.mono (fun u H hH hle _ => zfc hzs (by omega) ⟨_, _, _, rfl⟩ hH (hrv1.le hle))) rfl ?_;refine ZcX ?_;refine ZA ?_;refine Zg ?_;refine Zr ?_;refine Zu ?_;refine Zas ?_
   refine qg (id:=6) [(47, [43]), (50, [47]), (100012, [50])] mixed (by kernel_rfl) ?_;refine Zgx ?_;refine z8 (zc7 L rfl rfl rfl (zik rfl) rfl z6x hlen hpl (by omega) (by omega)) rfl ?_;refine Zh ?_;refine z8 (yx (cs:=[_, _]) rfl rfl z57 rfl rfl) rfl ?_;refine Zfm ?_;refine za2 (StepOK2.turn (zb9 (q:=43) L rfl rfl rfl (zhq rfl) rfl z6x rfl rfl (by omega) (by omega)) (z0c (Nat.succ_ne_zero _))) rfl rfl ?_;refine Zbo ?_;refine za2 (zia (q:=47) (X:=z66 2 (zs.length + 1) _) (fun x => [(0, .slice (some ⟨x.1.1, 0, none⟩) (zs.length + 1) x.1.2.1), (1, .slice p2 S.P.length c2)]) (fun x => [.slice (some ⟨x.1.1, 0, none⟩) (zs.length + 1) x.1.2.1, .slice p2 S.P.length c2]) rfl rfl rfl rfl z30 (fun _ => rfl) (fun _ => by rfl)) rfl rfl ?_;refine z8 (yg L rfl rfl rfl rfl) rfl ?_;refine za2 (zly L (q:=50) rfl (fun _ => by exact ⟨rfl, rfl⟩) rfl rfl rfl rfl rfl) rfl rfl ?_;refine ZbB ?_
   refine zht 12 902 rfl fun x => ?_
   obtain ⟨b12, ⟨b47, cap, rest⟩, hcap, _, hfl⟩:=x
   dsimp only at hcap hfl ⊢
   rw [zhj]
   refine zhr 902 903 rfl (za4 _) ?_
   refine z00 903 rfl fun H2 hs2 _ hb47 => ?_
   refine qg (id:=7) [(200051, [902]), (200053, [902])] mixed (by kernel_rfl) ?_;refine qn (zay L (q:=902) (vs:=[_, _]) rfl rfl rfl rfl rfl rfl ⟨_, rfl⟩) rfl rfl ?_;refine Zcw ?_;refine qn (qq L (q:=902) rfl rfl rfl rfl rfl rfl) rfl rfl ?_;refine z8 (zm0 L rfl rfl rfl rfl) rfl ?_;refine z8 (zax rfl rfl rfl zbl.1 zbl.2 (wrap_u64 (by omega) (by omega))) rfl ?_;refine Ze1 ?_;refine Zbn ?_;refine Zw ?_
   refine ye L (rs:=[.cell 6 32, .tmp 7, .tmp 8]) rfl (fun _ _ h => h) (hs1.trans hs2) fun u H hH hle => ?_
   have hrow2:RowOK (zs ++ [(some t1, .slice p4 t1.length c4)]) H2:=fun z hz => by
    rcases List.mem_append.1 hz with hz | hz
    ·exact (hrow1.le hs2.le) z hz
    ·rw [List.mem_singleton.1 hz]; exact htv.le hs2.le
   have hfm:(zs ++ [(some t1, Value.slice p4 t1.length c4)]).flatMap rrc = zs.flatMap rrc ++ [.bool true, .slice p4 t1.length c4]:=by rw [List.flatMap_append]; rfl
   have hrv2:RwV (zs ++ [(some t1, .slice p4 t1.length c4)]) (.slice (some ⟨b47, 0, none⟩) (zs.length + 1) cap) H2:=by
    unfold RwV
    rw [hfm, List.length_append, List.length_singleton]
    exact ⟨by rw [List.length_append, hlen]; simp; omega, .inr ⟨b47, 0, cap, _, _, _, rfl, hb47, (by show (((zs.flatMap rrc ++ ([.bool true, .slice p4 t1.length c4]:List Value)) ++ rest).drop 0).take _ = _; rw [List.drop_zero]; exact List.take_left), hcap, fun h => by cases h⟩⟩
   rw [show S.R.length + 1 = zs.length + 1 by omega]
   exact ⟨_, yl rfl, rfl, z54 ⟨_, _, rfl, ⟨_, by rw [List.map_append, hzs]; rfl, hrow2.le hle, hrv2.le hle⟩, (hpv1.le hs2.le).le hle⟩⟩
 ·rw [if_neg he] at hw
  cases hw
  refine ZG ?_;refine ZH ?_;refine Zc9 ?_;refine Zr ?_;refine Zu ?_;refine ZP ?_;refine Zo ?_;refine Zc4 ?_;refine Zau ?_;refine Zk ?_
  refine ye L (rs:=[.cell 6 32, .tmp 7, .tmp 8]) rfl (fun _ _ h => h) hs1 fun u H hH hle => ?_
  exact ⟨_, yl rfl, rfl, z54 ⟨_, _, rfl, ⟨zs, hzs, hrow1.le hle, hrv1.le hle⟩, hpv1.le hle⟩⟩
abbrev Pn10P (S:Sto) (e:Int):Value → Heap → Prop:=TupS [RsS S, fun v _ => v = .int .i64 e]
theorem Pn10P.mono {S:Sto} {e:Int}:Kn.mono (.sat (Pn10P S e)):=zfd RsS.mono
set_option maxHeartbeats 1000000 in
set_option maxRecDepth 20000 in
theorem zlt {S S':Sto} {r e:Int} {un:Bool} (hR:S.R.length ≤ 1000000000) (hr0:0 ≤ r) (hr1:r < 18446744073709551616) (hz:S.P.length ≤ 1000) (hpos:∀ x ∈ S.P, 0 < x) (hpn:zol S r un = (S', e)) {v:Value} {w:World} {B:Heap} (hB:B.Le (hp w)) (hv:RsS S v B) :
  Ret Tryz.prog 54 [v, .int .u64 r, .bool un] w B (Pn10P S' e):=by
 obtain ⟨rv, pv, rfl, ⟨zs, hzs, hrow, hrv⟩, hpv⟩:=hv
 have hzl:zs.length = S.R.length:=by rw [← hzs, List.length_map]
 obtain ⟨p, c, rfl⟩:=zaq hrv
 obtain ⟨p2, c2, rfl⟩:=zaq hpv
 have hwl:IntKind.u64.wrap ((zs.length:Nat):Int) = ((zs.length:Nat):Int):=wrap_u64 (by omega) (by omega)
 unfold zol at hpn
 by_cases hk:(kpt S.R r).isSome = true
 ·rw [if_pos hk] at hpn
  obtain ⟨k0, k1⟩:=zdz hk
  obtain ⟨j, rfl⟩:∃ j:Nat, r = ((j + 1:Nat):Int):=⟨(r - 1).toNat, by omega⟩
  have hws:IntKind.u64.wrap (((j + 1:Nat):Int) - 1) = ((j:Nat):Int):=(wrap_u64 (by omega) (by omega)).trans (by omega)
  rw [zek] at hk
  obtain ⟨o, ho⟩:=zae (show j < S.R.length by omega)
  rw [ho] at hk
  cases o with
  | none => cases hk
  | some t =>
   obtain ⟨v, hv⟩:=zlu hzs ho
   have hc:=zss hv
   obtain ⟨⟨P1, e1⟩, hu⟩:∃ x, zfz S.P ((j + 1:Nat):Int) = x:=⟨_, rfl⟩
   refine yf Tryz.func54 rfl Tryz.ntmps54 (Nat.le_of_ble_eq_true rfl) hB ?_
   refine Zdp ?_;refine ZN ?_;refine ZH ?_;refine Zd ?_;refine Zbk ?_;refine z7 (zax rfl rfl rfl zbl.1 zbl.2 (wrap_u64 (by omega) (by omega))) rfl ?_;refine Zch ?_;refine Za ?_;refine ZbO ?_;refine Zal ?_;refine Zao ?_;refine Zd0 ?_;refine Zs ?_;refine ZaY ?_;refine Zt ?_;refine ZbO ?_;refine Za ?_;refine z7 (yw (φ:=RP2 (S.P ++ [((j + 1:Nat):Int)]) 0) L rfl rfl (zk rfl) rfl rfl rfl zq5 (fun u H hH hle _ v1 h1 => zx4 (by omega) hpos hz hH h1)) rfl ?_;refine zbq 35 rfl fun v1 H1 hs1 hp1 => ?_;obtain ⟨tv, rfl, htv⟩:=z0g hp1; obtain ⟨p4, c4, rfl⟩:=zaq htv; refine ZcJ ?_
   have hrow1:=hrow.le hs1.le
   have hrv1:=hrv.le hs1.le
   have hpv1:=hpv.le hs1.le
   cases un with
   | false =>
    rw [if_neg (by decide)] at hpn
    cases hpn
    refine Zu ?_;refine Zr ?_;refine ZD ?_;refine Zas ?_;refine Z8 ?_;refine Zv ?_;refine Za ?_;refine z7 (yx (cs:=[_, _]) rfl rfl z30 rfl rfl) rfl ?_;refine Za0 ?_
    refine ye L (rs:=[.cell 6 32, .tmp 7]) rfl (fun _ _ h => h) hs1 fun u H hH hle => ?_
    exact ⟨_, yl rfl, rfl, zen ⟨_, _, rfl, ⟨zs, hzs, hrow1.le hle, hrv1.le hle⟩, htv.le hle⟩⟩
   | true =>
    rw [if_pos rfl, hu] at hpn
    dsimp only at hpn
    refine Zu ?_;refine ZW ?_;refine Zo ?_;refine ZbO ?_;refine Za ?_;refine z7 (yw (φ:=RP2 P1 e1) L rfl rfl (zk rfl) rfl rfl rfl zq5 (fun u H hH hle _ v1 h1 => zsq hu hz hH h1)) rfl ?_;refine zbq 43 rfl fun v1 H2 hs2 hp2 => ?_;obtain ⟨uv, rfl, huv⟩:=z0g hp2; obtain ⟨p5, c5, rfl⟩:=zaq huv; refine ZcJ ?_
    have hrow2:=hrow1.le hs2.le
    have hrv2:=hrv1.le hs2.le
    have hpv2:=hpv1.le hs2.le
    by_cases h0:e1 = 0
    ·subst h0
     rw [if_pos rfl] at hpn
     cases hpn
     refine ZD ?_;refine Zas ?_;refine Z8 ?_;refine Zv ?_;refine Za ?_;refine z7 (yx (cs:=[_, _]) rfl rfl z30 rfl rfl) rfl ?_;refine Za0 ?_
     refine ye L (rs:=[.cell 6 32, .tmp 7]) rfl (fun _ _ h => h) (hs1.trans hs2) fun u H hH hle => ?_
     exact ⟨_, yl rfl, rfl, zen ⟨_, _, rfl, ⟨zs, hzs, hrow2.le hle, hrv2.le hle⟩, huv.le hle⟩⟩
    ·rw [if_neg h0] at hpn
     cases hpn
     refine ZD ?_;refine ZP ?_;refine Zp ?_;refine Zc4 ?_;refine Za0 ?_
     refine ye L (rs:=[.cell 6 32, .tmp 7]) rfl (fun _ _ h => h) (hs1.trans hs2) fun u H hH hle => ?_
     exact ⟨_, yl rfl, rfl, zen ⟨_, _, rfl, ⟨zs, hzs, hrow2.le hle, hrv2.le hle⟩, hpv2.le hle⟩⟩
 ·rw [if_neg hk] at hpn
  cases hpn
  by_cases hr:r = 0
  ·refine yf Tryz.func54 rfl Tryz.ntmps54 (Nat.le_of_ble_eq_true rfl) hB ?_
   refine Zdp ?_;refine ZN ?_;refine Z3 ?_;refine Zfk ?_;refine Zg ?_;refine ZcV ?_;refine Zg ?_;refine Zbw ?_;refine Zcj ?_;refine Za0 ?_
   refine ye L (rs:=[.cell 6 32, .tmp 7]) rfl (fun _ _ h => h) Since.refl fun u H hH hle => ?_
   exact ⟨_, yl rfl, rfl, zen ⟨_, _, rfl, ⟨zs, hzs, hrow.le hle, hrv.le hle⟩, hpv.le hle⟩⟩
  ·obtain ⟨j, rfl⟩:∃ j:Nat, r = ((j + 1:Nat):Int):=⟨(r - 1).toNat, by omega⟩
   have hws:IntKind.u64.wrap (((j + 1:Nat):Int) - 1) = ((j:Nat):Int):=(wrap_u64 (by omega) (by omega)).trans (by omega)
   by_cases hjl:j < S.R.length
   ·rw [zek] at hk
    obtain ⟨o, ho⟩:=zae hjl
    rw [ho] at hk
    cases o with
    | some t => exact absurd rfl hk
    | none =>
     obtain ⟨v, hv⟩:=zlu hzs ho
     have hc:=zss hv
     refine yf Tryz.func54 rfl Tryz.ntmps54 (Nat.le_of_ble_eq_true rfl) hB ?_
     refine Zdp ?_;refine ZN ?_;refine ZH ?_;refine Zd ?_;refine Zbk ?_;refine z7 (zax rfl rfl rfl zbl.1 zbl.2 (wrap_u64 (by omega) (by omega))) rfl ?_;refine Zch ?_;refine Za ?_;refine ZbO ?_;refine Zal ?_;refine Zao ?_;refine Zd0 ?_;refine Zea ?_;refine Zbw ?_;refine Zcj ?_;refine Za0 ?_
     refine ye L (rs:=[.cell 6 32, .tmp 7]) rfl (fun _ _ h => h) Since.refl fun u H hH hle => ?_
     exact ⟨_, yl rfl, rfl, zen ⟨_, _, rfl, ⟨zs, hzs, hrow.le hle, hrv.le hle⟩, hpv.le hle⟩⟩
   ·refine yf Tryz.func54 rfl Tryz.ntmps54 (Nat.le_of_ble_eq_true rfl) hB ?_
    refine Zdp ?_;refine ZN ?_;refine ZH ?_;refine Zd ?_;refine Zbk ?_;refine z7 (zax rfl rfl rfl zbl.1 zbl.2 (wrap_u64 (by omega) (by omega))) rfl ?_;refine ZdR ?_;refine ZcV ?_;refine Zg ?_;refine Zbw ?_;refine Zcj ?_;refine Za0 ?_
    refine ye L (rs:=[.cell 6 32, .tmp 7]) rfl (fun _ _ h => h) Since.refl fun u H hH hle => ?_
    exact ⟨_, yl rfl, rfl, zen ⟨_, _, rfl, ⟨zs, hzs, hrow.le hle, hrv.le hle⟩, hpv.le hle⟩⟩
end Go.V.L10
set_option maxRecDepth 20000
namespace Go.V.L10
open Go.Proofs Go.RowKit Go.V Go.V.L2 Go.V.L8 Go.V.L6
theorem zru {α:Type} {f:α → List Value} {l:List α} {i:Nat} {x:α} (h:l[i]? = some x) (rest:List Value):l.flatMap f ++ rest = (l.take i).flatMap f ++ (f x ++ ((l.drop (i + 1)).flatMap f ++ rest)):=by
 have hi:=get_lt h
 have e:l = l.take i ++ x :: l.drop (i + 1):=by
  rw [show x :: l.drop (i + 1) = l.drop i by rw [List.drop_eq_getElem_cons hi, zdg h], List.take_append_drop]
 conv => lhs; rw [e, List.flatMap_append, List.flatMap_cons]
 simp only [List.append_assoc]
theorem z4y {α:Type} {f:α → List Value} {s:Nat} (hf:∀ a, (f a).length = s) {l:List α} {i:Nat} {x:α} (h:l[i]? = some x) (y:α) (rest:List Value):(l.flatMap f ++ rest).take (0 + i * s) ++ (f y ++ (l.flatMap f ++ rest).drop (0 + i * s + s)) = (l.set i y).flatMap f ++ rest:=by
 have hi:=get_lt h
 have hl:((l.take i).flatMap f).length = i * s:=by rw [zcq hf, List.length_take, Nat.min_eq_left (Nat.le_of_lt hi)]
 have hs:(l.set i y)[i]? = some y:=by rw [List.getElem?_set_self hi]
 rw [zru h rest, zru hs rest, List.take_set_of_le (Nat.le_refl _), List.drop_set_of_lt (Nat.lt_succ_self i)]
 have hx:=hf x
 generalize (l.take i).flatMap f = A at hl ⊢
 generalize (l.drop (i + 1)).flatMap f ++ rest = T
 have e1:(A ++ (f x ++ T)).take (0 + i * s) = A:=by rw [Nat.zero_add, ← hl]; exact List.take_left
 have e2:(A ++ (f x ++ T)).drop (0 + i * s + s) = T:=by
  rw [← List.append_assoc, Nat.zero_add, ← hl]
  exact List.drop_left' (by rw [List.length_append, hx])
 rw [e1, e2]
def z2r (zs:List zlj) (g:Int):List zlj:=zs.set (g - 1).toNat (none, .slice none 0 0)
def zii (zs:List zlj) (l:List Int):List zlj:=l.foldl z2r zs
theorem ztr {zs:List zlj} {l:List Int} {i:Nat} {g:Int} (h:l[i]? = some g):zii zs (l.take (i + 1)) = z2r (zii zs (l.take i)) g:=by
 unfold zii; rw [za3 h, List.foldl_append]; rfl
theorem zzi (zs:List zlj) (g:Int):(z2r zs g).map (·.1) = clr (zs.map (·.1)) g:=by unfold z2r clr; rw [List.map_set]
theorem zk4:∀ (l:List Int) (zs:List zlj), (zii zs l).map (·.1) = clrL (zs.map (·.1)) l
 | [], _ => rfl
 | g :: l, zs => by
  have:=zk4 l (z2r zs g)
  rw [zzi] at this
  exact this
theorem zwy (l:List Int) (zs:List zlj):(zii zs l).length = zs.length:=by
 have:=congrArg List.length (zk4 l zs)
 rw [List.length_map, zem, List.length_map] at this
 exact this
theorem RowOK.clr {zs:List zlj} {H:Heap} (h:RowOK zs H) (g:Int):RowOK (z2r zs g) H:=fun z hz => by
 rcases List.mem_or_eq_of_mem_set hz with hz | rfl
 ·exact h z hz
 ·exact SlV.nil
theorem RowOK.clrL:∀ {l:List Int} {zs:List zlj} {H:Heap}, RowOK zs H → RowOK (zii zs l) H
 | [], _, _, h => h
 | g :: l, _, _, h => RowOK.clrL (l:=l) (h.clr g)
attribute [local irreducible] V N X VO Par StepOK Has Ret RetL RetO RetT zcd zd2 RetY Src
def Cl10P (S:Sto) (g:List Int) (e:Int):Value → Heap → Prop:=fun v H => ∃ sv gv, v = .tuple #[sv, gv, .int .i64 e] ∧ RsS S sv H ∧ RsV g false gv H
set_option maxHeartbeats 1000000 in
set_option maxRecDepth 20000 in
theorem zle {S:Sto} {keep:Int} (hn:S.R.length ≠ 0) (hR:S.R.length ≤ 100000) (hz:S.P.length ≤ 100000) {v:Value} {w:World} {B:Heap} (hB:B.Le (hp w)) (hv:RsS S v B) :
  Ret Tryz.prog 55 [v, .int .i64 keep] w B (Cl10P (zdq S keep).1 (zdq S keep).2.1 (zdq S keep).2.2):=by
 obtain ⟨rv, pv, rfl, ⟨zs, hzs, hrow, hrv⟩, hpv⟩:=hv
 have hzl:zs.length = S.R.length:=by rw [← hzs, List.length_map]
 obtain ⟨p, c, rfl⟩:=zaq hrv
 obtain ⟨p2, c2, rfl⟩:=zaq hpv
 have hkl:=zks S.R S.R.length
 by_cases hk1:keep < 1
 ·have hS:zdq S keep = (S, [], 4):=by unfold zdq; rw [if_neg (by omega)]
  rw [hS]
  refine yf Tryz.func55 rfl Tryz.ntmps55 (Nat.le_of_ble_eq_true rfl) hB ?_
  refine ZY ?_;refine ZaL ?_;refine ZN ?_;refine ZT ?_;refine ZdE ?_;refine Zbw ?_;refine Zcj ?_;refine Zau ?_;refine Zk ?_
  refine ye L (rs:=[.cell 4 32, .tmp 5, .tmp 6]) rfl (fun _ _ h => h) Since.refl fun u H hH hle => ?_
  exact ⟨_, yl rfl, rfl, _, _, rfl, ⟨_, _, rfl, ⟨zs, hzs, hrow.le hle, hrv.le hle⟩, hpv.le hle⟩, SlV.nil⟩
 ·by_cases hk2:1024 < keep
  ·have hS:zdq S keep = (S, [], 4):=by unfold zdq; rw [if_neg (by omega)]
   rw [hS]
   refine yf Tryz.func55 rfl Tryz.ntmps55 (Nat.le_of_ble_eq_true rfl) hB ?_
   refine ZY ?_;refine ZaL ?_;refine ZN ?_;refine Z4 ?_;refine Zd ?_;refine ZdR ?_;refine Zbw ?_;refine Zcj ?_;refine Zau ?_;refine Zk ?_
   refine ye L (rs:=[.cell 4 32, .tmp 5, .tmp 6]) rfl (fun _ _ h => h) Since.refl fun u H hH hle => ?_
   exact ⟨_, yl rfl, rfl, _, _, rfl, ⟨_, _, rfl, ⟨zs, hzs, hrow.le hle, hrv.le hle⟩, hpv.le hle⟩, SlV.nil⟩
  ·obtain ⟨k, rfl⟩:∃ k:Nat, keep = (k:Int):=⟨keep.toNat, by omega⟩
   have hS:zdq S k = (⟨clrL S.R (zdp S.P (zas S.R) k), S.P⟩, zdp S.P (zas S.R) k, 0):=by unfold zdq; rw [if_pos (by omega)]; rfl
   rw [hS]
   have hgp:∀ x ∈ zdp S.P (zas S.R) k, 0 < x ∧ x ≤ S.R.length:=fun x hx => by
    unfold zdp at hx
    exact zdz (zbc.1 (List.mem_of_mem_take (List.mem_filter.1 hx).1))
   have hgl:(zdp S.P (zas S.R) k).length ≤ 100000:=by
    unfold zdp
    refine Nat.le_trans (List.length_filter_le ..) ?_
    rw [List.length_take]
    have:(zas S.R).length ≤ S.R.length:=hkl
    omega
   generalize hg:zdp S.P (zas S.R) k = g at hgp hgl
   have hlen:(zs.flatMap rrc).length = zs.length * 2:=zcq zh3 zs
   have hpl:=zq4 hrow
   refine yf Tryz.func55 rfl Tryz.ntmps55 (Nat.le_of_ble_eq_true rfl) hB ?_
   refine ZY ?_;refine ZaL ?_;refine ZN ?_;refine Z4 ?_;refine Zd ?_;refine Z7 ?_;refine ZaY ?_
   refine Ze0 ?_;refine Zgx ?_;refine ZbS ?_;refine z8 (yw (φ:=RsV (zas S.R) false) L rfl rfl (zk rfl) rfl rfl rfl SlV.mono (fun u H hH hle _ => zfc hzs (by omega) ⟨_, _, _, rfl⟩ hH (hrv.le hle))) rfl ?_;refine Zh ?_;refine z8 (yw (φ:=RsV g false) L rfl rfl (zk rfl) rfl rfl rfl SlV.mono (fun u H hH hle _ v1 h1 v2 h2 => by rw [← hg]; exact zut hz (Nat.le_trans hkl hR) (by omega) hH h1 h2)) rfl ?_;refine Zdh ?_;refine ZbB ?_
   refine qg (id:=4) [(28, [25]), (100008, [28])] mixed (by kernel_rfl) ?_;refine Zgx ?_;refine z8 (StepOK.turn (zc7 L rfl rfl rfl (zik rfl) rfl z6x hlen hpl (by omega) (by omega)) (z0c (by omega))) rfl ?_;refine Zbo ?_;refine za2 (zia (q:=25) (X:=z66 2 zs.length _) (fun x => [(0, .slice (some ⟨x.1.1, 0, none⟩) zs.length x.1.2.1), (1, .slice p2 S.P.length c2)]) (fun x => [.slice (some ⟨x.1.1, 0, none⟩) zs.length x.1.2.1, .slice p2 S.P.length c2]) rfl rfl rfl rfl z30 (fun _ => rfl) (fun _ => by rfl)) rfl rfl ?_;refine z8 (yg L rfl rfl rfl rfl) rfl ?_;refine za2 (zly L (q:=28) rfl (fun _ => by exact ⟨rfl, rfl⟩) rfl rfl rfl rfl rfl) rfl rfl ?_;refine Zaj ?_;refine Zc ?_
   refine zht 8 902 rfl fun x => ?_
   obtain ⟨b8, ⟨b25, cap, rest⟩, hcap, _, hfl⟩:=x
   try dsimp only at hcap hfl ⊢
   rw [zhj]
   refine zhr 902 903 rfl (za4 _) ?_
   refine Zo ?_;refine ZE ?_
   refine zal (fun y:Nat => [(4, .own (Cell [.slice none 0 0, .slice none 0 0] z52)), (7, .sat (RsV g false)), (8, .is (.pointer (some ⟨b8, 0, none⟩))), (9, .is (.int .i64 y)), (902, .own (zan b8 [.slice (some ⟨b25, 0, none⟩) zs.length cap, .slice p2 S.P.length c2] z52)), (903, .own (zan b25 ((zii zs (g.take y)).flatMap rrc ++ rest) z7c))])
    (fun y => y ≤ g.length) (fun y => g.length - y) 0 (Nat.zero_le _) ⟨rfl, rfl, rfl, rfl, rfl, rfl, trivial⟩ ?_
   rintro i hi
   try dsimp only at hi ⊢
   have hzc:=zwy (g.take i) zs
   by_cases hlt:i < g.length
   ·obtain ⟨x, hx⟩:=zae hlt
    have hc:=zf6 hx
    have hxp:=hgp x (List.mem_of_getElem? hx)
    obtain ⟨j, rfl⟩:∃ j:Nat, x = ((j + 1:Nat):Int):=⟨(x - 1).toNat, by omega⟩
    have hws:IntKind.u64.wrap (((j + 1:Nat):Int) - 1) = ((j:Nat):Int):=(wrap_u64 (by omega) (by omega)).trans (by omega)
    have hwk:IntKind.i64.wrap ((i:Int) + 1) = ((i + 1:Nat):Int):=zaa (by omega) (by omega)
    obtain ⟨z0, hz0⟩:=zae (show j < (zii zs (g.take i)).length by omega)
    have hst:=z4y zh3 hz0 (none, .slice none 0 0) rest
    have hble:Nat.ble (0 + j * 2 + 2) ((zii zs (g.take i)).flatMap rrc ++ rest).length = true:=Nat.ble_eq_true_of_le (by rw [List.length_append, zcq zh3]; omega)
    have hnx:(zii zs (g.take i)).set j (none, .slice none 0 0) = zii zs (g.take (i + 1)):=by
     rw [ztr hx]; unfold z2r; congr 1; omega
    rw [hnx] at hst
    refine Zc ?_;refine ZD ?_;refine ZdX ?_;refine ZbT ?_
    refine qg (id:=8) [(200036, [902]), (100043, [903])] mixed (by kernel_rfl) ?_;refine Zcw ?_;refine qn (qq L (q:=902) rfl rfl rfl rfl rfl rfl) rfl rfl ?_;refine Zet ?_;refine Zex ?_;refine z8 (yx (cs:=[_, _]) rfl rfl z57 rfl rfl) rfl ?_;refine Zl ?_;refine zah (yz L (q:=903) rfl rfl rfl rfl rfl rfl hble rfl hst) rfl ?_;refine Zba ?_;refine Z5 ?_;refine Zam ?_
    exact yi (x:=i) (i + 1) hlt (by omega) ⟨rfl, rfl, rfl, rfl, rfl, rfl, trivial⟩
   ·obtain rfl:i = g.length:=by omega
    rw [List.take_length] at hzc ⊢
    refine Zc ?_;refine ZD ?_;refine ZbH ?_
    refine z00 903 rfl fun H2 hs2 _ hb25 => ?_
    refine ZM ?_;refine yo (zay L (q:=902) (vs:=[_, _]) rfl rfl rfl rfl rfl rfl ⟨_, rfl⟩) ?_;refine Zf ?_;refine Zau ?_;refine Zb6 ?_;refine Zb ?_
    refine ye L (rs:=[.cell 4 32, .tmp 5, .tmp 6]) rfl (fun _ _ h => h) hs2 fun u H hH hle => ?_
    have hrw:RwV (zii zs g) (.slice (some ⟨b25, 0, none⟩) zs.length cap) H2:=by
     unfold RwV
     rw [hzc]
     refine ⟨by rw [zcq zh3, hzc], .inr ⟨b25, 0, cap, _, _, _, rfl, hb25, ?_, hcap, fun h => by cases h⟩⟩
     show (((zii zs g).flatMap rrc ++ rest).drop 0).take _ = _
     rw [List.drop_zero]
     exact List.take_left
    exact ⟨_, yl rfl, rfl, fun gv hgv => ⟨_, _, rfl, ⟨_, _, rfl, ⟨_, by rw [zk4, hzs], ((hrow.le hs2.le).clrL).le hle, hrw.le hle⟩, (hpv.le hs2.le).le hle⟩, hgv⟩⟩
end Go.V.L10
set_option maxRecDepth 20000
namespace Go.V.L10
open Go.Proofs Go.RowKit Go.V Go.V.L2 Go.V.L8 Go.V.L6
abbrev zsh:TypeId:=34
abbrev z29:TypeId:=70
def BhG (pb b:Nat) (S:Sto):GR:=GEx (fun x:Value × Value => zab pb [zdh b, x.1, x.2] zsh) (fun x H => RlV S.R x.1 H ∧ RsV S.P false x.2 H) fun _ _ _ ⟨h1, h2⟩ hle => ⟨h1.le hle, h2.le hle⟩
theorem znl (pb b:Nat) (S:Sto):(BhG pb b S).res = ExR (fun x:Value × Value => zan pb [zdh b, x.1, x.2] zsh) (fun x H => RlV S.R x.1 H ∧ RsV S.P false x.2 H) (fun _ _ _ ⟨h1, h2⟩ hle => ⟨h1.le hle, h2.le hle⟩):=rfl
abbrev BoG (pb b:Nat) (S:Sto):GR:=zcy (BhG pb b S) (StG b S)
theorem zqk (pb b:Nat) (S:Sto):(BoG pb b S).res = zg9 (BhG pb b S).res (StG b S).res:=rfl
theorem zix {pb b:Nat} {S:Sto} {lv pv:Value} {B:Heap} (h1:RlV S.R lv B) (h2:RsV S.P false pv B):∀ (v:Value) H u C, B.Le H → (zan pb [zdh b, lv, pv] zsh).P v H u C → (BhG pb b S).res.P v H u C:=fun _ _ _ _ hle h => ⟨(lv, pv), ⟨h1.le hle, h2.le hle⟩, h⟩
theorem zjl {b:Nat} {S:Sto} {lv pv:Value} {cs:List Value} {H:Heap} (h:StP (fun c _ => c = [zdh b, lv, pv]) (RsS S) 1 2 cs H):∃ lv' pv', cs = [zdh b, lv', pv'] ∧ RlV S.R lv' H ∧ RsV S.P false pv' H:=by
 obtain ⟨c, v, rfl, ⟨l2, p2, rfl, h1, h2⟩, rfl⟩:=h
 exact ⟨l2, p2, rfl, h1, h2⟩
theorem zhc {S:Sto} {v:Value} {H:Heap} (h:RsS S v H):(zav v).length = 2 ∧ (zav v).all zbs = true:=by
 obtain ⟨lv, pv, rfl, ⟨zs, _, _, h1⟩, h2⟩:=h
 obtain ⟨p, c, rfl⟩:=zaq h1
 obtain ⟨p2, c2, rfl⟩:=zaq h2
 exact ⟨rfl, rfl⟩
def OvV (o:OO) (v:Value) (H:Heap):Prop:=∃ mv cv, v = .agg #[.int .u8 o.wh, mv, cv, .int .u8 o.rv, .int .i64 o.kp] ∧ PS3 o.ms false mv H ∧ PS3 o.cs false cv H
structure OOK (o:OO):Prop where
 wh:o.wh ≤ 255
 rv:o.rv ≤ 255
 ms:∀ c ∈ o.ms, c.1 ≤ 255 ∧ c.2.1 ≤ 255 ∧ c.2.2 ≤ 255
 cs:∀ c ∈ o.cs, c.1 ≤ 255 ∧ c.2.1 ≤ 255 ∧ c.2.2 ≤ 255
 lm:o.ms.length ≤ 9223372036854775807
 lc:o.cs.length ≤ 9223372036854775807
theorem OOK.rev {o:OO} (h:OOK o):0 ≤ o.rev ∧ o.rev < 18446744073709551616:=by
 have:=h.rv
 unfold OO.rev
 split <;> omega
attribute [local irreducible] V N X VO Par StepOK Has Ret RetL RetO RetT zcd zd2 RetY Src
theorem rev_ret {o:OO} (ho:OOK o) {mv cv:Value} (hp1:zbs mv = true) (hp2:zbs cv = true) {w:World} {B:Heap} (hB:B.Le (hp w)) :
  Ret Tryz.prog 36 [.agg #[.int .u8 o.wh, mv, cv, .int .u8 o.rv, .int .i64 o.kp]] w B (fun v _ => v = .int .u64 o.rev):=by
 have hrv:=ho.rv
 unfold OO.rev
 refine yf Tryz.func36 rfl Tryz.ntmps36 (Nat.le_of_ble_eq_true rfl) hB ?_
 by_cases h:o.rv = 255
 ·rw [if_pos h]
  refine ZbD ?_;refine Zv ?_;refine Z3 ?_;refine ZcW ?_
  refine ye L (rs:=[.tmp 2]) rfl (fun _ _ h => h) Since.refl fun u H hH hle => ?_
  rfl
 ·rw [if_neg h]
  have hwu:IntKind.u64.wrap (o.rv:Int) = (o.rv:Int):=wrap_u64 (by omega) (by omega)
  refine ZbD ?_;refine Zv ?_;refine Zax ?_;refine ZcG ?_;refine z7 (zax rfl rfl rfl z0r.1 z0r.2 (wrap_u64 (by omega) (by omega))) rfl ?_;refine Zb ?_
  refine ye L (rs:=[.tmp 2]) rfl (fun _ _ h => h) Since.refl fun u H hH hle => ?_
  rfl
end Go.V.L10
set_option maxRecDepth 20000
namespace Go.V.L10
open Go.Proofs Go.RowKit Go.V Go.V.L2 Go.V.L8 Go.V.L6
theorem _root_.Go.V.Zc6 {A B:Prop} (h:B) (t:Wr B → A:=by intro h; refine z8 (ql rfl rfl rfl rfl) rfl ?_;exact h.h):A:=t ⟨h⟩
theorem _root_.Go.V.ZfE {A B:Prop} (h:B) (t:Wr B → A:=by intro h; refine qn (zay L (q:=900) (vs:=[_, _]) rfl rfl rfl rfl rfl rfl ⟨_, rfl⟩) rfl rfl ?_;exact h.h):A:=t ⟨h⟩
theorem _root_.Go.V.Zge {A B:Prop} (h:B) (t:Wr B → A:=by intro h; refine z8 (zw L (vs:=[_, _, _, _, _]) (qo rfl) rfl rfl rfl rfl ⟨_, rfl⟩) rfl ?_;exact h.h):A:=t ⟨h⟩
theorem _root_.Go.V.Zgf {A B:Prop} (h:B) (t:Wr B → A:=by intro h; refine z8 (zw L (vs:=[_]) (qo rfl) rfl rfl rfl rfl ⟨_, rfl⟩) rfl ?_;exact h.h):A:=t ⟨h⟩
abbrev z78:Nat:=23
abbrev Cl10S (S:Sto) (g:List Int) (e:Int):Value → Heap → Prop:=TupS [RsS S, RsV g false, fun v _ => v = .int .i64 e]
theorem Cl10S.mono {S:Sto} {g:List Int} {e:Int}:Kn.mono (.sat (Cl10S S g e)):=TupS.mono fun ψ hψ => by
 simp only [List.mem_cons, List.mem_nil_iff, or_false] at hψ
 rcases hψ with rfl | rfl | rfl
 ·exact RsS.mono
 ·exact SlV.mono
 ·exact fun _ _ _ h _ => h
theorem Cl10P.tup {S:Sto} {g:List Int} {e:Int} {v:Value} {H:Heap} (h:Cl10P S g e v H):Cl10S S g e v H:=by
 obtain ⟨a, b, rfl, h1, h2⟩:=h
 refine ⟨[a, b, .int .i64 e], rfl, rfl, fun i ψ x hi hx => ?_⟩
 rcases i with _ | _ | _ | i
 ·cases hi; cases hx; exact h1
 ·cases hi; cases hx; exact h2
 ·cases hi; cases hx; rfl
 ·cases hi
attribute [local irreducible] V N X VO Par StepOK Has Ret RetL RetO RetT zcd zd2 RetY Src
set_option maxHeartbeats 4000000 in
set_option maxRecDepth 20000 in
theorem z43 {S:Sto} {n pb b:Nat} {o:OO} (hj:JJ n S) (hn:n ≤ 100) (ho:OOK o) {ov:Value} {w:World} {B:Heap} {C:Nat → Prop} (hB:B.Le (hp w)) (hov:OvV o ov B) (hr:(BoG pb b S).P B w C) (hC:∀ k, C k → k < w.heap.size ∧ B k = none) :
  RetY Tryz.prog z78 [zdh pb, ov] w B C (BoG pb b (doS S o)) (fun v _ => v = .int .i64 1):=by
 obtain ⟨mv, cv, rfl, hmv, hcv⟩:=hov
 obtain ⟨p1, c1, rfl⟩:=zaq hmv
 obtain ⟨p2, c2, rfl⟩:=zaq hcv
 have hI:=hj.I hn
 have hne:=hj.ne
 have hR:=hj.hR
 have hP:=hj.hP
 have hem:Int.tmod ((o.wh:Nat):Int) 8 = ((o.wh % 8:Nat):Int):=rfl
 have hrev:=ho.rev
 unfold RetY
 refine zau 900 (BoG pb b S) Tryz.func23 rfl Tryz.ntmps23 (Nat.le_of_ble_eq_true rfl) hB hr hC ?_
 rw [zqk]
 refine Zep ?_
 rw [znl]
 refine zc9 900 rfl fun x H hs0 hφ => ?_
 obtain ⟨lv, pv⟩:=x
 obtain ⟨hl, hpv⟩:=hφ
 dsimp only at hl hpv ⊢
 replace hmv:=hmv.le hs0.le
 replace hcv:=hcv.le hs0.le
 have hss:RsS S (.agg #[lv, pv]) H:=⟨lv, pv, rfl, hl, hpv⟩
 have hk8:o.wh % 8 < 8:=Nat.mod_lt _ (by omega)
 unfold doS
 generalize o.wh % 8 = k at hem hk8 ⊢
 refine Zb0 ?_;refine Ze ?_;refine Zy ?_;refine Zj ?_;refine ZcG ?_;refine Zg8 ?_;refine ZeV ?_;refine Zc ?_
 refine zfo (fun _:Unit => [(0, .is (zdh pb)), (3, .sat (At [.int .u8 o.wh, .slice p1 o.ms.length c1, .slice p2 o.cs.length c2, .int .u8 o.rv, .int .i64 o.kp] z29 0)), (4, .is (.int .i64 0)), (5, .is (.int .i64 0)), (6, .is (.int .i64 0)), (13, .is (.int .u8 k)), (49, .is (.bool (decide (k < 4)))), (900, .own (zan pb [zdh b, lv, pv] zsh)), (901, .own (StG b S).res)]) (fun _ => True) (fun _ => []) ?two ?one
 case one =>
  by_cases h0:k = 0
  ·subst h0
   refine ZM ?_;refine Z3 ?_;refine Zb ?_;refine ZaR ?_;refine zq ?_
   exact za7 () Since.refl trivial rfl ⟨rfl, rfl, rfl, rfl, rfl, rfl, rfl, rfl, rfl, trivial⟩
  ·by_cases h1:k = 1
   ·subst h1
    refine ZM ?_;refine Zc3 ?_;refine Zag ?_;refine Z3 ?_;refine Zb ?_;refine ZaR ?_;refine zq ?_
    exact za7 () Since.refl trivial rfl ⟨rfl, rfl, rfl, rfl, rfl, rfl, rfl, rfl, rfl, trivial⟩
   ·by_cases h2:k = 2
    ·subst h2
     refine ZM ?_;refine Zc3 ?_;refine Zag ?_;refine ZdQ ?_;refine Z3 ?_;refine Zb ?_;refine ZaR ?_;refine zq ?_
     exact za7 () Since.refl trivial rfl ⟨rfl, rfl, rfl, rfl, rfl, rfl, rfl, rfl, rfl, trivial⟩
    ·by_cases h3:k = 3
     ·subst h3
      refine ZM ?_;refine Zc3 ?_;refine Zag ?_;refine ZdQ ?_;refine Zd2 ?_;refine ZQ ?_;refine Z3 ?_;refine ZaT ?_
      exact za7 () Since.refl trivial rfl ⟨rfl, rfl, rfl, rfl, rfl, rfl, rfl, rfl, rfl, trivial⟩
     ·refine ZM ?_;refine Zc3 ?_;refine Zag ?_;refine ZdQ ?_;refine Zd2 ?_;refine ZQ ?_;refine ZH ?_;refine ZaT ?_
      rw [decide_eq_false (show ¬ k < 4 by omega)]
      exact za7 () Since.refl trivial rfl ⟨rfl, rfl, rfl, rfl, rfl, rfl, rfl, rfl, rfl, trivial⟩
 rintro _ _
 by_cases h4:k < 4
 ·rw [decide_eq_true h4]
  obtain ⟨⟨S', rev, e⟩, hw⟩:∃ x, ze0 S (dOf o.ms) (dOf o.cs) = x:=⟨_, rfl⟩
  rw [if_pos h4, hw]
  dsimp only
  have hm1:=RsS.mono (S:=S')
  refine ZdA ?_;refine Zcr ?_;refine Zav ?_
  refine qg (id:=14) [(200058, [900]), (65, [901])] mixed (by kernel_rfl) ?_;refine Zc5 ?_;refine Za5 ?_;refine Zgf ?_;refine z8 (yw (φ:=KS tyM (dOf o.ms) false) L rfl rfl (zk rfl) rfl rfl rfl SlV.mono (fun u H hH hle _ => zvz rfl ho.ms ho.lm hH (hmv.le hle))) rfl ?_;refine Za5 ?_;refine Zgf ?_;refine z8 (yw (φ:=KS tyC (dOf o.cs) false) L rfl rfl (zk rfl) rfl rfl rfl SlV.mono (fun u H hH hle _ => zqf rfl ho.cs ho.lc hH (hcv.le hle))) rfl ?_;refine za2 (zaj L 901 (StG b S') (.tuple #[.int .u64 rev, .int .i64 e]) (r:=StG b S) rfl rfl rfl rfl rfl (fun u H2 C2 hH hle hr2 hC2 v1 h1 v2 h2 => zdk (ze2 hI (by omega) hne (zr0 _) (zr0 _) (Nat.le_trans (zih _) (by omega)) (Nat.le_trans (zih _) (by omega)) hw hH h1 h2 hr2 hC2))) rfl rfl ?_;refine Zh ?_;refine Zc6 ?_;refine Zc6 ?_;refine Zc0 ?_
  refine qg (id:=15) [(200073, [900]), (100085, [900])] mixed (by kernel_rfl) ?_;refine Zi ?_;refine Zcc ?_;refine ZfE ?_;refine Za5 ?_;refine Zgf ?_;refine z8 (yw (φ:=KS tyM (dOf o.ms) false) L rfl rfl (zk rfl) rfl rfl rfl SlV.mono (fun u H hH hle _ => zvz rfl ho.ms ho.lm hH (hmv.le hle))) rfl ?_;refine Za5 ?_;refine Zgf ?_;refine z8 (yw (φ:=KS tyC (dOf o.cs) false) L rfl rfl (zk rfl) rfl rfl rfl SlV.mono (fun u H hH hle _ => zqf rfl ho.cs ho.lc hH (hcv.le hle))) rfl ?_;refine z8 (yw (φ:=Wr10P S' rev e) L rfl rfl (zk rfl) rfl rfl rfl Wr10P.mono (fun u H hH hle _ v1 h1 v2 h2 => zn7 hI (by omega) hne hj.ss (zr0 _) (zr0 _) (Nat.le_trans (zih _) (by omega)) (Nat.le_trans (zih _) (by omega)) hw hH (hss.le hle) h1 h2)) rfl ?_;refine Zah ?_;refine Ze3 ?_;refine Ze4 ?_;refine Ze4 ?_;refine Zcc ?_;refine zah (zgl L (q:=900) RsS.mono rfl rfl rfl rfl rfl (fun _ _ h => zhc h) (Nat.le_of_ble_eq_true rfl)) rfl ?_;refine Zc0 ?_
  refine zc9 900 rfl fun cs' H1 hs1 hφ => ?_
  obtain ⟨lv', pv', rfl, hl', hpv'⟩:=zjl hφ
  refine Zap ?_;refine Zd ?_;refine ZK ?_;refine Za4 ?_;refine Zc ?_;refine ZeU ?_;refine Zas ?_;refine zf (id:=27) ?_;refine Zb ?_
  refine zbi 900 (BhG pb b S').res rfl (zix hl' hpv') ?_
  refine zb8 900 901 rfl rfl (za4 (StG b S')) ?_
  exact zbp L 900 (r:=BoG pb b S') (rs:=[.tmp 4]) rfl (fun _ _ h => h) (hs0.trans hs1) rfl rfl (fun H hle => rfl)
 ·rw [decide_eq_false h4, if_neg h4]
  refine ZbP ?_
  refine zh ?_
  refine zh ?_
  refine zfo (fun _:Unit => [(0, .is (zdh pb)), (3, .sat (At [.int .u8 o.wh, .slice p1 o.ms.length c1, .slice p2 o.cs.length c2, .int .u8 o.rv, .int .i64 o.kp] z29 0)), (4, .is (.int .i64 0)), (5, .is (.int .i64 0)), (6, .is (.int .i64 0)), (13, .is (.int .u8 k)), (89, .is (.bool (decide (k < 6)))), (900, .own (zan pb [zdh b, lv, pv] zsh)), (901, .own (StG b S).res)]) (fun _ => True) (fun _ => []) ?two2 ?one2
  case one2 =>
   by_cases h5:k = 4
   ·subst h5
    refine ZdG ?_;refine Z3 ?_;refine Zb ?_;refine ZaR ?_;refine zq ?_
    exact za7 () Since.refl trivial rfl ⟨rfl, rfl, rfl, rfl, rfl, rfl, rfl, rfl, rfl, trivial⟩
   ·by_cases h6:k = 5
    ·subst h6
     refine ZdG ?_;refine Zd2 ?_;refine ZbA ?_;refine Z3 ?_;refine ZaT ?_
     exact za7 () Since.refl trivial rfl ⟨rfl, rfl, rfl, rfl, rfl, rfl, rfl, rfl, rfl, trivial⟩
    ·refine ZdG ?_;refine Zd2 ?_;refine ZbA ?_;refine ZH ?_;refine ZaT ?_
     rw [decide_eq_false (show ¬ k < 6 by omega)]
     exact za7 () Since.refl trivial rfl ⟨rfl, rfl, rfl, rfl, rfl, rfl, rfl, rfl, rfl, trivial⟩
  rintro _ _
  by_cases h6:k < 6
  ·rw [decide_eq_true h6, if_pos h6]
   obtain ⟨⟨S', e⟩, hw⟩:∃ x, zol S o.rev false = x:=⟨_, rfl⟩
   rw [hw]
   dsimp only
   have hm1:=RsS.mono (S:=S')
   refine ZdA ?_;refine qg (id:=20) [(200095, [900]), (98, [901])] mixed (by kernel_rfl) ?_;refine Zc5 ?_;refine Zge ?_;refine z8 (zp L rfl rfl (zk rfl) rfl rfl rfl (fun u H hH _ _ => rev_ret ho rfl rfl hH)) rfl ?_;refine za2 (zaj L 901 (StG b S') (.int .i64 e) (r:=StG b S) rfl rfl rfl rfl rfl (fun u H2 C2 hH hle hr2 hC2 => zdk (zmm hne (by omega) hw hH hr2 hC2))) rfl rfl ?_;refine Zw ?_
   refine qg (id:=21) [(200104, [900]), (100111, [900])] mixed (by kernel_rfl) ?_;refine Zi ?_;refine Zcc ?_;refine ZfE ?_;refine Zge ?_;refine z8 (zp L rfl rfl (zk rfl) rfl rfl rfl (fun u H hH _ _ => rev_ret ho rfl rfl hH)) rfl ?_;refine z8 (yw (φ:=Pn10P S' e) L rfl rfl (zk rfl) rfl rfl rfl Pn10P.mono (fun u H hH hle _ => zlt (by omega) hrev.1 hrev.2 (by omega) hj.pos hw hH (hss.le hle))) rfl ?_;refine Zah ?_;refine Ze3 ?_;refine Ze4 ?_;refine Zcc ?_;refine zah (zgl L (q:=900) RsS.mono rfl rfl rfl rfl rfl (fun _ _ h => zhc h) (Nat.le_of_ble_eq_true rfl)) rfl ?_;refine Zbn ?_;refine Zba ?_;refine Zc ?_
   refine zc9 900 rfl fun cs' H1 hs1 hφ => ?_
   obtain ⟨lv', pv', rfl, hl', hpv'⟩:=zjl hφ
   refine ZeU ?_;refine Zas ?_;refine zf (id:=27) ?_;refine Zb ?_
   refine zbi 900 (BhG pb b S').res rfl (zix hl' hpv') ?_
   refine zb8 900 901 rfl rfl (za4 (StG b S')) ?_
   exact zbp L 900 (r:=BoG pb b S') (rs:=[.tmp 4]) rfl (fun _ _ h => h) (hs0.trans hs1) rfl rfl (fun H hle => rfl)
  ·rw [decide_eq_false h6, if_neg h6]
   by_cases h7:k = 6
   ·rw [if_pos h7]
    refine ZbP ?_;refine zh ?_;refine ZbN ?_;refine Z3 ?_;refine Zbr ?_
    obtain ⟨⟨S', e⟩, hw⟩:∃ x, zol S o.rev true = x:=⟨_, rfl⟩
    rw [hw]
    dsimp only
    have hm1:=RsS.mono (S:=S')
    refine qg (id:=23) [(200117, [900]), (120, [901])] mixed (by kernel_rfl) ?_;refine Zc5 ?_;refine Zge ?_;refine z8 (zp L rfl rfl (zk rfl) rfl rfl rfl (fun u H hH _ _ => rev_ret ho rfl rfl hH)) rfl ?_;refine za2 (zaj L 901 (StG b S') (.int .i64 e) (r:=StG b S) rfl rfl rfl rfl rfl (fun u H2 C2 hH hle hr2 hC2 => zdk (zhz hne (by omega) hw hH hr2 hC2))) rfl rfl ?_;refine Zw ?_
    refine qg (id:=24) [(200126, [900]), (100133, [900])] mixed (by kernel_rfl) ?_;refine Zi ?_;refine Zcc ?_;refine ZfE ?_;refine Zge ?_;refine z8 (zp L rfl rfl (zk rfl) rfl rfl rfl (fun u H hH _ _ => rev_ret ho rfl rfl hH)) rfl ?_;refine z8 (yw (φ:=Pn10P S' e) L rfl rfl (zk rfl) rfl rfl rfl Pn10P.mono (fun u H hH hle _ => zlt (by omega) hrev.1 hrev.2 (by omega) hj.pos hw hH (hss.le hle))) rfl ?_;refine Zah ?_;refine Ze3 ?_;refine Ze4 ?_;refine Zcc ?_;refine zah (zgl L (q:=900) RsS.mono rfl rfl rfl rfl rfl (fun _ _ h => zhc h) (Nat.le_of_ble_eq_true rfl)) rfl ?_;refine Zbn ?_;refine Zba ?_;refine Zc ?_
    refine zc9 900 rfl fun cs' H1 hs1 hφ => ?_
    obtain ⟨lv', pv', rfl, hl', hpv'⟩:=zjl hφ
    refine ZeU ?_;refine Zas ?_;refine zf (id:=27) ?_;refine Zb ?_
    refine zbi 900 (BhG pb b S').res rfl (zix hl' hpv') ?_
    refine zb8 900 901 rfl rfl (za4 (StG b S')) ?_
    exact zbp L 900 (r:=BoG pb b S') (rs:=[.tmp 4]) rfl (fun _ _ h => h) (hs0.trans hs1) rfl rfl (fun H hle => rfl)
   ·rw [if_neg h7]
    refine ZbP ?_;refine zh ?_;refine ZbN ?_;refine Zc3 ?_
    obtain ⟨⟨S', g, e⟩, hw⟩:∃ x, zdq S o.kp = x:=⟨_, rfl⟩
    rw [hw]
    dsimp only
    have hm1:=RsS.mono (S:=S')
    have hm2:Kn.mono (.sat (RsV g true)):=SlV.mono
    have hm3:Kn.mono (.sat (RsV g false)):=SlV.mono
    have hgl:g.length ≤ 100000:=by
     have h1:=congrArg (fun x => x.2.1.length) hw
     dsimp only at h1
     rw [← h1]
     unfold zdq
     split
     ·refine Nat.le_trans (List.length_filter_le ..) ?_
      rw [List.length_take]
      have:=zco S.R
      omega
     ·exact Nat.zero_le _
    refine ZV ?_;refine Zav ?_
    refine qg (id:=5) [(200018, [900]), (21, [901])] mixed (by kernel_rfl) ?_;refine Zc5 ?_;refine Zbo ?_;refine za2 (zhe L 901 (StG b S') (zxg g e) (r:=StG b S) rfl rfl rfl rfl rfl (zfd SlV.mono) (fun u H2 C2 hH hle hr2 hC2 => by have h:=zep (keep:=o.kp) hne (by omega) (by omega) hH hr2 hC2; rw [hw] at h; exact h)) rfl rfl ?_;refine Zah ?_;refine Ze3 ?_;refine Ze4 ?_;refine Zdh ?_;refine Zdk ?_
    refine qg (id:=6) [(200029, [900]), (100037, [900])] mixed (by kernel_rfl) ?_;refine Zi ?_;refine Zcc ?_;refine ZfE ?_;refine Zbo ?_;refine z8 (yw (φ:=Cl10S S' g e) L rfl rfl (zk rfl) rfl rfl rfl Cl10S.mono (fun u H hH hle _ => Ret.mono (by have h:=zle (keep:=o.kp) hne (by omega) (by omega) hH (hss.le hle); rw [hw] at h; exact h) fun v H' _ h => Cl10P.tup h)) rfl ?_;refine Zah ?_;refine Ze3 ?_;refine Ze3 ?_;refine Ze4 ?_;refine Zcc ?_;refine zah (zgl L (q:=900) RsS.mono rfl rfl rfl rfl rfl (fun _ _ h => zhc h) (Nat.le_of_ble_eq_true rfl)) rfl ?_;refine Zdh ?_;refine Zdk ?_
    refine zc9 900 rfl fun cs' H1 hs1 hφ => ?_
    obtain ⟨lv', pv', rfl, hl', hpv'⟩:=zjl hφ
    refine Zp ?_;refine Zdq ?_;refine z7 (zp L rfl rfl (zk rfl) rfl rfl rfl (fun u H hH hle _ v1 h1 v2 h2 => zeg (f:=true) (decide_eq_true rfl) hgl hgl hH h1 h2)) rfl ?_;refine Zfc ?_;refine Za ?_;refine Zf ?_;refine z7 (zvs L rfl rfl rfl rfl) rfl ?_;refine Zq ?_;refine ZK ?_;refine ZdS ?_;refine Zc ?_;refine ZeU ?_;refine Zas ?_;refine zf (id:=27) ?_;refine Zb ?_
    refine zbi 900 (BhG pb b S').res rfl (zix hl' hpv') ?_
    refine zb8 900 901 rfl rfl (za4 (StG b S')) ?_
    exact zbp L 900 (r:=BoG pb b S') (rs:=[.tmp 4]) rfl (fun _ _ h => h) (hs0.trans hs1) rfl rfl (fun H hle => rfl)
end Go.V.L10
set_option maxRecDepth 20000
namespace Go.V.L10
open Go.Proofs Go.RowKit Go.V Go.V.L2 Go.V.L8 Go.V.L6
theorem z0e {R:List (Option (List U))} {lv:Value} {H:Heap} (h:RlV R lv H):∃ p c, lv = .slice p R.length c:=by
 obtain ⟨zs, h1, _, h3⟩:=h
 obtain ⟨p, c, h4⟩:=zaq h3
 rw [← h1, List.length_map]
 exact ⟨p, c, h4⟩
abbrev z79 (S:Sto):Res:=zli (fun p:Nat × Nat => zdh p.1) fun p => BoG p.1 p.2 S
attribute [local irreducible] V N X VO Par StepOK Has Ret RetL RetO RetT zcd zd2 RetY Src
theorem zyl {w:World} {B:Heap} (hB:B.Le (hp w)):RetO Tryz.prog 10 [] w B (z79 newS):=by
 refine zea Tryz.func10 rfl Tryz.ntmps10 (Nat.le_of_ble_eq_true rfl) hB ?_
 refine ZaD ?_;refine z7 (zdu L rfl rfl (zk rfl) rfl rfl rfl (fun u H hH hle _ => zq0 hH)) rfl ?_;refine znw 1 901 rfl fun b => ?_;refine z7 (yw (φ:=RsS newS) L rfl rfl (zk rfl) rfl rfl rfl RsS.mono (fun u H hH hle _ => zst hH)) rfl ?_;refine zbq 2 rfl fun v1 H1 hs1 hv1 => ?_;obtain ⟨lv, pv, rfl, h1, h2⟩:=hv1; obtain ⟨p1, c1, rfl⟩:=z0e h1; obtain ⟨p2, c2, rfl⟩:=zaq h2; refine z7 (yx (cs:=[_, _, _]) rfl rfl z7f rfl rfl) rfl ?_;refine ZfM ?_;refine qp (yq (.inr rfl) rfl rfl rfl rfl) ?_;refine Z6 ?_
 refine zpi 0 900 rfl fun pb => ?_
 refine zbi 900 (BhG pb b newS).res rfl (zix h1 h2) ?_
 refine zb8 900 901 rfl rfl (za4 (StG b newS)) ?_
 refine zsc 0 900 (fun p:Nat × Nat => zdh p.1) (fun p => BoG p.1 p.2 newS) (pb, b) rfl rfl ?_
 exact ziz rfl (fun _ _ h => h) hs1 rfl
set_option maxHeartbeats 4000000 in
set_option maxRecDepth 20000 in
theorem zw7 {S:Sto} {n pb b:Nat} (hj:JJ n S) (hn:n ≤ 100) {w:World} {B:Heap} {C:Nat → Prop} (hB:B.Le (hp w)) (hr:(BoG pb b S).P B w C) (hC:∀ k, C k → k < w.heap.size ∧ B k = none) :
  RetY Tryz.prog 24 [zdh pb] w B C (BoG pb b S) (fun v _ => v = .int .i64 1):=by
 have hne:=hj.ne
 have hR:=hj.hR
 have hP:=hj.hP
 have hkl:=zco S.R
 have hhl:=zbj S.P
 unfold RetY
 refine zau 900 (BoG pb b S) Tryz.func24 rfl Tryz.ntmps24 (Nat.le_of_ble_eq_true rfl) hB hr hC ?_
 rw [zqk]
 refine Zep ?_
 rw [znl, zh0]
 refine zc9 900 rfl fun x H0 hs0 hφ => ?_
 refine zc9 901 rfl fun y H hs1 hψ => ?_
 obtain ⟨lv, pv⟩:=x
 obtain ⟨hl, hpv⟩:=hφ
 obtain ⟨m, s, es⟩:=y
 obtain ⟨hm, hes, hps⟩:=hψ
 dsimp only at hl hpv hm hes hps ⊢
 replace hl:=hl.le hs1.le
 replace hpv:=hpv.le hs1.le
 obtain ⟨ps, pc, rfl⟩:=zaq hps
 obtain ⟨p1, c1, rfl⟩:=z0e hl
 obtain ⟨p2, c2, rfl⟩:=zaq hpv
 have hs01:=hs0.trans hs1
 have hlen:=hm.len
 have hwl:IntKind.u64.wrap ((S.R.length:Nat):Int) = ((S.R.length:Nat):Int):=wrap_u64 (by omega) (by omega)
 have hss:RsS S (.agg #[.slice p1 S.R.length c1, .slice p2 S.P.length c2]) H:=⟨_, _, rfl, hl, hpv⟩
 obtain ⟨zs, hzs, hrow, hrv⟩:=hl
 refine ZbW ?_;refine ZaH ?_;refine yo (zaz L 901 (RsV (zas S.R) true) (r:=StO b S.R.length m (.slice ps (zad S.P).length pc) S.P.length es) rfl rfl rfl rfl rfl SlV.mono (fun u H2 C2 hH hle hr2 hC2 => (zfi hm hne (by omega) hH hr2 hC2).pubY zeu)) ?_;refine Zds ?_
 refine qg (id:=2) [(200017, [900]), (200018, [901]), (200023, [900]), (200032, [900]), (200048, [900]), (200049, [901]), (200055, [900]), (200063, [900]), (200064, [901]), (200070, [900])] mixed (by kernel_rfl) ?_;refine Zc5 ?_;refine qn (zak L 901 (Φ:=fun H => H b = some (.cells (stc S.R.length m (.slice ps (zad S.P).length pc) S.P.length).toArray tyS)) (c:=.int .u64 S.R.length) rfl rfl (zk rfl) rfl rfl rfl rfl rfl zbk (fun u H hH hle hb => zcb hne hb hH)) rfl rfl ?_;refine Zf5 ?_;refine Zc2 ?_;refine z8 (zm0 L rfl rfl rfl rfl) rfl ?_;refine z8 (zax rfl rfl rfl zbl.1 zbl.2 (wrap_u64 (by omega) (by omega))) rfl ?_;refine ZdN ?_;refine Zh ?_;refine Zah ?_;refine Zfe ?_;refine ZfE ?_;refine z8 (yw (φ:=RsV (zas S.R) false) L rfl rfl (zk rfl) rfl rfl rfl SlV.mono (fun u H hH hle _ => zfc hzs (by omega) ⟨_, _, _, rfl⟩ hH (hrv.le hle))) rfl ?_;refine z8 (zp L rfl rfl (zk rfl) rfl rfl rfl (fun u H hH hle _ v1 h1 v2 h2 => zeg (f:=true) (decide_eq_true rfl) (by omega) (by omega) hH h1 h2)) rfl ?_;refine z8 (y9 rfl rfl rfl rfl rfl) rfl ?_;refine Za1 ?_;refine Zh ?_;refine Zah ?_;refine z8 (zvs L rfl rfl rfl rfl) rfl ?_;refine ZdO ?_;refine ZdN ?_;refine Za1 ?_;refine Zi ?_;refine Zcc ?_;refine Zc2 ?_;refine qn (zak L 901 (Φ:=fun H => H b = some (.cells (stc S.R.length m (.slice ps (zad S.P).length pc) S.P.length).toArray tyS)) (c:=pnv (.slice ps (zad S.P).length pc) S.P.length) rfl rfl (zk rfl) rfl rfl rfl rfl rfl zbk (fun u H hH hle hb => pins_ret ⟨_, _, _, rfl⟩ hne hb hH)) rfl rfl ?_;refine z8 (zp L rfl rfl (zk rfl) rfl rfl rfl (fun u H hH hle _ => zuf ⟨rfl, rfl⟩ hH)) rfl ?_;refine Zf5 ?_;refine Zc2 ?_;refine z8 (zm0 L rfl rfl rfl rfl) rfl ?_;refine ZdN ?_;refine Za1 ?_;refine Zi ?_;refine Zcc ?_;refine Zc2 ?_;refine qn (zak L 901 (Φ:=fun H => H b = some (.cells (stc S.R.length m (.slice ps (zad S.P).length pc) S.P.length).toArray tyS)) (c:=pnv (.slice ps (zad S.P).length pc) S.P.length) rfl rfl (zk rfl) rfl rfl rfl rfl rfl zbk (fun u H hH hle hb => pins_ret ⟨_, _, _, rfl⟩ hne hb hH)) rfl rfl ?_;refine z8 (yw (φ:=RsV (zam S.P) true) L rfl rfl (zk rfl) rfl rfl rfl SlV.mono (fun u H hH hle _ => znd (by omega) hH (hps.le hle))) rfl ?_;refine Zf5 ?_;refine Zc2 ?_;refine z8 (yw (φ:=RsV (zam S.P) false) L rfl rfl (zk rfl) rfl rfl rfl SlV.mono (fun u H hH hle _ => zof hj.pos (by omega) hH (hpv.le hle))) rfl ?_;refine z8 (zp L rfl rfl (zk rfl) rfl rfl rfl (fun u H hH hle _ v1 h1 v2 h2 => zeg (f:=true) (decide_eq_true rfl) (by omega) (by omega) hH h1 h2)) rfl ?_;refine z8 (y9 rfl rfl rfl rfl rfl) rfl ?_;refine Zct ?_;refine ZaB ?_;refine Zc ?_
 refine ZV ?_;refine ZE ?_
 have hwd:IntKind.i64.wrap ((S.R.length:Int) + 1) = ((S.R.length + 1:Nat):Int):=zaa (by omega) (by omega)
 have hum:Kn.mono (.sat (RsV S.P false)):=SlV.mono
 refine zal (fun i:Nat => [(0, .is (zdh pb)), (3, .sat (RsV (zas S.R) true)), (4, .is (.int .i64 i)), (900, .own (zan pb [zdh b, .slice p1 S.R.length c1, .slice p2 S.P.length c2] zsh)), (901, .own (StO b S.R.length m (.slice ps (zad S.P).length pc) S.P.length es).res)]) (fun i => i ≤ S.R.length + 2) (fun i => S.R.length + 2 - i) 0 (Nat.zero_le _) ⟨rfl, rfl, rfl, rfl, rfl, trivial⟩ ?_
 rintro i hi
 by_cases hlt:i ≤ S.R.length + 1
 ·have hwk:IntKind.i64.wrap ((i:Int) + 1) = ((i + 1:Nat):Int):=zaa (by omega) (by omega)
  have hwu:IntKind.u64.wrap (i:Int) = (i:Int):=wrap_u64 (by omega) (by omega)
  obtain ⟨⟨t0, e0⟩, hat⟩:∃ x, atS S (i:Int) = x:=⟨_, rfl⟩
  have ht0:t0.length ≤ 4096:=by have:=zqm (hj.I hn) (i:Int); rw [hat] at this; exact this
  have hum2:Kn.mono (.sat (US t0 false)):=SlV.mono
  refine Zc ?_;refine Za8 ?_;refine Zcd ?_;refine ZaG ?_;refine ZfB ?_;refine ZaQ ?_;refine ZZ ?_;refine Zb2 ?_;refine ZW ?_;refine Zbl ?_;refine Z5 ?_;refine ZaH ?_;refine Za ?_;refine z7 (zax rfl rfl rfl zbl.1 zbl.2 (wrap_u64 (by omega) (by omega))) rfl ?_;refine yo (zaz L 901 (WithP t0 e0) (r:=(StO b S.R.length m (.slice ps (zad S.P).length pc) S.P.length es)) rfl rfl rfl rfl rfl WithP.mono (fun u H2 C2 hH hle hr2 hC2 => by have h:=zf0 (S:=S) (r:=(i:Int)) hm hne (hes.le hle) hH hr2 hC2; rw [hat] at h; exact h)) ?_;refine zbq 93 rfl fun v1 H1 hs2 hp1 => ?_;obtain ⟨sv, rfl, hsv⟩:=hp1; obtain ⟨f1, p3, f2, p4, rfl, hpl⟩:=hsv.shape; refine ZbM ?_;refine Ze ?_
  have hpsB:=hps.le hs2.le
  have hpvB:=hpv.le hs2.le
  refine Zbz ?_;refine Zcd ?_;refine Zgb ?_;refine Za ?_;refine z7 (zax rfl rfl rfl zbl.1 zbl.2 (wrap_u64 (by omega) (by omega))) rfl ?_;refine z7 (yw (φ:=z5u t0 e0) L rfl rfl (zk rfl) rfl rfl rfl (zfd SlV.mono) (fun u H hH hle _ => by have h:=zuz (S:=S) (r:=(i:Int)) hne (by omega) (by omega) (by omega) hH (hss.le (hs2.le.trans hle)); rw [hat] at h; exact h)) rfl ?_;refine Zdm ?_;refine Ze ?_
  refine qg (id:=9) [(200120, [900]), (200121, [901]), (200129, [900])] mixed (by kernel_rfl) ?_;refine Zi ?_;refine ZdN ?_;refine Zh ?_;refine ZeQ ?_;refine z8 (yw (φ:=US t0 true) L rfl rfl (zk rfl) rfl rfl rfl SlV.mono (fun u H hH hle _ => zf3 (by omega) hH (hsv.le hle))) rfl ?_;refine Zah ?_;refine z8 (zp L rfl rfl (zk rfl) rfl rfl rfl (fun u H hH hle _ v1 h1 v2 h2 => zh2 (by omega) (by omega) (if_pos rfl) hH h1 h2)) rfl ?_;refine Zdn ?_;refine Za1 ?_;refine Zi ?_;refine Zcc ?_;refine Zc2 ?_;refine qn (zak L 901 (Φ:=fun H => H b = some (.cells (stc S.R.length m (.slice ps (zad S.P).length pc) S.P.length).toArray tyS)) (c:=pnv (.slice ps (zad S.P).length pc) S.P.length) rfl rfl (zk rfl) rfl rfl rfl rfl rfl zbk (fun u H hH hle hb => pins_ret ⟨_, _, _, rfl⟩ hne hb hH)) rfl rfl ?_;refine Zh ?_;refine z8 (zax rfl rfl rfl zbl.1 zbl.2 (wrap_u64 (by omega) (by omega))) rfl ?_;refine z8 (zp L rfl rfl (zk rfl) rfl rfl rfl (fun u H hH hle _ => L10.count_ret (by omega) hH (hps.le (hs2.le.trans hle)))) rfl ?_;refine Zf5 ?_;refine Zc2 ?_;refine Zh ?_;refine z8 (zax rfl rfl rfl zbl.1 zbl.2 (wrap_u64 (by omega) (by omega))) rfl ?_;refine z8 (zp L rfl rfl (zk rfl) rfl rfl rfl (fun u H hH hle _ => zc5 rfl (by omega) hH (hpvB.le hle))) rfl ?_;refine ZdN ?_;refine Zct ?_;refine ZbF ?_;refine ZD ?_;refine Zam ?_
  exact zgq (x:=i) (i + 1) hs2 (by omega) (by omega) ⟨rfl, rfl, rfl, rfl, rfl, trivial⟩
 ·refine Zc ?_;refine Za8 ?_;refine Zcd ?_;refine ZaG ?_;refine ZfB ?_;refine ZaQ ?_;refine ZZ ?_;refine Zbp ?_;refine ZdF ?_;refine Zak ?_;refine Zb ?_
  refine zbi 900 (BhG pb b S).res rfl (zix ⟨zs, hzs, hrow, hrv⟩ hpv) ?_
  refine zbi 901 (StG b S).res rfl (zdc hm hes hps) ?_
  refine zb8 900 901 rfl rfl (za4 (StG b S)) ?_
  exact zbp L 900 (r:=BoG pb b S) (rs:=[.tmp 2]) rfl (fun _ _ h => h) hs01 rfl rfl (fun H hle => rfl)
end Go.V.L10
set_option maxRecDepth 20000
namespace Go.V.L10
open Go.Proofs Go.RowKit Go.V Go.V.L2 Go.V.L8 Go.V.L6
theorem zj6 {S:Sto} {b:Nat} {r:Int} (hn:S.R.length ≠ 0) {w:World} {B:Heap} {C:Nat → Prop} (hB:B.Le (hp w)) (hr:(StG b S).P B w C) (hC:∀ k, C k → k < w.heap.size ∧ B k = none) :
  RetY Tryz.prog 13 [zdh b, .int .u64 r] w B C (StG b S) (WithP (atS S r).1 (atS S r).2) :=
 RetY.ex hr fun _ ⟨hm, hes, _⟩ hr => zf0 hm hn hes hB hr hC
theorem zj3 {S:Sto} {b:Nat} (hn:S.R.length ≠ 0) (hz:(zas S.R).length ≤ 100000) {w:World} {B:Heap} {C:Nat → Prop} (hB:B.Le (hp w)) (hr:(StG b S).P B w C) (hC:∀ k, C k → k < w.heap.size ∧ B k = none) :
  RetY Tryz.prog 12 [zdh b] w B C (StG b S) (RsV (zas S.R) true) :=
 RetY.ex hr fun _ ⟨hm, _, _⟩ hr => (zfi hm hn (by rw [hm.len]; exact hz) hB hr hC).pubY zeu
theorem zyr {b:Nat} {S:Sto}:∀ v H u C, (StG b S).res.P v H u C → ∃ m s, (∃ p k c, s = .slice p k c) ∧ joinH H u C b = some (.cells (stc S.R.length m s S.P.length).toArray tyS):=fun v H u C ⟨⟨m, s, es⟩, ⟨_, _, hp⟩, h⟩ => by
 obtain ⟨p, c, rfl⟩:=zaq hp
 exact ⟨m, _, ⟨_, _, _, rfl⟩, zbk v H u C h⟩
abbrev PinsP (P0:List Int):Value → Heap → Prop:=fun v H => ∃ s, v = pnv s P0.length ∧ PsV (zad P0) s H
theorem PinsP.mono {P0:List Int}:Kn.mono (.sat (PinsP P0)):=fun _ _ _ ⟨s, h1, h2⟩ hle => ⟨s, h1, h2.le hle⟩
attribute [local irreducible] V N X VO Par StepOK Has Ret RetL RetO RetT zcd zd2 RetY Src
theorem zdx {S:Sto} {b:Nat} (hn:S.R.length ≠ 0) {w:World} {B:Heap} {C:Nat → Prop} (hB:B.Le (hp w)) (hr:(StG b S).P B w C) (hC:∀ k, C k → k < w.heap.size ∧ B k = none) :
  RetY Tryz.prog 25 [zdh b] w B C (StG b S) (PinsP S.P):=by
 refine RetY.ex hr fun x hφ hr => ?_
 obtain ⟨m, s, es⟩:=x
 obtain ⟨hm, hes, hps⟩:=hφ
 dsimp only at hm hes hps hr ⊢
 obtain ⟨p, c, rfl⟩:=zaq hps
 unfold RetY
 refine zau 900 (StO b S.R.length m _ S.P.length es) Tryz.func25 rfl Tryz.ntmps25 (Nat.le_of_ble_eq_true rfl) hB hr hC ?_
 rw [zew]
 refine Zep ?_
 refine ZcL ?_;refine ZU ?_;refine Zae ?_;refine Za ?_;refine yo (zak L 900 (Φ:=fun H => H b = some (.cells (stc S.R.length m (.slice p (zad S.P).length c) S.P.length).toArray tyS)) (c:=.bool false) rfl rfl (zk rfl) rfl rfl rfl rfl rfl ziu (fun u H hH hle hb => zcw hn hb hH)) ?_;refine Zx ?_;refine Z1 ?_;refine Zcd ?_;refine Zgb ?_;refine Zbg ?_
 refine Zd3 ?_
 exact zbp L 900 (r:=StO b S.R.length m (.slice p (zad S.P).length c) S.P.length es) (rs:=[.cell 2 74]) rfl (fun _ _ h => h) Since.refl rfl rfl (fun H hle => ⟨_, yl rfl, rfl, _, rfl, hps.le hle⟩)
abbrev s1:Sto:=⟨[some [], some [d0]], []⟩
abbrev s2:Sto:=⟨[some [], some [d0], some [d2]], []⟩
abbrev s3:Sto:=⟨[some [], some [d0], some [d2]], [2]⟩
abbrev s4:Sto:=⟨[none, some [d0], some [d2]], [2]⟩
abbrev s5:Sto:=⟨[none, some [d0], some [d2], some [d2]], [2]⟩
abbrev s6:Sto:=⟨[none, some [d0], some [d2], some [d2]], []⟩
abbrev s7:Sto:=⟨[none, none, none, some [d2]], []⟩
theorem z4o:ze0 newS [] [(d0, false)] = (s1, 2, 0):=by kernel_rfl
theorem z4n:ze0 s1 [(d0, false)] [(d2, false), (d0, true)] = (s2, 3, 0):=by kernel_rfl
theorem z6k:ze0 s2 [(d0, false)] [] = (s2, 0, 13):=by kernel_rfl
theorem z6o:atS s2 2 = ([d0], 0):=by kernel_rfl
theorem z6q:atS s2 0 = ([d2], 0):=by kernel_rfl
theorem z6n:atS s2 4 = ([], 14):=by kernel_rfl
theorem z7i:zol s2 2 false = (s3, 0):=by kernel_rfl
theorem z4r:zdq s3 1 = (s4, [1], 0):=by kernel_rfl
theorem z7z:zas s4.R = [2, 3]:=by kernel_rfl
theorem z6p:atS s4 1 = ([], 14):=by kernel_rfl
theorem z4m:ze0 s4 [] [] = (s5, 4, 0):=by kernel_rfl
theorem z4p:zol s5 2 true = (s6, 0):=by kernel_rfl
theorem z6l:zol s6 2 true = (s6, 8):=by kernel_rfl
theorem z4q:zdq s6 1 = (s7, [2, 3], 0):=by kernel_rfl
theorem z70:zrz s7 4 0 = ([], 0):=by kernel_rfl
theorem z6m:zdq s7 0 = (s7, [], 4):=by kernel_rfl
theorem z7y:zol s7 0 false = (s7, 14):=by kernel_rfl
theorem z6r {n:Nat} {S S':Sto} {l cs:List CH} {r e:Int} (h:JJ n S) (hn:n ≤ 100) (hc:∀ c ∈ cs, TZ c.1 ∧ tE c.1 = 0) (hl:cs.length ≤ 30) (hw:ze0 S l cs = (S', r, e)):JJ (n + 1) S':=by
 have h1:=zrp h hn (l:=l) hc hl
 rw [hw] at h1
 exact h1
theorem z7j {n:Nat} {S S':Sto} {r e:Int} {un:Bool} (h:JJ n S) (hw:zol S r un = (S', e)):JJ (n + 1) S':=by
 have h1:=zwj h r un
 rw [hw] at h1
 exact h1
theorem z7k {n:Nat} {S S':Sto} {k e:Int} {g:List Int} (h:JJ n S) (hw:zdq S k = (S', g, e)):JJ (n + 1) S':=by
 have h1:=zwk h k
 rw [hw] at h1
 exact h1
set_option maxHeartbeats 8000000 in
set_option maxRecDepth 20000 in
theorem zfh {w:World} {B:Heap} (hB:B.Le (hp w)):Ret Tryz.prog 17 [] w B (fun v _ => v = .bool true):=by
 have p0:ptA ⟨#[100, 111, 99, 58, 97, 35, 118, 105, 101, 119, 101, 114, 64, 117, 115, 101, 114, 58, 120]⟩ = (d0, 0):=by decide +kernel
 have p2:ptA ⟨#[100, 111, 99, 58, 98, 35, 118, 105, 101, 119, 101, 114, 64, 117, 115, 101, 114, 58, 120]⟩ = (d2, 0):=by decide +kernel
 have z0:TZ d0:=zz8 (by decide)
 have z2:TZ d2:=zz8 (by decide)
 have m0:=z1c z0
 have m2:=z1c z2
 have e0:tE d0 = 0:=by decide +kernel
 have e2:tE d2 = 0:=by decide +kernel
 have all:∀ l:List CH, (∀ c ∈ l, c.1 = d0 ∨ c.1 = d2) → ∀ c ∈ l, TM c.1:=fun l h c hc => by
  rcases h c hc with e | e
  ·rw [e]; exact m0
  ·rw [e]; exact m2
 have ok:∀ l:List CH, (∀ c ∈ l, c.1 = d0 ∨ c.1 = d2) → ∀ c ∈ l, TZ c.1 ∧ tE c.1 = 0:=fun l h c hc => by
  rcases h c hc with e | e
  ·rw [e]; exact ⟨z0, e0⟩
  ·rw [e]; exact ⟨z2, e2⟩
 have j0:=zrq
 have j1:=z6r j0 (by decide) (ok _ (by simp)) (by decide) z4o
 have j2:=z6r j1 (by decide) (ok _ (by simp)) (by decide) z4n
 have j3:=z7j j2 z7i
 have j4:=z7k j3 z4r
 have j5:=z6r j4 (by decide) (ok _ (by simp)) (by decide) z4m
 have j6:=z7j j5 z4p
 have j7:=z7k j6 z4q
 have k1:Kn.mono (.sat (RsV [1] true)):=SlV.mono
 have k2:Kn.mono (.sat (RsV [2, 3] true)):=SlV.mono
 have k3:Kn.mono (.sat (RsV [] true)):=SlV.mono
 have k4:Kn.mono (.sat (KS tyC [] true)):=SlV.mono
 refine yf Tryz.func17 rfl Tryz.ntmps17 (Nat.le_of_ble_eq_true rfl) hB ?_
 refine ZaD ?_;refine z7 (zp L rfl rfl (zk rfl) rfl rfl rfl (fun u H hH _ _ => zka p0 (Nat.le_of_ble_eq_true rfl) hH)) rfl ?_;refine Zaz ?_;refine ZX ?_;refine Ze ?_;refine Zy ?_;refine z7 (zp L rfl rfl (zk rfl) rfl rfl rfl (fun u H hH _ _ => zka p2 (Nat.le_of_ble_eq_true rfl) hH)) rfl ?_;refine Zaz ?_;refine ZX ?_;refine Ze ?_;refine Zt ?_;refine Zbh ?_;refine z7 (yx (cs:=[_, _, _, _, _, _, _]) rfl rfl z34 rfl rfl) rfl ?_;refine Zaa ?_;refine ZdK ?_;refine ZV ?_;refine z7 (zdu L rfl rfl (zk rfl) rfl rfl rfl (fun u H hH hle _ => zq0 hH)) rfl ?_;refine qp (yq (.inr rfl) rfl rfl rfl rfl) ?_;refine Zm ?_
 refine zht 6 900 rfl fun b => ?_
 refine Z9 ?_;refine Zbh ?_;refine ZfD ?_;refine Zaa ?_;refine qp (zaj L 900 (StG b s1) (.tuple #[.int .u64 2, .int .i64 0]) (r:=StG b newS) rfl rfl rfl rfl rfl (fun u H2 C2 hH hle hr2 hC2 v1 h1 => zdk (ze2 (l:=[]) (cs:=[(d0, false)]) (j0.I (by decide)) (by decide) j0.ne (all _ (by simp)) (all _ (by simp)) (by decide) (by decide) z4o hH (SlV.nil (fu:=false)) (h1.toV (n:=1) rfl) hr2 hC2))) ?_;refine Za6 ?_
 refine ZD ?_;refine Zf ?_;refine Zbh ?_;refine ZfD ?_;refine Zbh ?_;refine ZfD ?_;refine Zaa ?_;refine qp (zaj L 900 (StG b s2) (.tuple #[.int .u64 3, .int .i64 0]) (r:=StG b s1) rfl rfl rfl rfl rfl (fun u H2 C2 hH hle hr2 hC2 v1 h1 v2 h2 => zdk (ze2 (l:=[(d0, false)]) (cs:=[(d2, false), (d0, true)]) (j1.I (by decide)) (by decide) j1.ne (all _ (by simp)) (all _ (by simp)) (by decide) (by decide) z4n hH (h1.toV (n:=1) rfl) (h2.toV (n:=2) rfl) hr2 hC2))) ?_;refine Za6 ?_
 refine Z5 ?_;refine Zf ?_;refine qp (zaj L 900 (StG b s2) (.tuple #[.int .u64 0, .int .i64 13]) (r:=StG b s2) rfl rfl rfl rfl rfl (fun u H2 C2 hH hle hr2 hC2 v1 h1 => zdk (ze2 (l:=[(d0, false)]) (cs:=[]) (j2.I (by decide)) (by decide) j2.ne (all _ (by simp)) (all _ (by simp)) (by decide) (by decide) z6k hH (h1.toV (n:=1) rfl) (SlV.nil (fu:=false)) hr2 hC2))) ?_;refine Za6 ?_
 refine Zbz ?_;refine yo (zaz L 900 (WithP [d0] 0) (r:=StG b s2) rfl rfl rfl rfl rfl WithP.mono (fun u H2 C2 hH hle hr2 hC2 => by have h:=zj6 (r:=2) j2.ne hH hr2 hC2; rw [z6o] at h; exact h)) ?_;refine zbq 62 rfl fun vx Kx hx hpx => ?_;obtain ⟨svx, rfl, hsvx⟩:=hpx; obtain ⟨fx, px, gx, qx, rfl, hplx⟩:=hsvx.shape; refine ZbM ?_;refine Ze ?_;refine Zcu ?_;refine yo (zaz L 900 (WithP [d2] 0) (r:=StG b s2) rfl rfl rfl rfl rfl WithP.mono (fun u H2 C2 hH hle hr2 hC2 => by have h:=zj6 (r:=0) j2.ne hH hr2 hC2; rw [z6q] at h; exact h)) ?_;refine zbq 67 rfl fun vy Ky hy hpy => ?_;obtain ⟨svy, rfl, hsvy⟩:=hpy; obtain ⟨fy, py, gy, qy, rfl, hply⟩:=hsvy.shape; refine ZbM ?_;refine Ze ?_;refine ZcF ?_;refine yo (zaz L 900 (WithP [] 14) (r:=StG b s2) rfl rfl rfl rfl rfl WithP.mono (fun u H2 C2 hH hle hr2 hC2 => by have h:=zj6 (r:=4) j2.ne hH hr2 hC2; rw [z6n] at h; exact h)) ?_;refine zbq 72 rfl fun vz Kz hz hpz => ?_;obtain ⟨svz, rfl, hsvz⟩:=hpz; obtain ⟨fz, pz, gz, qz, rfl, hplz⟩:=hsvz.shape; refine ZbM ?_;refine Zj ?_
 have hsvx2:=hsvx.le (hy.le.trans hz.le)
 have hsvy2:=hsvy.le hz.le
 refine Zak ?_;refine ZbJ ?_;refine Za ?_;refine ZZ ?_;refine Za ?_;refine ZZ ?_;refine ZK ?_;refine Zd ?_;refine ZK ?_;refine Zad ?_;refine ZK ?_;refine Zad ?_;refine ZK ?_;refine Zg ?_;refine Za ?_;refine ZaO ?_;refine z7 (zp L rfl rfl (zk rfl) rfl rfl rfl (fun u H hH hle _ => zd5 (n:=1) rfl hH (hsvx2.le hle))) rfl ?_;refine ZK ?_;refine Zg ?_;refine Za ?_;refine ZaO ?_;refine Zbh ?_;refine z7 (zp L rfl rfl (zk rfl) rfl rfl rfl (fun u H hH hle _ => zc3 (b:=true) (by decide) hH (hsvx2.le hle))) rfl ?_;refine Zea ?_;refine Za ?_;refine ZaO ?_;refine z7 (zp L rfl rfl (zk rfl) rfl rfl rfl (fun u H hH hle _ => zd5 (n:=1) rfl hH (hsvy2.le hle))) rfl ?_;refine ZK ?_;refine Zg ?_;refine Za ?_;refine ZaO ?_;refine Zbh ?_;refine z7 (zp L rfl rfl (zk rfl) rfl rfl rfl (fun u H hH hle _ => zc3 (b:=true) (by decide) hH (hsvy2.le hle))) rfl ?_;refine Zs ?_;refine Zad ?_;refine ZK ?_;refine Zad ?_;refine qp (zaj L 900 (StG b s3) (.int .i64 0) (r:=StG b s2) rfl rfl rfl rfl rfl (fun u H2 C2 hH hle hr2 hC2 => zdk (zmm j2.ne (by decide) z7i hH hr2 hC2))) ?_;refine ZK ?_;refine ZaY ?_;refine Zcs ?_;refine qp (zhe L 900 (StG b s4) (zxg [1] 0) (r:=StG b s3) rfl rfl rfl rfl rfl (zfd SlV.mono) (fun u H2 C2 hH hle hr2 hC2 => by have h:=zep (keep:=1) j3.ne (by decide) (by decide) hH hr2 hC2; rw [z4r] at h; exact h)) ?_;refine Zdm ?_;refine Zj ?_
 refine Zem ?_;refine ZK ?_;refine Za ?_;refine Zf ?_;refine Zaa ?_;refine z7 (zp L rfl rfl (zk rfl) rfl rfl rfl (fun u H hH hle _ v1 h1 v2 h2 => zeg (a:=[1]) (b:=[1]) (f:=true) (fb:=true) rfl (by decide) (by decide) hH h1 (h2.toV rfl))) rfl ?_;refine Zfc ?_;refine Zad ?_;refine yo (zaz L 900 (RsV [2, 3] true) (r:=StG b s4) rfl rfl rfl rfl rfl SlV.mono (fun u H2 C2 hH hle hr2 hC2 => by have h:=zj3 j4.ne (by decide) hH hr2 hC2; rw [z7z] at h; exact h)) ?_;refine Zaa ?_;refine z7 (zp L rfl rfl (zk rfl) rfl rfl rfl (fun u H hH hle _ v1 h1 v2 h2 => zeg (a:=[2, 3]) (b:=[2, 3]) (f:=true) (fb:=true) rfl (by decide) (by decide) hH h1 (h2.toV rfl))) rfl ?_;refine Zfc ?_;refine ZaY ?_;refine Zap ?_;refine Za ?_;refine yo (zaz L 900 (WithP [] 14) (r:=StG b s4) rfl rfl rfl rfl rfl WithP.mono (fun u H2 C2 hH hle hr2 hC2 => by have h:=zj6 (r:=1) j4.ne hH hr2 hC2; rw [z6p] at h; exact h)) ?_;refine zbq 148 rfl fun vw Kw hw hpw => ?_;obtain ⟨svw, rfl, hsvw⟩:=hpw; obtain ⟨fw, pw, gw, qw, rfl, hplw⟩:=hsvw.shape; refine Zaz ?_;refine Ze ?_;refine Zca ?_;refine Za ?_;refine qp (zaj L 900 (StG b s5) (.tuple #[.int .u64 4, .int .i64 0]) (r:=StG b s4) rfl rfl rfl rfl rfl (fun u H2 C2 hH hle hr2 hC2 => zdk (ze2 (l:=[]) (cs:=[]) (j4.I (by decide)) (by decide) j4.ne (all _ (by simp)) (all _ (by simp)) (by decide) (by decide) z4m hH (SlV.nil (fu:=false)) (SlV.nil (fu:=false)) hr2 hC2))) ?_;refine Za6 ?_;refine Zbt ?_;refine qp (zaj L 900 (StG b s6) (.int .i64 0) (r:=StG b s5) rfl rfl rfl rfl rfl (fun u H2 C2 hH hle hr2 hC2 => zdk (zhz j5.ne (by decide) z4p hH hr2 hC2))) ?_;refine Ze ?_;refine ZbA ?_;refine Za ?_;refine qp (zaj L 900 (StG b s6) (.int .i64 8) (r:=StG b s6) rfl rfl rfl rfl rfl (fun u H2 C2 hH hle hr2 hC2 => zdk (zhz j6.ne (by decide) z6l hH hr2 hC2))) ?_;refine Ze ?_;refine ZaP ?_;refine Za ?_;refine qp (zhe L 900 (StG b s7) (zxg [2, 3] 0) (r:=StG b s6) rfl rfl rfl rfl rfl (zfd SlV.mono) (fun u H2 C2 hH hle hr2 hC2 => by have h:=zep (keep:=1) j6.ne (by decide) (by decide) hH hr2 hC2; rw [z4q] at h; exact h)) ?_;refine Zdm ?_;refine Ze ?_;refine ZcR ?_;refine yo (zaz L 900 (z7p [] 0) (r:=StG b s7) rfl rfl rfl rfl rfl (zfd SlV.mono) (fun u H2 C2 hH hle hr2 hC2 => by have h:=zsp (p:=4) (q:=0) (j7.I (by decide)) j7.ne hH hr2 hC2; rw [z70] at h; exact h)) ?_;refine Zdm ?_;refine Ze ?_;refine ZbN ?_;refine Za ?_;refine qp (zhe L 900 (StG b s7) (zxg [] 4) (r:=StG b s7) rfl rfl rfl rfl rfl (zfd SlV.mono) (fun u H2 C2 hH hle hr2 hC2 => by have h:=zep (keep:=0) j7.ne (by decide) (by decide) hH hr2 hC2; rw [z6m] at h; exact h)) ?_;refine Zdm ?_;refine Ze ?_
 refine Ze9 ?_;refine Z3 ?_;refine Zd ?_;refine Z3 ?_;refine Zad ?_;refine Z3 ?_;refine Zad ?_;refine Z3 ?_;refine Zad ?_;refine Z3 ?_;refine Zad ?_;refine Z3 ?_;refine Zg ?_;refine Za ?_;refine Zf ?_;refine Zaa ?_;refine z7 (zp L rfl rfl (zk rfl) rfl rfl rfl (fun u H hH hle _ v1 h1 v2 h2 => zeg (a:=[2, 3]) (b:=[2, 3]) (f:=true) (fb:=true) rfl (by decide) (by decide) hH h1 (h2.toV rfl))) rfl ?_;refine Zfc ?_;refine Zad ?_;refine Z3 ?_;refine Zg ?_;refine ZaN ?_;refine Zfc ?_;refine Zad ?_;refine Z3 ?_;refine Zad ?_;refine qp (zaj L 900 (StG b s7) (.int .i64 14) (r:=StG b s7) rfl rfl rfl rfl rfl (fun u H2 C2 hH hle hr2 hC2 => zdk (zmm j7.ne (by decide) z7y hH hr2 hC2))) ?_;refine Z3 ?_;refine Zg ?_;refine Zb ?_
 refine ye L (rs:=[.tmp 0]) rfl (fun _ _ h => h) (hx.trans (hy.trans (hz.trans hw))) fun u H hH hle => ?_
 rfl
end Go.V.L10
set_option maxRecDepth 20000
namespace Go.V.L10
open Go.Proofs Go.RowKit Go.V Go.V.L2 Go.V.L8 Go.V.L6
abbrev ZO:=OO × Value × Value
def ooc (z:ZO):List Value:=[.int .u8 z.1.wh, z.2.1, z.2.2, .int .u8 z.1.rv, .int .i64 z.1.kp]
theorem z1z (z:ZO):(ooc z).length = 5:=rfl
def OzOK (zs:List ZO) (H:Heap):Prop:=∀ z ∈ zs, OOK z.1 ∧ PS3 z.1.ms false z.2.1 H ∧ PS3 z.1.cs false z.2.2 H
theorem OzOK.le {zs:List ZO} {H H':Heap} (h:OzOK zs H) (hle:H.Le H'):OzOK zs H':=fun z hz => ⟨(h z hz).1, (h z hz).2.1.le hle, (h z hz).2.2.le hle⟩
abbrev WsV (zs:List ZO):Value → Heap → Prop:=SlV z29 5 (zs.flatMap ooc) zs.length false
theorem z6d {zs:List ZO} {i:Nat} {z:ZO} (h:zs[i]? = some z):((zs.flatMap ooc).drop (i * 5)).take 5 = [.int .u8 z.1.wh, z.2.1, z.2.2, .int .u8 z.1.rv, .int .i64 z.1.kp]:=zc8 z1z zs i z h
def zh6 (S:Sto) (zs:List ZO) (i:Nat):Sto:=(zs.take i).foldl (fun S z => doS S z.1) S
theorem zlw {S:Sto} {zs:List ZO} {i:Nat} {z:ZO} (h:zs[i]? = some z):zh6 S zs (i + 1) = doS (zh6 S zs i) z.1:=by
 unfold zh6; rw [za3 h, List.foldl_append]; rfl
theorem znb {n:Nat} {S:Sto} {zs:List ZO} (h:JJ n S):∀ {i:Nat}, n + i ≤ 101 → JJ (n + i) (zh6 S zs i)
 | 0, _ => h
 | i + 1, hi => by
  have ih:=znb h (zs:=zs) (i:=i) (by omega)
  rcases Nat.lt_or_ge i zs.length with hl | hl
  ·obtain ⟨z, hz⟩:=zae hl
   rw [zlw hz]
   exact z6s ih (by omega) _
  ·have:zh6 S zs (i + 1) = zh6 S zs i:=by unfold zh6; rw [List.take_of_length_le hl, List.take_of_length_le (by omega)]
   rw [this]
   exact ih.mono (by omega)
def zok (S:Sto) (zs:List ZO):Sto:=zh6 S zs (min zs.length 25)
theorem zwi {n:Nat} {S:Sto} {zs:List ZO} (h:JJ n S) (hn:n ≤ 75):JJ (n + 25) (zok S zs):=(znb h (by omega)).mono (by omega)
attribute [local irreducible] V N X VO Par StepOK Has Ret RetL RetO RetT zcd zd2 RetY Src
set_option maxHeartbeats 2000000 in
set_option maxRecDepth 20000 in
theorem zja {S:Sto} {n pb b:Nat} {zs:List ZO} (hj:JJ n S) (hn:n ≤ 75) {xv:Value} {w:World} {B:Heap} {C:Nat → Prop} (hB:B.Le (hp w)) (hx:WsV zs xv B) (ho:OzOK zs B) (hr:(BoG pb b S).P B w C) (hC:∀ k, C k → k < w.heap.size ∧ B k = none) :
  RetY Tryz.prog 11 [zdh pb, .agg #[xv]] w B C (BoG pb b (zok S zs)) (fun v _ => v = .int .i64 1):=by
 obtain ⟨p, c, rfl⟩:=zaq hx
 unfold RetY
 refine zau 900 (BoG pb b S) Tryz.func11 rfl Tryz.ntmps11 (Nat.le_of_ble_eq_true rfl) hB hr hC ?_
 refine ZbD ?_;refine ZE ?_
 refine zal (fun i:Nat => [(0, .is (zdh pb)), (3, .sat (At [.slice p zs.length c] 24 0)), (5, .is (.int .i64 i)), (900, .own (BoG pb b (zh6 S zs i)).res)]) (fun i => i ≤ zs.length ∧ i ≤ 25) (fun i => 25 - i) 0 ⟨Nat.zero_le _, Nat.zero_le _⟩ ⟨rfl, rfl, rfl, rfl, trivial⟩ ?_
 rintro i ⟨h1, h2⟩
 dsimp only at h1 h2 ⊢
 have hji:=znb hj (zs:=zs) (i:=i) (by omega)
 by_cases hl:i < zs.length
 ·by_cases h25:i < 25
  ·obtain ⟨z, hz⟩:=zae hl
   obtain ⟨o, mv, cv⟩:=z
   have hoz:=ho _ (List.mem_of_getElem? hz)
   have hc:=z6d hz
   have hps:=zlw (S:=S) hz
   have hwk:IntKind.i64.wrap ((i:Int) + 1) = ((i + 1:Nat):Int):=zaa (by omega) (by omega)
   refine ZcH ?_;refine Zbk ?_;refine Zcp ?_;refine ZT ?_;refine Zar ?_;refine Zbl ?_;refine Zu ?_;refine ZbO ?_;refine Zb7 ?_;refine z7 (yh L (vs:=[_, _, _, _, _]) rfl rfl rfl rfl rfl ⟨_, rfl⟩) rfl ?_;refine qp (zaj L 900 (BoG pb b (doS (zh6 S zs i) o)) (.int .i64 1) (r:=BoG pb b (zh6 S zs i)) rfl rfl rfl rfl rfl (fun u H2 C2 hH hle hr2 hC2 => zdk (z43 hji (by omega) hoz.1 hH ⟨mv, cv, rfl, hoz.2.1.le hle, hoz.2.2.le hle⟩ hr2 hC2))) ?_;refine ZH ?_;refine Za4 ?_;refine Z1 ?_;refine Zam ?_
   exact yi (x:=i) (i + 1) ⟨hl, h25⟩ (by omega) ⟨rfl, rfl, rfl, by rw [hps]; rfl, trivial⟩
  ·obtain rfl:i = 25:=by omega
   refine ZcH ?_;refine Zbk ?_;refine ZT ?_;refine Zbi ?_;refine Zg ?_;refine ZdF ?_;refine Zz ?_;refine Zb ?_
   exact zbp L 900 (r:=BoG pb b (zh6 S zs 25)) (rs:=[.tmp 4]) rfl (fun _ _ h => h) Since.refl rfl (by unfold zok; rw [Nat.min_eq_right (by omega)]) (fun H hle => rfl)
 ·obtain rfl:i = zs.length:=by omega
  refine ZcH ?_;refine Zbk ?_;refine Z4 ?_;refine ZdE ?_;refine ZdF ?_;refine Zz ?_;refine Zb ?_
  exact zbp L 900 (r:=BoG pb b (zh6 S zs zs.length)) (rs:=[.tmp 4]) rfl (fun _ _ h => h) Since.refl rfl (by unfold zok; rw [Nat.min_eq_left (by omega)]) (fun H hle => rfl)
end Go.V.L10
set_option maxRecDepth 20000
namespace Go.V
open Go.RowKit
inductive LeafK where
 | s
 | b
 | i (k:IntKind)
def z5r:LeafK → Value → Prop
 | .s, v => ∃ a:ByteArray, v = .string a ∧ a.size ≤ maxLen
 | .b, v => ∃ c, v = .bool c
 | .i k, v => ∃ n, v = .int k n ∧ (Lit.int k n).wf = true
def LeafsOK:List LeafK → List Value → Prop
 | [], [] => True
 | l :: ls, v :: vs => z5r l v ∧ LeafsOK ls vs
 | _, _ => False
theorem LeafsOK.append:∀ {a b:List LeafK} {x y:List Value}, LeafsOK a x → LeafsOK b y → LeafsOK (a ++ b) (x ++ y)
 | [], _, [], _, _, h => h
 | [], _, _ :: _, _, h, _ => h.elim
 | _ :: _, _, [], _, h, _ => h.elim
 | _ :: _, _, _ :: _, _, h, k => ⟨h.1, LeafsOK.append h.2 k⟩
theorem LeafsOK.length:∀ {a:List LeafK} {x:List Value}, LeafsOK a x → x.length = a.length
 | [], [], _ => rfl
 | [], _ :: _, h => h.elim
 | _ :: _, [], h => h.elim
 | _ :: _, _ :: _, h => by simp [LeafsOK.length h.2]
theorem zrl {k:IntKind} {ls:List LeafK} {vs:List Value} (h:LeafsOK (.i k :: ls) vs):∃ n r, vs = .int k n :: r ∧ (Lit.int k n).wf = true ∧ LeafsOK ls r:=by
 cases vs with
 | nil => exact h.elim
 | cons v vs => obtain ⟨⟨a, rfl, ha⟩, h⟩:=h; exact ⟨a, vs, rfl, ha, h⟩
theorem zrk {vs:List Value} (h:LeafsOK [] vs):vs = []:=by
 cases vs with
 | nil => rfl
 | cons _ _ => exact h.elim
def zyt (P:Program) (rec:TypeId → Option (List LeafK)):List Field → Nat → Option (List LeafK)
 | [], _ => some []
 | f :: fs, off => match rec f.type with
  | some ls => if f.offset = off ∧ P.cellsOf f.type = ls.length then
    match zyt P rec fs (off + ls.length) with
    | some r => some (ls ++ r)
    | none => none
   else none
  | none => none
def z0f (ls:List LeafK):Nat → List LeafK
 | 0 => []
 | n + 1 => ls ++ z0f ls n
def leafI (P:Program):Nat → TypeId → Option (List LeafK)
 | 0, _ => none
 | d + 1, t => match P.underlying t with
  | some .string => some [.s]
  | some (.int k) => some [.i k]
  | some .bool => some [.b]
  | some (.struct fs) => match zyt P (leafI P d) fs.toList 0 with
   | some ls => if P.cellsOf t = ls.length then some ls else none
   | none => none
  | some (.array n e) => match leafI P d e with
   | some ls => if P.cellsOf e = ls.length ∧ P.cellsOf t = (z0f ls n).length then some (z0f ls n) else none
   | none => none
  | _ => none
theorem zm5 {α β:Type} {f:α → Option β}:∀ {l:List α} {ys:List β}, l.mapM f = some ys → ∃ g:List β, g = ys ∧ (∀ x ∈ l, ∃ y, f x = some y ∧ y ∈ ys) ∧ (∀ y ∈ ys, ∃ x ∈ l, f x = some y)
 | [], ys, h => by
  simp at h; subst h
  exact ⟨_, rfl, by simp, by simp⟩
 | x :: l, ys, h => by
  rw [List.mapM_cons] at h
  cases hx:f x with
  | none => rw [hx] at h; cases h
  | some y =>
   rw [hx] at h
   cases hl:l.mapM f with
   | none => rw [hl] at h; cases h
   | some zs =>
    rw [hl] at h
    cases h
    obtain ⟨_, _, h1, h2⟩:=zm5 hl
    refine ⟨_, rfl, fun z hz => ?_, fun z hz => ?_⟩
    ·rcases List.mem_cons.1 hz with rfl | hz
     ·exact ⟨y, hx, List.mem_cons_self ..⟩
     ·obtain ⟨w, hw, hm⟩:=h1 z hz; exact ⟨w, hw, List.mem_cons_of_mem _ hm⟩
    ·rcases List.mem_cons.1 hz with rfl | hz
     ·exact ⟨x, List.mem_cons_self .., hx⟩
     ·obtain ⟨w, hw, hm⟩:=h2 z hz; exact ⟨w, List.mem_cons_of_mem _ hw, hm⟩
theorem zgi (cs:List Value) (off m r:Nat):(cs.drop off).take (m + r) = (cs.drop off).take m ++ (cs.drop (off + m)).take r:=by
 rw [List.take_add, List.drop_drop]
section
variable {P:Program} {H:Type} {enc:TypeId × Value → H} {W:World} {sp:Nat → Bool} {held:Bool} {base:Nat}
theorem zev:∀ (d:Nat) {t:TypeId} {ls:List LeafK}, leafI P d t = some ls → ∀ {fuel:Nat} {cs:List Value} {x:DataW H × List MemPlace},
  DataW.trod enc P W base sp held fuel t cs = some x → LeafsOK ls cs ∧ x.2 = []
 | 0, _, _, h, _, _, _, _ => by cases h
 | d + 1, t, ls, h, fuel, cs, x, hx => by
  have ih:=@zev d
  cases fuel with
  | zero => simp [DataW.trod] at hx
  | succ fuel =>
   rw [leafI] at h
   unfold DataW.trod at hx
   cases hu:P.underlying t with
   | none => rw [hu] at h; cases h
   | some ds =>
    rw [hu] at h hx
    cases ds <;> first | (cases h; done) | skip
    ·cases h
     match cs, hx with
     | [.bool b], hx => cases hx; exact ⟨⟨⟨b, rfl⟩, trivial⟩, rfl⟩
    ·rename_i k
     cases h
     match cs, hx with
     | [.int k' m], hx =>
      simp only at hx
      split at hx
      ·rename_i hk
       obtain ⟨rfl, hw⟩:=hk
       cases hx; exact ⟨⟨⟨m, rfl, hw⟩, trivial⟩, rfl⟩
      ·cases hx
    ·cases h
     match cs, hx with
     | [.string s], hx =>
      simp only at hx
      split at hx
      ·rename_i hs; cases hx; exact ⟨⟨⟨s, rfl, hs⟩, trivial⟩, rfl⟩
      ·cases hx
    ·rename_i n e
     simp only at h hx
     split at h
     ·rename_i l1 hl1
      split at h
      ·rename_i hc
       cases h
       split at hx
       ·rename_i hlen
        obtain ⟨xs, hxs, rfl⟩:=Option.map_eq_some_iff.1 hx
        obtain ⟨_, _, hall, hback⟩:=zm5 hxs
        have each:∀ i, i < n → LeafsOK l1 ((cs.drop (i * P.cellsOf e)).take (P.cellsOf e)):=fun i hi => by
         obtain ⟨y, hy, _⟩:=hall i (List.mem_range.2 hi)
         exact (ih hl1 hy).1
        have gen:∀ m k, k + m = n → LeafsOK (z0f l1 m) ((cs.drop (k * P.cellsOf e)).take (m * P.cellsOf e)):=by
         intro m
         induction m with
         | zero => intro k _; simp [z0f, LeafsOK]
         | succ m ihm =>
          intro k hk
          rw [show (m + 1) * P.cellsOf e = P.cellsOf e + m * P.cellsOf e by rw [Nat.succ_mul]; omega, zgi]
          refine LeafsOK.append (each k (by omega)) ?_
          rw [show k * P.cellsOf e + P.cellsOf e = (k + 1) * P.cellsOf e by rw [Nat.succ_mul]]
          exact ihm (k + 1) (by omega)
        refine ⟨?_, ?_⟩
        ·have:=gen n 0 (by omega)
         have hrl:∀ m, (z0f l1 m).length = m * P.cellsOf e:=by
          intro m
          induction m with
          | zero => simp [z0f]
          | succ m ihm => simp only [z0f, List.length_append, ihm, hc.1]; rw [Nat.succ_mul]; omega
         rw [← hrl n, ← hc.2, ← hlen] at this
         simpa using this
        ·refine List.flatMap_eq_nil_iff.2 fun y hy => ?_
         obtain ⟨i, _, hi⟩:=hback y hy
         exact (ih hl1 hi).2
       ·cases hx
      ·cases h
     ·cases h
    ·rename_i fs
     simp only at h hx
     split at h
     ·rename_i l1 hl1
      split at h
      ·rename_i hc
       cases h
       split at hx
       ·rename_i hlen
        obtain ⟨xs, hxs, rfl⟩:=Option.map_eq_some_iff.1 hx
        obtain ⟨_, _, hall, hback⟩:=zm5 hxs
        have gen:∀ (fl:List Field) (off:Nat) (ls:List LeafK), (∀ f ∈ fl, f ∈ fs.toList) → zyt P (leafI P d) fl off = some ls →
          LeafsOK ls ((cs.drop off).take ls.length) ∧ ∀ f ∈ fl, ∃ l, leafI P d f.type = some l:=by
         intro fl
         induction fl with
         | nil => intro off ls _ h; cases h; simp [LeafsOK]
         | cons f fl ihf =>
          intro off ls hm h
          simp only [zyt] at h
          split at h
          ·rename_i l2 hl2
           split at h
           ·rename_i hc2
            obtain ⟨rfl, hc3⟩:=hc2
            split at h
            ·rename_i r hr
             cases h
             obtain ⟨g1, g2⟩:=ihf _ _ (fun g hg => hm g (List.mem_cons_of_mem _ hg)) hr
             refine ⟨?_, fun g hg => ?_⟩
             ·rw [List.length_append, zgi]
              refine LeafsOK.append ?_ g1
              obtain ⟨y, hy, _⟩:=hall f (hm f (List.mem_cons_self ..))
              rw [← hc3]
              exact (ih hl2 hy).1
             ·rcases List.mem_cons.1 hg with rfl | hg
              ·exact ⟨l2, hl2⟩
              ·exact g2 g hg
            ·cases h
           ·cases h
          ·cases h
        obtain ⟨g1, g2⟩:=gen fs.toList 0 _ (fun _ h => h) hl1
        refine ⟨?_, ?_⟩
        ·rw [← hc, ← hlen] at g1; simpa using g1
        ·refine List.flatMap_eq_nil_iff.2 fun y hy => ?_
         obtain ⟨f, hf, hi⟩:=hback y hy
         obtain ⟨l, hl⟩:=g2 f hf
         exact (ih hl hi).2
       ·cases hx
      ·cases h
     ·cases h
theorem open_sl {t e:TypeId} {ls:List LeafK} {b0:Nat} {v:Value} {dd:DataW H} {ps:List MemPlace} (ht:P.underlying t = some (.slice e)) (hlf:leafI P 20 e = some ls) (hce:P.cellsOf e = ls.length)
  (hval:Value.okWide P W .any b0 t v) (hd:DataW.Trod enc P W 0 (fun _ => true) held t v dd ps) :
  ∃ cs:List (List Value), (∀ c ∈ cs, LeafsOK ls c) ∧ cs.length ≤ maxLen ∧ SlV e ls.length cs.flatten cs.length false v (hp W):=by
 obtain ⟨fuel, hf⟩:=hd
 have hv:v = .slice none 0 0 ∨ ∃ a len cap, v = .slice (some a) len cap ∧ len ≤ cap ∧ cap ≤ maxLen ∧ a.spot = none ∧ ∃ cs fr ty, W.heap[a.block]? = some (.cells cs ty fr):=by
  have h0:Cell.ok P W .any b0 t v:=by
   unfold Value.okWide at hval
   rw [ht] at hval
   unfold Cell.okWide at hval
   rw [ht] at hval
   exact hval
  unfold Cell.ok at h0
  rw [ht] at h0
  match v, h0 with
  | .slice none 0 0, _ => exact .inl rfl
  | .slice (some a) len cap, h0 =>
   obtain ⟨h1, h2, _, h3, row, cells, h4, _⟩:=h0
   have hm:IntKind.i64.max = 9223372036854775807:=by decide
   refine .inr ⟨a, len, cap, rfl, h1, by rw [hm] at h2; unfold maxLen; omega, h3, ?_⟩
   unfold World.shape? at h4
   split at h4
   ·rename_i cs ty fr hh; exact ⟨_, _, _, hh⟩
   ·cases h4
 rcases hv with rfl | ⟨a, len, cap, rfl, h1, h2, h3, cs, fr, ty, h4⟩
 ·exact ⟨[], fun c h => (nomatch h), Nat.zero_le _, SlV.nil⟩
 ·rcases Deep.open_slice ht (by simpa [Value.cells] using hf) with ⟨h, _⟩ | ⟨a', len', cap', m, nn, D, Pl, h5, _, _, _, hm, _, hx⟩
  ·cases h
  ·cases h5
   simp only [if_true] at hm
   rw [hm] at hx
   clear hm
   obtain ⟨C, hC⟩:=Deep.choose_lt (α:=List Value) (n:=cap) (p:=fun i c => W.cells? 0 (a.add (i * P.cellsOf e)) (P.cellsOf e) = some c ∧ LeafsOK ls c) (fun i hi => by
    obtain ⟨c, g1, g2⟩:=hx i hi
    exact ⟨c, g1, (zev 20 hlf g2).1⟩)
   have hln:∀ i, i < cap → (C i).length = ls.length:=fun i hi => (hC i hi).2.length
   refine ⟨(List.range len).map C, fun c hc => ?_, by simp; omega, ?_⟩
   ·obtain ⟨i, hi, rfl⟩:=List.mem_map.1 hc
    exact (hC i (by have:=List.mem_range.1 hi; omega)).2
   ·have hfl:∀ k, k ≤ cap → ((List.range k).map C).flatten.length = k * ls.length:=by
     intro k
     induction k with
     | zero => simp
     | succ k ih =>
      intro hk
      rw [List.range_succ, List.map_append, List.flatten_append, List.length_append, ih (by omega), Nat.succ_mul]
      simp [hln k (by omega)]
    refine ⟨by rw [hfl len h1, List.length_map, List.length_range], .inr ⟨a.block, a.off, cap, cs, ty, fr, ?_, h4, ?_, by simpa using h1, fun h => by cases h⟩⟩
    ·obtain ⟨ab, ao, asp⟩:=a
     simp only at h3
     subst h3
     simp
    ·rw [hfl len h1]
     have key:∀ k, k ≤ cap → (cs.toList.drop a.off).take (k * ls.length) = ((List.range k).map C).flatten:=by
      intro k
      induction k with
      | zero => simp
      | succ k ih =>
       intro hk
       rw [Nat.succ_mul, zgi, ih (by omega), List.range_succ, List.map_append, List.flatten_append]
       congr 1
       obtain ⟨_, g2, g3⟩:=World.cells?_some (hC k (by omega)).1
       simp only [List.map_cons, List.map_nil, List.flatten_cons, List.flatten_nil, List.append_nil]
       apply List.ext_getElem?
       intro j
       rcases Nat.lt_or_ge j ls.length with hj | hj
       ·have:=g3 j (by omega)
        rw [← this, List.getElem?_take_of_lt hj, List.getElem?_drop]
        obtain ⟨ab, ao, asp⟩:=a
        simp only at h3
        subst h3
        rw [zch, zch, za1 h4]
        simp only [hce]
        rw [Array.getElem?_toList]
       ·rw [List.getElem?_eq_none (by rw [List.length_take]; omega), List.getElem?_eq_none (by rw [hln k (by omega)]; exact hj)]
     exact key len h1
end
end Go.V
set_option maxRecDepth 20000
namespace Go.V
open Go.ChangeShapes Go.WideShapes Go.ChangeAt Go.ChangeMaps Go.RowKit
section
variable {P:Program} {H:Type} {enc:TypeId × Value → H} {W:World} {held:Bool}
end
end Go.V
set_option maxRecDepth 20000
namespace Go.V
open Go.ChangeShapes Go.WideShapes Go.ChangeAt Go.ChangeMaps Go.RowKit
section
variable {P:Program} {H:Type} {enc:TypeId × Value → H} {W:World} {held:Bool}
def zhu (enc:TypeId × Value → H) (P:Program) (W:World) (held:Bool) (t:TypeId) (n:Nat) (Φ:List Value → Prop):Prop :=
 P.cellsOf t = n ∧ ∀ (fuel:Nat) (cs:List Value) (x:DataW H × List MemPlace), DataW.trod enc P W 0 (fun _ => true) held fuel t cs = some x → (x.1.weights P t).all (· ≤ reachBytes) = true → cs.length = n ∧ Φ cs
theorem zh5 {t:TypeId} {ls:List LeafK} (h:leafI P 20 t = some ls) (hc:P.cellsOf t = ls.length):zhu enc P W held t ls.length (LeafsOK ls) :=
 ⟨hc, fun _ _ _ hx _ => ⟨(zev 20 h hx).1.length, (zev 20 h hx).1⟩⟩
def SlD (e:TypeId) (n by_:Nat) (Φ:List Value → Prop) (Hh:Heap) (v:Value):Prop:=∃ cs:List (List Value), (∀ c ∈ cs, c.length = n ∧ Φ c) ∧ cs.length ≤ maxLen ∧ cs.length * by_ ≤ reachBytes ∧ SlV e n cs.flatten cs.length false v Hh
theorem zfv {e:TypeId}:∀ {l:List (DataW H)} {d:DataW H}, d ∈ l → ∀ n ∈ d.weights P e, n ∈ DataW.weightsAll P e l
 | d0 :: l, d, hd, n, hn => by
  simp only [DataW.weightsAll, List.mem_append]
  rcases List.mem_cons.1 hd with rfl | hd
  ·exact .inl hn
  ·exact .inr (zfv hd n hn)
theorem zz5 {l m:List Nat} (h:l.all (· ≤ reachBytes) = true) (hs:∀ n ∈ m, n ∈ l):m.all (· ≤ reachBytes) = true :=
 List.all_eq_true.2 fun n hn => List.all_eq_true.1 h n (hs n hn)
theorem wt_at {ts:List TypeId} {ds:List (DataW H)} (h:(DataW.weightsEach P ts ds).all (· ≤ reachBytes) = true) (j:Nat) {t:TypeId} {d:DataW H} (ht:ts[j]? = some t) (hd:ds[j]? = some d):(d.weights P t).all (· ≤ reachBytes) = true :=
 zz5 h (DataW.weights_mem_each ht hd)
theorem zke {t e:TypeId} {n:Nat} {Φ:List Value → Prop} (ht:P.underlying t = some (.slice e)) (hct:P.cellsOf t = 1) (he:zhu enc P W held e n Φ) (hn:0 < n) :
  zhu enc P W held t 1 (fun vs => ∃ v, vs = [v] ∧ SlD e n (P.bytesOf e) Φ (hp W) v):=by
 refine ⟨hct, fun fuel cs x hf hw => ?_⟩
 rcases Deep.open_slice ht hf with ⟨rfl, _⟩ | ⟨a, len, cap, m, nn, D, Pl, rfl, _, h1, h2, hm, rfl, hx⟩
 ·exact ⟨rfl, _, rfl, [], fun c h => (nomatch h), Nat.zero_le _, by simp, SlV.nil⟩
 refine ⟨rfl, _, rfl, ?_⟩
 simp only [if_true] at hm
 subst hm
 have hwe:(DataW.weights P t (DataW.slice ((List.range len).map D) ((List.range (m - len)).map fun j => D (len + j)))) = (len + (m - len)) * P.bytesOf e :: (DataW.weightsAll P e ((List.range len).map D) ++ DataW.weightsAll P e ((List.range (m - len)).map fun j => D (len + j))):=by
  rw [DataW.weights, ht]; simp
 simp only at hw
 rw [hwe] at hw
 have hb:(len + (m - len)) * P.bytesOf e ≤ reachBytes:=by
  have:=List.all_eq_true.1 hw _ (List.mem_cons_self ..)
  simpa using this
 have hwD:∀ i, i < len → ((D i).weights P e).all (· ≤ reachBytes) = true:=fun i hi => zz5 hw fun k hk =>
  List.mem_cons_of_mem _ (List.mem_append_left _ (zfv (List.mem_map.2 ⟨i, List.mem_range.2 hi, rfl⟩) k hk))
 rcases Nat.eq_zero_or_pos m with h0 | h0
 ·obtain rfl:len = 0:=by omega
  subst h0
  exact ⟨[], fun c h => (nomatch h), Nat.zero_le _, by simp, by simp, .inl ⟨rfl, _, rfl⟩⟩
 obtain ⟨he1, he2⟩:=he
 have hsp:a.spot = none ∧ ∃ c0 ty fr, W.heap[a.block]? = some (.cells c0 ty fr):=by
  obtain ⟨c, g1, _⟩:=hx 0 h0
  obtain ⟨_, g2, g3⟩:=World.cells?_some g1
  have g4:=g3 0 (by omega)
  have hc0:∃ v, c[0]? = some v:=⟨_, List.getElem?_eq_getElem (by omega)⟩
  obtain ⟨v, hv⟩:=hc0
  rw [hv] at g4
  have hadd:((a.add (0 * P.cellsOf e)).add 0) = a:=by
   rw [Nat.zero_mul]
   unfold Addr.add
   simp
  rw [hadd] at g4
  unfold World.cell? at g4
  split at g4
  ·rename_i c1 ty fr hh
   split at g4
   ·cases g4
   ·rename_i hs
    exact ⟨by simpa using hs, _, _, _, hh⟩
  ·cases g4
 obtain ⟨h3, cs, ty, fr, h4⟩:=hsp
 obtain ⟨C, hC⟩:=Deep.choose_lt (α:=List Value) (n:=m) (p:=fun i c => W.cells? 0 (a.add (i * P.cellsOf e)) (P.cellsOf e) = some c ∧ (i < len → c.length = n ∧ Φ c)) (fun i hi => by
  obtain ⟨c, g1, g2⟩:=hx i hi
  exact ⟨c, g1, fun hl => he2 _ _ _ g2 (hwD i hl)⟩)
 have hln:∀ i, i < len → (C i).length = n:=fun i hi => ((hC i (by omega)).2 hi).1
 refine ⟨(List.range len).map C, fun c hc => ?_, by simp; omega, ?_, ?_⟩
 ·obtain ⟨i, hi, rfl⟩:=List.mem_map.1 hc
  exact (hC i (by have:=List.mem_range.1 hi; omega)).2 (List.mem_range.1 hi)
 ·rw [List.length_map, List.length_range]
  exact Nat.le_trans (Nat.mul_le_mul_right _ (by omega)) hb
 ·have hfl:∀ k, k ≤ len → ((List.range k).map C).flatten.length = k * n:=by
   intro k
   induction k with
   | zero => simp
   | succ k ih =>
    intro hk
    rw [List.range_succ, List.map_append, List.flatten_append, List.length_append, ih (by omega), Nat.succ_mul]
    simp [hln k (by omega)]
  refine ⟨by rw [hfl len (Nat.le_refl _), List.length_map, List.length_range], .inr ⟨a.block, a.off, m, cs, ty, fr, ?_, h4, ?_, by simpa using h1, fun h => by cases h⟩⟩
  ·obtain ⟨ab, ao, asp⟩:=a
   simp only at h3
   subst h3
   simp
  ·rw [hfl len (Nat.le_refl _)]
   have key:∀ k, k ≤ len → (cs.toList.drop a.off).take (k * n) = ((List.range k).map C).flatten:=by
    intro k
    induction k with
    | zero => simp
    | succ k ih =>
     intro hk
     rw [Nat.succ_mul, zgi, ih (by omega), List.range_succ, List.map_append, List.flatten_append]
     congr 1
     obtain ⟨_, g2, g3⟩:=World.cells?_some (hC k (by omega)).1
     simp only [List.map_cons, List.map_nil, List.flatten_cons, List.flatten_nil, List.append_nil]
     apply List.ext_getElem?
     intro j
     rcases Nat.lt_or_ge j n with hj | hj
     ·have:=g3 j (by omega)
      rw [← this, List.getElem?_take_of_lt hj, List.getElem?_drop]
      obtain ⟨ab, ao, asp⟩:=a
      simp only at h3
      subst h3
      rw [zch, zch, za1 h4]
      simp only [he1]
      rw [Array.getElem?_toList]
     ·rw [List.getElem?_eq_none (by rw [List.length_take]; omega), List.getElem?_eq_none (by rw [hln k (by omega)]; exact hj)]
   exact key len (Nat.le_refl _)
def zgr:List (Nat × (List Value → Prop)) → List Value → Prop
 | [], vs => vs = []
 | (n, Φ) :: r, vs => ∃ a b, vs = a ++ b ∧ a.length = n ∧ Φ a ∧ zgr r b
inductive zlb (enc:TypeId × Value → H) (P:Program) (W:World) (held:Bool):List Field → Nat → List (Nat × (List Value → Prop)) → Prop
 | nil {off:Nat}:zlb enc P W held [] off []
 | cons {f:Field} {fs:List Field} {off n:Nat} {Φ:List Value → Prop} {r:List (Nat × (List Value → Prop))} (ho:f.offset = off) (hr:zhu enc P W held f.type n Φ) (h:zlb enc P W held fs (off + n) r):zlb enc P W held (f :: fs) off ((n, Φ) :: r)
def z3b:List (Nat × (List Value → Prop)) → Nat
 | [] => 0
 | p :: r => p.1 + z3b r
theorem zer {t:TypeId} {fs:Array Field} {ps:List (Nat × (List Value → Prop))} (hu:P.underlying t = some (.struct fs)) (h:zlb enc P W held fs.toList 0 ps) (hc:P.cellsOf t = z3b ps):zhu enc P W held t (z3b ps) (zgr ps):=by
 refine ⟨hc, fun fuel cs x hf hw => ?_⟩
 obtain ⟨xs, n, rfl, rfl, hl, hxl, hx⟩:=DataW.trod_struct hu hf
 have hwe:DataW.weights P t (DataW.agg (H:=H) (xs.map (·.1))) = DataW.weightsEach P (fs.toList.map (·.type)) (xs.map (·.1)):=by
  rw [DataW.weights, hu]
 simp only at hw
 rw [hwe] at hw
 refine ⟨by rw [hl, hc], ?_⟩
 have gen:∀ (fl:List Field) (i off:Nat) (ps:List (Nat × (List Value → Prop))), (∀ (j:Nat) f, fl[j]? = some f → fs[i + j]? = some f) → zlb enc P W held fl off ps → off + z3b ps = cs.length → zgr ps (cs.drop off):=by
  intro fl
  induction fl with
  | nil => intro i off ps _ h ho; cases h; simp only [z3b] at ho; simp only [zgr]; rw [List.drop_eq_nil_of_le (by omega)]
  | cons f fl ihf =>
   intro i off ps hm h ho
   cases h with
   | @cons _ _ _ n' Φ r h1 h2 h3 =>
   simp only [z3b] at ho
   have g0:=hm 0 f rfl
   rw [Nat.add_zero] at g0
   have g1:=hx i f g0
   have hi:i < xs.length:=by
    rw [hxl]
    rcases Nat.lt_or_ge i fs.size with h | h
    ·exact h
    ·rw [Array.getElem?_eq_none h] at g0; cases g0
   rw [List.getElem?_eq_getElem hi, h1, h2.1] at g1
   have hwi:(xs[i].1.weights P f.type).all (· ≤ reachBytes) = true:=wt_at hw i (by rw [List.getElem?_map, Array.getElem?_toList, g0]; rfl) (by rw [List.getElem?_map, List.getElem?_eq_getElem hi]; rfl)
   obtain ⟨g2, g3⟩:=h2.2 _ _ _ g1 hwi
   refine ⟨(cs.drop off).take n', cs.drop (off + n'), ?_, g2, g3, ihf (i + 1) (off + n') r (fun j f' hj => ?_) h3 (by omega)⟩
   ·rw [← List.drop_drop, List.take_append_drop]
   ·have:=hm (j + 1) f' (by simpa using hj)
    rw [← this]; congr 1; omega
 have g:=gen fs.toList 0 0 ps (fun j f hj => by rw [Nat.zero_add, ← Array.getElem?_toList]; exact hj) h (by rw [hl, hc]; omega)
 simpa using g
theorem open_agD {t:TypeId} {n b0:Nat} {Φ:List Value → Prop} {v:Value} {dd:DataW H} {ps:List MemPlace} (h:zhu enc P W held t n Φ) (ha:(match P.underlying t with | some (.struct _) | some (.array _ _) => true | _ => false) = true)
  (hval:Value.okWide P W .any b0 t v) (hd:DataW.Trod enc P W 0 (fun _ => true) held t v dd ps) (hw:(dd.weights P t).all (· ≤ reachBytes) = true):∃ cs:List Value, v = .agg cs.toArray ∧ Φ cs:=by
 obtain ⟨fuel, hf⟩:=hd
 have key:∃ cs, v = .agg cs:=by
  unfold Value.okWide at hval
  split at hval
  ·obtain ⟨cs, h1, _⟩:=hval; exact ⟨cs, h1⟩
  ·obtain ⟨cs, h1, _⟩:=hval; exact ⟨cs, h1⟩
  ·rename_i h1 h2
   exfalso
   split at ha
   ·rename_i x hx; exact h1 _ hx
   ·rename_i x y hx; exact h2 _ _ hx
   ·cases ha
 obtain ⟨cs, rfl⟩:=key
 exact ⟨cs.toList, by simp, (h.2 _ _ _ hf hw).2⟩
end
end Go.V
set_option maxRecDepth 20000
namespace Go.V.L10
open Go.Proofs Go.ChangeShapes Go.WideShapes Go.ChangeAt Go.ChangeMaps Go.RowKit Go.V Go.V.L2 Go.V.L6
abbrev C3L:List LeafK:=[.i .u8, .i .u8, .i .u8]
abbrev C3P (H:Heap):List Value → Prop:=fun vs => ∃ v, vs = [v] ∧ SlD ty3 3 (Tryz.prog.bytesOf ty3) (LeafsOK C3L) H v
abbrev DdP (H:Heap):List (Nat × (List Value → Prop)):=[(1, C3P H)]
abbrev MmP (H:Heap):List (Nat × (List Value → Prop)):=[(1, zgr (DdP H))]
abbrev OoP (H:Heap):List (Nat × (List Value → Prop)):=[(1, LeafsOK [.i .u8]), (1, zgr (MmP H)), (1, zgr (DdP H)), (1, LeafsOK [.i .u8]), (1, LeafsOK [.i .i64])]
abbrev OsP (H:Heap):List Value → Prop:=fun vs => ∃ v, vs = [v] ∧ SlD z29 5 (Tryz.prog.bytesOf z29) (zgr (OoP H)) H v
abbrev WwP (H:Heap):List (Nat × (List Value → Prop)):=[(1, OsP H)]
section
variable {H:Type} {enc:TypeId × Value → H} {W:World} {held:Bool}
theorem zuw:zhu enc Tryz.prog W held 64 1 (C3P (hp W)):=zke Tryz.underlying64 (by kernel_rfl) (zh5 (ls:=C3L) (by kernel_rfl) (by kernel_rfl)) (by decide)
theorem zq7:zhu enc Tryz.prog W held 66 1 (zgr (DdP (hp W))):=zer Tryz.underlying66 (.cons rfl zuw .nil) (by kernel_rfl)
theorem zx8:zhu enc Tryz.prog W held 68 1 (zgr (MmP (hp W))):=zer Tryz.underlying68 (.cons rfl zq7 .nil) (by kernel_rfl)
theorem zq6:zhu enc Tryz.prog W held 5 1 (LeafsOK [.i .u8]):=zh5 (ls:=[.i .u8]) (by kernel_rfl) (by kernel_rfl)
theorem zuv:zhu enc Tryz.prog W held 3 1 (LeafsOK [.i .i64]):=zh5 (ls:=[.i .i64]) (by kernel_rfl) (by kernel_rfl)
theorem zx7:zhu enc Tryz.prog W held z29 5 (zgr (OoP (hp W))):=zer Tryz.underlying70 (.cons rfl zq6 (.cons rfl zx8 (.cons rfl zq7 (.cons rfl zq6 (.cons rfl zuv .nil))))) (by kernel_rfl)
theorem zx6:zhu enc Tryz.prog W held 22 1 (OsP (hp W)):=zke Tryz.underlying22 (by kernel_rfl) zx7 (by decide)
theorem reads_ww:zhu enc Tryz.prog W held 24 1 (zgr (WwP (hp W))):=zer Tryz.underlying24 (.cons rfl zx6 .nil) (by kernel_rfl)
end
theorem zjd {k:IntKind} {a:List Value} (h:LeafsOK [.i k] a):∃ z, a = [.int k z] ∧ (Lit.int k z).wf = true:=by
 obtain ⟨z, r, rfl, h1, h2⟩:=zrl h
 obtain rfl:=zrk h2
 exact ⟨z, rfl, h1⟩
theorem znh {α:Type} {f:α → List Value} {Φ:List Value → Prop} {Ψ:α → Prop} (hf:∀ c, Φ c → ∃ x, c = f x ∧ Ψ x):∀ (cs:List (List Value)), (∀ c ∈ cs, Φ c) → ∃ l:List α, cs.flatten = l.flatMap f ∧ l.length = cs.length ∧ ∀ x ∈ l, Ψ x
 | [], _ => ⟨[], rfl, rfl, fun x h => by cases h⟩
 | c :: cs, h => by
  obtain ⟨x, rfl, hx⟩:=hf c (h c (List.mem_cons_self ..))
  obtain ⟨l, h1, h2, h3⟩:=znh hf cs fun d hd => h d (List.mem_cons_of_mem _ hd)
  exact ⟨x :: l, by rw [List.flatten_cons, List.flatMap_cons, h1], by rw [List.length_cons, List.length_cons, h2], fun y hy => by
   rcases List.mem_cons.1 hy with rfl | hy
   ·exact hx
   ·exact h3 y hy⟩
theorem znx {z:Int} (h:(Lit.int .u8 z).wf = true):∃ n:Nat, z = (n:Int) ∧ n ≤ 255:=by
 have:=Go.bounds_u8 h
 exact ⟨z.toNat, by omega, by omega⟩
theorem z60 {a:List Value} (h:LeafsOK C3L a):∃ x:C3, a = qcs x ∧ x.1 ≤ 255 ∧ x.2.1 ≤ 255 ∧ x.2.2 ≤ 255:=by
 obtain ⟨z1, r, rfl, h1, h⟩:=zrl h
 obtain ⟨z2, r, rfl, h2, h⟩:=zrl h
 obtain ⟨z3, r, rfl, h3, h⟩:=zrl h
 obtain rfl:=zrk h
 obtain ⟨n1, rfl, b1⟩:=znx h1
 obtain ⟨n2, rfl, b2⟩:=znx h2
 obtain ⟨n3, rfl, b3⟩:=znx h3
 exact ⟨(n1, n2, n3), rfl, b1, b2, b3⟩
theorem z0x {H:Heap} {v:Value} (h:SlD ty3 3 (Tryz.prog.bytesOf ty3) (LeafsOK C3L) H v):∃ l:List C3, PS3 l false v H ∧ l.length ≤ 9223372036854775807 ∧ ∀ c ∈ l, c.1 ≤ 255 ∧ c.2.1 ≤ 255 ∧ c.2.2 ≤ 255:=by
 obtain ⟨cs, h1, h2, h3, h4⟩:=h
 obtain ⟨l, g1, g2, g3⟩:=znh (f:=qcs) (Ψ:=fun x:C3 => x.1 ≤ 255 ∧ x.2.1 ≤ 255 ∧ x.2.2 ≤ 255) (fun c hc => z60 hc) cs fun c hc => (h1 c hc).2
 rw [g1, ← g2] at h4
 exact ⟨l, h4, by rw [g2]; exact h2, g3⟩
theorem z6c {H:Heap} {c:List Value} (h:zgr (OoP H) c):∃ z:ZO, c = ooc z ∧ OOK z.1 ∧ PS3 z.1.ms false z.2.1 H ∧ PS3 z.1.cs false z.2.2 H:=by
 obtain ⟨a1, b, rfl, -, h1, h⟩:=h
 obtain ⟨a2, b, rfl, -, ⟨_, _, rfl, -, ⟨_, _, rfl, -, ⟨mv, rfl, hm⟩, rfl⟩, rfl⟩, h⟩:=h
 obtain ⟨a3, b, rfl, -, ⟨_, _, rfl, -, ⟨cv, rfl, hc⟩, rfl⟩, h⟩:=h
 obtain ⟨a4, b, rfl, -, h4, h⟩:=h
 obtain ⟨a5, b, rfl, -, h5, rfl⟩:=h
 obtain ⟨z1, rfl, w1⟩:=zjd h1
 obtain ⟨z4, rfl, w4⟩:=zjd h4
 obtain ⟨z5, rfl, w5⟩:=zjd h5
 obtain ⟨n1, rfl, b1⟩:=znx w1
 obtain ⟨n4, rfl, b4⟩:=znx w4
 obtain ⟨ms, g1, g2, g3⟩:=z0x hm
 obtain ⟨cs, k1, k2, k3⟩:=z0x hc
 exact ⟨(⟨n1, ms, cs, n4, z5⟩, mv, cv), rfl, ⟨b1, b4, g3, k3, g2, k2⟩, g1, k1⟩
theorem z3l {H:Heap} {c:List Value} (h:zgr (WwP H) c):∃ (xv:Value) (zs:List ZO), c = [xv] ∧ WsV zs xv H ∧ OzOK zs H:=by
 obtain ⟨a1, b, rfl, -, ⟨v, rfl, cs, g1, g2, g3, g4⟩, rfl⟩:=h
 obtain ⟨zs, e1, e2, e3⟩:=znh (f:=ooc) (Ψ:=fun z:ZO => OOK z.1 ∧ PS3 z.1.ms false z.2.1 H ∧ PS3 z.1.cs false z.2.2 H) (fun c hc => z6c hc) cs fun c hc => (g1 c hc).2
 rw [e1, ← e2] at g4
 exact ⟨v, zs, rfl, g4, e3⟩
end Go.V.L10
set_option maxRecDepth 20000
namespace Go.V.L10
open Go.Proofs Go.RowKit Go.V Go.V.L2 Go.V.L8 Go.V.L6
abbrev WithT (l:List U) (e:Int):Value → Heap → Prop:=TupS [SetV l, fun v _ => v = .int .i64 e]
theorem WithT.mono {l:List U} {e:Int}:Kn.mono (.sat (WithT l e)):=zfd SetV.mono
theorem WithP.tup {l:List U} {e:Int} {v:Value} {H:Heap} (h:WithP l e v H):WithT l e v H:=by
 obtain ⟨tv, rfl, h2⟩:=h
 exact zen h2
theorem zx2 {S:Sto} {b:Nat} {r:Int} {t:List U} {e:Int} (he:atS S r = (t, e)) (hn:S.R.length ≠ 0) {w:World} {B:Heap} {C:Nat → Prop} (hB:B.Le (hp w)) (hr:(StG b S).P B w C) (hC:∀ k, C k → k < w.heap.size ∧ B k = none) :
  RetY Tryz.prog 13 [zdh b, .int .u64 r] w B C (StG b S) (WithT t e):=by
 have h:=zj6 (r:=r) hn hB hr hC
 rw [he] at h
 exact RetY.mono h fun _ _ _ => WithP.tup
attribute [local irreducible] V N X VO Par StepOK Has Ret RetL RetO RetT zcd zd2 RetY Src
end Go.V.L10
set_option maxRecDepth 20000
namespace Go.V.L10
open Go.Proofs Go.RowKit Go.V Go.V.L2 Go.V.L8 Go.V.L6
def tS (S:Sto) (r:Int):List U:=(kpt S.R r).getD []
theorem zro {n:Nat} {S:Sto} (_hj:JJ n S) {r:Int} (hr:r ∈ zas S.R):kpt S.R r = some (tS S r) ∧ atS S r = (tS S r, 0) ∧ 0 < r ∧ r ≤ S.R.length:=by
 have h1:=zbc.1 hr
 have h2:=zdz h1
 obtain ⟨t, ht⟩:=Option.isSome_iff_exists.1 h1
 have h3:tS S r = t:=by unfold tS; rw [ht]; rfl
 rw [h3]
 exact ⟨ht, by unfold atS; rw [if_neg (by omega), ht], h2.1, h2.2⟩
theorem znm (S:Sto) (i:Nat):zg8 fun (bs:List SB) (H:Heap) => SbOK bs H ∧ bs.map (·.1) = ((zas S.R).take i).map (tS S):=fun _ _ _ ⟨h1, h2⟩ hle => ⟨h1.le hle, h2⟩
abbrev z8a (S:Sto) (i:Nat):Res:=ExR (fun bs:List SB => SlR zxi 4 bs.length (bs.flatMap sbc)) (fun bs H => SbOK bs H ∧ bs.map (·.1) = ((zas S.R).take i).map (tS S)) (znm S i)
theorem SbOK.snoc {bs:List SB} {b:SB} {H:Heap} (h:SbOK bs H) (hb:SetV b.1 (sbv b) H):SbOK (bs ++ [b]) H:=fun x hx => by
 rcases List.mem_append.1 hx with hx | hx
 ·exact h x hx
 ·rw [List.mem_singleton.1 hx]; exact hb
attribute [local irreducible] V N X VO Par StepOK Has Ret RetL RetO RetT zcd zd2 RetY Src
end Go.V.L10
set_option maxRecDepth 20000
namespace Go.V
open Go.RowKit
theorem RetY.frame {P:Program} {f:FuncId} {args:List Value} {w:World} {B:Heap} {C:Nat → Prop} {r1 r1' r2:GR} {φ:Value → Heap → Prop} (hr:(zcy r1 r2).P B w C) (hC:∀ k, C k → k < w.heap.size ∧ B k = none)
  (h:∀ C1, r1.P B w C1 → (∀ k, C1 k → k < w.heap.size ∧ B k = none) → RetY P f args w B C1 r1' φ):RetY P f args w B C (zcy r1' r2) φ:=by
 obtain ⟨C1, C2, h1, h2, h3, h4⟩:=hr
 refine Calls.mono (h C1 h1 fun k hk => hC k ((h3 k).2 (.inl hk))) fun e u ⟨v, he, H, g, hp, C', hv, hC'⟩ => ?_
 have hsub:∀ k, C1 k → C k:=fun k hk => (h3 k).2 (.inl hk)
 have g2:Grow C w B u H:=⟨⟨g.keep.os, g.keep.tape, g.keep.output, g.keep.size, fun k hk hn => g.keep.block k hk fun h => hn (hsub k h), g.keep.dr⟩, g.sub, g.le, fun k hk hn => g.fresh k hk fun h => hn (hsub k h)⟩
 refine ⟨v, he, H, g2, hp, fun k => C' k ∨ C2 k, ⟨C', C2, hv, r2.st h2 g.le g.sub ⟨g.keep.os, g.keep.tape, g.keep.output, g.keep.size, g.keep.dr⟩ (fun k hk => g.keep.block k (hC k ((h3 k).2 (.inr hk))).1 fun h => h4 k h hk), fun _ => Iff.rfl, fun k hk h2k => ?_⟩, fun k hk => ?_⟩
 ·rcases (hC' k hk).1 with h | h
  ·exact h4 k h h2k
  ·have:=(hC k ((h3 k).2 (.inr h2k))).1; omega
 ·rcases hk with hk | hk
  ·obtain ⟨a, b, c⟩:=hC' k hk
   exact ⟨a.imp (hsub k) id, b, c⟩
  ·obtain ⟨a, b⟩:=hC k ((h3 k).2 (.inr hk))
   exact ⟨.inl ((h3 k).2 (.inr hk)), Nat.lt_of_lt_of_le a g.keep.size, (g.fresh k a fun h => h4 k h hk).trans b⟩
theorem RetY.conv {P:Program} {f:FuncId} {args:List Value} {w:World} {B:Heap} {C:Nat → Prop} {r r':GR} {φ:Value → Heap → Prop} (h:RetY P f args w B C r φ) (hi:∀ H u C, r.P H u C → r'.P H u C):RetY P f args w B C r' φ :=
 Calls.mono h fun _ _ ⟨v, he, H, g, hp, C', hv, hC'⟩ => ⟨v, he, H, g, hp, C', hi _ _ _ hv, hC'⟩
theorem zfn {r1 r2:GR} {H:Heap} {u:World} {C:Nat → Prop} (h:(zcy r1 r2).P H u C):(zcy r2 r1).P H u C :=
 let ⟨C1, C2, h1, h2, h3, h4⟩:=h
 ⟨C2, C1, h2, h1, fun k => (h3 k).trans or_comm, fun k a b => h4 k b a⟩
theorem zrs {r1 r2 r3 r4:GR} {H:Heap} {u:World} {C:Nat → Prop} (h:(zcy (zcy r1 r2) (zcy r3 r4)).P H u C):(zcy (zcy r2 r4) (zcy r1 r3)).P H u C:=by
 obtain ⟨C1, C2, ⟨D1, D2, a1, a2, a3, a4⟩, ⟨E1, E2, b1, b2, b3, b4⟩, h3, h4⟩:=h
 have hx:∀ k, D1 k → ¬ E1 k:=fun k h1 h2 => h4 k ((a3 k).2 (.inl h1)) ((b3 k).2 (.inl h2))
 have hy:∀ k, D1 k → ¬ E2 k:=fun k h1 h2 => h4 k ((a3 k).2 (.inl h1)) ((b3 k).2 (.inr h2))
 have hz:∀ k, D2 k → ¬ E1 k:=fun k h1 h2 => h4 k ((a3 k).2 (.inr h1)) ((b3 k).2 (.inl h2))
 have hw:∀ k, D2 k → ¬ E2 k:=fun k h1 h2 => h4 k ((a3 k).2 (.inr h1)) ((b3 k).2 (.inr h2))
 refine ⟨fun k => D2 k ∨ E2 k, fun k => D1 k ∨ E1 k, ⟨D2, E2, a2, b2, fun _ => Iff.rfl, hw⟩, ⟨D1, E1, a1, b1, fun _ => Iff.rfl, hx⟩, fun k => ?_, fun k h1 h2 => ?_⟩
 ·rw [h3, a3, b3]
  constructor
  ·rintro ((h | h) | (h | h))
   ·exact .inr (.inl h)
   ·exact .inl (.inl h)
   ·exact .inr (.inr h)
   ·exact .inl (.inr h)
  ·rintro ((h | h) | (h | h))
   ·exact .inl (.inr h)
   ·exact .inr (.inr h)
   ·exact .inl (.inl h)
   ·exact .inr (.inl h)
 ·rcases h1 with h1 | h1
  ·rcases h2 with h2 | h2
   ·exact a4 k h2 h1
   ·exact hz k h1 h2
  ·rcases h2 with h2 | h2
   ·exact hy k h2 h1
   ·exact b4 k h2 h1
section
variable {P:Program} {F:Fr} {B:Heap} {O:Boxes} {n:Nat} {ops:Array Oper} {κ:Kap} {d:Nat} {ty:TypeId} {pos:String} {aft:Array Edge} {g:Option (Nat × Bool)} {Q:Exit → Act → World → Prop} {a:Act} {u:World} {os:List Oper}
theorem zvn (L:Tabs P) {x:Operand} {q b:Nat} {t t':TypeId} {s off:Nat} {v:Value} {r:Res} (hx:evK κ x = some (.pointer (some ⟨b, off, none⟩))) (hq:κ q = some (.own r)) (hcell:∀ y H u C, r.P y H u C → ∃ cs rest:List Value, u.heap[b]? = some (.cells cs.toArray t') ∧ cs.drop off = v :: rest) (hn:Nat.blt d n = true) (hg:gK ops κ ⟨some d, .load t x, ty, pos, aft, g⟩ = some true)
  (hl:L.ld t = some (false, s)):zdr P F B n ops O κ ⟨some d, .load t x, ty, pos, aft, g⟩ q d (.is v):=by
 rintro κ' a u hlk hqk ⟨H, fp, hh⟩
 unfold After
 rw [if_pos (zag hh hlk hg)]
 have e:=hh.env hlk
 have h1:=e.is_ x _ (by simp [Op.operands]) hx
 obtain ⟨hown, hM⟩:=hh.slot q _ (hqk.trans hq)
 obtain ⟨cs, rest, h2, hc⟩:=hcell _ _ _ _ hown
 have h3:cs[off]? = some v:=by
  have:=congrArg (·[0]?) hc
  simpa using this
 have hrun:(execOp a.eval ⟨some d, .load t x, ty, pos, aft, g⟩).run P u = .ok (.value v) u:=by
  simp only [execOp, h1, Instr.loadAt, Instr.sureAddr, Sem.run_bind, Sem.run_pure, Result.andThen_ok]
  rw [zcl (Tabs.ld_spec hl) u _ v (by rw [za1 h2]; simpa using h3)]
  rfl
 rw [hrun]
 simp only [Upon]
 exact ⟨H, fp, hh.put (k:=.is v) (zk hn) trivial rfl⟩
end
end Go.V
set_option maxRecDepth 20000
namespace Go.V.L10
open Go.Proofs Go.RowKit Go.V Go.V.L2 Go.V.L8 Go.V.L6
theorem zx3 (A D:Sto):zf5 A D = zf5 D A:=by
 unfold zf5
 rw [Bool.eq_iff_iff]
 simp only [Bool.and_eq_true, decide_eq_true_eq]
 exact ⟨fun h => ⟨h.1.symm, h.2.symm⟩, fun h => ⟨h.1.symm, h.2.symm⟩⟩
theorem zlq (A:Sto):zf5 A A = true:=by unfold zf5; simp
end Go.V.L10
set_option maxRecDepth 20000
namespace Go.V.L10
open Go.Proofs Go.RowKit Go.V Go.V.L2 Go.V.L8 Go.V.L6
theorem z4v {r1 r2 r1' r2':GR} (h1:∀ H u C, r1.P H u C → r1'.P H u C) (h2:∀ H u C, r2.P H u C → r2'.P H u C) {H:Heap} {u:World} {C:Nat → Prop} (h:(zcy r1 r2).P H u C):(zcy r1' r2').P H u C :=
 let ⟨C1, C2, a, b, c, d⟩:=h
 ⟨C1, C2, h1 _ _ _ a, h2 _ _ _ b, c, d⟩
abbrev G2 (pb b:Nat) (A:Sto) (qb c:Nat) (D:Sto):GR:=zcy (BoG pb b A) (BoG qb c D)
theorem z2k {r1 r2 r3 r4:GR} {H:Heap} {u:World} {C:Nat → Prop} (h:(zcy (zcy r2 r4) (zcy r1 r3)).P H u C):(zcy (zcy r1 r2) (zcy r3 r4)).P H u C :=
 z4v (fun _ _ _ => zfn) (fun _ _ _ => zfn) (zfn (zrs h))
theorem zzo {pb b:Nat} {A:Sto}:∀ H u C, (BoG pb b A).P H u C → ∃ cs rest:List Value, u.heap[pb]? = some (.cells cs.toArray zsh) ∧ cs.drop 0 = zdh b :: rest :=
 fun _ _ _ ⟨_, _, ⟨⟨lv, pv⟩, _, h, _⟩, _⟩ => ⟨_, [lv, pv], h, rfl⟩
theorem z73 {pb b qb c:Nat} {A D:Sto}:∀ (_:Value) H u C, (G2 pb b A qb c D).res.P undef H u C → ∃ cs rest:List Value, u.heap[pb]? = some (.cells cs.toArray zsh) ∧ cs.drop 0 = zdh b :: rest :=
 fun _ _ _ _ ⟨_, _, h, _⟩ => zzo _ _ _ h
section
variable {n m pb b qb c:Nat} {A D:Sto} {w:World} {B:Heap} {C:Nat → Prop}
theorem JJ.sz {n:Nat} {S:Sto} (h:JJ n S) (hn:n ≤ 100):(zas S.R).length ≤ 100000 ∧ S.P.length ≤ 100000 ∧ ∀ r t, kpt S.R r = some t → t.length ≤ 100000:=by
 have h1:=h.hR
 have h2:=h.hP
 have h3:=zco S.R
 exact ⟨by omega, by omega, fun r t ht => by have:=(h.so r t ht).2; omega⟩
theorem ztl (ha:JJ n A) (hn:n ≤ 100) (hd:JJ m D) (hm:m ≤ 100) (hB:B.Le (hp w)) (hr:(G2 pb b A qb c D).P B w C) (hC:∀ k, C k → k < w.heap.size ∧ B k = none) :
  RetY Tryz.prog 33 [zdh b, zdh c] w B C (G2 pb b A qb c D) (fun v _ => v = .bool (zf5 A D)):=by
 obtain ⟨a1, a2, a3⟩:=ha.sz hn
 obtain ⟨d1, d2, d3⟩:=hd.sz hm
 exact RetY.conv (RetY.frame (zrs hr) hC fun C1 h1 hC1 => zlp ha.ne hd.ne a1 d1 a2 d2 a3 d3 hB h1 hC1) fun _ _ _ => z2k
theorem zps (ha:JJ n A) (hn:n ≤ 100) (hd:JJ m D) (hm:m ≤ 100) (hB:B.Le (hp w)) (hr:(zcy (StG b A) (StG c D)).P B w C) (hC:∀ k, C k → k < w.heap.size ∧ B k = none) :
  RetY Tryz.prog 33 [zdh b, zdh c] w B C (zcy (StG b A) (StG c D)) (fun v _ => v = .bool (zf5 A D)):=by
 obtain ⟨a1, a2, a3⟩:=ha.sz hn
 obtain ⟨d1, d2, d3⟩:=hd.sz hm
 exact zlp ha.ne hd.ne a1 d1 a2 d2 a3 d3 hB hr hC
theorem zy7 (hd:JJ m D) (hm:m ≤ 100) (hB:B.Le (hp w)) (hr:(G2 pb b A qb c D).P B w C) (hC:∀ k, C k → k < w.heap.size ∧ B k = none) :
  RetY Tryz.prog 24 [zdh qb] w B C (G2 pb b A qb c D) (fun v _ => v = .int .i64 1) :=
 RetY.conv (RetY.frame (zfn hr) hC fun C1 h1 hC1 => zw7 hd hm hB h1 hC1) fun _ _ _ => zfn
theorem zy6 {zs:List ZO} {xv:Value} (ha:JJ n A) (hn:n ≤ 75) (hB:B.Le (hp w)) (hx:WsV zs xv B) (ho:OzOK zs B) (hr:(G2 pb b A qb c D).P B w C) (hC:∀ k, C k → k < w.heap.size ∧ B k = none) :
  RetY Tryz.prog 11 [zdh pb, .agg #[xv]] w B C (G2 pb b (zok A zs) qb c D) (fun v _ => v = .int .i64 1) :=
 RetY.frame hr hC fun C1 h1 hC1 => zja ha hn hB hx ho h1 hC1
theorem zy5 {zs:List ZO} {xv:Value} (hd:JJ m D) (hm:m ≤ 75) (hB:B.Le (hp w)) (hx:WsV zs xv B) (ho:OzOK zs B) (hr:(G2 pb b A qb c D).P B w C) (hC:∀ k, C k → k < w.heap.size ∧ B k = none) :
  RetY Tryz.prog 11 [zdh qb, .agg #[xv]] w B C (G2 pb b A qb c (zok D zs)) (fun v _ => v = .int .i64 1) :=
 RetY.conv (RetY.frame (zfn hr) hC fun C1 h1 hC1 => zja hd hm hB hx ho h1 hC1) fun _ _ _ => zfn
end
attribute [local irreducible] V N X VO Par StepOK Has Ret RetL RetO RetT zcd zd2 RetY Src
end Go.V.L10
set_option maxRecDepth 20000
namespace Go.V.L10
open Go.Proofs Go.RowKit Go.V Go.V.L2 Go.V.L8 Go.V.L6
theorem zhw {α β:Type}:∀ {a:List α} {b:List β}, a.length = b.length → (a.zip b).map (·.1) = a
 | [], [], _ => rfl
 | x :: a, y :: b, h => by rw [List.zip_cons_cons, List.map_cons, zhw (by simpa using h)]
 | [], _ :: _, h => by cases h
 | _ :: _, [], h => by cases h
theorem zjn {α β:Type}:∀ {a:List α} {b:List β}, a.length = b.length → (a.zip b).map (·.2) = b
 | [], [], _ => rfl
 | x :: a, y :: b, h => by rw [List.zip_cons_cons, List.map_cons, zjn (by simpa using h)]
 | [], _ :: _, h => by cases h
 | _ :: _, [], h => by cases h
theorem zjo {α β:Type} {a:List α} {b:List β} (h:a.length = b.length):(a.zip b).length = a.length:=by rw [List.length_zip]; omega
theorem zv0 {f:Int → List U} {r:Int}:∀ {rs:List Int} {bs:List SB}, bs.map (·.1) = rs.map f → (zdi r (zsE (rs.zip bs))).map Prod.fst = if r ∈ rs then some (f r) else none
 | [], _, _ => rfl
 | x :: rs, [], h => by cases h
 | x :: rs, b :: bs, h => by
  rw [List.map_cons, List.map_cons, List.cons.injEq] at h
  show (zdi r ((x, (b.1, sbv b)) :: zsE (rs.zip bs))).map Prod.fst = _
  rw [zcn]
  by_cases e:r = x
  ·rw [if_pos e, if_pos (by rw [e]; exact List.mem_cons_self ..), e, ← h.1]; rfl
  ·rw [if_neg e, zv0 h.2]
   by_cases hm:r ∈ rs
   ·rw [if_pos hm, if_pos (List.mem_cons_of_mem _ hm)]
   ·rw [if_neg hm, if_neg (fun h2 => (List.mem_cons.1 h2).elim e hm)]
theorem zpf {rs:List Int} (h:zmf rs):rs.Nodup:=(List.pairwise_cons.1 h).2.imp fun hlt e => by omega
theorem z2z {rs:List Int} (h:zmf rs):Sst cP rs:=(List.pairwise_cons.1 h).2.imp fun hlt => ztu.2 hlt
theorem zxl {rs:List Int} {bs:List SB} (h:rs.length = bs.length):(zsE (rs.zip bs)).map Prod.fst = rs:=by
 unfold zsE
 rw [List.map_map]
 exact zhw h
theorem z0n {rs:List Int} {bs:List SB} {f:Int → List U} {R:List (Option (List U))} (hn:rs.Nodup) (hb:bs.map (·.1) = rs.map f) (hR:∀ r, kpt R r = if r ∈ rs then some (f r) else none):MapOK (zsE (rs.zip bs)) R:=by
 have hl:rs.length = bs.length:=by have:=congrArg List.length hb; simpa using this.symm
 exact ⟨by rw [zxl hl]; exact hn, fun r => by rw [zv0 hb, hR]⟩
theorem zm9 (R:List (Option (List U))):zmf (zas R):=List.pairwise_cons.2 ⟨fun r hr => (zdz (zbc.1 hr)).1, (zf2 R).imp fun h => ztu.1 h⟩
theorem ziy {rs:List Int} (h:zmf rs) {x:Int} (hx:x ∈ rs):x ≤ zce rs rs.length:=by
 obtain ⟨i, hi⟩:=List.getElem?_of_mem hx
 have hl:=get_lt hi
 obtain ⟨m, hm⟩:∃ m, rs.length = m + 1:=⟨rs.length - 1, by omega⟩
 obtain ⟨y, hy⟩:=zae (show m < rs.length by omega)
 rw [hm, zdo hy]
 rcases Nat.lt_or_ge i m with hlt | hge
 ·have:=List.pairwise_iff_getElem.1 (List.pairwise_cons.1 h).2 i m (get_lt hi) (get_lt hy) hlt
  rw [zdg hi, zdg hy] at this
  omega
 ·have:i = m:=by omega
  subst this
  rw [hi] at hy
  cases hy
  exact Int.le_refl _
theorem zm8 {rs:List Int} (h:rs ≠ []):zce rs rs.length ∈ rs:=by
 obtain ⟨m, hm⟩:∃ m, rs.length = m + 1:=⟨rs.length - 1, by have:=List.length_pos_iff.2 h; omega⟩
 obtain ⟨y, hy⟩:=zae (show m < rs.length by omega)
 rw [hm, zdo hy]
 exact List.mem_of_getElem? hy
theorem zwf {n:Nat} {S:Sto} (hj:JJ n S):zce (zas S.R) (zas S.R).length = (S.R.length:Int):=by
 have h1:=ziy (zm9 S.R) (zbc.2 hj.last)
 have h2:=zm8 (rs:=zas S.R) fun h => by have:=zbc.2 hj.last; rw [h] at this; cases this
 have h3:=zdz (zbc.1 h2)
 omega
theorem zv6 {n:Nat} {S:Sto} (hj:JJ n S) (hn:n ≤ 100) {bs:List SB} (hb:bs.map (·.1) = (zas S.R).map (tS S)) :
  mkE (((zas S.R).zip bs).map (·.1)) S.P = 0 ∧ MapOK (zsE ((zas S.R).zip bs)) S.R ∧ (S.R.length:Int) = zce (((zas S.R).zip bs).map (·.1)) ((zas S.R).zip bs).length:=by
 have hl:(zas S.R).length = bs.length:=by have:=congrArg List.length hb; simpa using this.symm
 have hR:=hj.hR
 have hkl:=zco S.R
 have hk0:(zas S.R).length ≠ 0:=fun h => by have:=zbc.2 hj.last; rw [List.eq_nil_of_length_eq_zero h] at this; cases this
 rw [zhw hl, zjo hl]
 refine ⟨?_, z0n (zpf (zm9 _)) hb (fun r => ?_), (zwf hj).symm⟩
 ·unfold mkE
  rw [if_neg hk0, if_neg (by omega), if_pos (zm9 _), if_pos (fun h hh => zbc.2 (hj.pin h (za0.1 hh)))]
 ·by_cases hm:r ∈ zas S.R
  ·rw [if_pos hm]; exact (zro hj hm).1
  ·rw [if_neg hm]
   cases h:kpt S.R r with
   | none => rfl
   | some t => exact absurd (zbc.2 (by rw [h]; rfl)) hm
def ztz (rs:List Int):List (Option (List U)):=(List.range (zce rs rs.length).toNat).map fun i => if ((i + 1:Nat):Int) ∈ rs then some [] else none
theorem zrn {rs:List Int} (h:zmf rs) (r:Int):kpt (ztz rs) r = if r ∈ rs then some [] else none:=by
 have hp:∀ x ∈ rs, 0 < x:=fun x hx => (List.pairwise_cons.1 h).1 x hx
 by_cases hr:0 < r ∧ r ≤ zce rs rs.length
 ·obtain ⟨j, rfl⟩:∃ j:Nat, r = ((j + 1:Nat):Int):=⟨(r - 1).toNat, by omega⟩
  rw [zek]
  unfold ztz
  rw [List.getElem?_map, List.getElem?_range (by omega)]
  show (some (if ((j + 1:Nat):Int) ∈ rs then some [] else none)).join = _
  split <;> rfl
 ·rw [if_neg (fun hm => hr ⟨hp r hm, ziy h hm⟩)]
  cases hk:kpt (ztz rs) r with
  | none => rfl
  | some t =>
   have h1:=zdz (R:=ztz rs) (r:=r) (by rw [hk]; rfl)
   unfold ztz at h1
   rw [List.length_map, List.length_range] at h1
   omega
theorem zo7 {rs:List Int} (h:zmf rs):zas (ztz rs) = rs:=zex zcg (zf2 _) (z2z h) fun z => by
 rw [zbc, zrn h]
 by_cases hm:z ∈ rs
 ·rw [if_pos hm]; exact ⟨fun _ => hm, fun _ => rfl⟩
 ·rw [if_neg hm]; exact ⟨fun h => (by cases h), fun h => absurd h hm⟩
theorem zry {rs:List Int} (h0:rs ≠ []) (h:zmf rs):((ztz rs).length:Int) = zce rs rs.length:=by
 unfold ztz
 rw [List.length_map, List.length_range]
 have:=(List.pairwise_cons.1 h).1 _ (zm8 h0)
 omega
end Go.V.L10
set_option maxRecDepth 20000
namespace Go.V
open Go.RowKit
def z45 (ops:Array Oper) (K:Nat):Bool :=
 let b:=Region.before ops
 (List.range ops.size).all fun i => Nat.blt i K || (List.range K).all fun j => (b.getD i 0).testBit j
theorem zww {ops:Array Oper} {K:Nat} (h:z45 ops K = true) {i j:Nat} (hi:i < ops.size) (hK:K ≤ i) (hj:j < K):((Region.before ops).getD i 0).testBit j = true:=by
 simp only [z45, List.all_eq_true, Bool.or_eq_true] at h
 rcases h i (by simpa using hi) with h | h
 ·rw [Nat.blt_eq] at h; omega
 ·exact h j (by simpa using hj)
section sound
variable {P:Program} {St:Kap → Act → World → Prop} {ops:Array Oper} {ex:Exs} {Fin:Kap → Prop}
theorem zns {r:Option Nat} (hsep:z0d ops ex = true) {K:Nat} (hcut:z45 ops K = true) {l2:List Nat} (hl2:∀ i ∈ l2, K ≤ i):∀ (fuel:Nat) (listed:Array Bool) (l:List Nat) (κ:Kap) (a:Act) (u:World),
  (l ++ l2).length = fuel → (l ++ l2).Pairwise (· < ·) → listed.size = ops.size → (∀ i, i ∈ l ++ l2 ↔ i < ops.size ∧ listed.getD i true = false) → zqp ops listed → (∀ i ∈ l, i < K) →
  ParI P St ops ex (fun κ1 => ∀ a u, St κ1 a u → ∃ κ2, St κ2 a u ∧ ParI P St ops ex Fin l2 κ2) l κ → St κ a u →
  wpAnyIn (FW r) 0 P .any ops (fun e a' u' => e = .normal ∧ ∃ κ', Fin κ' ∧ St κ' a' u') fuel listed a u:=by
 intro fuel
 induction fuel with
 | zero =>
  intro listed l κ a u hlen hsort hsz hmem hcl _ hp hh
  obtain ⟨h1, h2⟩:=List.append_eq_nil_iff.1 (List.eq_nil_of_length_eq_zero hlen)
  subst h1; subst h2
  obtain ⟨κ2, h3, h4⟩:=hp a u hh
  exact zfu hsep 0 listed [] κ2 a u rfl hsort hsz hmem hcl h4 h3
 | succ fuel ih =>
  intro listed l κ a u hlen hsort hsz hmem hcl hlK hp hh
  cases l with
  | nil =>
   obtain ⟨κ2, h3, h4⟩:=hp a u hh
   exact zfu hsep (fuel + 1) listed l2 κ2 a u hlen hsort hsz hmem hcl h4 h3
  | cons j0 l0 =>
  have hsep':=hsep
  simp only [z0d, List.all_eq_true, Bool.and_eq_true] at hsep'
  have hedge:∀ i (hi:i < ops.size), ∀ e ∈ (ops[i]'hi).after, Region.binds .any e = true → e.on < i:=fun i hi e he hb => by
   have h1:=(hsep' i (by simpa using hi)).1
   rw [Array.getD_eq_getD_getElem?, Array.getElem?_eq_getElem hi, Option.getD_some, Array.all_eq_true'] at h1
   have:=h1 e he
   simp [hb] at this
   exact this
  constructor
  ·intro hr
   exfalso
   obtain ⟨hi, hli⟩:=(hmem j0).1 (List.mem_cons_self ..)
   have:j0 ∈ Region.ready .any ops listed:=by
    refine mem_ready.2 ⟨hli, ops[j0], by simp [hi], fun e he hb => ?_⟩
    have hlt:=hedge j0 hi e he hb
    cases hle:listed.getD e.on true
    ·have hin:=(hmem e.on).2 ⟨by omega, hle⟩
     rcases List.mem_cons.1 hin with h | h
     ·omega
     ·have:=List.rel_of_pairwise_cons hsort h
      omega
    ·rw [Array.getD_eq_getD_getElem?, Array.getElem?_eq_getElem (by omega)] at hle ⊢
     simpa using hle
   rw [hr] at this
   cases this
  ·intro i hi
   obtain ⟨hli, o, ho, hall⟩:=mem_ready.1 hi
   have hisz:i < ops.size:=by
    rcases Nat.lt_or_ge i ops.size with h | h
    ·exact h
    ·rw [Array.getElem?_eq_none h] at ho; cases ho
   have hio:ops[i] = o:=by rw [Array.getElem?_eq_getElem hisz] at ho; exact Option.some.inj ho
   have hwait:∀ j, j < ops.size → ((Region.before ops).getD i 0).testBit j = true → listed.getD j true = false → False:=fun j hjs h2 hjl => by
    have:=zho hsz hcl i hisz (fun e he hb => by rw [hio] at he; exact hall e he hb) j h2
    rw [Array.getD_eq_getD_getElem?, Array.getElem?_eq_getElem (by omega)] at this hjl
    simp at this hjl
    rw [this] at hjl; cases hjl
   have hil:i ∈ j0 :: l0:=by
    rcases List.mem_append.1 ((hmem i).2 ⟨hisz, hli⟩) with h | h
    ·exact h
    ·exfalso
     obtain ⟨h5, h6⟩:=(hmem j0).1 (List.mem_cons_self ..)
     exact hwait j0 h5 (zww hcut hisz (hl2 i h) (hlK j0 (List.mem_cons_self ..))) h6
   generalize j0 :: l0 = l at *
   obtain ⟨l1, l3, rfl⟩:=List.append_of_mem hil
   rw [List.append_assoc, List.cons_append] at hsort hlen
   have hmem':∀ i', i' ∈ l1 ++ i :: (l3 ++ l2) ↔ i' < ops.size ∧ listed.getD i' true = false:=fun i' => by rw [← hmem i', List.append_assoc, List.cons_append]
   have hap:∀ j ∈ l1, ∀ x y, ops[j]? = some x → ops[i]? = some y → zme ops ex x y = true:=by
    intro j hj x y hx hy
    have hji:j < i:=(List.pairwise_append.1 hsort).2.2 j hj i (List.mem_cons_self ..)
    obtain ⟨hjs, hjl⟩:=(hmem' j).1 (List.mem_append_left _ hj)
    have h2:=(hsep' i (by simpa using hisz)).2 j (by simpa using hji)
    rw [Bool.or_eq_true] at h2
    rcases h2 with h2 | h2
    ·exact (hwait j hjs h2 hjl).elim
    ·rw [Array.getD_eq_getD_getElem?, Array.getD_eq_getD_getElem?, hx, hy] at h2
     exact h2
   obtain ⟨o', us, ho', hd, sx, rest⟩:=ParI.front l1 hap hp
   obtain rfl:o = o':=by rw [ho] at ho'; exact Option.some.inj ho'
   have hst:=sx κ a u (fun _ _ => rfl) hh
   refine After.wpOpIn ho ?_
   refine After.mono (fun a' u' hh' => ?_) hst
   have hli':i < listed.size:=by omega
   refine ih (listed.setIfInBounds i true) (l1 ++ l3) _ a' u' (by simp at hlen ⊢; omega) ?_ (by simpa using hsz) ?_ ?_ (fun j hj => hlK j (by rcases List.mem_append.1 hj with h | h; exact List.mem_append_left _ h; exact List.mem_append_right _ (List.mem_cons_of_mem _ h))) rest hh'
   ·rw [List.append_assoc]
    rw [List.pairwise_append] at hsort ⊢
    exact ⟨hsort.1, (List.pairwise_cons.1 hsort.2.1).2, fun x hx y hy => hsort.2.2 x hx y (List.mem_cons_of_mem _ hy)⟩
   ·intro j
    rw [zjh true hli', List.append_assoc]
    have hnd:i ∉ l1 ++ (l3 ++ l2):=by
     rw [List.pairwise_append] at hsort
     intro hm
     rcases List.mem_append.1 hm with hm | hm
     ·have:=hsort.2.2 i hm i (List.mem_cons_self ..); omega
     ·have:=(List.pairwise_cons.1 hsort.2.1).1 i hm; omega
    by_cases hij:i = j
    ·subst hij; simp [hnd]
    ·rw [if_neg hij, ← hmem' j]
     simp only [List.mem_append, List.mem_cons]
     constructor
     ·rintro (h | h); exact .inl h; exact .inr (.inr h)
     ·rintro (h | h | h); exact .inl h; exact absurd h.symm hij; exact .inr h
   ·intro k hk hkl e he hb
    rw [zjh _ hli'] at hkl ⊢
    by_cases hie:i = e.on
    ·rw [if_pos hie]
    ·rw [if_neg hie]
     by_cases hik:i = k
     ·subst hik; rw [hio] at he; exact hall e he hb
     ·rw [if_neg hik] at hkl; exact hcl k hk hkl e he hb
theorem zlx {Fin:Kap → Prop}:∀ (m i:Nat) {κ:Kap}, i + m ≤ ops.size → zz1 P St ops ex Fin ((ops.toList.drop i).take m) κ → ParI P St ops ex Fin (List.range' i m) κ
 | 0, i, κ, hm, h => by
  rw [List.take_zero] at h
  exact h
 | m + 1, i, κ, hm, h => by
  have hi:i < ops.toList.length:=by simp; omega
  rw [List.drop_eq_getElem_cons hi, List.take_succ_cons] at h
  obtain ⟨us, hd, sx, rest⟩:=h
  refine ⟨ops.toList[i], us, ?_, hd, sx, zlx m (i + 1) (by omega) rest⟩
  have hi':i < ops.size:=by simpa using hi
  rw [Array.getElem?_eq_getElem hi']
  simp
theorem zom {F1 F2:Kap → Prop} (h:∀ κ, F1 κ → F2 κ):∀ {l:List Oper} {κ:Kap}, zz1 P St ops ex F1 l κ → zz1 P St ops ex F2 l κ
 | [], κ, hp => h κ hp
 | _ :: _, _, ⟨us, hd, sx, rest⟩ => ⟨us, hd, sx, zom h rest⟩
theorem zsu {id:Nat} {Q:Exit → Act → World → Prop} {κ:Kap} {a:Act} {u:World} {r:Option Nat} {K:Nat} (hK:K ≤ ops.size) (hm:P.follows .mixedOrders = true) (hs:z0d ops ex = true) (hcut:z45 ops K = true)
  (hdr:∀ κ a u, St κ a u → St κ a { u with drawn:=u.drawn + 1 }) (hp:zz1 P St ops ex (fun κ1 => ∀ a u, St κ1 a u → ∃ κ2, St κ2 a u ∧ zz1 P St ops ex Fin (ops.toList.drop K) κ2) (ops.toList.take K) κ) (hh:St κ a u)
  (hQ:∀ κ' a' u', Fin κ' → St κ' a' u' → Q .normal a' u'):(Code.region id ops true).wpIn (FW r) 0 P Q a u:=by
 have hsplit:List.range' 0 K ++ List.range' K (ops.size - K) = List.range ops.size:=by
  have:=List.range'_append_1 (s:=0) (m:=K) (n:=ops.size - K)
  rw [Nat.zero_add] at this
  rw [this, List.range_eq_range', Nat.add_sub_cancel' hK]
 refine Go.wpIn_mono (wpIn_region_any hm (zns (St:=St) (ex:=ex) (Fin:=Fin) (r:=r) hs hcut (l2:=List.range' K (ops.size - K)) (fun i hi => (List.mem_range'_1.1 hi).1) ops.size _ (List.range' 0 K) κ a _ (by rw [hsplit]; simp) (by rw [hsplit]; exact List.pairwise_lt_range) (by simp) ?_ ?_ (fun i hi => by have:=List.mem_range'_1.1 hi; omega) ?_ (hdr _ _ _ hh))) fun e a' u' he => ?_
 ·intro i; rw [hsplit]; simp
  intro hi; simp [hi]
 ·intro k hk hkl; simp [hk] at hkl
 ·refine zlx K 0 (by omega) ?_
  rw [List.drop_zero]
  refine zom (fun κ1 h a u h1 => ?_) hp
  obtain ⟨κ2, h2, h3⟩:=h a u h1
  refine ⟨κ2, h2, zki (ops.size - K) K (by omega) h3⟩
 ·obtain ⟨rfl, κ', hf, hh'⟩:=he
  exact hQ κ' a' u' hf hh'
end sound
section code
variable {P:Program} {F:Fr} {B:Heap} {n:Nat} {O:Boxes} {κ:Kap} {Q:Exit → Act → World → Prop}
def z67 (P:Program) (F:Fr) (B:Heap) (n:Nat) (O:Boxes) (ops:Array Oper) (ex:Exs) (os:List Oper) (Q:Exit → Act → World → Prop):Exit → Act → World → Prop :=
 fun _ a u => ∃ κ2, Has F B O n κ2 a u ∧ Par P F B n O ops ex κ2 os Q
theorem zxc {id:Nat} {l:List Oper} (K:Nat) (ex:Exs) (hm:P.follows .mixedOrders = true) (hs:(z0d l.toArray ex && (z45 l.toArray K && Nat.ble K l.length)) = true) (h:Par P F B n O l.toArray ex κ (l.take K) (z67 P F B n O l.toArray ex (l.drop K) Q)):V P F B n O κ (.region id l.toArray true) Q:=fun a u hh => by
 rw [Bool.and_eq_true, Bool.and_eq_true] at hs
 exact zsu (St:=Has F B O n) (ex:=ex) (Fin:=fun κ => N F B n O κ Q) (K:=K) (by simpa using Nat.le_of_ble_eq_true hs.2.2) hm hs.1 hs.2.1 (fun _ _ _ h => h.drew) (by simpa [Par, N, z67] using h) hh fun κ' a' u' hf hh' => hf a' u' hh'
theorem z68 {ops:Array Oper} {ex:Exs} {os:List Oper} (h:Par P F B n O ops ex κ os Q):N F B n O κ (z67 P F B n O ops ex os Q):=fun a u hh => ⟨κ, hh, h⟩
theorem zz3 (t q:Nat) {X:Type} {vf:X → Value} {gg:X → GR} (hk:κ t = some (.own (zli vf gg))) (h:∀ x, N F B n O (upd (upd (upd κ t zec) q (.own (gg x).res)) t (.is (vf x))) Q):N F B n O κ Q:=fun a u hh => let ⟨x, h'⟩:=hh.holdRf (q:=q) hk; h x a u h'
end code
end Go.V
