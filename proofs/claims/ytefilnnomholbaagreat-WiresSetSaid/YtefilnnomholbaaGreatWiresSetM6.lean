/- WiresSet returns true for every input, and leaves it as it was: no condition. -/
import Derived.Test.YtefilnnomholbaaGreatWiresSetM5
import Derived.Laws.IdiomStrings
import Derived.Laws.AppendOwn
import Derived.ProofKit
import Derived.HandedShaped
import Derived.OpenShut
import Derived.Carry
import Derived.Deep.Slices
import Derived.Test.YtefilnnomholbaaGreatRows
set_option linter.unusedVariables false
set_option linter.unusedSimpArgs false
set_option maxRecDepth 20000
namespace Go.V.Bd
open Go.Proofs Go.RowKit Go.V Go.V.L4
theorem z3d {bs:List Nat} (h0:bs ≠ []) {p:Option Addr} {k c:Nat}:∀ v H u C, (AtV (.slice p k c) (SlR zje 1 bs.length (byV bs))).P v H u C → ∃ b cap, Value.slice p k c = .slice (some ⟨b, 0, none⟩) bs.length cap ∧ bs.length ≤ cap:=fun v H u C ⟨_, h⟩ => by
 rcases h with ⟨h, _⟩ | ⟨b, cap, rest, hv, _, hnc, _⟩
 ·exact absurd (List.eq_nil_of_length_eq_zero h) h0
 ·exact ⟨b, cap, hv, hnc⟩
attribute [local irreducible] V N X VO Par StepOK Has Ret RetL RetO RetT zbd RetX RetY Src
theorem zma {bb:Nat} {bs:List Nat} (hb:∀ b ∈ bs, b ≤ 255) (h0:bs ≠ []) (hl:bs.length ≤ 1099511627776) {w:World} {B:Heap} {C:Nat → Prop} (hB:B.Le (hp w)) (hr:(GBd bb bs).P B w C) (hC:∀ k, C k → k < w.heap.size ∧ B k = none) :
  RetX Tryz.prog 124 [zam bb] w B C GNo (.string (zds bs)):=by
 unfold RetX
 refine zaf 900 (GBd bb bs) Tryz.func124 rfl Tryz.ntmps124 (Nat.le_of_ble_eq_true rfl) hB hr hC ?_
 refine zgu (X:=Value × Value) 900 (r:=fun x => (GBv bb bs x).res) (φ:=fun x _ => z4v bb x) (hφ:=zfc bb) rfl fun x H0 hs0 hx => ?_
 obtain ⟨p, sv⟩:=x
 obtain ⟨hpp, hsl⟩:=hx
 dsimp only at hpp hsl ⊢
 obtain ⟨p1, k1, c1, rfl⟩:=hsl
 refine zc7 (r1:=zaj bb [p, .slice p1 k1 c1] zke) (r2:=(GSl (.slice p1 k1 c1) bs).res) 900 901 rfl (zag _) ?_
 rw [zlg]
 refine z66 901 _ rfl (z3d h0) fun hk => ?_
 obtain ⟨b, cap, hv, hcap⟩:=hk
 cases hv
 have hlp:0 < bs.length:=List.length_pos_iff.2 h0
 refine ZC ?_;refine Zd ?_;refine qh (id:=1) [(200006, [900]), (200011, [900]), (13, [901])] mixed (by kernel_rfl) ?_;refine Za8 ?_;refine zd (zp8 rfl rfl rfl (by omega)) rfl ?_;refine Zdg ?_;refine zav (zp6 (q:=901) hb h0 hl rfl rfl rfl rfl rfl (by kernel_rfl) (by kernel_rfl)) rfl rfl ?_;refine Zl ?_
 exact zaq L 901 (r:=GNo) (rs:=[.tmp 2]) rfl (fun _ _ h => h) hs0 rfl rfl (fun _ => rfl)
theorem zkn {bb:Nat} {p:Value} {w:World} {B:Heap} {C:Nat → Prop} (hB:B.Le (hp w)) (hr:(zai bb [p, .slice none 0 0] zke).P B w C) (hC:∀ k, C k → k < w.heap.size ∧ B k = none) :
  RetX Tryz.prog 124 [zam bb] w B C (zai bb [p, .slice none 0 0] zke) (.string .empty):=by
 unfold RetX
 refine zaf 900 (zai bb [p, .slice none 0 0] zke) Tryz.func124 rfl Tryz.ntmps124 (Nat.le_of_ble_eq_true rfl) hB hr hC ?_
 rw [zac]
 refine ZC ?_;refine Zd ?_;refine qh (id:=1) [(200006, [900]), (200011, [900])] mixed (by kernel_rfl) ?_;refine Za8 ?_;refine zd (znx rfl rfl rfl) rfl ?_;refine Zdg ?_;refine zd (znw rfl rfl rfl rfl) rfl ?_;refine Zl ?_
 exact zaq L 900 (r:=zai bb _ zke) (rs:=[.tmp 2]) rfl (fun _ _ h => h) Since.refl rfl rfl (fun _ => rfl)
end Go.V.Bd
set_option maxRecDepth 20000
namespace Go.V.L11
open Go.Proofs Go.RowKit Go.V Go.V.L2 Go.V.L4 Go.V.Bd
def zjh (t:U):ByteArray:=(⟨#[]⟩ ++ tT t) ++ ⟨#[10]⟩
def zhd (l:List U):List Nat:=l.flatMap fun t => zdn (zjh t)
def zzw:List U → Int
 | [] => 0
 | t :: l => if tE t ≠ 0 then tE t else zzw l
theorem zwb {l:List U} {i:Nat} {t:U} (hi:l[i]? = some t):zzw (l.drop i) = if tE t ≠ 0 then tE t else zzw (l.drop (i + 1)):=by
 rw [List.drop_eq_getElem_cons (get_lt hi), zgb hi]
 rfl
theorem zl5 {l:List U} {i:Nat} {t:U} (hi:l[i]? = some t):zhd (l.take (i + 1)) = zhd (l.take i) ++ zdn (zjh t):=by
 unfold zhd
 rw [zph hi, List.flatMap_append, List.flatMap_cons, List.flatMap_nil, List.append_nil]
theorem zhc {l:List U} (hs:∀ t ∈ l, (zjh t).size ≤ 1000):∀ i, (zhd (l.take i)).length ≤ i * 1000
 | 0 => by rw [List.take_zero]; exact Nat.le_refl _
 | i + 1 => by
  cases h:l[i]? with
  | none =>
   have:=List.getElem?_eq_none_iff.1 h
   rw [List.take_of_length_le (by omega)]
   have h2:=zhc hs i
   rw [List.take_of_length_le (by omega)] at h2
   omega
  | some t =>
   rw [zl5 h, List.length_append, zbv]
   have h2:=zhc hs i
   have:=hs t (List.mem_of_getElem? h)
   omega
theorem zor (s:ByteArray):∀ b ∈ zdn s, b ≤ 255:=fun b hb => by
 obtain ⟨c, _, rfl⟩:=List.mem_map.1 hb
 have:=c.toNat_lt
 omega
theorem zz2 (l:List U):∀ b ∈ zhd l, b ≤ 255:=fun b hb => by
 obtain ⟨t, _, h⟩:=List.mem_flatMap.1 hb
 exact zor _ b h
attribute [local irreducible] V N X VO Par StepOK Has Ret RetL RetO RetT zbd RetX RetY Src
theorem id_ret {t:U} {w:World} {B:Heap} (hB:B.Le (hp w)):Ret Tryz.prog 53 [uv t] w B (fun v _ => v = uv t):=by
 refine qu Tryz.func53 rfl Tryz.ntmps53 (Nat.le_of_ble_eq_true rfl) hB ?_
 refine ZA ?_;refine Zab ?_;refine Zx ?_;refine ZdZ ?_;refine Z1 ?_
 refine qt L (rs:=[.cell 2 34]) rfl (fun _ _ h => h) Since.refl fun u H hH hle => ?_
 exact ⟨_, qg rfl, rfl, rfl⟩
theorem none_ret {t:U} {w:World} {B:Heap} (hB:B.Le (hp w)):Ret Tryz.prog 54 [uv t] w B (fun v _ => v = .string ⟨#[]⟩):=by
 refine qu Tryz.func54 rfl Tryz.ntmps54 (Nat.le_of_ble_eq_true rfl) hB ?_
 refine ZbO ?_;refine Zb ?_
 refine qt L (rs:=[.tmp 2]) rfl (fun _ _ h => h) Since.refl fun u H hH hle => ?_
 rfl
theorem zqk (t:U):(zjh t).size = (tT t).size + 1:=by
 unfold zjh
 rw [ByteArray.size_append, ByteArray.size_append]
 have h1:(⟨#[]⟩:ByteArray).size = 0:=rfl
 have h2:(⟨#[10]⟩:ByteArray).size = 1:=rfl
 omega
theorem zz1 {l:List U} (h:l ≠ []):zhd l ≠ []:=fun e => by
 cases l with
 | nil => exact h rfl
 | cons t l =>
  unfold zhd at e
  rw [List.flatMap_cons] at e
  have h1:=(List.append_eq_nil_iff.1 e).1
  have h2:=zbv (zjh t)
  rw [h1, zqk] at h2
  cases h2
set_option maxRecDepth 20000 in
set_option maxHeartbeats 1000000 in
theorem text_ret {l:List U} {fu:Bool} (hln:l.length ≤ 4096) (hz:∀ t ∈ l, TZ t) (hs:∀ t ∈ l, (zjh t).size ≤ 1000) {v:Value} {w:World} {B:Heap} (hB:B.Le (hp w)) (hv:US l fu v B) :
  Ret Tryz.prog 52 [v, .func (.func 53) #[] #[], .func (.func 54) #[] #[]] w B (fun r _ => r = .tuple #[.string (if zzw l ≠ 0 then ⟨#[]⟩ else zds (zhd l)), .int .i64 (zzw l)]):=by
 refine qu Tryz.func52 rfl Tryz.ntmps52 (Nat.le_of_ble_eq_true rfl) hB ?_
 refine za4 0 (US l fu) rfl SlV.mono hv ?_
 refine Zar ?_;refine Zam ?_;refine Zv ?_;refine Zbv ?_;refine Zk ?_;refine Zan ?_
 refine zax 8 900 rfl fun bb => ?_
 by_cases hl0:l = []
 ·subst hl0
  refine Zr ?_;refine Zbt ?_
  refine zao (fun _:Nat => [(8, .is (zam bb)), (16, .is (.int .i64 0)), (17, .is (.int .i64 0)), (900, .own (zaj bb [.pointer none, .slice none 0 0] zke))]) (fun _ => True) (fun i => i) 0 trivial ⟨rfl, rfl, rfl, rfl, trivial⟩ ?_
  rintro _ _
  refine Zau ?_;refine Zao ?_;refine ZD ?_;refine qe (yc L 900 (zai bb [.pointer none, .slice none 0 0] zke) (.string .empty) (r:=zai bb [.pointer none, .slice none 0 0] zke) rfl rfl rfl rfl rfl (fun u H C hH _ hr hC => zkn hH hr hC)) ?_;refine Z5 ?_
  refine qt L (rs:=[.tmp 6, .tmp 7]) rfl (fun _ _ h => h) Since.refl fun u H hH hle => ?_
  rfl
 ·refine zg5 901 zje 1 ?_
  refine ZeV ?_
  refine zjc (X:=Value × Value) 900 (r:=fun x => (GBv bb [] x).res) (φ:=fun x _ => z4v bb x) (zfc bb) (.pointer none, .slice none 0 0) ⟨.inl rfl, _, _, _, rfl⟩ rfl ?_
  refine Zr ?_;refine Zbt ?_
  refine zao (fun i:Nat => [(1, .is (.func (.func 53) #[] #[])), (2, .is (.func (.func 54) #[] #[])), (8, .is (zam bb)), (15, .sat (US l fu)), (16, .is (.int .i64 l.length)), (17, .is (.int .i64 i)), (900, .own (GBd bb (zhd (l.take i))).res)]) (fun i => i ≤ l.length ∧ zzw (l.drop i) = zzw l) (fun i => l.length - i) 0 ⟨Nat.zero_le _, rfl⟩ ⟨rfl, rfl, rfl, rfl, rfl, rfl, rfl, trivial⟩ ?_
  rintro i ⟨hi, hte⟩
  dsimp only at hi hte ⊢
  by_cases hlt:i < l.length
  ·obtain ⟨t, ht⟩:=zaw hlt
   have hcr:=ze0 ht
   have hzt:=hz t (List.mem_of_getElem? ht)
   have hst:=hs t (List.mem_of_getElem? ht)
   have hsl:=zqk t
   rw [zwb ht] at hte
   have hsn:=zl5 ht
   have hbl:=zhc hs i
   have hwk:IntKind.i64.wrap ((i:Int) + 1) = ((i + 1:Nat):Int):=zad (by omega) (by omega)
   by_cases he:tE t = 0
   ·rw [if_neg (fun h => h he)] at hte
    have hs1:(⟨#[]⟩:ByteArray).size + (tT t).size ≤ 9223372036854775807:=by have h1:(⟨#[]⟩:ByteArray).size = 0:=rfl; omega
    have hs2:((⟨#[]⟩:ByteArray) ++ tT t).size + (⟨#[10]⟩:ByteArray).size ≤ 9223372036854775807:=by rw [ByteArray.size_append]; have h1:(⟨#[]⟩:ByteArray).size = 0:=rfl; have h2:(⟨#[10]⟩:ByteArray).size = 1:=rfl; omega
    refine Zau ?_;refine Za2 ?_;refine ZN ?_;refine Zaq ?_;refine Zd8 ?_;refine Zby ?_;refine ZU ?_;refine ZP ?_;refine z7 (q0 L rfl rfl (zn rfl) rfl rfl rfl (fun u H hH _ _ => id_ret hH)) rfl ?_;refine z7 (q0 L rfl rfl (zn rfl) rfl rfl rfl (fun u H hH _ _ => zbs hzt hH)) rfl ?_;refine Zd ?_;refine ZaA ?_;refine Zae ?_;refine Zeh ?_
    refine qh (id:=10) [(37, [900])] mixed (by kernel_rfl) ?_;refine Zi ?_;refine Zca ?_;refine zd (q0 L rfl rfl (zn rfl) rfl rfl rfl (fun u H hH _ _ => none_ret hH)) rfl ?_;refine Zi ?_;refine Zca ?_;refine zd (q0 L rfl rfl (zn rfl) rfl rfl rfl (fun u H hH _ _ => id_ret hH)) rfl ?_;refine zd (q0 L rfl rfl (zn rfl) rfl rfl rfl (fun u H hH _ _ => zpc hzt hH)) rfl ?_;refine Zej ?_;refine Zej ?_;refine zav (yc L 900 (GBd bb (zhd (l.take (i + 1)))) (.tuple #[.int .i64 (zjh t).size, .nilIface]) (r:=GBd bb (zhd (l.take i))) rfl rfl rfl rfl rfl (fun u H C hH _ hr hC => by rw [hsn]; exact write_ret (str:=zjh t) (by omega) hH hr hC)) rfl rfl ?_;refine qp ?_;refine Zai ?_;refine ZM ?_;refine Zak ?_;refine ZdO ?_
    exact yl (x:=i) (i + 1) ⟨hlt, hte⟩ (by omega) ⟨rfl, rfl, rfl, rfl, rfl, rfl, rfl, trivial⟩
   ·rw [if_pos he] at hte
    refine Zau ?_;refine Za2 ?_;refine ZN ?_;refine Zaq ?_;refine Zd8 ?_;refine Zby ?_;refine ZU ?_;refine ZP ?_;refine z7 (q0 L rfl rfl (zn rfl) rfl rfl rfl (fun u H hH _ _ => id_ret hH)) rfl ?_;refine z7 (q0 L rfl rfl (zn rfl) rfl rfl rfl (fun u H hH _ _ => zbs hzt hH)) rfl ?_;refine Zd ?_;refine ZaA ?_;refine Zz ?_;refine Zb8 ?_;refine Z5 ?_
    refine qt L (rs:=[.tmp 6, .tmp 7]) rfl (fun _ _ h => h) Since.refl fun u H hH hle => ?_
    rw [← hte, if_pos he]
    rfl
  ·obtain rfl:i = l.length:=by omega
   rw [List.drop_length] at hte
   rw [List.take_length]
   have hbl:=zhc hs l.length
   rw [List.take_length] at hbl
   refine Zau ?_;refine Zao ?_;refine ZD ?_;refine qe (yc L 900 GNo (.string (zds (zhd l))) (r:=GBd bb (zhd l)) rfl rfl rfl rfl rfl (fun u H C hH _ hr hC => zma (zz2 l) (zz1 hl0) (by omega) hH hr hC)) ?_;refine Z5 ?_
   refine qt L (rs:=[.tmp 6, .tmp 7]) rfl (fun _ _ h => h) Since.refl fun u H hH hle => ?_
   rw [← hte]
   rfl
end Go.V.L11
set_option maxRecDepth 20000
namespace Go.V.L11
open Go.Proofs Go.RowKit Go.V Go.V.L2 Go.V.L4 Go.V.Bd
theorem _root_.Go.V.ZbM {A B:Prop} (h:B) (t:Wr B → A:=by intro h; refine Zv ?_;refine Z2 ?_;exact h.h):A:=t ⟨h⟩
def zwd (l:List U):ByteArray × Int:=if 4096 < l.length then (⟨#[]⟩, 3) else (if zzw l ≠ 0 then ⟨#[]⟩ else zds (zhd l), zzw l)
attribute [local irreducible] V N X VO Par StepOK Has Ret RetL RetO RetT zbd RetX RetY Src
theorem zri {l:List U} {fu:Bool} {f g:Value} (hln:4096 < l.length) {v:Value} {w:World} {B:Heap} (hB:B.Le (hp w)) (hv:US l fu v B) :
  Ret Tryz.prog 52 [v, f, g] w B (fun r _ => r = .tuple #[.string ⟨#[]⟩, .int .i64 3]):=by
 refine qu Tryz.func52 rfl Tryz.ntmps52 (Nat.le_of_ble_eq_true rfl) hB ?_
 refine za4 0 (US l fu) rfl SlV.mono hv ?_
 refine Zar ?_;refine Zam ?_;refine ZbM ?_;refine ZaK ?_;refine Z5 ?_
 refine qt L (rs:=[.tmp 6, .tmp 7]) rfl (fun _ _ h => h) Since.refl fun u H hH hle => ?_
 rfl
theorem zvy {l:List U} {fu:Bool} (hz:∀ t ∈ l, TZ t) (hs:∀ t ∈ l, (zjh t).size ≤ 1000) {v:Value} {w:World} {B:Heap} (hB:B.Le (hp w)) (hv:US l fu v B) :
  Ret Tryz.prog 12 [v] w B (fun r _ => r = .tuple #[.string (zwd l).1, .int .i64 (zwd l).2]):=by
 unfold zwd
 refine qu Tryz.func12 rfl Tryz.ntmps12 (Nat.le_of_ble_eq_true rfl) hB ?_
 refine za4 0 (US l fu) rfl SlV.mono hv ?_
 by_cases hln:4096 < l.length
 ·rw [if_pos hln]
  refine Zar ?_;refine Zay ?_;refine Zf ?_;refine z7 (q0 L rfl rfl (zn rfl) rfl rfl rfl (fun u H hH hle _ v1 h1 => zri hln hH h1)) rfl ?_;refine ZdT ?_;refine Z5 ?_
  refine qt L (rs:=[.tmp 2, .tmp 3]) rfl (fun _ _ h => h) Since.refl fun u H hH hle => ?_
  rfl
 ·rw [if_neg hln]
  refine Zar ?_;refine Zay ?_;refine Zf ?_;refine z7 (q0 L rfl rfl (zn rfl) rfl rfl rfl (fun u H hH hle _ v1 h1 => text_ret (by omega) hz hs hH h1)) rfl ?_;refine ZdT ?_;refine Z5 ?_
  refine qt L (rs:=[.tmp 2, .tmp 3]) rfl (fun _ _ h => h) Since.refl fun u H hH hle => ?_
  rfl
end Go.V.L11
set_option maxRecDepth 20000
namespace Go.V.L11
open Go.Proofs Go.RowKit Go.V Go.V.L2 Go.V.L4 Go.V.Bd Go.V.L8
theorem _root_.Go.V.Zee {A B:Prop} (h:B) (t:Wr B → A:=by intro h; refine z7 (y7 L (vs:=[_, _, _, _, _, _, _]) rfl rfl rfl rfl rfl ⟨_, rfl⟩) rfl ?_;exact h.h):A:=t ⟨h⟩
theorem _root_.Go.V.Zfv {A B:Prop} (h:B) (t:Wr B → A:=by intro h; refine z7 (q8 L (vs:=[_, _, _, _, _, _, _]) (qg rfl) rfl rfl rfl rfl ⟨_, rfl⟩) rfl ?_;exact h.h):A:=t ⟨h⟩
abbrev cvC (t:CH):Value:=.agg #[.string t.1.1.1.1, .string t.1.1.1.2, .string t.1.1.2, .string t.1.2.1.1, .string t.1.2.1.2, .string t.1.2.2, .bool t.2]
def z4y (t:CH):ByteArray:=if t.2 = true then ⟨#[45]⟩ else ⟨#[43]⟩
theorem znl (t:CH):(z4y t).size = 1:=by unfold z4y; split <;> rfl
def zji (t:CH):ByteArray:=(z4y t ++ tT t.1) ++ ⟨#[10]⟩
def zhb (l:List CH):List Nat:=l.flatMap fun t => zdn (zji t)
def zzv:List CH → Int
 | [] => 0
 | t :: l => if tE t.1 ≠ 0 then tE t.1 else zzv l
theorem zwa {l:List CH} {i:Nat} {t:CH} (hi:l[i]? = some t):zzv (l.drop i) = if tE t.1 ≠ 0 then tE t.1 else zzv (l.drop (i + 1)):=by
 rw [List.drop_eq_getElem_cons (get_lt hi), zgb hi]
 rfl
theorem zl4 {l:List CH} {i:Nat} {t:CH} (hi:l[i]? = some t):zhb (l.take (i + 1)) = zhb (l.take i) ++ zdn (zji t):=by
 unfold zhb
 rw [zph hi, List.flatMap_append, List.flatMap_cons, List.flatMap_nil, List.append_nil]
theorem zha {l:List CH} (hs:∀ t ∈ l, (zji t).size ≤ 1000):∀ i, (zhb (l.take i)).length ≤ i * 1000
 | 0 => by rw [List.take_zero]; exact Nat.le_refl _
 | i + 1 => by
  cases h:l[i]? with
  | none =>
   have:=List.getElem?_eq_none_iff.1 h
   rw [List.take_of_length_le (by omega)]
   have h2:=zha hs i
   rw [List.take_of_length_le (by omega)] at h2
   omega
  | some t =>
   rw [zl4 h, List.length_append, zbv]
   have h2:=zha hs i
   have:=hs t (List.mem_of_getElem? h)
   omega
theorem zz0 (l:List CH):∀ b ∈ zhb l, b ≤ 255:=fun b hb => by
 obtain ⟨t, _, h⟩:=List.mem_flatMap.1 hb
 exact zor _ b h
attribute [local irreducible] V N X VO Par StepOK Has Ret RetL RetO RetT zbd RetX RetY Src
theorem tup_ret {t:CH} {w:World} {B:Heap} (hB:B.Le (hp w)):Ret Tryz.prog 56 [cvC t] w B (fun v _ => v = uv t.1):=by
 refine qu Tryz.func56 rfl Tryz.ntmps56 (Nat.le_of_ble_eq_true rfl) hB ?_
 refine ZA ?_;refine Zab ?_;refine Zx ?_;refine ZaH ?_;refine Z1 ?_
 refine qt L (rs:=[.cell 2 34]) rfl (fun _ _ h => h) Since.refl fun u H hH hle => ?_
 exact ⟨_, qg rfl, rfl, rfl⟩
theorem z3e {t:CH} {w:World} {B:Heap} (hB:B.Le (hp w)):Ret Tryz.prog 57 [cvC t] w B (fun v _ => v = .string (z4y t)):=by
 obtain ⟨t, d⟩:=t
 refine qu Tryz.func57 rfl Tryz.ntmps57 (Nat.le_of_ble_eq_true rfl) hB ?_
 dsimp only [cvC]
 refine ZA ?_;refine Zg ?_
 cases d with
 | true =>
  refine Zx ?_;refine Zm ?_;refine Zdb ?_
  refine qt L (rs:=[.tmp 2]) rfl (fun _ _ h => h) Since.refl fun u H hH hle => ?_
  rfl
 | false =>
  refine Zx ?_;refine Zm ?_;refine ZQ ?_;refine Zk ?_;refine Zb ?_
  refine qt L (rs:=[.tmp 2]) rfl (fun _ _ h => h) Since.refl fun u H hH hle => ?_
  rfl
theorem zmu (t:CH):(zji t).size = (tT t.1).size + 2:=by
 unfold zji
 rw [ByteArray.size_append, ByteArray.size_append]
 have h1:=znl t
 have h2:(⟨#[10]⟩:ByteArray).size = 1:=rfl
 omega
theorem zzz {l:List CH} (h:l ≠ []):zhb l ≠ []:=fun e => by
 cases l with
 | nil => exact h rfl
 | cons t l =>
  unfold zhb at e
  rw [List.flatMap_cons] at e
  have h1:=(List.append_eq_nil_iff.1 e).1
  have h2:=zbv (zji t)
  rw [h1, zmu] at h2
  cases h2
set_option maxRecDepth 20000 in
set_option maxHeartbeats 1000000 in
theorem zwe {l:List CH} {fu:Bool} (hln:l.length ≤ 4096) (hz:∀ t ∈ l, TZ t.1) (hs:∀ t ∈ l, (zji t).size ≤ 1000) {v:Value} {w:World} {B:Heap} (hB:B.Le (hp w)) (hv:KS tyC l fu v B) :
  Ret Tryz.prog 55 [v, .func (.func 56) #[] #[], .func (.func 57) #[] #[]] w B (fun r _ => r = .tuple #[.string (if zzv l ≠ 0 then ⟨#[]⟩ else zds (zhb l)), .int .i64 (zzv l)]):=by
 refine qu Tryz.func55 rfl Tryz.ntmps55 (Nat.le_of_ble_eq_true rfl) hB ?_
 refine za4 0 (KS tyC l fu) rfl SlV.mono hv ?_
 refine Zar ?_;refine Zam ?_;refine Zv ?_;refine Zbv ?_;refine Zk ?_;refine Zan ?_
 refine zax 8 900 rfl fun bb => ?_
 by_cases hl0:l = []
 ·subst hl0
  refine Zr ?_;refine Zbt ?_
  refine zao (fun _:Nat => [(8, .is (zam bb)), (16, .is (.int .i64 0)), (17, .is (.int .i64 0)), (900, .own (zaj bb [.pointer none, .slice none 0 0] zke))]) (fun _ => True) (fun i => i) 0 trivial ⟨rfl, rfl, rfl, rfl, trivial⟩ ?_
  rintro _ _
  refine Zau ?_;refine Zao ?_;refine ZD ?_;refine qe (yc L 900 (zai bb [.pointer none, .slice none 0 0] zke) (.string .empty) (r:=zai bb [.pointer none, .slice none 0 0] zke) rfl rfl rfl rfl rfl (fun u H C hH _ hr hC => zkn hH hr hC)) ?_;refine Z5 ?_
  refine qt L (rs:=[.tmp 6, .tmp 7]) rfl (fun _ _ h => h) Since.refl fun u H hH hle => ?_
  rfl
 ·refine zg5 901 zje 1 ?_
  refine ZeV ?_
  refine zjc (X:=Value × Value) 900 (r:=fun x => (GBv bb [] x).res) (φ:=fun x _ => z4v bb x) (zfc bb) (.pointer none, .slice none 0 0) ⟨.inl rfl, _, _, _, rfl⟩ rfl ?_
  refine Zr ?_;refine Zbt ?_
  refine zao (fun i:Nat => [(1, .is (.func (.func 56) #[] #[])), (2, .is (.func (.func 57) #[] #[])), (8, .is (zam bb)), (15, .sat (KS tyC l fu)), (16, .is (.int .i64 l.length)), (17, .is (.int .i64 i)), (900, .own (GBd bb (zhb (l.take i))).res)]) (fun i => i ≤ l.length ∧ zzv (l.drop i) = zzv l) (fun i => l.length - i) 0 ⟨Nat.zero_le _, rfl⟩ ⟨rfl, rfl, rfl, rfl, rfl, rfl, rfl, trivial⟩ ?_
  rintro i ⟨hi, hte⟩
  dsimp only at hi hte ⊢
  by_cases hlt:i < l.length
  ·obtain ⟨t, ht⟩:=zaw hlt
   have hcr:=zyo ht
   have hzt:=hz t (List.mem_of_getElem? ht)
   have hst:=hs t (List.mem_of_getElem? ht)
   have hsl:=zmu t
   rw [zwa ht] at hte
   have hsn:=zl4 ht
   have hbl:=zha hs i
   have hwk:IntKind.i64.wrap ((i:Int) + 1) = ((i + 1:Nat):Int):=zad (by omega) (by omega)
   by_cases he:tE t.1 = 0
   ·rw [if_neg (fun h => h he)] at hte
    have hs1:(z4y t).size + (tT t.1).size ≤ 9223372036854775807:=by have h1:=znl t; omega
    have hs2:(z4y t ++ tT t.1).size + (⟨#[10]⟩:ByteArray).size ≤ 9223372036854775807:=by rw [ByteArray.size_append]; have h1:=znl t; have h2:(⟨#[10]⟩:ByteArray).size = 1:=rfl; omega
    refine Zau ?_;refine Za2 ?_;refine ZN ?_;refine Zaq ?_;refine Zee ?_;refine Zby ?_;refine ZU ?_;refine Zfv ?_;refine z7 (q0 L rfl rfl (zn rfl) rfl rfl rfl (fun u H hH _ _ => tup_ret hH)) rfl ?_;refine z7 (q0 L rfl rfl (zn rfl) rfl rfl rfl (fun u H hH _ _ => zbs hzt hH)) rfl ?_;refine Zd ?_;refine ZaA ?_;refine Zae ?_;refine Zeh ?_
    refine qh (id:=10) [(37, [900])] mixed (by kernel_rfl) ?_;refine Zi ?_;refine zd (q8 L (vs:=[_, _, _, _, _, _, _]) (qg rfl) rfl rfl rfl rfl ⟨_, rfl⟩) rfl ?_;refine zd (q0 L rfl rfl (zn rfl) rfl rfl rfl (fun u H hH _ _ => z3e hH)) rfl ?_;refine Zi ?_;refine zd (q8 L (vs:=[_, _, _, _, _, _, _]) (qg rfl) rfl rfl rfl rfl ⟨_, rfl⟩) rfl ?_;refine zd (q0 L rfl rfl (zn rfl) rfl rfl rfl (fun u H hH _ _ => tup_ret hH)) rfl ?_;refine zd (q0 L rfl rfl (zn rfl) rfl rfl rfl (fun u H hH _ _ => zpc hzt hH)) rfl ?_;refine Zej ?_;refine Zej ?_;refine zav (yc L 900 (GBd bb (zhb (l.take (i + 1)))) (.tuple #[.int .i64 (zji t).size, .nilIface]) (r:=GBd bb (zhb (l.take i))) rfl rfl rfl rfl rfl (fun u H C hH _ hr hC => by rw [hsn]; exact write_ret (str:=zji t) (by omega) hH hr hC)) rfl rfl ?_;refine qp ?_;refine Zai ?_;refine ZM ?_;refine Zak ?_;refine ZdO ?_
    exact yl (x:=i) (i + 1) ⟨hlt, hte⟩ (by omega) ⟨rfl, rfl, rfl, rfl, rfl, rfl, rfl, trivial⟩
   ·rw [if_pos he] at hte
    refine Zau ?_;refine Za2 ?_;refine ZN ?_;refine Zaq ?_;refine Zee ?_;refine Zby ?_;refine ZU ?_;refine Zfv ?_;refine z7 (q0 L rfl rfl (zn rfl) rfl rfl rfl (fun u H hH _ _ => tup_ret hH)) rfl ?_;refine z7 (q0 L rfl rfl (zn rfl) rfl rfl rfl (fun u H hH _ _ => zbs hzt hH)) rfl ?_;refine Zd ?_;refine ZaA ?_;refine Zz ?_;refine Zb8 ?_;refine Z5 ?_
    refine qt L (rs:=[.tmp 6, .tmp 7]) rfl (fun _ _ h => h) Since.refl fun u H hH hle => ?_
    rw [← hte, if_pos he]
    rfl
  ·obtain rfl:i = l.length:=by omega
   rw [List.drop_length] at hte
   rw [List.take_length]
   have hbl:=zha hs l.length
   rw [List.take_length] at hbl
   refine Zau ?_;refine Zao ?_;refine ZD ?_;refine qe (yc L 900 GNo (.string (zds (zhb l))) (r:=GBd bb (zhb l)) rfl rfl rfl rfl rfl (fun u H C hH _ hr hC => zma (zz0 l) (zzz hl0) (by omega) hH hr hC)) ?_;refine Z5 ?_
   refine qt L (rs:=[.tmp 6, .tmp 7]) rfl (fun _ _ h => h) Since.refl fun u H hH hle => ?_
   rw [← hte]
   rfl
def zwc (l:List CH):ByteArray × Int:=if 4096 < l.length then (⟨#[]⟩, 3) else (if zzv l ≠ 0 then ⟨#[]⟩ else zds (zhb l), zzv l)
theorem zpe {l:List CH} {fu:Bool} {f g:Value} (hln:4096 < l.length) {v:Value} {w:World} {B:Heap} (hB:B.Le (hp w)) (hv:KS tyC l fu v B) :
  Ret Tryz.prog 55 [v, f, g] w B (fun r _ => r = .tuple #[.string ⟨#[]⟩, .int .i64 3]):=by
 refine qu Tryz.func55 rfl Tryz.ntmps55 (Nat.le_of_ble_eq_true rfl) hB ?_
 refine za4 0 (KS tyC l fu) rfl SlV.mono hv ?_
 refine Zar ?_;refine Zam ?_;refine ZbM ?_;refine ZaK ?_;refine Z5 ?_
 refine qt L (rs:=[.tmp 6, .tmp 7]) rfl (fun _ _ h => h) Since.refl fun u H hH hle => ?_
 rfl
theorem zuh {l:List CH} {fu:Bool} (hz:∀ t ∈ l, TZ t.1) (hs:∀ t ∈ l, (zji t).size ≤ 1000) {v:Value} {w:World} {B:Heap} (hB:B.Le (hp w)) (hv:KS tyC l fu v B) :
  Ret Tryz.prog 13 [v] w B (fun r _ => r = .tuple #[.string (zwc l).1, .int .i64 (zwc l).2]):=by
 unfold zwc
 refine qu Tryz.func13 rfl Tryz.ntmps13 (Nat.le_of_ble_eq_true rfl) hB ?_
 refine za4 0 (KS tyC l fu) rfl SlV.mono hv ?_
 by_cases hln:4096 < l.length
 ·rw [if_pos hln]
  refine Zar ?_;refine Zay ?_;refine Zf ?_;refine z7 (q0 L rfl rfl (zn rfl) rfl rfl rfl (fun u H hH hle _ v1 h1 => zpe hln hH h1)) rfl ?_;refine ZdT ?_;refine Z5 ?_
  refine qt L (rs:=[.tmp 2, .tmp 3]) rfl (fun _ _ h => h) Since.refl fun u H hH hle => ?_
  rfl
 ·rw [if_neg hln]
  refine Zar ?_;refine Zay ?_;refine Zf ?_;refine z7 (q0 L rfl rfl (zn rfl) rfl rfl rfl (fun u H hH hle _ v1 h1 => zwe (by omega) hz hs hH h1)) rfl ?_;refine ZdT ?_;refine Z5 ?_
  refine qt L (rs:=[.tmp 2, .tmp 3]) rfl (fun _ _ h => h) Since.refl fun u H hH hle => ?_
  rfl
end Go.V.L11
set_option maxRecDepth 20000
namespace Go.V
open Go.Proofs Go.RowKit
section
variable {α β:Type} [DecidableEq α] [DecidableEq β] {k:α → β} {c:β → β → Int}
def Srt (k:α → β) (c:β → β → Int) (l:List α):Prop:=l.Pairwise fun x y => ¬ c (k y) (k x) < 0
end
end Go.V
set_option maxRecDepth 20000
namespace Go.V.L8
open Go.Proofs Go.RowKit Go.V Go.V.L2 Go.V.L3 Go.V.L6
abbrev zC:CH:=((n3, n3), false)
end Go.V.L8
set_option maxRecDepth 20000
namespace Go.V.L11
open Go.Proofs Go.RowKit Go.V Go.V.L2 Go.V.L4 Go.V.L8
def prB (c:UInt8) (b:ByteArray):CH × Int:=if c = 43 ∨ c = 45 then (if (ptA b).2 ≠ 0 then (zC, (ptA b).2) else (((ptA b).1, decide (c = 45)), 0)) else (zC, 5)
def prC (s:ByteArray):CH × Int:=match s.data.toList with
 | [] => (zC, 5)
 | c :: l => prB c ⟨l.toArray⟩
theorem z0i (c:UInt8) (b:ByteArray):prC (⟨#[c]⟩ ++ b) = prB c b:=by
 unfold prC
 have e:(⟨#[c]⟩ ++ b:ByteArray).data.toList = c :: b.data.toList:=by rw [zaz]; rfl
 rw [e]
theorem zz4 (s:ByteArray):s = ⟨#[]⟩ ∨ ∃ c b, s = ⟨#[c]⟩ ++ b:=by
 cases h:s.data.toList with
 | nil => exact .inl (zb0 h)
 | cons c l => exact .inr ⟨c, ⟨l.toArray⟩, zb0 (by rw [zaz, h]; rfl)⟩
attribute [local irreducible] V N X VO Par StepOK Has Ret RetL RetO RetT zbd RetX RetY Src
set_option maxHeartbeats 1000000 in
theorem z3l {s:ByteArray} (hs:s.size ≤ 1000000) {w:World} {B:Heap} (hB:B.Le (hp w)) (hM:GlobM B) :
  Ret Tryz.prog 65 [.string s] w B (fun v _ => v = .tuple #[cvC (prC s).1, .int .i64 (prC s).2]):=by
 rcases zz4 s with rfl | ⟨c, b, rfl⟩
 ·refine qu Tryz.func65 rfl Tryz.ntmps65 (Nat.le_of_ble_eq_true rfl) hB ?_
  refine ZcR ?_;refine z7 (zk4 rfl rfl rfl rfl (decide_eq_true rfl)) rfl ?_;refine Zbs ?_;refine Ze ?_;refine ZaK ?_;refine Zev ?_;refine ZaD ?_
  refine qt L (rs:=[.cell 2 42, .tmp 3]) rfl (fun _ _ h => h) Since.refl fun u H hH hle => ?_
  first | exact rfl | exact ⟨_, qg rfl, rfl, rfl⟩
 ·rw [z0i]
  have hsz:(⟨#[c]⟩ ++ b:ByteArray).size = 1 + b.size:=by rw [ByteArray.size_append]; rfl
  have hne:(⟨#[c]⟩ ++ b:ByteArray) ≠ ⟨#[]⟩:=fun e => by rw [e] at hsz; have:(⟨#[]⟩:ByteArray).size = 0:=rfl; omega
  have hc:(⟨#[c]⟩ ++ b:ByteArray)[0]? = some c:=by
   show (⟨#[c]⟩ ++ b:ByteArray).data[0]? = some c
   rw [← Array.getElem?_toList, zaz]; rfl
  have x2:(⟨#[c]⟩ ++ b:ByteArray).extract 1 (⟨#[c]⟩ ++ b:ByteArray).size = b:=by
   have:=zfn ⟨#[c]⟩ b ⟨#[]⟩ 1 (⟨#[c]⟩ ++ b:ByteArray).size rfl (by rw [hsz]; rfl)
   rw [show (⟨#[c]⟩ ++ b ++ ⟨#[]⟩:ByteArray) = ⟨#[c]⟩ ++ b from zb0 (by simp [zaz])] at this
   exact this
  generalize (⟨#[c]⟩ ++ b:ByteArray) = s at hs hsz hne hc x2
  have hb:b.size ≤ 1000000:=by omega
  obtain ⟨t, e, ht⟩:∃ t e, ptA b = (t, e):=⟨_, _, rfl⟩
  have h255:=z2x c
  by_cases h43:c = 43
  ·subst h43
   by_cases h0:e = 0
   ·subst h0
    refine qu Tryz.func65 rfl Tryz.ntmps65 (Nat.le_of_ble_eq_true rfl) hB ?_
    refine ZcR ?_;refine Ze1 ?_;refine Zaw ?_;refine ZeM ?_;refine Zap ?_;refine ZY ?_;refine Zs ?_;refine z7 (za2 L (kh:=.i64) (ph:=0) 1 _ rfl rfl rfl rfl ⟨rfl, rfl⟩ rfl (by omega) (by omega) x2) rfl ?_;refine z7 (q0 L rfl rfl (zn rfl) rfl rfl rfl (fun u H hH hle _ => ze1 ht hb hH (hM.mono hle))) rfl ?_;refine ZbH ?_;refine Zw ?_;refine ZG ?_;refine Zde ?_;refine Zca ?_;refine Zi ?_;refine ZfT ?_;refine zd (ye rfl rfl rfl rfl rfl) rfl ?_;refine ZfL ?_;refine ZcI ?_;refine Zl ?_
    refine qt L (rs:=[.cell 2 42, .tmp 3]) rfl (fun _ _ h => h) Since.refl fun u H hH hle => ?_
    unfold prB
    rw [if_pos (.inl rfl), ht, if_neg (by simp)]
    first | exact rfl | exact ⟨_, qg rfl, rfl, rfl⟩
   ·refine qu Tryz.func65 rfl Tryz.ntmps65 (Nat.le_of_ble_eq_true rfl) hB ?_
    refine ZcR ?_;refine Ze1 ?_;refine Zaw ?_;refine ZeM ?_;refine Zap ?_;refine ZY ?_;refine Zs ?_;refine z7 (za2 L (kh:=.i64) (ph:=0) 1 _ rfl rfl rfl rfl ⟨rfl, rfl⟩ rfl (by omega) (by omega) x2) rfl ?_;refine z7 (q0 L rfl rfl (zn rfl) rfl rfl rfl (fun u H hH hle _ => ze1 ht hb hH (hM.mono hle))) rfl ?_;refine ZbH ?_;refine Zw ?_;refine Zz ?_;refine Zn ?_;refine Zev ?_;refine ZbG ?_
    refine qt L (rs:=[.cell 2 42, .tmp 3]) rfl (fun _ _ h => h) Since.refl fun u H hH hle => ?_
    unfold prB
    rw [if_pos (.inl rfl), ht, if_pos (by exact h0)]
    first | exact rfl | exact ⟨_, qg rfl, rfl, rfl⟩
  ·have hx43:(c.toNat:Int) ≠ 43:=fun e => h43 (UInt8.toNat_inj.1 (by show c.toNat = 43; omega))
   by_cases h45:c = 45
   ·subst h45
    by_cases h0:e = 0
    ·subst h0
     refine qu Tryz.func65 rfl Tryz.ntmps65 (Nat.le_of_ble_eq_true rfl) hB ?_
     refine ZcR ?_;refine Ze1 ?_;refine Zaw ?_;refine Zbe ?_;refine Zaw ?_;refine ZeM ?_;refine Ze ?_;refine ZY ?_;refine Zs ?_;refine z7 (za2 L (kh:=.i64) (ph:=0) 1 _ rfl rfl rfl rfl ⟨rfl, rfl⟩ rfl (by omega) (by omega) x2) rfl ?_;refine z7 (q0 L rfl rfl (zn rfl) rfl rfl rfl (fun u H hH hle _ => ze1 ht hb hH (hM.mono hle))) rfl ?_;refine ZbH ?_;refine Zw ?_;refine ZG ?_;refine Zde ?_;refine Zca ?_;refine Zi ?_;refine ZfT ?_;refine zd (ye rfl rfl rfl rfl rfl) rfl ?_;refine ZfL ?_;refine ZcI ?_;refine Zl ?_
     refine qt L (rs:=[.cell 2 42, .tmp 3]) rfl (fun _ _ h => h) Since.refl fun u H hH hle => ?_
     unfold prB
     rw [if_pos (.inr rfl), ht, if_neg (by simp)]
     first | exact rfl | exact ⟨_, qg rfl, rfl, rfl⟩
    ·refine qu Tryz.func65 rfl Tryz.ntmps65 (Nat.le_of_ble_eq_true rfl) hB ?_
     refine ZcR ?_;refine Ze1 ?_;refine Zaw ?_;refine Zbe ?_;refine Zaw ?_;refine ZeM ?_;refine Ze ?_;refine ZY ?_;refine Zs ?_;refine z7 (za2 L (kh:=.i64) (ph:=0) 1 _ rfl rfl rfl rfl ⟨rfl, rfl⟩ rfl (by omega) (by omega) x2) rfl ?_;refine z7 (q0 L rfl rfl (zn rfl) rfl rfl rfl (fun u H hH hle _ => ze1 ht hb hH (hM.mono hle))) rfl ?_;refine ZbH ?_;refine Zw ?_;refine Zz ?_;refine Zn ?_;refine Zev ?_;refine ZbG ?_
     refine qt L (rs:=[.cell 2 42, .tmp 3]) rfl (fun _ _ h => h) Since.refl fun u H hH hle => ?_
     unfold prB
     rw [if_pos (.inr rfl), ht, if_pos (by exact h0)]
     first | exact rfl | exact ⟨_, qg rfl, rfl, rfl⟩
   ·have hx45:(c.toNat:Int) ≠ 45:=fun e => h45 (UInt8.toNat_inj.1 (by show c.toNat = 45; omega))
    refine qu Tryz.func65 rfl Tryz.ntmps65 (Nat.le_of_ble_eq_true rfl) hB ?_
    refine ZcR ?_;refine Ze1 ?_;refine Zaw ?_;refine Zbe ?_;refine Zaw ?_;refine Zbe ?_;refine Ze ?_;refine Ze ?_;refine ZaK ?_;refine Zev ?_;refine ZaD ?_
    refine qt L (rs:=[.cell 2 42, .tmp 3]) rfl (fun _ _ h => h) Since.refl fun u H hH hle => ?_
    unfold prB
    rw [if_neg (fun h => h.elim h43 h45)]
    first | exact rfl | exact ⟨_, qg rfl, rfl, rfl⟩
end Go.V.L11
set_option maxRecDepth 20000
namespace Go.V
open Go.Proofs Go.RowKit
section
variable {α β:Type} [DecidableEq α] [DecidableEq β] {k:α → β} {c:β → β → Int}
def z81 (k:α → β) (c:β → β → Int) (x:α):List α → List α
 | [] => [x]
 | y :: l => if c (k x) (k y) < 0 then x :: y :: l else y :: z81 k c x l
def z9e (k:α → β) (c:β → β → Int) (l:List α):List α:=l.foldl (fun S x => z81 k c x S) []
omit [DecidableEq α] [DecidableEq β] in
theorem z7f:z9e k c [] = []:=rfl
end
end Go.V
set_option maxRecDepth 20000
namespace Go.V.L8
open Go.Proofs Go.RowKit Go.V Go.V.L2 Go.V.L3 Go.V.L6
theorem z6q (l:List CH):(l.flatMap ccs).length = l.length * 7:=zlk zy9 l
theorem z1a (l:List CH):(l.flatMap ccs).all zdv = true:=by
 induction l with
 | nil => rfl
 | cons x l ih => rw [List.flatMap_cons, List.all_append, ih]; rfl
section
variable {α:Type} {A M D:List α} {x y:α}
end
attribute [local irreducible] V N X VO Par StepOK Has Ret RetL RetO RetT Src
end Go.V.L8
set_option maxRecDepth 20000
namespace Go.V.L8
open Go.Proofs Go.RowKit Go.V Go.V.L2 Go.V.L3 Go.V.L6
attribute [local irreducible] V N X VO Par StepOK Has Ret RetL RetO RetT zbd Src
abbrev ORD:Nat:=228
abbrev z7g:Value:=.func (.func ORD) #[] #[]
end Go.V.L8
set_option maxRecDepth 20000
namespace Go.V
open Go.Proofs Go.RowKit
section
variable {α β:Type} [DecidableEq α] [DecidableEq β] {k:α → β} {c:β → β → Int}
end
end Go.V
set_option maxRecDepth 20000
namespace Go.V.L8
open Go.Proofs Go.RowKit Go.V Go.V.L2 Go.V.L3 Go.V.L6
attribute [local irreducible] V N X VO Par StepOK Has Ret RetL RetO RetT zbd Src
end Go.V.L8
set_option maxRecDepth 20000
namespace Go.V.L8
open Go.Proofs Go.RowKit Go.V Go.V.L2 Go.V.L3 Go.V.L6
attribute [local irreducible] V N X VO Par StepOK Has Ret RetL RetO RetT zbd Src
end Go.V.L8
set_option maxRecDepth 20000
namespace Go.V.L8
open Go.Proofs Go.RowKit Go.V Go.V.L2 Go.V.L3 Go.V.L6
attribute [local irreducible] V N X VO Par StepOK Has Ret RetL RetO RetT zbd Src
end Go.V.L8
set_option maxRecDepth 20000
namespace Go.V.L8
open Go.Proofs Go.RowKit Go.V Go.V.L2 Go.V.L3 Go.V.L6
theorem zyx {s:List U} {l:List CH} (h0:cE 32 l = 0) {i:Nat} {c:CH} (h:∀ (j:Nat) x, j < i → l[j]? = some x → zjj s x = true) (hc:l[i]? = some c) (hh:zjj s c = false):zhw s l = (i, 13):=by
 unfold zhw; rw [if_pos h0]; exact zvi h hc hh
theorem zvh {s:List U} {l:List CH} (h0:cE 32 l = 0) (h:∀ (j:Nat) x, l[j]? = some x → zjj s x = true):zhw s l = (l.length, 0):=by
 unfold zhw; rw [if_pos h0]; exact zvj fun x hx => let ⟨j, hj⟩:=List.getElem?_of_mem hx; h j x hj
attribute [local irreducible] V N X VO Par StepOK Has Ret RetL RetO RetT Src
theorem zoq {l:List CH} {fu:Bool} (hz:∀ c ∈ l, TM c.1) (hl:l.length ≤ 9223372036854775807) {e:Int} (he:cE 32 l = e) {v:Value} {w:World} {B:Heap} (hB:B.Le (hp w)) (hv:KS tyC l fu v B) :
  Ret Tryz.prog 192 [v] w B (fun r _ => r = .int .i64 e):=by
 obtain ⟨p, m, c, rfl⟩:=zpo hv
 refine qu Tryz.func192 rfl Tryz.ntmps192 (Nat.le_of_ble_eq_true rfl) hB ?_
 refine ZA ?_;refine Zd ?_
 refine zjk 1 rfl fun q H1 hs1 ⟨b, hpb, hb1⟩ => ?_
 subst hpb
 refine Zx ?_;refine Zea ?_;refine zba 3 (KS tyC l fu) rfl SlV.mono (hv.le hs1.le) ?_;refine Zdc ?_;refine ZaQ ?_;refine z7 (q0 L rfl rfl (zn rfl) rfl rfl rfl (fun u H hH hle _ => zms (caps:=[.pointer (some ⟨b, 0, none⟩)]) hz hl rfl he hH (fun i c hc u' H' hH' hle' => z4h hc hH' (hle' _ _ (hle _ _ hb1)) ((hv.le hs1.le).le (Heap.Le.trans hle hle'))))) rfl ?_;refine Zb ?_
 refine qt L (rs:=[.tmp 2]) rfl (fun _ _ h => h) hs1 fun u H hH hle => ?_
 rfl
theorem zqp {s:List U} {c:CH} {b:Bool} (hb:zjj s c = b) {v:Value} {w:World} {B:Heap} (hB:B.Le (hp w)) (hv:SetV s v B):Ret Tryz.prog 254 [v, chv c.1 c.2] w B (fun r _ => r = .bool b):=by
 subst hb
 obtain ⟨x, d⟩:=c
 obtain ⟨f1, p1, f2, q1, rfl, hpl⟩:=hv.shape
 obtain ⟨h, hh⟩:∃ h, decide (x ∈ s) = h:=⟨_, rfl⟩
 unfold zjj
 dsimp only
 rw [hh]
 refine qu Tryz.func254 rfl Tryz.ntmps254 (Nat.le_of_ble_eq_true rfl) hB ?_
 refine Zaj ?_;refine Zc3 ?_;refine ZcS ?_;refine Zdd ?_;refine Zbn ?_;refine zd (q0 L rfl rfl (zn rfl) rfl rfl rfl (fun u H hH hle _ => zdo hh hH (hv.le hle))) rfl ?_;refine ZfH ?_;refine Zl ?_
 refine qt L (rs:=[.tmp 4]) rfl (fun _ _ h => h) Since.refl fun u H hH hle => ?_
 cases h <;> cases d <;> rfl
set_option maxHeartbeats 1000000 in
theorem first_ret {s:List U} {l:List CH} {fu:Bool} (hz:∀ c ∈ l, TM c.1) (hl:l.length ≤ 9223372036854775807) {r:Nat} {e:Int} (hr:zhw s l = (r, e)) {sv v:Value} {w:World} {B:Heap} (hB:B.Le (hp w)) (hs:SetV s sv B) (hv:KS tyM l fu v B) :
  Ret Tryz.prog 193 [sv, v] w B (fun x _ => x = .tuple #[.int .i64 r, .int .i64 e]):=by
 obtain ⟨f1, p1, f2, q1, rfl, hpl⟩:=hs.shape
 refine qu Tryz.func193 rfl Tryz.ntmps193 (Nat.le_of_ble_eq_true rfl) hB ?_
 refine za4 1 (KS tyM l fu) rfl SlV.mono hv ?_
 by_cases h0:cE 32 l = 0
 ·refine ZdH ?_;refine Zf ?_;refine z7 (q0 L rfl rfl (zn rfl) rfl rfl rfl (fun u H hH _ _ v1 h1 => zgm hz hl h0 hH h1)) rfl ?_;refine ZT ?_;refine Zad ?_;refine Zr ?_;refine Zbt ?_
  refine zao (fun i:Nat => [(1, .sat (KS tyM l fu)), (2, .sat (At [f1, .pointer p1, f2, .pointer q1] zdh 0)), (14, .sat (KS tyM l fu)), (15, .is (.int .i64 l.length)), (16, .is (.int .i64 i))]) (fun i => i ≤ l.length ∧ ∀ (j:Nat) x, j < i → l[j]? = some x → zjj s x = true) (fun i => l.length - i) 0 ⟨Nat.zero_le _, fun j c h => absurd h (Nat.not_lt_zero _)⟩ ⟨rfl, rfl, rfl, rfl, rfl, trivial⟩ ?_
  rintro i ⟨hi, hok⟩
  by_cases hlt:i < l.length
  ·obtain ⟨c, hc0⟩:=zaw hlt
   have hc:=zyo hc0
   cases hh:zjj s c
   ·rw [zyx h0 hok hc0 hh] at hr
    cases hr
    refine Zau ?_;refine Za2 ?_;refine ZL ?_;refine Zaq ?_;refine Zee ?_;refine ZE ?_;refine Zq ?_;refine ZaB ?_;refine Zj ?_;refine Z8 ?_;refine Zbp ?_;refine Zfv ?_;refine z7 (q0 L rfl rfl (zn rfl) rfl rfl rfl (fun u H hH hle _ => zqp hh hH (hs.le hle))) rfl ?_;refine Zp ?_;refine Zt ?_;refine ZaA ?_;refine Z5 ?_
    refine qt L (rs:=[.tmp 4, .tmp 5]) rfl (fun _ _ h => h) Since.refl fun u H hH hle => ?_
    rfl
   ·refine Zau ?_;refine Za2 ?_;refine ZL ?_;refine Zaq ?_;refine Zee ?_;refine ZE ?_;refine Zq ?_;refine ZaB ?_;refine Zj ?_;refine Z8 ?_;refine Zbp ?_;refine Zfv ?_;refine z7 (q0 L rfl rfl (zn rfl) rfl rfl rfl (fun u H hH hle _ => zqp hh hH (hs.le hle))) rfl ?_;refine Zp ?_;refine Za3 ?_;refine Z3 ?_;refine Zbd ?_
    exact yl (x:=i) (i + 1) ⟨hlt, fun j c' hj hc' => by
     rcases Nat.lt_or_ge j i with h | h
     ·exact hok j c' h hc'
     ·have:j = i:=by omega
      subst this; rw [hc0] at hc'; cases hc'; exact hh⟩ (by omega) ⟨rfl, rfl, rfl, rfl, rfl, trivial⟩
  ·rw [zvh h0 (fun j x hj => hok j x (by have:=get_lt hj; omega) hj)] at hr
   cases hr
   refine Zau ?_;refine Zao ?_;refine ZX ?_;refine Zv ?_;refine Z5 ?_
   refine qt L (rs:=[.tmp 4, .tmp 5]) rfl (fun _ _ h => h) Since.refl fun u H hH hle => ?_
   rfl
 ·have:zhw s l = (0, cE 32 l):=if_neg h0
  rw [this] at hr
  cases hr
  refine ZdH ?_;refine Zf ?_;refine z7 (q0 L rfl rfl (zn rfl) rfl rfl rfl (fun u H hH _ _ v1 h1 => zgm hz hl rfl hH h1)) rfl ?_;refine ZT ?_;refine Zz ?_;refine Zs ?_;refine Z5 ?_
  refine qt L (rs:=[.tmp 4, .tmp 5]) rfl (fun _ _ h => h) Since.refl fun u H hH hle => ?_
  rfl
end Go.V.L8
set_option maxRecDepth 20000
namespace Go.V.L8
open Go.Proofs Go.RowKit Go.V Go.V.L2 Go.V.L3 Go.V.L6
attribute [local irreducible] V N X VO Par StepOK Has Ret RetL RetO RetT Src
end Go.V.L8
set_option maxRecDepth 20000
namespace Go.V.L8
open Go.Proofs Go.RowKit Go.V Go.V.L2 Go.V.L3 Go.V.L6
theorem _root_.Go.V.ZeB {A B:Prop} (h:B) (t:Wr B → A:=by intro h; refine z7 (q8 L (vs:=[_, _, _, _, _, _, _]) (qw rfl (List.Mem.head _)) rfl rfl rfl rfl ⟨_, rfl⟩) rfl ?_;exact h.h):A:=t ⟨h⟩
theorem _root_.Go.V.Zfw {A B:Prop} (h:B) (t:Wr B → A:=by intro h; refine zd (q8 L (vs:=[_, _, _, _, _, _]) (qw rfl (List.Mem.head _)) rfl rfl rfl rfl ⟨_, rfl⟩) rfl ?_;exact h.h):A:=t ⟨h⟩
theorem _root_.Go.V.Zgb {A B:Prop} (h:B) (t:Wr B → A:=by intro h; refine qe (zb5 L rfl rfl rfl (zq1 rfl) rfl z8e rfl rfl (by omega) (by omega)) ?_;exact h.h):A:=t ⟨h⟩
theorem _root_.Go.V.Zfx {A B:Prop} (h:B) (t:Wr B → A:=by intro h; refine zd (z3w rfl rfl rfl rfl bt4 rfl) rfl ?_;exact h.h):A:=t ⟨h⟩
theorem z6z {n:Nat} {l:List CH} (h:cE n l = 0):l.length ≤ n ∧ ∀ c ∈ l, tE c.1 = 0:=by
 unfold cE at h
 split at h
 ·exact absurd h (by decide)
 ·split at h
  ·exact absurd h (by decide)
  ·rename_i h1 h2
   refine ⟨by omega, fun c hc => ?_⟩
   by_cases h0:tE c.1 = 0
   ·exact h0
   ·exact absurd (List.any_eq_true.2 ⟨c, hc, by simp [h0]⟩) h2
theorem zl2 {s:ByteArray} (h:chk s = 0):s.size ≤ 1099511627776:=by
 unfold chk at h
 split at h
 ·rename_i h1; omega
 ·exact absurd h (by decide)
theorem zzt {t:U} (h:tE t = 0):TZ t:=by
 unfold tE at h
 split at h
 ·rename_i h1
  obtain ⟨c1, c2, c3⟩:=zvp h1
  obtain ⟨d1, d2, d3⟩:=zih h
  refine ⟨⟨zl2 c1, zl2 c2, zl2 c3⟩, zl2 d1, zl2 d2, ?_⟩
  rcases d3 with d3 | d3
  ·rw [d3]; exact Nat.zero_le _
  ·exact zl2 d3
 ·rename_i h1; exact absurd h h1
def z62 (t:List U) (made:List CH) (e:Int) (r:Value) (H:Heap):Prop:=∃ tv mv, r = .tuple #[tv, mv, .int .i64 e] ∧ SetV t tv H ∧ KS tyC made true mv H
attribute [local irreducible] V N X VO Par StepOK Has Ret RetL RetO RetT Src
theorem zy6 {l:List CH} {fu:Bool} {v:Value} {w:World} {B:Heap} (hB:B.Le (hp w)) (hv:KS tyC l fu v B):Ret Tryz.prog 194 [v] w B (KS tyC l true):=by
 refine qu Tryz.func194 rfl Tryz.ntmps194 (Nat.le_of_ble_eq_true rfl) hB ?_
 refine za4 0 (KS tyC l fu) rfl SlV.mono hv ?_
 refine Zac ?_;refine Zf ?_;refine Zv ?_;refine Zv ?_;refine Ze3 ?_;refine ZbE ?_
 refine qt L (rs:=[.tmp 2]) rfl (fun _ _ h => h) Since.refl fun u H hH hle => ?_
 exact fun v hv => hv
set_option maxHeartbeats 4000000 in
set_option maxRecDepth 10000 in
theorem write_ret {s t:List U} {l cs made:List CH} {fl fc:Bool} {e:Int} (zl:∀ c ∈ l, TM c.1) (zc:∀ c ∈ cs, TM c.1) (ll:l.length ≤ 9223372036854775807) (lc:cs.length ≤ 9223372036854775807) (hsl:s.length ≤ 4096) (hr:z1x s l cs = (t, made, e)) {sv lv cv:Value} {w:World} {B:Heap} (hB:B.Le (hp w))
  (hs:SetV s sv B) (hl:KS tyM l fl lv B) (hc:KS tyC cs fc cv B):Ret Tryz.prog 121 [sv, lv, cv] w B (z62 t made e):=by
 obtain ⟨f1, p1, f2, q1, rfl, hpl⟩:=hs.shape
 refine qu Tryz.func121 rfl Tryz.ntmps121 (Nat.le_of_ble_eq_true rfl) hB ?_
 refine za4 1 (KS tyM l fl) rfl SlV.mono hl ?_
 refine za4 2 (KS tyC cs fc) rfl SlV.mono hc ?_
 unfold z1x at hr
 by_cases h1:cE 32 l = 0
 ·rw [if_pos h1] at hr
  by_cases h2:cE 32 cs = 0
  ·rw [if_pos h2] at hr
   obtain ⟨r, e1, hf⟩:∃ r e1, zhw s l = (r, e1):=⟨_, _, rfl⟩
   rw [hf] at hr
   dsimp only at hr
   by_cases h3:e1 = 0
   ·subst h3
    rw [if_pos rfl] at hr
    obtain ⟨l32, hval⟩:=z6z h2
    refine ZZ ?_;refine ZE ?_;refine Zfr ?_;refine Zf ?_;refine z7 (q0 L rfl rfl (zn rfl) rfl rfl rfl (fun u H hH _ _ v1 g1 => zgm zl ll h1 hH g1)) rfl ?_;refine ZT ?_;refine Zad ?_;refine Zr ?_;refine Zf ?_;refine z7 (q0 L rfl rfl (zn rfl) rfl rfl rfl (fun u H hH _ _ v1 g1 => zoq zc lc h2 hH g1)) rfl ?_;refine Zei ?_;refine Zad ?_;refine Z8 ?_;refine Zah ?_;refine Zf ?_;refine z7 (q0 L rfl rfl (zn rfl) rfl rfl rfl (fun u H hH hle _ v1 g1 => first_ret zl ll hf hH (hs.le hle) g1)) rfl ?_;refine ZaY ?_;refine Zd ?_;refine ZaA ?_;refine Zad ?_;refine ZX ?_;refine Zbt ?_
    refine zjc (X:=SXp) 3 (r:=fun x => Cell (scs x.1) zdh) (φ:=zs3 s) (zb3 s) ⟨(f1, p1, f2, q1), hpl⟩ hs rfl ?_
    refine zet 7 tyC 7 rfl ?_
    refine zao (fun y:Nat × List U × List CH => [(3, .own (ExR (fun x:SXp => Cell (scs x.1) zdh) (zs3 y.2.1) (zb3 y.2.1))), (6, .own (Cell [.nilFunc, .pointer none, .nilFunc, .pointer none] zdh)), (7, .own (SlR tyC 7 y.2.2.length (y.2.2.flatMap ccs))), (40, .sat (KS tyC cs fc)), (41, .is (.int .i64 cs.length)), (42, .is (.int .i64 y.1))])
     (fun y => y.1 ≤ cs.length ∧ zo1 y.2.1 y.2.2 (cs.drop y.1) = (t, made, e) ∧ y.2.1.length ≤ 4096 ∧ y.2.2.length ≤ y.1) (fun y => cs.length - y.1) (0, s, []) ⟨Nat.zero_le _, hr, hsl, Nat.le_refl _⟩ ⟨rfl, rfl, rfl, rfl, rfl, rfl, trivial⟩ ?_
    clear hr hs hsl
    rintro ⟨k, s, md⟩ ⟨hk, he, hsl, hmd⟩
    dsimp only at hk he hsl hmd ⊢
    refine zgu 3 rfl fun ⟨⟨f1, p1, f2, q1⟩, hpl⟩ H3 hs3 hT => ?_
    have hT:SetV s (.agg #[f1, .pointer p1, f2, .pointer q1]) H3:=hT
    by_cases hlt:k < cs.length
    ·obtain ⟨c, hc0⟩:=zaw hlt
     have hc:=zyo hc0
     have hv:=hval c (List.mem_of_getElem? hc0)
     have hzt:=zzt hv
     rw [zqu hc0, zo1] at he
     obtain ⟨x, d⟩:=c
     dsimp only at hc hv hzt he
     rcases hw:zcf s x d with ⟨s', e'⟩
     rw [hw] at he
     dsimp only at he
     have hsl':=zo4 hsl x d
     rw [hw] at hsl'
     obtain ⟨i, hin⟩:∃ i, decide (x ∈ s) = i:=⟨_, rfl⟩
     rw [hin] at he
     by_cases h0:e' = 0
     ·rw [if_pos h0] at he
      subst h0
      cases i <;> cases d
      ·rw [if_pos rfl] at he
       refine zj ?_;refine ZM ?_;refine Za2 ?_;refine ZD ?_;refine Zaq ?_;refine Zee ?_;refine ZdE ?_
       refine zey 14 rfl fun b14 hb14 => ?_
       refine ZeT ?_;refine Zcx ?_;refine ZbQ ?_;refine Zfw ?_;refine zd (q0 L rfl rfl (zn rfl) rfl rfl rfl (fun u H hH hle _ => zdo hin hH (hT.le hle))) rfl ?_;refine ZbQ ?_;refine Ze9 ?_;refine Zfx ?_;refine Zl ?_;refine zj ?_;refine ZaO ?_;refine Zah ?_;refine ZeB ?_;refine z7 (yk (φ:=WithP s' 0) L rfl rfl (zn rfl) rfl rfl rfl WithP.mono (fun u H hH hle _ => zj9 hw hsl hzt hH (hT.le hle))) rfl ?_;refine zco 56 rfl ?_;rintro _ H19 hs19 ⟨tv, rfl, hT19⟩; obtain ⟨g1, r1, g2, r2, rfl, hpl2⟩:=hT19.shape; refine ZdF ?_;refine Zg ?_;refine Zcr ?_;refine ZG ?_;refine Za1 ?_;refine Zah ?_;refine ZdD ?_;refine Zj ?_;refine ZbL ?_;refine Z9 ?_;refine z8 (id:=19) ?_;refine qe (yh (.inl rfl) rfl rfl rfl rfl) ?_;refine ZeB ?_;refine ZaV ?_;refine Zgb ?_;refine qe (yh (.inr rfl) rfl rfl rfl rfl) ?_;refine Zav ?_
       refine zuc (O':=[]) (List.nil_sublist _) ?_
       refine Ze8 ?_;refine Zbd ?_
       refine zlw (X:=SXp) 3 (r:=fun x => Cell (scs x.1) zdh) (φ:=zs3 s') (zb3 _) ⟨(g1, r1, g2, r2), hpl2⟩ hT19 rfl ?_
       exact zgq (x:=(k, s, md)) (k + 1, s', md ++ [(x, false)]) (hs3.trans hs19) ⟨hlt, he, hsl', by dsimp only; rw [List.length_append]; show md.length + 1 ≤ k + 1; omega⟩ (by dsimp only; omega) ⟨rfl, rfl, zyn rfl, rfl, rfl, rfl, trivial⟩
      ·rw [if_neg (by decide)] at he
       refine zj ?_;refine ZM ?_;refine Za2 ?_;refine ZD ?_;refine Zaq ?_;refine Zee ?_;refine ZdE ?_
       refine zey 14 rfl fun b14 hb14 => ?_
       refine ZeT ?_;refine Zcx ?_;refine ZbQ ?_;refine Zfw ?_;refine zd (q0 L rfl rfl (zn rfl) rfl rfl rfl (fun u H hH hle _ => zdo hin hH (hT.le hle))) rfl ?_;refine ZbQ ?_;refine Ze9 ?_;refine Zfx ?_;refine Zl ?_;refine zj ?_;refine ZaO ?_;refine Zah ?_;refine ZeB ?_;refine z7 (yk (φ:=WithP s' 0) L rfl rfl (zn rfl) rfl rfl rfl WithP.mono (fun u H hH hle _ => zj9 hw hsl hzt hH (hT.le hle))) rfl ?_;refine zco 56 rfl ?_;rintro _ H19 hs19 ⟨tv, rfl, hT19⟩; obtain ⟨g1, r1, g2, r2, rfl, hpl2⟩:=hT19.shape; refine ZdF ?_;refine Zg ?_;refine Zcr ?_;refine ZG ?_;refine Za1 ?_;refine Zah ?_;refine ZdD ?_;refine Zj ?_;refine ZbL ?_;refine Za3 ?_
       refine zuc (O':=[]) (List.nil_sublist _) ?_
       refine Ze8 ?_;refine Zbd ?_
       refine zlw (X:=SXp) 3 (r:=fun x => Cell (scs x.1) zdh) (φ:=zs3 s') (zb3 _) ⟨(g1, r1, g2, r2), hpl2⟩ hT19 rfl ?_
       exact zgq (x:=(k, s, md)) (k + 1, s', md) (hs3.trans hs19) ⟨hlt, he, hsl', by dsimp only; omega⟩ (by dsimp only; omega) ⟨rfl, rfl, rfl, rfl, rfl, rfl, trivial⟩
      ·rw [if_neg (by decide)] at he
       refine zj ?_;refine ZM ?_;refine Za2 ?_;refine ZD ?_;refine Zaq ?_;refine Zee ?_;refine ZdE ?_
       refine zey 14 rfl fun b14 hb14 => ?_
       refine ZeT ?_;refine Zcx ?_;refine ZbQ ?_;refine Zfw ?_;refine zd (q0 L rfl rfl (zn rfl) rfl rfl rfl (fun u H hH hle _ => zdo hin hH (hT.le hle))) rfl ?_;refine ZbQ ?_;refine Ze9 ?_;refine Zfx ?_;refine Zl ?_;refine zj ?_;refine ZaO ?_;refine Zah ?_;refine ZeB ?_;refine z7 (yk (φ:=WithP s' 0) L rfl rfl (zn rfl) rfl rfl rfl WithP.mono (fun u H hH hle _ => zj9 hw hsl hzt hH (hT.le hle))) rfl ?_;refine zco 56 rfl ?_;rintro _ H19 hs19 ⟨tv, rfl, hT19⟩; obtain ⟨g1, r1, g2, r2, rfl, hpl2⟩:=hT19.shape; refine ZdF ?_;refine Zg ?_;refine Zcr ?_;refine ZG ?_;refine Za1 ?_;refine Zah ?_;refine ZdD ?_;refine Zj ?_;refine ZbL ?_;refine Za3 ?_
       refine zuc (O':=[]) (List.nil_sublist _) ?_
       refine Ze8 ?_;refine Zbd ?_
       refine zlw (X:=SXp) 3 (r:=fun x => Cell (scs x.1) zdh) (φ:=zs3 s') (zb3 _) ⟨(g1, r1, g2, r2), hpl2⟩ hT19 rfl ?_
       exact zgq (x:=(k, s, md)) (k + 1, s', md) (hs3.trans hs19) ⟨hlt, he, hsl', by dsimp only; omega⟩ (by dsimp only; omega) ⟨rfl, rfl, rfl, rfl, rfl, rfl, trivial⟩
      ·rw [if_pos rfl] at he
       refine zj ?_;refine ZM ?_;refine Za2 ?_;refine ZD ?_;refine Zaq ?_;refine Zee ?_;refine ZdE ?_
       refine zey 14 rfl fun b14 hb14 => ?_
       refine ZeT ?_;refine Zcx ?_;refine ZbQ ?_;refine Zfw ?_;refine zd (q0 L rfl rfl (zn rfl) rfl rfl rfl (fun u H hH hle _ => zdo hin hH (hT.le hle))) rfl ?_;refine ZbQ ?_;refine Ze9 ?_;refine Zfx ?_;refine Zl ?_;refine zj ?_;refine ZaO ?_;refine Zah ?_;refine ZeB ?_;refine z7 (yk (φ:=WithP s' 0) L rfl rfl (zn rfl) rfl rfl rfl WithP.mono (fun u H hH hle _ => zj9 hw hsl hzt hH (hT.le hle))) rfl ?_;refine zco 56 rfl ?_;rintro _ H19 hs19 ⟨tv, rfl, hT19⟩; obtain ⟨g1, r1, g2, r2, rfl, hpl2⟩:=hT19.shape; refine ZdF ?_;refine Zg ?_;refine Zcr ?_;refine ZG ?_;refine Za1 ?_;refine Zah ?_;refine ZdD ?_;refine Zj ?_;refine ZbL ?_;refine Z9 ?_;refine z8 (id:=19) ?_;refine qe (yh (.inl rfl) rfl rfl rfl rfl) ?_;refine ZeB ?_;refine ZaV ?_;refine Zgb ?_;refine qe (yh (.inr rfl) rfl rfl rfl rfl) ?_;refine Zav ?_
       refine zuc (O':=[]) (List.nil_sublist _) ?_
       refine Ze8 ?_;refine Zbd ?_
       refine zlw (X:=SXp) 3 (r:=fun x => Cell (scs x.1) zdh) (φ:=zs3 s') (zb3 _) ⟨(g1, r1, g2, r2), hpl2⟩ hT19 rfl ?_
       exact zgq (x:=(k, s, md)) (k + 1, s', md ++ [(x, true)]) (hs3.trans hs19) ⟨hlt, he, hsl', by dsimp only; rw [List.length_append]; show md.length + 1 ≤ k + 1; omega⟩ (by dsimp only; omega) ⟨rfl, rfl, zyn rfl, rfl, rfl, rfl, trivial⟩
     ·rw [if_neg h0] at he
      cases he
      refine zj ?_;refine ZM ?_;refine Za2 ?_;refine ZD ?_;refine Zaq ?_;refine Zee ?_;refine ZdE ?_
      refine zey 14 rfl fun b14 hb14 => ?_
      refine ZeT ?_;refine Zcx ?_;refine ZbQ ?_;refine Zfw ?_;refine zd (q0 L rfl rfl (zn rfl) rfl rfl rfl (fun u H hH hle _ => zdo hin hH (hT.le hle))) rfl ?_;refine ZbQ ?_;refine Ze9 ?_;refine Zfx ?_;refine Zl ?_;refine zj ?_;refine ZaO ?_;refine Zah ?_;refine ZeB ?_;refine z7 (yk (φ:=WithP s' e) L rfl rfl (zn rfl) rfl rfl rfl WithP.mono (fun u H hH hle _ => zj9 hw hsl hzt hH (hT.le hle))) rfl ?_;refine zco 56 rfl ?_;rintro _ H19 hs19 ⟨tv, rfl, hT19⟩; obtain ⟨g1, r1, g2, r2, rfl, hpl2⟩:=hT19.shape; refine ZdF ?_;refine Zg ?_;refine Zcr ?_;refine Zz ?_;refine Zc8 ?_;refine ZbK ?_;refine Za ?_;refine ZaB ?_;refine Z5 ?_
      refine qt L (rs:=[.cell 6 91, .tmp 7, .tmp 8]) rfl (fun _ _ h => h) (hs3.trans hs19) fun u H hH hle => ?_
      exact ⟨_, qg rfl, rfl, _, _, rfl, SetV.nil, SlV.nil⟩
    ·obtain rfl:k = cs.length:=by omega
     rw [List.drop_length, zo1] at he
     cases he
     refine zj ?_;refine ZM ?_;refine Zao ?_
     refine zes 7 rfl ?_
     refine qh (id:=21) [] mixed (by kernel_rfl) ?_;refine Zcx ?_;refine Zal ?_;refine zd (yk (φ:=KS tyC made true) L rfl rfl (zn rfl) rfl rfl rfl SlV.mono (fun u H hH _ _ v1 g1 => zy6 hH g1)) rfl ?_;refine zd (qc L rfl rfl rfl rfl rfl rfl (by assumption) rfl) rfl ?_;refine Zec ?_;refine Zl ?_
     refine qt L (rs:=[.cell 6 91, .tmp 7, .tmp 8]) rfl (fun _ _ h => h) hs3 fun u H hH hle => ?_
     exact ⟨_, qg rfl, rfl, fun mv hmv => ⟨_, mv, rfl, hT.le hle, hmv⟩⟩
   ·rw [if_neg h3] at hr
    cases hr
    refine ZZ ?_;refine ZE ?_;refine Zfr ?_;refine Zf ?_;refine z7 (q0 L rfl rfl (zn rfl) rfl rfl rfl (fun u H hH _ _ v1 g1 => zgm zl ll h1 hH g1)) rfl ?_;refine ZT ?_;refine Zad ?_;refine Zr ?_;refine Zf ?_;refine z7 (q0 L rfl rfl (zn rfl) rfl rfl rfl (fun u H hH _ _ v1 g1 => zoq zc lc h2 hH g1)) rfl ?_;refine Zei ?_;refine Zad ?_;refine Z8 ?_;refine Zah ?_;refine Zf ?_;refine z7 (q0 L rfl rfl (zn rfl) rfl rfl rfl (fun u H hH hle _ v1 g1 => first_ret zl ll hf hH (hs.le hle) g1)) rfl ?_;refine ZaY ?_;refine Zd ?_;refine ZaA ?_;refine Zz ?_;refine Z3 ?_;refine ZbK ?_;refine Za ?_;refine ZaB ?_;refine Z5 ?_
    refine qt L (rs:=[.cell 6 91, .tmp 7, .tmp 8]) rfl (fun _ _ h => h) Since.refl fun u H hH hle => ?_
    exact ⟨_, qg rfl, rfl, _, _, rfl, SetV.nil, SlV.nil⟩
  ·rw [if_neg h2] at hr
   cases hr
   refine ZZ ?_;refine ZE ?_;refine Zfr ?_;refine Zf ?_;refine z7 (q0 L rfl rfl (zn rfl) rfl rfl rfl (fun u H hH _ _ v1 g1 => zgm zl ll h1 hH g1)) rfl ?_;refine ZT ?_;refine Zad ?_;refine Zr ?_;refine Zf ?_;refine z7 (q0 L rfl rfl (zn rfl) rfl rfl rfl (fun u H hH _ _ v1 g1 => zoq zc lc rfl hH g1)) rfl ?_;refine Zei ?_;refine Zz ?_;refine ZN ?_;refine ZbK ?_;refine Za ?_;refine ZaB ?_;refine Z5 ?_
   refine qt L (rs:=[.cell 6 91, .tmp 7, .tmp 8]) rfl (fun _ _ h => h) Since.refl fun u H hH hle => ?_
   exact ⟨_, qg rfl, rfl, _, _, rfl, SetV.nil, SlV.nil⟩
 ·rw [if_neg h1] at hr
  cases hr
  refine ZZ ?_;refine ZE ?_;refine Zfr ?_;refine Zf ?_;refine z7 (q0 L rfl rfl (zn rfl) rfl rfl rfl (fun u H hH _ _ v1 g1 => zgm zl ll rfl hH g1)) rfl ?_;refine ZT ?_;refine Zz ?_;refine Zk ?_;refine ZbK ?_;refine Za ?_;refine ZaB ?_;refine Z5 ?_
  refine qt L (rs:=[.cell 6 91, .tmp 7, .tmp 8]) rfl (fun _ _ h => h) Since.refl fun u H hH hle => ?_
  exact ⟨_, qg rfl, rfl, _, _, rfl, SetV.nil, SlV.nil⟩
end Go.V.L8
set_option maxRecDepth 20000
namespace Go.V.L8
open Go.Proofs Go.RowKit Go.V Go.V.L2 Go.V.L3 Go.V.L6
attribute [local irreducible] V N X VO Par StepOK Has Ret RetL RetO RetT Src
end Go.V.L8
set_option maxRecDepth 20000
namespace Go.V.L8
open Go.Proofs Go.RowKit Go.V Go.V.L2 Go.V.L3 Go.V.L6
attribute [local irreducible] V N X VO Par StepOK Has Ret RetL RetO RetT Src
end Go.V.L8
set_option maxRecDepth 20000
namespace Go.V.L8
open Go.Proofs Go.RowKit Go.V Go.V.L2 Go.V.L3 Go.V.L6
attribute [local irreducible] V N X VO Par StepOK Has Ret RetL RetO RetT Src
end Go.V.L8
set_option maxRecDepth 20000
namespace Go.V.L8
open Go.Proofs Go.RowKit Go.V Go.V.L2 Go.V.L3 Go.V.L6
attribute [local irreducible] V N X VO Par StepOK Has Ret RetL RetO RetT Src
end Go.V.L8
set_option maxRecDepth 20000
namespace Go.V.L8
open Go.Proofs Go.RowKit Go.V Go.V.L2 Go.V.L3 Go.V.L6
attribute [local irreducible] V N X VO Par StepOK Has Ret RetL RetO RetT zbd Src
set_option maxHeartbeats 1000000 in
theorem zvl {l:List CH} {fu:Bool} (hz:l.length ≤ 100000) {v:Value} {w:World} {B:Heap} (hB:B.Le (hp w)) (hv:KS tyC l fu v B) :
  RetO Tryz.prog 227 [v] w B (SlR tyC 7 l.length (l.flatMap ccs)):=by
 have hv0:=hv
 have hlen:=z6q l
 have hpl:=z1a l
 obtain ⟨p, c, rfl⟩:=zbt hv
 rcases p with _ | b
 ·obtain ⟨h0, rfl⟩:l.length = 0 ∧ c = 0:=zs6 hv
  have hn:l = []:=List.eq_nil_of_length_eq_zero h0
  subst hn
  refine zcd Tryz.func227 rfl Tryz.ntmps227 (Nat.le_of_ble_eq_true rfl) hB ?_
  refine ZaL ?_;refine z7 (zc2 rfl rfl rfl rfl z80 rfl) rfl ?_;refine Zdb ?_
  refine zet 2 tyC 7 rfl ?_
  exact zfq rfl (fun _ _ h => h) Since.refl rfl
 ·refine zcd Tryz.func227 rfl Tryz.ntmps227 (Nat.le_of_ble_eq_true rfl) hB ?_
  refine ZaL ?_;refine z7 (zc2 rfl rfl rfl rfl z80 rfl) rfl ?_;refine ZQ ?_
  refine za4 0 (KS tyC l fu) rfl SlV.mono hv0 ?_
  refine Zk ?_;refine z7 (zgs L rfl rfl rfl rfl rfl) rfl ?_;refine Zf ?_;refine qe (zb5 L rfl rfl rfl (zsk rfl) rfl z8e (by assumption) (by assumption) (by omega) (by omega)) ?_;refine qe (yh (.inr rfl) rfl rfl rfl rfl) ?_;refine Z6 ?_
  rw [Nat.zero_add, List.nil_append]
  exact zfq rfl (fun _ _ h => h) Since.refl rfl
end Go.V.L8
set_option maxRecDepth 20000
namespace Go.V.L8
open Go.Proofs Go.RowKit Go.V Go.V.L2 Go.V.L3 Go.V.L6
attribute [local irreducible] V N X VO Par StepOK Has Ret RetL RetO RetT Src
end Go.V.L8
set_option maxRecDepth 20000
namespace Go.V.L8
open Go.Proofs Go.RowKit Go.V Go.V.L2 Go.V.L3 Go.V.L6
end Go.V.L8
set_option maxRecDepth 20000
namespace Go.V.L2
open Go.Proofs Go.RowKit Go.V
theorem _root_.Go.V.Zgy {A B:Prop} (h:B) (t:Wr B → A:=by intro h; refine zd (qr L 0 rfl rfl rfl rfl rfl rfl rfl (by first | omega | decide) (by assumption)) rfl ?_;exact h.h):A:=t ⟨h⟩
theorem _root_.Go.V.Zgz {A B:Prop} (h:B) (t:Wr B → A:=by intro h; refine z7 (qr L 0 rfl rfl rfl rfl rfl rfl rfl (by first | omega | decide) (by assumption)) rfl ?_;exact h.h):A:=t ⟨h⟩
theorem _root_.Go.V.Zce {A B:Prop} (h:B) (t:Wr B → A:=by intro h; refine Zv ?_;refine ZR ?_;exact h.h):A:=t ⟨h⟩
theorem _root_.Go.V.Zg0 {A B:Prop} (h:B) (t:Wr B → A:=by intro h; refine Zal ?_;refine Zgy ?_;exact h.h):A:=t ⟨h⟩
theorem _root_.Go.V.ZcX {A B:Prop} (h:B) (t:Wr B → A:=by intro h; refine Zg0 ?_;refine Zgi ?_;exact h.h):A:=t ⟨h⟩
theorem _root_.Go.V.Zdq {A B:Prop} (h:B) (t:Wr B → A:=by intro h; refine Zv ?_;refine ZS ?_;exact h.h):A:=t ⟨h⟩
theorem _root_.Go.V.Zg1 {A B:Prop} (h:B) (t:Wr B → A:=by intro h; refine Z8 ?_;refine Zd ?_;exact h.h):A:=t ⟨h⟩
theorem _root_.Go.V.ZdL {A B:Prop} (h:B) (t:Wr B → A:=by intro h; refine Zg1 ?_;refine ZfX ?_;exact h.h):A:=t ⟨h⟩
theorem _root_.Go.V.Zg2 {A B:Prop} (h:B) (t:Wr B → A:=by intro h; refine Zf9 ?_;refine Zbx ?_;exact h.h):A:=t ⟨h⟩
theorem _root_.Go.V.Zg3 {A B:Prop} (h:B) (t:Wr B → A:=by intro h; refine Zg2 ?_;refine Zgk ?_;exact h.h):A:=t ⟨h⟩
theorem _root_.Go.V.ZdM {A B:Prop} (h:B) (t:Wr B → A:=by intro h; refine Zg3 ?_;refine Zb9 ?_;exact h.h):A:=t ⟨h⟩
theorem _root_.Go.V.Zg4 {A B:Prop} (h:B) (t:Wr B → A:=by intro h; refine Zf ?_;refine Zgz ?_;exact h.h):A:=t ⟨h⟩
theorem _root_.Go.V.ZdN {A B:Prop} (h:B) (t:Wr B → A:=by intro h; refine Zg4 ?_;refine Zd8 ?_;exact h.h):A:=t ⟨h⟩
theorem _root_.Go.V.ZeZ {A B:Prop} (h:B) (t:Wr B → A:=by intro h; refine ZcE ?_;refine z8 (id:=19) ?_;exact h.h):A:=t ⟨h⟩
theorem zuq {φ:Value → Heap → Prop} {a tv:Value} {H:Heap} (h:φ tv H):TupS [φ, fun v _ => v = a] (.tuple #[tv, a]) H :=
 ⟨[tv, a], rfl, rfl, fun i ψ x hi hx => by
  rcases i with _ | _ | i
  ·simp at hi hx; subst hi hx; exact h
  ·simp at hi hx; subst hi hx; rfl
  ·simp at hi⟩
theorem zup {φ:Value → Heap → Prop} {a:Value} (h:Kn.mono (.sat φ)):Kn.mono (.sat (TupS [φ, fun v _ => v = a])):=TupS.mono fun ψ hψ => by
 rcases List.mem_cons.1 hψ with rfl | hψ
 ·exact h
 ·rw [List.mem_singleton] at hψ
  subst hψ
  exact fun _ _ _ h _ => h
def z58 (f:Bool → Bool → Bool) (l m:List U):List U × Int :=
 if 4096 < l.length ∨ 4096 < m.length then ([], 3) else if (isB l && isB m) = true then (zg3 zcc f (l.length + m.length) l m, 0) else ([], 18)
abbrev LE (r:List U × Int):Value → Heap → Prop:=TupS [US r.1 true, fun v _ => v = .int .i64 r.2]
theorem LE.mono {r:List U × Int}:Kn.mono (.sat (LE r)):=zup SlV.mono
theorem znh (a:U) (l:List U):(((a :: l).flatMap ucs).drop (1 * 6)).take (((a :: l).length - 1) * 6) = l.flatMap ucs:=by
 rw [List.flatMap_cons, List.drop_left' (by rfl), List.length_cons, Nat.add_sub_cancel, List.take_of_length_le (Nat.le_of_eq (zlk zkd l))]
theorem zkc {κ:Kap} {s:Nat} {out:List U} {t:U} (h:κ s = some (.own (SlR tyU 6 (out.length + 1) (out.flatMap ucs ++ [.string t.1.1.1, .string t.1.1.2, .string t.1.2, .string t.2.1.1, .string t.2.1.2, .string t.2.2])))):κ s = some (.own (SlR tyU 6 (out ++ [t]).length ((out ++ [t]).flatMap ucs))):=by
 rw [h, List.flatMap_append, List.length_append]; simp [ucs]
attribute [local irreducible] V N X VO Par StepOK Has Ret RetL Src
set_option maxHeartbeats 4000000 in
theorem zx9 {f:Bool → Bool → Bool} {tf:Nat} (hfn:L.fn tf = some ()) (hf:∀ (p q:Bool) (u:World) (H:Heap), H.Le (hp u) → Ret Tryz.prog tf [.bool p, .bool q] u H (fun v _ => v = .bool (f p q))) {l m:List U} {fa fb:Bool}
  {r:List U × Int} (hr:z58 f l m = r) {v v2:Value} {w:World} {B:Heap} (hB:B.Le (hp w)) (hv:US l fa v B) (hv2:US m fb v2 B) :
  Ret Tryz.prog 225 [v, v2, .func (.func tf) #[] #[]] w B (LE r):=by
 subst hr
 unfold z58
 refine qu Tryz.func225 rfl Tryz.ntmps225 (Nat.le_of_ble_eq_true rfl) hB ?_
 refine za4 0 (US l fa) rfl SlV.mono hv ?_
 refine za4 1 (US m fb) rfl SlV.mono hv2 ?_
 by_cases z1:4096 < l.length
 ·rw [if_pos (.inl z1)]
  refine Zar ?_;refine Zam ?_;refine ZbM ?_;refine Zap ?_;refine ZaK ?_;refine Z5 ?_
  refine qt L (rs:=[.tmp 6, .tmp 7]) rfl (fun _ _ h => h) Since.refl fun u H hH hle => ?_
  exact zuq SlV.nil
 ·by_cases z2:4096 < m.length
  ·rw [if_pos (.inr z2)]
   refine Zar ?_;refine Zam ?_;refine Zdq ?_;refine Za ?_;refine ZbM ?_;refine Ze ?_;refine ZaK ?_;refine Z5 ?_
   refine qt L (rs:=[.tmp 6, .tmp 7]) rfl (fun _ _ h => h) Since.refl fun u H hH hle => ?_
   exact zuq SlV.nil
  ·rw [if_neg (by omega)]
   cases h1:isB l
   ·rw [if_neg (by simp)]
    refine Zar ?_;refine Zam ?_;refine Zdq ?_;refine Za ?_;refine Zdq ?_;refine Zc1 ?_;refine Zk ?_;refine Zf ?_;refine z7 (q0 L rfl rfl (zn rfl) rfl rfl rfl (fun u H hH _ _ v1 hv1 => zkj (by omega) h1 hH hv1)) rfl ?_;refine Zp ?_;refine Zap ?_;refine Zt ?_;refine Zr ?_;refine Z5 ?_
    refine qt L (rs:=[.tmp 6, .tmp 7]) rfl (fun _ _ h => h) Since.refl fun u H hH hle => ?_
    exact zuq SlV.nil
   ·cases h2:isB m
    ·rw [if_neg (by simp)]
     refine Zar ?_;refine Zam ?_;refine Zdq ?_;refine Za ?_;refine Zdq ?_;refine Zc1 ?_;refine Zk ?_;refine Zf ?_;refine z7 (q0 L rfl rfl (zn rfl) rfl rfl rfl (fun u H hH _ _ v1 hv1 => zkj (by omega) h1 hH hv1)) rfl ?_;refine Zp ?_;refine Za ?_;refine Zf ?_;refine z7 (q0 L rfl rfl (zn rfl) rfl rfl rfl (fun u H hH _ _ v1 hv1 => zkj (by omega) h2 hH hv1)) rfl ?_;refine Zp ?_;refine ZaM ?_;refine Zr ?_;refine Z5 ?_
     refine qt L (rs:=[.tmp 6, .tmp 7]) rfl (fun _ _ h => h) Since.refl fun u H hH hle => ?_
     exact zuq SlV.nil
    ·rw [if_pos (by rfl)]
     refine Zar ?_;refine Zam ?_;refine Zdq ?_;refine Za ?_;refine Zdq ?_;refine Zc1 ?_;refine Zk ?_;refine Zf ?_;refine z7 (q0 L rfl rfl (zn rfl) rfl rfl rfl (fun u H hH _ _ v1 hv1 => zkj (by omega) h1 hH hv1)) rfl ?_;refine Zp ?_;refine Za ?_;refine Zf ?_;refine z7 (q0 L rfl rfl (zn rfl) rfl rfl rfl (fun u H hH _ _ v1 hv1 => zkj (by omega) h2 hH hv1)) rfl ?_;refine Zp ?_;refine ZY ?_;refine Zn ?_;refine Zd ?_;refine qm ?_
     refine z1p 0 (US l false) rfl SlV.mono (fun _ _ h => h.nofu) ?_
     refine z1p 1 (US m false) rfl SlV.mono (fun _ _ h => h.nofu) ?_
     refine zet 8 tyU 6 rfl ?_
     refine zao (fun s:Nat × List U × List U × List U => [(0, .sat (US s.2.1 false)), (1, .sat (US s.2.2.1 false)), (2, .is (.func (.func tf) #[] #[])), (8, .own (SlR tyU 6 s.2.2.2.length (s.2.2.2.flatMap ucs)))])
      (fun s => s.2.1.length + s.2.2.1.length ≤ s.1 ∧ s.2.2.2 ++ zg3 zcc f s.1 s.2.1 s.2.2.1 = zg3 zcc f (l.length + m.length) l m ∧ s.2.2.2.length + s.2.1.length + s.2.2.1.length ≤ 8192) (fun s => s.1) (l.length + m.length, l, m, []) ⟨Nat.le_refl _, rfl, by simp only [List.length_nil]; omega⟩ ⟨rfl, rfl, rfl, rfl, trivial⟩ ?_
     generalize zg3 zcc f (l.length + m.length) l m = R
     clear h1 h2 z1 z2 hv hv2
     rintro ⟨n, x, y, out⟩ ⟨hn, hR, hz⟩
     dsimp only at hn hR hz ⊢
     rcases x with _ | ⟨a, x⟩
     ·rcases y with _ | ⟨b, y⟩
      ·have hR:out = R:=by rw [← hR]; cases n <;> simp [zg3]
       subst hR
       have l0:([]:List U).length = 0:=rfl
       refine Zcd ?_;refine Zdq ?_;refine Za ?_;refine Zdq ?_;refine Ze ?_;refine ZaS ?_
       refine zes 8 rfl ?_
       refine z8 (id:=22) ?_;refine Zf ?_;refine Zv ?_;refine Zv ?_;refine Ze3 ?_;refine ZbT ?_;refine Zb ?_
       refine qt L (rs:=[.tmp 6, .tmp 7]) rfl (fun _ _ h => h) Since.refl fun u H hH hle => ?_
       exact fun v hv => zuq hv
      ·have l0:([]:List U).length = 0:=rfl
       have lb:(b :: y).length = y.length + 1:=rfl
       have hb:=ze0 (l:=b :: y) (i:=0) (t:=b) rfl
       have tb:=znh b y
       rcases n with _ | n
       ·simp only [List.length_cons, List.length_nil] at hn; omega
       cases hft:f false true
       ·have hR:out ++ zg3 zcc f n [] y = R:=by rw [← hR]; simp [zg3, hft]
        have hfv:∀ (u:World) (H:Heap), H.Le (hp u) → Ret Tryz.prog tf [.bool false, .bool true] u H (fun v _ => v = .bool false):=fun u H h => by have:=hf false true u H h; rwa [hft] at this
        refine Zcd ?_;refine Zdq ?_;refine Za ?_;refine ZbM ?_;refine Za7 ?_;refine Ze7 ?_;refine ZdL ?_;refine Zv ?_;refine ZJ ?_;refine ZcP ?_;refine ZX ?_;refine ZI ?_;refine ZdM ?_;refine Z2 ?_;refine Z9 ?_;refine Zcl ?_;refine ZdN ?_;refine ZdG ?_;refine ZbL ?_;refine ZeZ ?_;refine Zf ?_;refine z7 (zbf L (kh:=.i64) (ph:=0) (km:=.i64) (pm:=0) 1 _ false rfl rfl rfl rfl rfl ⟨rfl, rfl⟩ ⟨rfl, rfl⟩ (fun h => by cases h) (by omega) (by omega) (by assumption)) rfl ?_;refine Zcb ?_;refine Zcs ?_;refine ZdW ?_;refine Za ?_;refine ZaR ?_;refine z7 (q0 L rfl rfl (zn rfl) rfl rfl hfn (fun u H hH _ _ => hfv u H hH)) rfl ?_;refine Zbc ?_;refine yd ?_
        exact yl (x:=(n + 1, [], b :: y, out)) (n, [], y, out) ⟨by simp only [List.length_cons, List.length_nil] at hn ⊢; omega, hR, by simp only [List.length_cons, List.length_nil, List.length_append] at hz ⊢; omega⟩ (by dsimp only; omega) ⟨rfl, rfl, rfl, rfl, trivial⟩
       ·have hR:out ++ [b] ++ zg3 zcc f n [] y = R:=by rw [← hR]; simp [zg3, hft]
        have hfv:∀ (u:World) (H:Heap), H.Le (hp u) → Ret Tryz.prog tf [.bool false, .bool true] u H (fun v _ => v = .bool true):=fun u H h => by have:=hf false true u H h; rwa [hft] at this
        refine Zcd ?_;refine Zdq ?_;refine Za ?_;refine ZbM ?_;refine Za7 ?_;refine Ze7 ?_;refine ZdL ?_;refine Zv ?_;refine ZJ ?_;refine ZcP ?_;refine ZX ?_;refine ZI ?_;refine ZdM ?_;refine Z2 ?_;refine Z9 ?_;refine Zcl ?_;refine ZdN ?_;refine ZdG ?_;refine ZbL ?_;refine ZeZ ?_;refine Zf ?_;refine z7 (zbf L (kh:=.i64) (ph:=0) (km:=.i64) (pm:=0) 1 _ false rfl rfl rfl rfl rfl ⟨rfl, rfl⟩ ⟨rfl, rfl⟩ (fun h => by cases h) (by omega) (by omega) (by assumption)) rfl ?_;refine Zcb ?_;refine Zcs ?_;refine ZdW ?_;refine Za ?_;refine ZaR ?_;refine z7 (q0 L rfl rfl (zn rfl) rfl rfl hfn (fun u H hH _ _ => hfv u H hH)) rfl ?_;refine Z9 ?_;refine z8 (id:=21) ?_;refine qe (yh (.inl rfl) rfl rfl rfl rfl) ?_;refine ZP ?_;refine ZaT ?_;refine qe (yh (.inr rfl) rfl rfl rfl rfl) ?_;refine zk ?_;refine yd ?_
        exact yl (x:=(n + 1, [], b :: y, out)) (n, [], y, out ++ [b]) ⟨by simp only [List.length_cons, List.length_nil] at hn ⊢; omega, hR, by simp only [List.length_cons, List.length_nil, List.length_append] at hz ⊢; omega⟩ (by dsimp only; omega) ⟨rfl, rfl, rfl, zkc rfl, trivial⟩
     ·have la:(a :: x).length = x.length + 1:=rfl
      have ha:=ze0 (l:=a :: x) (i:=0) (t:=a) rfl
      have ta:=znh a x
      rcases y with _ | ⟨b, y⟩
      ·have l0:([]:List U).length = 0:=rfl
       rcases n with _ | n
       ·simp only [List.length_cons, List.length_nil] at hn; omega
       cases hft:f true false
       ·have hR:out ++ zg3 zcc f n x [] = R:=by rw [← hR]; simp [zg3, hft]
        have hfv:∀ (u:World) (H:Heap), H.Le (hp u) → Ret Tryz.prog tf [.bool true, .bool false] u H (fun v _ => v = .bool false):=fun u H h => by have:=hf true false u H h; rwa [hft] at this
        refine Zcd ?_;refine ZbM ?_;refine Zap ?_;refine ZbJ ?_;refine ZdL ?_;refine Zce ?_;refine ZaF ?_;refine ZM ?_;refine Zv ?_;refine ZJ ?_;refine ZcP ?_;refine ZD ?_;refine ZI ?_;refine ZdM ?_;refine ZS ?_;refine Zat ?_;refine zj ?_;refine Zc8 ?_;refine ZdN ?_;refine Z1 ?_;refine Za1 ?_;refine Zf ?_;refine z7 (zbf L (kh:=.i64) (ph:=0) (km:=.i64) (pm:=0) 1 _ false rfl rfl rfl rfl rfl ⟨rfl, rfl⟩ ⟨rfl, rfl⟩ (fun h => by cases h) (by omega) (by omega) (by assumption)) rfl ?_;refine ZdJ ?_;refine ZbL ?_;refine Zcw ?_;refine Zcs ?_;refine Zco ?_;refine Za ?_;refine Zaz ?_;refine z7 (q0 L rfl rfl (zn rfl) rfl rfl hfn (fun u H hH _ _ => hfv u H hH)) rfl ?_;refine Zbc ?_;refine yd ?_
        exact yl (x:=(n + 1, a :: x, [], out)) (n, x, [], out) ⟨by simp only [List.length_cons, List.length_nil] at hn ⊢; omega, hR, by simp only [List.length_cons, List.length_nil, List.length_append] at hz ⊢; omega⟩ (by dsimp only; omega) ⟨rfl, rfl, rfl, rfl, trivial⟩
       ·have hR:out ++ [a] ++ zg3 zcc f n x [] = R:=by rw [← hR]; simp [zg3, hft]
        have hfv:∀ (u:World) (H:Heap), H.Le (hp u) → Ret Tryz.prog tf [.bool true, .bool false] u H (fun v _ => v = .bool true):=fun u H h => by have:=hf true false u H h; rwa [hft] at this
        refine Zcd ?_;refine ZbM ?_;refine Zap ?_;refine ZbJ ?_;refine ZdL ?_;refine Zce ?_;refine ZaF ?_;refine ZM ?_;refine Zv ?_;refine ZJ ?_;refine ZcP ?_;refine ZD ?_;refine ZI ?_;refine ZdM ?_;refine ZS ?_;refine Zat ?_;refine zj ?_;refine Zc8 ?_;refine ZdN ?_;refine Z1 ?_;refine Za1 ?_;refine Zf ?_;refine z7 (zbf L (kh:=.i64) (ph:=0) (km:=.i64) (pm:=0) 1 _ false rfl rfl rfl rfl rfl ⟨rfl, rfl⟩ ⟨rfl, rfl⟩ (fun h => by cases h) (by omega) (by omega) (by assumption)) rfl ?_;refine ZdJ ?_;refine ZbL ?_;refine Zcw ?_;refine Zcs ?_;refine Zco ?_;refine Za ?_;refine Zaz ?_;refine z7 (q0 L rfl rfl (zn rfl) rfl rfl hfn (fun u H hH _ _ => hfv u H hH)) rfl ?_;refine Z9 ?_;refine z8 (id:=21) ?_;refine qe (yh (.inl rfl) rfl rfl rfl rfl) ?_;refine ZP ?_;refine ZaT ?_;refine qe (yh (.inr rfl) rfl rfl rfl rfl) ?_;refine zk ?_;refine yd ?_
        exact yl (x:=(n + 1, a :: x, [], out)) (n, x, [], out ++ [a]) ⟨by simp only [List.length_cons, List.length_nil] at hn ⊢; omega, hR, by simp only [List.length_cons, List.length_nil, List.length_append] at hz ⊢; omega⟩ (by dsimp only; omega) ⟨rfl, rfl, rfl, zkc rfl, trivial⟩
      ·have lb:(b :: y).length = y.length + 1:=rfl
       have hb:=ze0 (l:=b :: y) (i:=0) (t:=b) rfl
       have tb:=znh b y
       by_cases c1:zcc a b < 0
       ·rcases n with _ | n
        ·simp only [List.length_cons, List.length_nil] at hn; omega
        cases hft:f true false
        ·have hR:out ++ zg3 zcc f n x (b :: y) = R:=by rw [← hR]; simp [zg3, c1, hft]
         have hfv:∀ (u:World) (H:Heap), H.Le (hp u) → Ret Tryz.prog tf [.bool true, .bool false] u H (fun v _ => v = .bool false):=fun u H h => by have:=hf true false u H h; rwa [hft] at this
         refine Zcd ?_;refine ZbM ?_;refine Zap ?_;refine ZbJ ?_;refine ZdL ?_;refine Zce ?_;refine ZaF ?_;refine ZM ?_;refine Zce ?_;refine ZdA ?_;refine Zcq ?_;refine ZcX ?_;refine ZcX ?_;refine zd (q0 L rfl rfl (zn rfl) rfl rfl rfl (fun u H hH _ _ => zdb hH)) rfl ?_;refine Za5 ?_;refine qp ?_;refine ZdM ?_;refine ZS ?_;refine Zat ?_;refine zj ?_;refine Zc8 ?_;refine ZdN ?_;refine Z1 ?_;refine Za1 ?_;refine Zf ?_;refine z7 (zbf L (kh:=.i64) (ph:=0) (km:=.i64) (pm:=0) 1 _ false rfl rfl rfl rfl rfl ⟨rfl, rfl⟩ ⟨rfl, rfl⟩ (fun h => by cases h) (by omega) (by omega) (by assumption)) rfl ?_;refine ZdJ ?_;refine ZbL ?_;refine Zcw ?_;refine Zcs ?_;refine Zco ?_;refine Za ?_;refine Zaz ?_;refine z7 (q0 L rfl rfl (zn rfl) rfl rfl hfn (fun u H hH _ _ => hfv u H hH)) rfl ?_;refine Zbc ?_;refine yd ?_
         exact yl (x:=(n + 1, a :: x, b :: y, out)) (n, x, (b :: y), out) ⟨by simp only [List.length_cons, List.length_nil] at hn ⊢; omega, hR, by simp only [List.length_cons, List.length_nil, List.length_append] at hz ⊢; omega⟩ (by dsimp only; omega) ⟨rfl, rfl, rfl, rfl, trivial⟩
        ·have hR:out ++ [a] ++ zg3 zcc f n x (b :: y) = R:=by rw [← hR]; simp [zg3, c1, hft]
         have hfv:∀ (u:World) (H:Heap), H.Le (hp u) → Ret Tryz.prog tf [.bool true, .bool false] u H (fun v _ => v = .bool true):=fun u H h => by have:=hf true false u H h; rwa [hft] at this
         refine Zcd ?_;refine ZbM ?_;refine Zap ?_;refine ZbJ ?_;refine ZdL ?_;refine Zce ?_;refine ZaF ?_;refine ZM ?_;refine Zce ?_;refine ZdA ?_;refine Zcq ?_;refine ZcX ?_;refine ZcX ?_;refine zd (q0 L rfl rfl (zn rfl) rfl rfl rfl (fun u H hH _ _ => zdb hH)) rfl ?_;refine Za5 ?_;refine qp ?_;refine ZdM ?_;refine ZS ?_;refine Zat ?_;refine zj ?_;refine Zc8 ?_;refine ZdN ?_;refine Z1 ?_;refine Za1 ?_;refine Zf ?_;refine z7 (zbf L (kh:=.i64) (ph:=0) (km:=.i64) (pm:=0) 1 _ false rfl rfl rfl rfl rfl ⟨rfl, rfl⟩ ⟨rfl, rfl⟩ (fun h => by cases h) (by omega) (by omega) (by assumption)) rfl ?_;refine ZdJ ?_;refine ZbL ?_;refine Zcw ?_;refine Zcs ?_;refine Zco ?_;refine Za ?_;refine Zaz ?_;refine z7 (q0 L rfl rfl (zn rfl) rfl rfl hfn (fun u H hH _ _ => hfv u H hH)) rfl ?_;refine Z9 ?_;refine z8 (id:=21) ?_;refine qe (yh (.inl rfl) rfl rfl rfl rfl) ?_;refine ZP ?_;refine ZaT ?_;refine qe (yh (.inr rfl) rfl rfl rfl rfl) ?_;refine zk ?_;refine yd ?_
         exact yl (x:=(n + 1, a :: x, b :: y, out)) (n, x, (b :: y), out ++ [a]) ⟨by simp only [List.length_cons, List.length_nil] at hn ⊢; omega, hR, by simp only [List.length_cons, List.length_nil, List.length_append] at hz ⊢; omega⟩ (by dsimp only; omega) ⟨rfl, rfl, rfl, zkc rfl, trivial⟩
       ·by_cases c2:0 < zcc a b
        ·rcases n with _ | n
         ·simp only [List.length_cons, List.length_nil] at hn; omega
         cases hft:f false true
         ·have hR:out ++ zg3 zcc f n (a :: x) y = R:=by rw [← hR]; simp [zg3, c1, c2, hft]
          have hfv:∀ (u:World) (H:Heap), H.Le (hp u) → Ret Tryz.prog tf [.bool false, .bool true] u H (fun v _ => v = .bool false):=fun u H h => by have:=hf false true u H h; rwa [hft] at this
          refine Zcd ?_;refine ZbM ?_;refine Zap ?_;refine ZbJ ?_;refine ZdL ?_;refine Zce ?_;refine ZaF ?_;refine ZM ?_;refine Zce ?_;refine ZdA ?_;refine Zcq ?_;refine ZcX ?_;refine ZcX ?_;refine zd (q0 L rfl rfl (zn rfl) rfl rfl rfl (fun u H hH _ _ => zdb hH)) rfl ?_;refine Za5 ?_;refine qp ?_;refine ZdM ?_;refine Z2 ?_;refine Z9 ?_;refine Zcl ?_;refine ZdN ?_;refine ZdG ?_;refine ZbL ?_;refine ZeZ ?_;refine Zf ?_;refine z7 (zbf L (kh:=.i64) (ph:=0) (km:=.i64) (pm:=0) 1 _ false rfl rfl rfl rfl rfl ⟨rfl, rfl⟩ ⟨rfl, rfl⟩ (fun h => by cases h) (by omega) (by omega) (by assumption)) rfl ?_;refine Zcb ?_;refine Zcs ?_;refine ZdW ?_;refine Za ?_;refine ZaR ?_;refine z7 (q0 L rfl rfl (zn rfl) rfl rfl hfn (fun u H hH _ _ => hfv u H hH)) rfl ?_;refine Zbc ?_;refine yd ?_
          exact yl (x:=(n + 1, a :: x, b :: y, out)) (n, (a :: x), y, out) ⟨by simp only [List.length_cons, List.length_nil] at hn ⊢; omega, hR, by simp only [List.length_cons, List.length_nil, List.length_append] at hz ⊢; omega⟩ (by dsimp only; omega) ⟨rfl, rfl, rfl, rfl, trivial⟩
         ·have hR:out ++ [b] ++ zg3 zcc f n (a :: x) y = R:=by rw [← hR]; simp [zg3, c1, c2, hft]
          have hfv:∀ (u:World) (H:Heap), H.Le (hp u) → Ret Tryz.prog tf [.bool false, .bool true] u H (fun v _ => v = .bool true):=fun u H h => by have:=hf false true u H h; rwa [hft] at this
          refine Zcd ?_;refine ZbM ?_;refine Zap ?_;refine ZbJ ?_;refine ZdL ?_;refine Zce ?_;refine ZaF ?_;refine ZM ?_;refine Zce ?_;refine ZdA ?_;refine Zcq ?_;refine ZcX ?_;refine ZcX ?_;refine zd (q0 L rfl rfl (zn rfl) rfl rfl rfl (fun u H hH _ _ => zdb hH)) rfl ?_;refine Za5 ?_;refine qp ?_;refine ZdM ?_;refine Z2 ?_;refine Z9 ?_;refine Zcl ?_;refine ZdN ?_;refine ZdG ?_;refine ZbL ?_;refine ZeZ ?_;refine Zf ?_;refine z7 (zbf L (kh:=.i64) (ph:=0) (km:=.i64) (pm:=0) 1 _ false rfl rfl rfl rfl rfl ⟨rfl, rfl⟩ ⟨rfl, rfl⟩ (fun h => by cases h) (by omega) (by omega) (by assumption)) rfl ?_;refine Zcb ?_;refine Zcs ?_;refine ZdW ?_;refine Za ?_;refine ZaR ?_;refine z7 (q0 L rfl rfl (zn rfl) rfl rfl hfn (fun u H hH _ _ => hfv u H hH)) rfl ?_;refine Z9 ?_;refine z8 (id:=21) ?_;refine qe (yh (.inl rfl) rfl rfl rfl rfl) ?_;refine ZP ?_;refine ZaT ?_;refine qe (yh (.inr rfl) rfl rfl rfl rfl) ?_;refine zk ?_;refine yd ?_
          exact yl (x:=(n + 1, a :: x, b :: y, out)) (n, (a :: x), y, out ++ [b]) ⟨by simp only [List.length_cons, List.length_nil] at hn ⊢; omega, hR, by simp only [List.length_cons, List.length_nil, List.length_append] at hz ⊢; omega⟩ (by dsimp only; omega) ⟨rfl, rfl, rfl, zkc rfl, trivial⟩
        ·rcases n with _ | n
         ·simp only [List.length_cons, List.length_nil] at hn; omega
         cases hft:f true true
         ·have hR:out ++ zg3 zcc f n x y = R:=by rw [← hR]; simp [zg3, c1, c2, hft]
          have hfv:∀ (u:World) (H:Heap), H.Le (hp u) → Ret Tryz.prog tf [.bool true, .bool true] u H (fun v _ => v = .bool false):=fun u H h => by have:=hf true true u H h; rwa [hft] at this
          refine Zcd ?_;refine ZbM ?_;refine Zap ?_;refine ZbJ ?_;refine ZdL ?_;refine Zce ?_;refine ZaF ?_;refine ZM ?_;refine Zce ?_;refine ZdA ?_;refine Zcq ?_;refine ZcX ?_;refine ZcX ?_;refine zd (q0 L rfl rfl (zn rfl) rfl rfl rfl (fun u H hH _ _ => zdb hH)) rfl ?_;refine Za5 ?_;refine qp ?_;refine ZdM ?_;refine ZS ?_;refine Zat ?_;refine zj ?_;refine Zc8 ?_;refine ZdN ?_;refine Z1 ?_;refine Za1 ?_;refine Zf ?_;refine z7 (zbf L (kh:=.i64) (ph:=0) (km:=.i64) (pm:=0) 1 _ false rfl rfl rfl rfl rfl ⟨rfl, rfl⟩ ⟨rfl, rfl⟩ (fun h => by cases h) (by omega) (by omega) (by assumption)) rfl ?_;refine ZdJ ?_;refine ZbL ?_;refine ZeZ ?_;refine Zf ?_;refine z7 (zbf L (kh:=.i64) (ph:=0) (km:=.i64) (pm:=0) 1 _ false rfl rfl rfl rfl rfl ⟨rfl, rfl⟩ ⟨rfl, rfl⟩ (fun h => by cases h) (by omega) (by omega) (by assumption)) rfl ?_;refine Zcb ?_;refine Zcs ?_;refine Zco ?_;refine Za ?_;refine ZaR ?_;refine z7 (q0 L rfl rfl (zn rfl) rfl rfl hfn (fun u H hH _ _ => hfv u H hH)) rfl ?_;refine Zbc ?_;refine yd ?_
          exact yl (x:=(n + 1, a :: x, b :: y, out)) (n, x, y, out) ⟨by simp only [List.length_cons, List.length_nil] at hn ⊢; omega, hR, by simp only [List.length_cons, List.length_nil, List.length_append] at hz ⊢; omega⟩ (by dsimp only; omega) ⟨rfl, rfl, rfl, rfl, trivial⟩
         ·have hR:out ++ [a] ++ zg3 zcc f n x y = R:=by rw [← hR]; simp [zg3, c1, c2, hft]
          have hfv:∀ (u:World) (H:Heap), H.Le (hp u) → Ret Tryz.prog tf [.bool true, .bool true] u H (fun v _ => v = .bool true):=fun u H h => by have:=hf true true u H h; rwa [hft] at this
          refine Zcd ?_;refine ZbM ?_;refine Zap ?_;refine ZbJ ?_;refine ZdL ?_;refine Zce ?_;refine ZaF ?_;refine ZM ?_;refine Zce ?_;refine ZdA ?_;refine Zcq ?_;refine ZcX ?_;refine ZcX ?_;refine zd (q0 L rfl rfl (zn rfl) rfl rfl rfl (fun u H hH _ _ => zdb hH)) rfl ?_;refine Za5 ?_;refine qp ?_;refine ZdM ?_;refine ZS ?_;refine Zat ?_;refine zj ?_;refine Zc8 ?_;refine ZdN ?_;refine Z1 ?_;refine Za1 ?_;refine Zf ?_;refine z7 (zbf L (kh:=.i64) (ph:=0) (km:=.i64) (pm:=0) 1 _ false rfl rfl rfl rfl rfl ⟨rfl, rfl⟩ ⟨rfl, rfl⟩ (fun h => by cases h) (by omega) (by omega) (by assumption)) rfl ?_;refine ZdJ ?_;refine ZbL ?_;refine ZeZ ?_;refine Zf ?_;refine z7 (zbf L (kh:=.i64) (ph:=0) (km:=.i64) (pm:=0) 1 _ false rfl rfl rfl rfl rfl ⟨rfl, rfl⟩ ⟨rfl, rfl⟩ (fun h => by cases h) (by omega) (by omega) (by assumption)) rfl ?_;refine Zcb ?_;refine Zcs ?_;refine Zco ?_;refine Za ?_;refine ZaR ?_;refine z7 (q0 L rfl rfl (zn rfl) rfl rfl hfn (fun u H hH _ _ => hfv u H hH)) rfl ?_;refine Z9 ?_;refine z8 (id:=21) ?_;refine qe (yh (.inl rfl) rfl rfl rfl rfl) ?_;refine ZP ?_;refine ZaT ?_;refine qe (yh (.inr rfl) rfl rfl rfl rfl) ?_;refine zk ?_;refine yd ?_
          exact yl (x:=(n + 1, a :: x, b :: y, out)) (n, x, y, out ++ [a]) ⟨by simp only [List.length_cons, List.length_nil] at hn ⊢; omega, hR, by simp only [List.length_cons, List.length_nil, List.length_append] at hz ⊢; omega⟩ (by dsimp only; omega) ⟨rfl, rfl, rfl, zkc rfl, trivial⟩
end Go.V.L2
set_option maxRecDepth 20000
namespace Go.V.L2
open Go.Proofs Go.RowKit Go.V
abbrev fWo:Bool → Bool → Bool:=fun _ b => !b
attribute [local irreducible] V N X VO Par StepOK Has Ret RetL RetO Src
theorem z4b (p q:Bool) (w:World) (B:Heap) (hB:B.Le (hp w)):Ret Tryz.prog 226 [.bool p, .bool q] w B (fun v _ => v = .bool (fWo p q)):=by
 refine qu Tryz.func226 rfl Tryz.ntmps226 (Nat.le_of_ble_eq_true rfl) hB ?_
 refine Zc9 ?_;refine Zp ?_;refine Zb ?_
 refine qt L (rs:=[.tmp 4]) rfl (fun _ _ h => h) Since.refl fun u H hH hle => ?_
 rfl
theorem ziz {l m:List U} {fa fb:Bool} {r:List U × Int} {v v2:Value} {w:World} {B:Heap} (hr:z58 fWo l m = r) (hB:B.Le (hp w)) (hv:US l fa v B) (hv2:US m fb v2 B):Ret Tryz.prog 155 [v, v2] w B (LE r):=by
 refine qu Tryz.func155 rfl Tryz.ntmps155 (Nat.le_of_ble_eq_true rfl) hB ?_
 refine za4 0 (US l fa) rfl SlV.mono hv ?_
 refine za4 1 (US m fb) rfl SlV.mono hv2 ?_
 refine Zar ?_;refine Zay ?_;refine Zf ?_;refine Zf ?_;refine z7 (yk (φ:=LE r) L rfl rfl (zn rfl) rfl rfl rfl LE.mono (fun u H hH _ _ v1 h1 v2 h2 => zx9 rfl z4b hr hH h1 h2)) rfl ?_;refine z7 (zfj rfl rfl rfl rfl SlV.mono) rfl ?_;refine Zcu ?_;refine Zb ?_
 refine qt L (rs:=[.tmp 4, .tmp 5]) rfl (fun _ _ h => h) Since.refl fun u H hH hle => ?_
 exact fun v hv => zuq hv
end Go.V.L2
set_option maxRecDepth 20000
namespace Go.V.L8
open Go.Proofs Go.RowKit Go.V Go.V.L2 Go.V.L3 Go.V.L6
end Go.V.L8
set_option maxRecDepth 20000
namespace Go.V.L8
open Go.Proofs Go.RowKit Go.V Go.V.L2 Go.V.L3 Go.V.L6
attribute [local irreducible] V N X VO Par StepOK Has Ret RetL RetO RetT zbd Src
end Go.V.L8
set_option maxRecDepth 20000
namespace Go.V.L8
open Go.Proofs Go.RowKit Go.V Go.V.L2 Go.V.L3 Go.V.L6
attribute [local irreducible] V N X VO Par StepOK Has Ret RetL RetO RetT zbd Src
end Go.V.L8
set_option maxRecDepth 20000
namespace Go.V.L8
open Go.Proofs Go.RowKit Go.V Go.V.L2 Go.V.L3 Go.V.L6
attribute [local irreducible] V N X VO Par StepOK Has Ret RetL RetO RetT zbd Src
end Go.V.L8
set_option maxRecDepth 20000
namespace Go.V.L8
open Go.Proofs Go.RowKit Go.V Go.V.L2 Go.V.L3 Go.V.L6
attribute [local irreducible] V N X VO Par StepOK Has Ret RetL RetO RetT zbd Src
end Go.V.L8
set_option maxRecDepth 20000
namespace Go.V.L8
open Go.Proofs Go.RowKit Go.V Go.V.L2 Go.V.L3 Go.V.L6
theorem z32 {a b:List U} (la:a.length ≤ 4096) (lb:b.length ≤ 4096) (sa:Sst zcc a) (sb:Sst zcc b):z58 fWo a b = (zg3 zcc fWo (a.length + b.length) a b, 0):=by
 unfold z58
 have h1:isB a = true:=decide_eq_true sa
 have h2:isB b = true:=decide_eq_true sb
 rw [if_neg (by omega), h1, h2, if_pos (by decide)]
attribute [local irreducible] V N X VO Par StepOK Has Ret RetL RetO RetT zbd Src
end Go.V.L8
set_option maxRecDepth 20000
namespace Go.V.L11
open Go.Proofs Go.RowKit Go.V Go.V.L2 Go.V.L4 Go.V.L8 Go.V.Bd
theorem zrl (s:ByteArray) (l:List Nat):zds (zdn s ++ l) = s ++ zds l:=by
 apply zb0
 rw [zaz]
 unfold zds zdn
 simp only [List.map_append, List.map_map]
 show List.map (UInt8.ofNat ∘ fun c => c.toNat) s.data.toList ++ _ = s.data.toList ++ _
 rw [List.map_congr_left (g:=id) fun c _ => by simp, List.map_id]
theorem zwj:zds [] = ⟨#[]⟩:=rfl
end Go.V.L11
set_option maxRecDepth 20000
namespace Go.V.L11
open Go.Proofs Go.RowKit Go.V Go.V.L2 Go.V.L3 Go.V.L4 Go.V.L6 Go.V.L8 Go.V.Bd
theorem zh0 {bs:List Nat} {a b:Nat} (h:bs[a]? = some b):bs.drop a = b :: bs.drop (a + 1):=by
 obtain ⟨h1, h2⟩:=List.getElem?_eq_some_iff.1 h
 rw [List.drop_eq_getElem_cons h1, h2]
theorem zhz {bs r:List Nat} {a b:Nat} (h:bs.drop a = b :: r):bs[a]? = some b ∧ bs.drop (a + 1) = r:=by
 have h1:bs[a]? = some b:=by
  have:=congrArg (fun l:List Nat => l[0]?) h
  simpa using this
 refine ⟨h1, ?_⟩
 have h2:=zh0 h1
 rw [h] at h2
 exact (List.cons.inj h2).2.symm
theorem zhy {bs x r:List Nat} {a:Nat} (h:bs.drop a = x ++ r):bs.drop (a + x.length) = r:=by
 rw [← List.drop_drop, h, List.drop_left]
theorem zn3 {bs:List Nat} {R:Rd} {n:Nat} (h:bs[R.at_]? = some n) (hn:n < 128):zfv bs R = (n, ⟨R.at_ + 1, R.bad, R.err⟩):=by
 unfold zfv
 show zhm bs (9 + 1) 0 0 R = _
 unfold zhm
 rw [h]
 dsimp only
 rw [if_neg (by omega), if_pos hn, Nat.mod_eq_of_lt hn]
 simp
theorem ztk {bs:List Nat} {R:Rd} (h:bs[R.at_]? = none) (h0:R.err = 0):zfv bs R = (0, ⟨R.at_, bs.length, 17⟩):=by
 unfold zfv
 show zhm bs (9 + 1) 0 0 R = _
 unfold zhm
 rw [h]
 dsimp only
 unfold Rd.fail
 rw [if_pos h0]
theorem z0q {bs:List Nat} (hb:∀ b ∈ bs, b ≤ 255):∀ (f i acc:Nat) (R:Rd), f + 1 + i = 10 → R.err = 0 → (zhm bs (f + 1) i acc R).2.err = 0 →
  ∃ n, zhm bs (f + 1) i acc R = (acc + n * 128 ^ i, ⟨R.at_ + (zb2 n).length, R.bad, 0⟩) ∧ bs.drop R.at_ = zb2 n ++ bs.drop (R.at_ + (zb2 n).length) ∧ (0 < i → 0 < n):=by
 intro f
 induction f with
 | zero =>
  intro i acc R hi h0 h
  unfold zhm at h ⊢
  cases hg:bs[R.at_]? with
  | none => rw [hg] at h; dsimp only at h; unfold Rd.fail at h; rw [if_pos h0] at h; exact absurd h (show (17:Int) ≠ 0 by decide)
  | some b =>
   rw [hg] at h
   dsimp only at h ⊢
   by_cases h1:i = 9 ∧ b ≠ 1 ∨ 0 < i ∧ b = 0
   ·rw [if_pos h1] at h; unfold Rd.fail at h; rw [if_pos h0] at h; exact absurd h (show (5:Int) ≠ 0 by decide)
   ·rw [if_neg h1]
    have hb1:b = 1:=by omega
    subst hb1
    rw [if_pos (by decide)]
    refine ⟨1, ?_, ?_, fun _ => Nat.one_pos⟩
    ·rw [zcq (by decide), h0]; rfl
    ·rw [zcq (by decide)]; exact zh0 hg
 | succ f ih =>
  intro i acc R hi h0 h
  unfold zhm at h ⊢
  cases hg:bs[R.at_]? with
  | none => rw [hg] at h; dsimp only at h; unfold Rd.fail at h; rw [if_pos h0] at h; exact absurd h (show (17:Int) ≠ 0 by decide)
  | some b =>
   rw [hg] at h
   dsimp only at h ⊢
   have hb255:=hb b (List.mem_of_getElem? hg)
   by_cases h1:i = 9 ∧ b ≠ 1 ∨ 0 < i ∧ b = 0
   ·rw [if_pos h1] at h; unfold Rd.fail at h; rw [if_pos h0] at h; exact absurd h (show (5:Int) ≠ 0 by decide)
   ·rw [if_neg h1] at h ⊢
    by_cases h2:b < 128
    ·rw [if_pos h2]
     refine ⟨b, ?_, ?_, fun h3 => by omega⟩
     ·rw [zcq h2, h0, Nat.mod_eq_of_lt h2]; rfl
     ·rw [zcq h2]; exact zh0 hg
    ·rw [if_neg h2] at h ⊢
     obtain ⟨n, e1, e2, e3⟩:=ih (i + 1) (acc + b % 128 * 128 ^ i) ⟨R.at_ + 1, R.bad, R.err⟩ (by omega) h0 h
     dsimp only at e1 e2
     have hn:=e3 (Nat.succ_pos i)
     have hbm:b % 128 = b - 128:=by omega
     have hg2:¬ (b - 128 + 128 * n < 128):=by omega
     have hm:(b - 128 + 128 * n) % 128 + 128 = b:=by omega
     have hd:(b - 128 + 128 * n) / 128 = n:=by omega
     refine ⟨b - 128 + 128 * n, ?_, ?_, fun _ => by omega⟩
     ·rw [e1, zio hg2, hm, hd, List.length_cons, hbm]
      refine Prod.ext ?_ ?_
      ·dsimp only
       rw [Nat.pow_succ, Nat.add_mul, Nat.add_assoc, ← Nat.mul_assoc, Nat.mul_comm 128 n, Nat.mul_assoc n 128, Nat.mul_comm 128 (128 ^ i), Nat.mul_assoc]
      ·dsimp only
       rw [show R.at_ + 1 + (zb2 n).length = R.at_ + ((zb2 n).length + 1) by omega]
     ·rw [zio hg2, hm, hd, List.length_cons, zh0 hg, List.cons_append, show R.at_ + ((zb2 n).length + 1) = R.at_ + 1 + (zb2 n).length by omega]
      exact congrArg (b :: ·) e2
theorem z3z {bs:List Nat} (hb:∀ b ∈ bs, b ≤ 255) {R:Rd} (h0:R.err = 0) (h:(zfv bs R).2.err = 0):∃ n, zfv bs R = (n, ⟨R.at_ + (zb2 n).length, R.bad, 0⟩) ∧ bs.drop R.at_ = zb2 n ++ bs.drop (R.at_ + (zb2 n).length):=by
 obtain ⟨n, h1, h2, _⟩:=z0q hb 9 0 0 R rfl h0 h
 refine ⟨n, ?_, h2⟩
 unfold zfv
 rw [h1]
 simp
theorem zqm {bs:List Nat} {lim n:Nat} {R R2:Rd} (h0:R.err = 0) (h:zfv bs R = (n, R2)) (h2:R2.err = 0) (hn:n ≤ lim) (hl:lim ≤ 1099511627776):zbp bs lim R = ((n:Int), R2):=by
 have hw:zd1 bs lim 3 R = (n, R2):=by unfold zd1; rw [h]; exact if_neg (by dsimp only; omega)
 have hg:zq8 bs lim R = ((n:Int), R2):=by
  unfold zq8
  rw [hw]
  exact Prod.ext (zad (by dsimp only; omega) (by dsimp only; omega)) rfl
 unfold zbp zdr
 rw [if_neg (fun h => h h0), hg, if_neg (fun h => h h2)]
theorem zyk {bs:List Nat} {lim:Nat} {R R2:Rd} (h0:R.err = 0) (h:zfv bs R = (0, R2)) (h2:R2.err ≠ 0):zbp bs lim R = (0, ⟨R.at_, R2.bad, R2.err⟩):=by
 have hw:zd1 bs lim 3 R = (0, R2):=by unfold zd1; rw [h]; exact if_neg (Nat.not_lt_zero _)
 have hg:(zq8 bs lim R).2 = R2:=by unfold zq8; rw [hw]
 unfold zbp zdr
 rw [if_neg (fun h => h h0), hg, if_pos h2]
theorem zyl {bs:List Nat} (hb:∀ b ∈ bs, b ≤ 255) {lim:Nat} (hl:lim ≤ 1099511627776) {R:Rd} (h:(zbp bs lim R).2.err = 0):R.err = 0 ∧ ∃ n, n ≤ lim ∧ zbp bs lim R = ((n:Int), ⟨R.at_ + (zb2 n).length, R.bad, 0⟩) ∧ bs.drop R.at_ = zb2 n ++ bs.drop (R.at_ + (zb2 n).length):=by
 by_cases h0:R.err = 0
 ·refine ⟨h0, ?_⟩
  by_cases h1:(zfv bs R).2.err = 0
  ·obtain ⟨n, h2, h3⟩:=z3z hb h0 h1
   by_cases hn:n ≤ lim
   ·exact ⟨n, hn, zqm h0 h2 rfl hn hl, h3⟩
   ·exfalso
    have hw:zd1 bs lim 3 R = (n, ⟨R.at_ + (zb2 n).length, R.at_, 3⟩):=by unfold zd1; rw [h2]; exact if_pos (by dsimp only; omega)
    have hg:(zq8 bs lim R).2 = ⟨R.at_ + (zb2 n).length, R.at_, 3⟩:=by unfold zq8; rw [hw]
    unfold zbp zdr at h
    rw [if_neg (fun h => h h0), hg, if_pos (show (3:Int) ≠ 0 by decide)] at h
    exact absurd h (show (3:Int) ≠ 0 by decide)
  ·exfalso
   have hz:(zfv bs R).1 = 0:=zn4 10 0 0 R h0 h1
   have hw:zd1 bs lim 3 R = zfv bs R:=by unfold zd1; exact if_neg (by rw [hz]; exact Nat.not_lt_zero _)
   have hg:(zq8 bs lim R).2 = (zfv bs R).2:=by unfold zq8; rw [hw]
   unfold zbp zdr at h
   rw [if_neg (fun h => h h0), hg, if_pos h1] at h
   exact h1 h
 ·exfalso
  unfold zbp zdr at h
  rw [if_pos h0] at h
  exact h0 h
theorem zsv {s:ByteArray} (h:s.size ≤ 16):zft s = s.size :: zdn s:=by unfold zft; rw [zcq (by omega)]; rfl
theorem zsg {l:List Nat} (h:∀ b ∈ l, b ≤ 255):zdn (zds l) = l:=by
 unfold zdn zds
 simp only [List.map_map]
 have:∀ b ∈ l, (UInt8.toNat ∘ UInt8.ofNat) b = b:=fun b hb => by
  have:=h b hb
  show (UInt8.ofNat b).toNat = b
  rw [UInt8.toNat_ofNat']
  omega
 rw [List.map_congr_left this]
 exact List.map_id' l
theorem zpk (s:ByteArray):zds (zdn s) = s:=by
 have h:=zrl s []
 rw [List.append_nil, zwj] at h
 rw [h]
 apply zb0
 rw [zaz]
 simp
theorem z10 {bs rest:List Nat} {R:Rd} {s:ByteArray} (h0:R.err = 0) (hs:s.size ≤ 16) (hd:bs.drop R.at_ = zft s ++ rest):zcp bs 16 R = (s, ⟨R.at_ + (zft s).length, R.bad, 0⟩):=by
 rw [zsv hs] at hd ⊢
 obtain ⟨h1, h2⟩:=zhz (r:=zdn s ++ rest) hd
 have hln:(bs.drop R.at_).length = 1 + s.size + rest.length:=by rw [hd, List.length_append, List.length_cons, zbv]; omega
 rw [List.length_drop] at hln
 have hl:=zqm (lim:=16) h0 (zn3 h1 (by omega)) h0 hs (by decide)
 have hg:zg7 bs 16 R = (s, ⟨R.at_ + 1 + s.size, R.bad, R.err⟩):=by
  unfold zg7
  rw [hl]
  dsimp only
  rw [if_neg (by intro h; rcases h with h | h; exact h h0; omega), Int.toNat_natCast, h2, ← zbv, List.take_left, zpk]
 unfold zcp zdr
 rw [if_neg (fun h => h h0), hg, if_neg (fun h => h h0), h0, List.length_cons, zbv, show R.at_ + 1 + s.size = R.at_ + (s.size + 1) by omega]
theorem z21 {bs:List Nat} {R:Rd} {s:ByteArray} {k:Nat} (h0:R.err = 0) (hs:s.size ≤ 16) (hd:bs.drop R.at_ = (zft s).take k) (hk:k < (zft s).length) (ha:R.at_ + k = bs.length):zcp bs 16 R = (sZ, ⟨R.at_, bs.length, 17⟩):=by
 rw [zsv hs] at hd hk
 rw [List.length_cons, zbv] at hk
 have h17:(17:Int) ≠ 0:=by decide
 cases k with
 | zero =>
  have h1:bs[R.at_]? = none:=List.getElem?_eq_none (by omega)
  have hl:=zyk (lim:=16) h0 (ztk h1 h0) h17
  have hg:zg7 bs 16 R = (sZ, ⟨R.at_, bs.length, 17⟩):=by
   unfold zg7
   rw [hl]
   dsimp only
   rw [if_pos (.inl h17)]
   rfl
  unfold zcp zdr
  rw [if_neg (fun h => h h0), hg]
  exact if_pos h17
 | succ k =>
  rw [List.take_succ_cons] at hd
  obtain ⟨h1, h2⟩:=zhz hd
  have hl:=zqm (lim:=16) h0 (zn3 h1 (by omega)) h0 hs (by decide)
  have hg:zg7 bs 16 R = (sZ, ⟨R.at_ + 1, bs.length, 17⟩):=by
   unfold zg7
   rw [hl]
   dsimp only
   rw [if_pos (.inr (by omega))]
   unfold Rd.fail
   rw [if_pos h0]
  unfold zcp zdr
  rw [if_neg (fun h => h h0), hg]
  exact if_pos h17
theorem z22 {bs:List Nat} (hb:∀ b ∈ bs, b ≤ 255) {R:Rd} (ha:R.at_ ≤ bs.length) (h:(zcp bs 16 R).2.err = 0):R.err = 0 ∧ bs.drop R.at_ = zft (zcp bs 16 R).1 ++ bs.drop (zcp bs 16 R).2.at_:=by
 have hlen:=zle (bs:=bs) (lim:=16) ha
 by_cases h0:R.err = 0
 ·refine ⟨h0, ?_⟩
  have hG:zcp bs 16 R = zg7 bs 16 R ∧ (zg7 bs 16 R).2.err = 0:=by
   unfold zcp zdr at h ⊢
   rw [if_neg (fun h => h h0)] at h ⊢
   by_cases h1:(zg7 bs 16 R).2.err ≠ 0
   ·rw [if_pos h1] at h; exact absurd h h1
   ·rw [if_neg h1]; exact ⟨rfl, Decidable.not_not.1 h1⟩
  obtain ⟨hG, h2⟩:=hG
  rw [hG]
  unfold zg7 at h2 ⊢
  by_cases hc:(zbp bs 16 R).2.err ≠ 0 ∨ ((bs.length - (zbp bs 16 R).2.at_:Nat):Int) < (zbp bs 16 R).1
  ·exfalso
   rw [if_pos hc] at h2
   dsimp only at h2
   unfold Rd.fail at h2
   split at h2
   ·exact absurd h2 (show (17:Int) ≠ 0 by decide)
   ·rename_i h3; exact h3 h2
  ·rw [if_neg hc]
   have hc1:(zbp bs 16 R).2.err = 0:=Decidable.not_not.1 fun h => hc (.inl h)
   obtain ⟨_, n, hn, e1, e2⟩:=zyl hb (by decide) hc1
   rw [e1] at hc hlen ⊢
   dsimp only at hc hlen ⊢
   rw [Int.toNat_natCast]
   have hnl:n ≤ bs.length - (R.at_ + (zb2 n).length):=by
    have:¬ (((bs.length - (R.at_ + (zb2 n).length):Nat):Int) < (n:Int)):=fun h => hc (.inr h)
    omega
   have htl:((bs.drop (R.at_ + (zb2 n).length)).take n).length = n:=by rw [List.length_take, List.length_drop]; omega
   have hbl:zdn (zds ((bs.drop (R.at_ + (zb2 n).length)).take n)) = (bs.drop (R.at_ + (zb2 n).length)).take n:=zsg fun b hb2 => hb b (List.mem_of_mem_drop (List.mem_of_mem_take hb2))
   have hsz:(zds ((bs.drop (R.at_ + (zb2 n).length)).take n)).size = n:=by rw [← zbv, hbl, htl]
   unfold zft
   have hdd:bs.drop (R.at_ + (zb2 n).length + n) = (bs.drop (R.at_ + (zb2 n).length)).drop n:=by rw [List.drop_drop]
   rw [hsz, hbl, List.append_assoc, hdd, List.take_append_drop]
   exact e2
 ·exfalso
  unfold zcp zdr at h
  rw [if_pos h0] at h
  exact h0 h
theorem zgl {bs:List Nat} {R:Rd}:∀ n, zbh bs R (n + 1) = zbh bs (zcp bs 16 R).2 n
 | 0 => rfl
 | n + 1 => by
  have h:zbh bs R (n + 1 + 1) = (zcp bs 16 (zbh bs R (n + 1))).2:=rfl
  rw [h, zgl n]
  rfl
theorem zmq {bs:List Nat} {R:Rd}:∀ n, zmr bs R (n + 1) = (zcp bs 16 R).1 :: zmr bs (zcp bs 16 R).2 n
 | 0 => rfl
 | n + 1 => by
  have h:zmr bs R (n + 1 + 1) = zmr bs R (n + 1) ++ [(zcp bs 16 (zbh bs R (n + 1))).1]:=rfl
  rw [h, zmq n, zgl n]
  rfl
theorem ztn {bs:List Nat} {R:Rd} (h:R.err ≠ 0):∀ n, zbh bs R n = R
 | 0 => rfl
 | n + 1 => by
  have ih:=ztn (bs:=bs) h n
  rw [zf8 (by rw [ih]; exact h), ih]
theorem z2f {bs rest:List Nat}:∀ {ss:List ByteArray} {R:Rd}, R.err = 0 → (∀ s ∈ ss, s.size ≤ 16) → bs.drop R.at_ = zbb ss ++ rest → zbh bs R ss.length = ⟨R.at_ + (zbb ss).length, R.bad, 0⟩ ∧ zmr bs R ss.length = ss
 | [], R, h0, _, _ => by
  obtain ⟨a, b, e⟩:=R
  cases h0
  exact ⟨rfl, rfl⟩
 | s :: ss, R, h0, hs, hd => by
  have e1:zbb (s :: ss) = zft s ++ zbb ss:=rfl
  rw [e1, List.append_assoc] at hd
  have h1:=z10 h0 (hs s (List.mem_cons_self ..)) hd
  have h2:=z2f (R:=⟨R.at_ + (zft s).length, R.bad, 0⟩) rfl (fun x hx => hs x (List.mem_cons_of_mem _ hx)) (zhy hd)
  rw [List.length_cons, zgl, zmq, h1, e1, List.length_append, ← Nat.add_assoc]
  dsimp only
  exact ⟨h2.1, congrArg (s :: ·) h2.2⟩
theorem zx3 {bs:List Nat}:∀ {ss:List ByteArray} {R:Rd} {k:Nat}, R.err = 0 → (∀ s ∈ ss, s.size ≤ 16) → bs.drop R.at_ = (zbb ss).take k → k < (zbb ss).length → R.at_ + k = bs.length → (zbh bs R ss.length).bad = bs.length ∧ (zbh bs R ss.length).err = 17
 | [], R, k, _, _, _, hk, _ => absurd hk (Nat.not_lt_zero _)
 | s :: ss, R, k, h0, hs, hd, hk, ha => by
  have e1:zbb (s :: ss) = zft s ++ zbb ss:=rfl
  rw [e1, List.take_append] at hd
  rw [e1, List.length_append] at hk
  rw [List.length_cons, zgl]
  by_cases hc:k < (zft s).length
  ·rw [Nat.sub_eq_zero_of_le (Nat.le_of_lt hc), List.take_zero, List.append_nil] at hd
   have h1:=z21 h0 (hs s (List.mem_cons_self ..)) hd hc ha
   rw [h1]
   dsimp only
   rw [ztn (show (17:Int) ≠ 0 by decide)]
   exact ⟨rfl, rfl⟩
  ·rw [List.take_of_length_le (by omega)] at hd
   have h1:=z10 h0 (hs s (List.mem_cons_self ..)) hd
   rw [h1]
   exact zx3 (R:=⟨R.at_ + (zft s).length, R.bad, 0⟩) rfl (fun x hx => hs x (List.mem_cons_of_mem _ hx)) (zhy hd) (by omega) (by dsimp only; omega)
theorem zrk (l:List ByteArray) (s:ByteArray):zbb (l ++ [s]) = zbb l ++ zft s:=by simp [zbb]
theorem zx4 {bs:List Nat} (hb:∀ b ∈ bs, b ≤ 255) {R:Rd} (ha:R.at_ ≤ bs.length):∀ n, (zbh bs R n).err = 0 → R.err = 0 ∧ bs.drop R.at_ = zbb (zmr bs R n) ++ bs.drop (zbh bs R n).at_
 | 0, h => ⟨h, rfl⟩
 | n + 1, h => by
  have h1:zbh bs R (n + 1) = (zcp bs 16 (zbh bs R n)).2:=rfl
  have h2:zmr bs R (n + 1) = zmr bs R n ++ [(zcp bs 16 (zbh bs R n)).1]:=rfl
  rw [h1] at h ⊢
  obtain ⟨h3, h4⟩:=z22 hb (zr7 ha n) h
  obtain ⟨h5, h6⟩:=zx4 hb ha n h3
  refine ⟨h5, ?_⟩
  rw [h2, zrk, List.append_assoc, ← h4]
  exact h6
theorem z2y {t:U} (h:tE t = 0):∀ s ∈ u6 t, s.size ≤ 16:=by
 unfold tE at h
 split at h
 ·rename_i h1
  obtain ⟨c1, c2, c3⟩:=zvp h1
  obtain ⟨d1, d2, d3⟩:=zih h
  have a1:=zc0 c1
  have a2:=zc0 c2
  have a3:=zc0 c3
  have b1:=zc0 d1
  have b2:=zc0 d2
  have b3:t.2.2.size ≤ 16:=by
   rcases d3 with d3 | d3
   ·rw [d3]; decide
   ·exact zc0 d3
  intro s hs
  simp only [u6, List.mem_cons, List.not_mem_nil, or_false] at hs
  rcases hs with rfl | rfl | rfl | rfl | rfl | rfl <;> assumption
 ·rename_i h1; exact absurd h h1
theorem z11 {bs rest:List Nat} {R:Rd} {t:U} (h0:R.err = 0) (ht:tE t = 0) (hd:bs.drop R.at_ = tupB t ++ rest):zea bs R = (t, ⟨R.at_ + (tupB t).length, R.bad, 0⟩):=by
 obtain ⟨h1, h2⟩:=z2f (ss:=u6 t) h0 (z2y ht) hd
 have e6:(u6 t).length = 6:=rfl
 rw [e6] at h1 h2
 rw [zg9]
 unfold zvu
 rw [h1, h2, if_neg (fun h => h rfl)]
 rfl
theorem z27 {bs:List Nat} {R:Rd} {t:U} {k:Nat} (h0:R.err = 0) (ht:tE t = 0) (hd:bs.drop R.at_ = (tupB t).take k) (hk:k < (tupB t).length) (ha:R.at_ + k = bs.length):(zea bs R).2.bad = bs.length ∧ (zea bs R).2.err = 17:=by
 obtain ⟨h1, h2⟩:=zx3 (ss:=u6 t) h0 (z2y ht) hd hk ha
 have e6:(u6 t).length = 6:=rfl
 rw [e6] at h1 h2
 rw [zg9]
 unfold zvu
 rw [h1, h2, if_pos (show (17:Int) ≠ 0 by decide)]
 exact ⟨rfl, rfl⟩
theorem z28 {bs:List Nat} (hb:∀ b ∈ bs, b ≤ 255) {R:Rd} (ha:R.at_ ≤ bs.length) (h:(zea bs R).2.err = 0):bs.drop R.at_ = tupB (zea bs R).1 ++ bs.drop (zea bs R).2.at_:=by
 have h1:(zbh bs R 6).err = 0:=by
  rw [zg9] at h
  unfold zvu at h
  by_cases h2:(zbh bs R 6).err ≠ 0
  ·rw [if_pos h2] at h; exact absurd h h2
  ·exact Decidable.not_not.1 h2
 have hn:zvu bs R = (zmr bs R 6, zbh bs R 6):=if_neg (fun h => h h1)
 rw [zg9, hn]
 dsimp only
 unfold tupB
 rw [z1y (zho 6)]
 exact (zx4 hb ha 6 h1).2
end Go.V.L11
set_option maxRecDepth 20000
namespace Go.V.L11
open Go.Proofs Go.RowKit Go.V Go.V.L2 Go.V.L3 Go.V.L4 Go.V.L6 Go.V.L8 Go.V.Bd
theorem zzd {l m:List U} {t:U} (h:SOK (l ++ t :: m)):zoz l t = true:=by
 unfold zoz
 cases hl:l.getLast? with
 | none => rfl
 | some y =>
  obtain ⟨l0, rfl⟩:=List.getLast?_eq_some_iff.1 hl
  have h1:=h.sst
  unfold Sst at h1
  rw [List.pairwise_append] at h1
  exact decide_eq_true (h1.2.2 y (by simp) t (List.mem_cons_self ..))
theorem zj6 {α:Type} (l:List α) (t:α) (m:List α):l ++ t :: m = (l ++ [t]) ++ m:=by simp
theorem zs9 {bs rest:List Nat}:∀ {m l:List U} {R:Rd}, R.err = 0 → SOK (l ++ m) → bs.drop R.at_ = m.flatMap tupB ++ rest → zd3 bs m.length l R = ((l ++ m, ⟨R.at_ + (m.flatMap tupB).length, R.bad, 0⟩), (0, 0))
 | [], l, R, h0, _, _ => by
  obtain ⟨a, b, e⟩:=R
  cases h0
  rw [List.append_nil]
  rfl
 | t :: m, l, R, h0, hs, hd => by
  have e1:(t :: m).flatMap tupB = tupB t ++ m.flatMap tupB:=rfl
  rw [e1, List.append_assoc] at hd
  have ht:tE t = 0:=hs.ok t (by simp)
  have h1:=z11 h0 ht hd
  rw [List.length_cons]
  unfold zd3
  rw [h1]
  dsimp only
  rw [if_neg (fun h => h rfl), if_neg (fun h => h ht), zzd hs, if_neg (by decide)]
  have hs2:=hs
  rw [zj6] at hs2
  rw [zs9 (R:=⟨R.at_ + (tupB t).length, R.bad, 0⟩) rfl hs2 (zhy hd), e1, List.length_append, zj6 l t m, Nat.add_assoc]
theorem zpx {bs:List Nat}:∀ {m l:List U} {R:Rd} {k:Nat}, R.err = 0 → SOK (l ++ m) → bs.drop R.at_ = (m.flatMap tupB).take k → k < (m.flatMap tupB).length → R.at_ + k = bs.length → (zd3 bs m.length l R).2 = ((bs.length:Int), 17)
 | [], l, R, k, _, _, _, hk, _ => absurd hk (Nat.not_lt_zero _)
 | t :: m, l, R, k, h0, hs, hd, hk, ha => by
  have e1:(t :: m).flatMap tupB = tupB t ++ m.flatMap tupB:=rfl
  rw [e1, List.take_append] at hd
  rw [e1, List.length_append] at hk
  have ht:tE t = 0:=hs.ok t (by simp)
  rw [List.length_cons]
  unfold zd3
  by_cases hc:k < (tupB t).length
  ·rw [Nat.sub_eq_zero_of_le (Nat.le_of_lt hc), List.take_zero, List.append_nil] at hd
   obtain ⟨h1, h2⟩:=z27 h0 ht hd hc ha
   rw [if_pos (by rw [h2]; decide), h1, h2]
  ·rw [List.take_of_length_le (by omega)] at hd
   have h1:=z11 h0 ht hd
   rw [h1]
   dsimp only
   rw [if_neg (fun h => h rfl), if_neg (fun h => h ht), zzd hs, if_neg (by decide)]
   have hs2:=hs
   rw [zj6] at hs2
   exact zpx (R:=⟨R.at_ + (tupB t).length, R.bad, 0⟩) rfl hs2 (zhy hd) (by omega) (by dsimp only; omega)
theorem zpz {bs:List Nat}:∀ {k:Nat} {l:List U} {R:Rd}, (∀ t ∈ l, tE t = 0) → (∀ t ∈ (zd3 bs k l R).1.1, tE t = 0) ∧ (zd3 bs k l R).1.1.length ≤ l.length + k
 | 0, l, R, h => ⟨h, Nat.le_refl _⟩
 | k + 1, l, R, h => by
  unfold zd3
  split
  ·exact ⟨h, by dsimp only; omega⟩
  ·split
   ·exact ⟨h, by dsimp only; omega⟩
   ·split
    ·exact ⟨h, by dsimp only; omega⟩
    ·rename_i he _
     obtain ⟨h1, h2⟩:=zpz (bs:=bs) (k:=k) (l:=l ++ [(zea bs R).1]) (R:=(zea bs R).2) (fun t ht => by
      rcases List.mem_append.1 ht with h3 | h3
      ·exact h t h3
      ·rw [List.mem_singleton] at h3
       subst h3
       exact Decidable.not_not.1 he)
     rw [List.length_append, List.length_singleton] at h2
     exact ⟨h1, by omega⟩
theorem zpy {bs:List Nat} (hb:∀ b ∈ bs, b ≤ 255):∀ {k:Nat} {l:List U} {R:Rd}, R.err = 0 → R.at_ ≤ bs.length → (zd3 bs k l R).2.2 = 0 →
  ∃ m R2, zd3 bs k l R = ((l ++ m, R2), (0, 0)) ∧ m.length = k ∧ bs.drop R.at_ = m.flatMap tupB ++ bs.drop R2.at_ ∧ R2.err = 0 ∧ R2.at_ ≤ bs.length
 | 0, l, R, h0, ha, _ => ⟨[], R, by rw [List.append_nil]; rfl, rfl, rfl, h0, ha⟩
 | k + 1, l, R, h0, ha, h => by
  unfold zd3 at h ⊢
  by_cases h1:(zea bs R).2.err ≠ 0
  ·rw [if_pos h1] at h; exact absurd h h1
  ·rw [if_neg h1] at h ⊢
   by_cases h2:tE (zea bs R).1 ≠ 0
   ·rw [if_pos h2] at h; exact absurd h (show (6:Int) ≠ 0 by decide)
   ·rw [if_neg h2] at h ⊢
    by_cases h3:zoz l (zea bs R).1 = false
    ·rw [if_pos h3] at h; exact absurd h (show (18:Int) ≠ 0 by decide)
    ·rw [if_neg h3] at h ⊢
     have h10:(zea bs R).2.err = 0:=Decidable.not_not.1 h1
     obtain ⟨m, R2, e1, e2, e3, e4, e5⟩:=zpy hb h10 (znf ha) h
     refine ⟨(zea bs R).1 :: m, R2, by rw [e1, zj6 l _ m], by rw [List.length_cons, e2], ?_, e4, e5⟩
     rw [z28 hb ha h10, e3, List.flatMap_cons, List.append_assoc]
theorem znn {l:List U} (h:l.length < 128):zfp l = l.length :: l.flatMap tupB:=by unfold zfp; rw [zcq h]; rfl
theorem z06 {bs:List Nat} {R:Rd} (h0:R.err = 0) (ha:¬ R.at_ < bs.length):zgp bs R = (R.bad, 0):=by unfold zgp; rw [if_neg (fun h => ha h.2), h0]
theorem z3h {l:List U} (hs:SOK l) (hl:l.length < 128):zek (zfp l) = (l, 0, 0):=by
 have e:=znn hl
 generalize zfp l = bs at *
 have hd:bs.drop 0 = l.length :: l.flatMap tupB:=e
 obtain ⟨h1, h2⟩:=zhz hd
 have hn:=zqm (R:=⟨0, 0, 0⟩) (lim:=4096) rfl (zn3 h1 hl) rfl (by omega) (by decide)
 have hw:=zs9 (bs:=bs) (rest:=[]) (m:=l) (l:=[]) (R:=⟨0 + 1, 0, 0⟩) rfl hs (by rw [List.append_nil]; exact h2)
 have hlen:bs.length = (l.flatMap tupB).length + 1:=by rw [e]; rfl
 have he:=z06 (bs:=bs) (R:=⟨0 + 1 + (l.flatMap tupB).length, 0, 0⟩) rfl (by dsimp only; omega)
 unfold zek
 rw [hn]
 dsimp only
 rw [if_neg (fun h => h rfl), Int.toNat_natCast, hw]
 dsimp only
 rw [if_neg (fun h => h rfl), he, if_neg (fun h => h rfl)]
 rfl
theorem z0d {l:List U} (hs:SOK l) (hl:l.length < 128) {k:Nat} (hk:k < (zfp l).length):zek ((zfp l).take k) = ([], (k:Int), 17):=by
 have e:=znn hl
 have hlen:((zfp l).take k).length = k:=by rw [List.length_take]; omega
 have hd:((zfp l).take k).drop 0 = (l.length :: l.flatMap tupB).take k:=by rw [e]; rfl
 rw [e, List.length_cons] at hk
 generalize (zfp l).take k = bs at *
 have h17:(17:Int) ≠ 0:=by decide
 unfold zek
 cases k with
 | zero =>
  have h1:bs[0]? = none:=List.getElem?_eq_none (by omega)
  have hn:=zyk (R:=⟨0, 0, 0⟩) (lim:=4096) rfl (ztk h1 rfl) h17
  rw [hn]
  dsimp only
  rw [if_pos h17, hlen]
 | succ k =>
  rw [List.take_succ_cons] at hd
  obtain ⟨h1, h2⟩:=zhz hd
  have hn:=zqm (R:=⟨0, 0, 0⟩) (lim:=4096) rfl (zn3 h1 hl) rfl (by omega) (by decide)
  have hw:=zpx (bs:=bs) (m:=l) (l:=[]) (R:=⟨0 + 1, 0, 0⟩) rfl hs h2 (by omega) (by dsimp only; omega)
  rw [hn]
  dsimp only
  rw [if_neg (fun h => h rfl), Int.toNat_natCast, hw]
  dsimp only
  rw [if_pos h17, hlen]
theorem zw1 {bs:List Nat}:(∀ t ∈ (zek bs).1, tE t = 0) ∧ (zek bs).1.length ≤ 4096:=by
 unfold zek
 split
 ·exact ⟨(fun _ h => by cases h), Nat.zero_le _⟩
 ·rename_i h0
  have h00:=Decidable.not_not.1 h0
  obtain ⟨n, h1, h2⟩:=zjy (bs:=bs) (lim:=4096) (R:=⟨0, 0, 0⟩) (by decide) h00
  split
  ·exact ⟨(fun _ h => by cases h), Nat.zero_le _⟩
  ·split
   ·exact ⟨(fun _ h => by cases h), Nat.zero_le _⟩
   ·obtain ⟨g1, g2⟩:=zpz (bs:=bs) (k:=(zbp bs 4096 ⟨0, 0, 0⟩).1.toNat) (l:=[]) (R:=(zbp bs 4096 ⟨0, 0, 0⟩).2) (fun _ h => by cases h)
    refine ⟨g1, Nat.le_trans g2 ?_⟩
    rw [h1, Int.toNat_natCast]
    simpa using h2
theorem z0e {bs:List Nat} (hb:∀ b ∈ bs, b ≤ 255) (h:(zek bs).2.2 = 0):zfp (zek bs).1 = bs:=by
 unfold zek at h ⊢
 by_cases h0:(zbp bs 4096 ⟨0, 0, 0⟩).2.err ≠ 0
 ·rw [if_pos h0] at h; exact absurd h h0
 ·rw [if_neg h0] at h ⊢
  obtain ⟨_, n, hn, e1, e2⟩:=zyl hb (by decide) (Decidable.not_not.1 h0)
  have ha:=zle (bs:=bs) (lim:=4096) (R:=⟨0, 0, 0⟩) (Nat.zero_le _)
  rw [e1] at h ha ⊢
  dsimp only at h ha ⊢
  rw [Int.toNat_natCast] at h ⊢
  by_cases h1:(zd3 bs n [] ⟨0 + (zb2 n).length, 0, 0⟩).2.2 ≠ 0
  ·rw [if_pos h1] at h; exact absurd h h1
  ·rw [if_neg h1] at h ⊢
   obtain ⟨m, R2, g1, g2, g3, g4, g5⟩:=zpy hb rfl ha (Decidable.not_not.1 h1)
   rw [g1] at h ⊢
   dsimp only at h ⊢
   by_cases h2:(zgp bs R2).2 ≠ 0
   ·rw [if_pos h2] at h; exact absurd h h2
   ·rw [if_neg h2]
    dsimp only
    have h3:¬ R2.at_ < bs.length:=fun h3 => by
     unfold zgp at h2
     rw [if_pos ⟨g4, h3⟩] at h2
     exact h2 (show (5:Int) ≠ 0 by decide)
    have hnil:bs.drop R2.at_ = []:=List.drop_eq_nil_of_le (by omega)
    dsimp only at g3
    rw [hnil, List.append_nil] at g3
    have e3:bs = zb2 n ++ bs.drop (0 + (zb2 n).length):=e2
    unfold zfp
    rw [List.nil_append, g2, ← g3]
    exact e3.symm
end Go.V.L11
set_option maxRecDepth 20000
namespace Go.V.L8
open Go.Proofs Go.RowKit Go.V Go.V.L2 Go.V.L3 Go.V.L6
attribute [local irreducible] V N X VO Par StepOK Has Ret RetL RetO RetT Src
end Go.V.L8
set_option maxRecDepth 20000
namespace Go.V.L10
open Go.Proofs Go.RowKit Go.V Go.V.L2 Go.V.L8 Go.V.L6
structure OO where
 wh:Nat
 ms:List C3
 cs:List C3
 rv:Nat
 kp:Int
def OO.rev (o:OO):Int:=if o.rv = 255 then 18446744073709551615 else (o.rv:Int)
end Go.V.L10
set_option maxRecDepth 20000
namespace Go.V.L10
open Go.Proofs Go.RowKit Go.V Go.V.L2 Go.V.L8 Go.V.L6
theorem zmz {α:Type}:∀ {l:List α} {j:Nat} {x:α}, l[j]? = some x → (x :: l.eraseIdx j).Perm l
 | [], _, _, h => by cases h
 | y :: l, 0, x, h => by cases h; exact List.Perm.refl _
 | y :: l, j + 1, x, h => by
  have:=zmz (l:=l) (j:=j) (x:=x) (by simpa using h)
  exact (List.Perm.swap y x _).trans (this.cons y)
theorem zym {left:Ent} {j:Nat} {p:Int × (List U × Value)} (h:left[j]? = some p) (out:List Int):(out ++ [p.1] ++ (left.eraseIdx j).map Prod.fst).Perm (out ++ left.map Prod.fst):=by
 have h1:(p :: left.eraseIdx j).Perm left:=zmz h
 rw [List.append_assoc]
 refine List.Perm.append_left out ?_
 simpa using h1.map Prod.fst
attribute [local irreducible] V N X VO Par StepOK Has Ret RetL RetO RetT zbd RetX RetY Src
abbrev z7c (R:List (Option (List U))):Res:=SlE z4w 1 (zhq R).length ((zhq R).map (Value.int .u64))
end Go.V.L10
set_option maxRecDepth 20000
namespace Go.V.L10
open Go.Proofs Go.RowKit Go.V Go.V.L2 Go.V.L8 Go.V.L6
theorem zz5 (S:Sto):zh7 fun (x:Nat × Value × Ent) (H:Heap) => MapOK x.2.2 S.R ∧ EsV x.2.2 H ∧ PsV (zdw S.P) x.2.1 H:=fun _ _ _ ⟨h1, h2, h3⟩ hle => ⟨h1, h2.le hle, h3.le hle⟩
abbrev StG (b:Nat) (S:Sto):GR:=GEx (fun x:Nat × Value × Ent => StO b S.R.length x.1 x.2.1 S.P.length x.2.2) (fun x H => MapOK x.2.2 S.R ∧ EsV x.2.2 H ∧ PsV (zdw S.P) x.2.1 H) (zz5 S)
theorem z5f {S:Sto} {b m:Nat} {s:Value} {es:Ent} {B:Heap} (hm:MapOK es S.R) (hes:EsV es B) (hps:PsV (zdw S.P) s B):∀ (v:Value) H u C, B.Le H → (StO b S.R.length m s S.P.length es).res.P v H u C → (StG b S).res.P v H u C:=fun _ _ _ _ hle h => ⟨(m, s, es), ⟨hm, hes.le hle, hps.le hle⟩, h⟩
attribute [local irreducible] V N X VO Par StepOK Has Ret RetL RetO RetT zbd RetX RetY Src
end Go.V.L10
set_option maxRecDepth 20000
namespace Go.V.L10
open Go.Proofs Go.RowKit Go.V
theorem z5o {φ:Value → Heap → Prop} {a tv:Value} {H:Heap} (h:φ tv H):TupS [φ, fun v _ => v = a] (.tuple #[tv, a]) H:=by
 refine ⟨[tv, a], rfl, rfl, fun i φ' x hi hx => ?_⟩
 rcases i with _ | _ | i
 ·cases hi; cases hx; exact h
 ·cases hi; cases hx; rfl
 ·cases hi
theorem zw6 {φ:Value → Heap → Prop} {a:Value} (h:Kn.mono (.sat φ)):Kn.mono (.sat (TupS [φ, fun v _ => v = a])):=TupS.mono fun ψ hψ => by
 simp only [List.mem_cons, List.mem_nil_iff, or_false] at hψ
 rcases hψ with rfl | rfl
 ·exact h
 ·exact fun _ _ _ h _ => h
attribute [local irreducible] V N X VO Par StepOK Has Ret RetL RetO RetT zbd RetX Src
end Go.V.L10
set_option maxRecDepth 20000
namespace Go.V.L10
open Go.Proofs Go.RowKit Go.V Go.V.L2 Go.V.L8 Go.V.L6
attribute [local irreducible] V N X VO Par StepOK Has Ret RetL RetO RetT zbd RetX RetY Src
end Go.V.L10
set_option maxRecDepth 20000
namespace Go.V.L10
open Go.Proofs Go.RowKit Go.V Go.V.L2 Go.V.L8 Go.V.L6
abbrev z18 (b:Nat):Value:=.pointer (some ⟨b, 0, none⟩)
abbrev z8o (S:Sto):Res:=z1u z18 fun b => StG b S
theorem zyc {Y:Type}:MapOK ([]:List (Int × (List U × Y))) []:=⟨List.nodup_nil, fun r => by
 cases h:kpt ([]:List (Option (List U))) r with
 | none => rfl
 | some t => have:=zyp (R:=[]) (r:=r) (by rw [h]; rfl); simp at this; omega⟩
theorem zyd:MapOK [((1:Int), (([]:List U), nilSet))] newS.R:=by
 have h:=(zyc (Y:=Value)).add [] nilSet
 have h2:=h.1
 rw [h.2] at h2
 exact h2
attribute [local irreducible] V N X VO Par StepOK Has Ret RetL RetO RetT zbd RetX RetY Src
set_option maxHeartbeats 2000000 in
set_option maxRecDepth 20000 in
theorem zz8 {w:World} {B:Heap} (hB:B.Le (hp w)):RetO Tryz.prog 42 [] w B (z8o newS):=by
 refine zcd Tryz.func42 rfl Tryz.ntmps42 (Nat.le_of_ble_eq_true rfl) hB ?_
 refine Zac ?_;refine z7 (zr0 (hint:=none) .u64 vcE rfl rfl) rfl ?_;refine zv1 1 901 rfl fun m => ?_;refine ZbK ?_;refine ym (zu4 (q:=901) (vc:=vcE) 1 ([], nilSet) mpS kyS rfl rfl rfl rfl rfl rfl rfl) ?_;refine Za ?_;refine z7 (y8 (cs:=[_, _, _, _]) rfl rfl z7z rfl rfl) rfl ?_;refine ZcB ?_;refine qe (yh (.inr rfl) rfl rfl rfl rfl) ?_;refine Z6 ?_
 refine zax 0 900 rfl fun b => ?_
 refine zbw 900 901 rfl rfl (zag (z8q m .u64 vcE [((1:Int), (([]:List U), nilSet))])) ?_
 refine z4m 900 (StG b newS).res rfl (fun v H u C hle h => z5f (S:=newS) (s:=.slice none 0 0) (m:=m) (B:=B) zyd (fun e he => by rw [List.mem_singleton.1 he]; exact SetV.nil) SlV.nil v H u C hle h) ?_
 refine z1o 0 900 z18 (fun b => StG b newS) b rfl rfl ?_
 exact zfq rfl (fun _ _ h => h) Since.refl rfl
end Go.V.L10
set_option maxRecDepth 20000
namespace Go.V.L10
open Go.Proofs Go.RowKit Go.V Go.V.L2 Go.V.L8 Go.V.L6
def z9r (rs:List Int):Prop:=(0 :: rs).Pairwise (· < ·)
instance (rs:List Int):Decidable (z9r rs):=inferInstanceAs (Decidable ((0 :: rs).Pairwise (· < ·)))
attribute [local irreducible] V N X VO Par StepOK Has Ret RetL RetO RetT zbd RetX RetY Src
end Go.V.L10
set_option maxRecDepth 20000
namespace Go.V.L10
open Go.Proofs Go.RowKit Go.V Go.V.L2 Go.V.L8 Go.V.L6
attribute [local irreducible] V N X VO Par StepOK Has Ret RetL RetO RetT zbd RetX RetY Src
abbrev tyPS:TypeId:=71
end Go.V.L10
set_option maxRecDepth 20000
namespace Go.V.L10
open Go.Proofs Go.RowKit Go.V Go.V.L2 Go.V.L8 Go.V.L6
abbrev tyRr:TypeId:=221
attribute [local irreducible] V N X VO Par StepOK Has Ret RetL RetO RetT zbd RetX RetY Src
end Go.V.L10
set_option maxRecDepth 20000
namespace Go.V.L10
open Go.Proofs Go.RowKit Go.V Go.V.L2 Go.V.L8 Go.V.L6
theorem tup3 {φ:Value → Heap → Prop} {a b v:Value} {H:Heap} (h:φ v H):TupS [φ, fun v _ => v = a, fun v _ => v = b] (.tuple #[v, a, b]) H:=by
 refine ⟨[v, a, b], rfl, rfl, fun i ψ x hi hx => ?_⟩
 rcases i with _ | _ | _ | i
 ·cases hi; cases hx; exact h
 ·cases hi; cases hx; rfl
 ·cases hi; cases hx; rfl
 ·cases hi
attribute [local irreducible] V N X VO Par StepOK Has Ret RetL RetO RetT zbd RetX RetY Src
end Go.V.L10
set_option maxRecDepth 20000
namespace Go.V.L10
open Go.Proofs Go.RowKit Go.V Go.V.L2 Go.V.L8 Go.V.L6
attribute [local irreducible] V N X VO Par StepOK Has Ret RetL RetO RetT zbd RetX RetY Src
end Go.V.L10
set_option maxRecDepth 20000
namespace Go.V.L10
open Go.Proofs Go.RowKit Go.V Go.V.L2 Go.V.L8 Go.V.L6
structure OOK (o:OO):Prop where
 wh:o.wh ≤ 255
 rv:o.rv ≤ 255
 ms:∀ c ∈ o.ms, c.1 ≤ 255 ∧ c.2.1 ≤ 255 ∧ c.2.2 ≤ 255
 cs:∀ c ∈ o.cs, c.1 ≤ 255 ∧ c.2.1 ≤ 255 ∧ c.2.2 ≤ 255
 lm:o.ms.length ≤ 9223372036854775807
 lc:o.cs.length ≤ 9223372036854775807
attribute [local irreducible] V N X VO Par StepOK Has Ret RetL RetO RetT zbd RetX RetY Src
theorem rev_ret {o:OO} (ho:OOK o) {mv cv:Value} (hp1:zdv mv = true) (hp2:zdv cv = true) {w:World} {B:Heap} (hB:B.Le (hp w)) :
  Ret Tryz.prog 185 [.agg #[.int .u8 o.wh, mv, cv, .int .u8 o.rv, .int .i64 o.kp]] w B (fun v _ => v = .int .u64 o.rev):=by
 have hrv:=ho.rv
 unfold OO.rev
 refine qu Tryz.func185 rfl Tryz.ntmps185 (Nat.le_of_ble_eq_true rfl) hB ?_
 by_cases h:o.rv = 255
 ·rw [if_pos h]
  refine Zbf ?_;refine Zm ?_;refine ZJ ?_;refine Zdb ?_
  refine qt L (rs:=[.tmp 2]) rfl (fun _ _ h => h) Since.refl fun u H hH hle => ?_
  rfl
 ·rw [if_neg h]
  have hwu:IntKind.u64.wrap (o.rv:Int) = (o.rv:Int):=zal (by omega) (by omega)
  refine Zbf ?_;refine Zm ?_;refine ZbW ?_;refine Zc7 ?_;refine z7 (za0 rfl rfl rfl zdi.1 zdi.2 (zal (by omega) (by omega))) rfl ?_;refine Zb ?_
  refine qt L (rs:=[.tmp 2]) rfl (fun _ _ h => h) Since.refl fun u H hH hle => ?_
  rfl
end Go.V.L10
set_option maxRecDepth 20000
namespace Go.V.L10
open Go.Proofs Go.RowKit Go.V Go.V.L2 Go.V.L8 Go.V.L6
attribute [local irreducible] V N X VO Par StepOK Has Ret RetL RetO RetT zbd RetX RetY Src
end Go.V.L10
set_option maxRecDepth 20000
namespace Go.V.L10
open Go.Proofs Go.RowKit Go.V Go.V.L2 Go.V.L8 Go.V.L6
attribute [local irreducible] V N X VO Par StepOK Has Ret RetL RetO RetT zbd RetX RetY Src
end Go.V.L10
set_option maxRecDepth 20000
namespace Go.V.L10
open Go.Proofs Go.RowKit Go.V Go.V.L2 Go.V.L8 Go.V.L6
theorem z3g {S:Sto} {b:Nat} {r:Int} (hn:S.R.length ≠ 0) {w:World} {B:Heap} {C:Nat → Prop} (hB:B.Le (hp w)) (hr:(StG b S).P B w C) (hC:∀ k, C k → k < w.heap.size ∧ B k = none) :
  RetY Tryz.prog 87 [z18 b, .int .u64 r] w B C (StG b S) (WithP (atS S r).1 (atS S r).2) :=
 RetY.ex hr fun _ ⟨hm, hes, _⟩ hr => zwk hm hn hes hB hr hC
abbrev PinsP (P0:List Int):Value → Heap → Prop:=fun v H => ∃ s, v = pnv s P0.length ∧ PsV (zdw P0) s H
theorem PinsP.mono {P0:List Int}:Kn.mono (.sat (PinsP P0)):=fun _ _ _ ⟨s, h1, h2⟩ hle => ⟨s, h1, h2.le hle⟩
attribute [local irreducible] V N X VO Par StepOK Has Ret RetL RetO RetT zbd RetX RetY Src
theorem zwp {S:Sto} {b:Nat} (hn:S.R.length ≠ 0) {w:World} {B:Heap} {C:Nat → Prop} (hB:B.Le (hp w)) (hr:(StG b S).P B w C) (hC:∀ k, C k → k < w.heap.size ∧ B k = none) :
  RetY Tryz.prog 43 [z18 b] w B C (StG b S) (PinsP S.P):=by
 refine RetY.ex hr fun x hφ hr => ?_
 obtain ⟨m, s, es⟩:=x
 obtain ⟨hm, hes, hps⟩:=hφ
 dsimp only at hm hes hps hr ⊢
 obtain ⟨p, c, rfl⟩:=zbt hps
 unfold RetY
 refine zaf 900 (StO b S.R.length m _ S.P.length es) Tryz.func43 rfl Tryz.ntmps43 (Nat.le_of_ble_eq_true rfl) hB hr hC ?_
 rw [zrm]
 refine zc7 900 901 rfl (zag _) ?_
 refine ZaC ?_;refine Za0 ?_;refine ZbD ?_;refine qy (zcj L 900 (Φ:=fun H => H b = some (.cells (stc S.R.length m (.slice p (zdw S.P).length c) S.P.length).toArray tyS)) (c:=.bool false) rfl rfl (zn rfl) rfl rfl rfl rfl rfl zmw (fun u H hH hle hb => none_ret hn hb hH)) ?_;refine Zdy ?_;refine ZK ?_;refine qy (zf5 L (q:=900) (vs:=[_, _]) rfl rfl rfl rfl rfl rfl ⟨_, rfl⟩) ?_;refine Z1 ?_
 refine ZeU ?_
 exact zm5 L 900 (r:=StO b S.R.length m (.slice p (zdw S.P).length c) S.P.length es) (rs:=[.cell 2 112]) rfl (fun _ _ h => h) Since.refl rfl rfl (fun H hle => ⟨_, qg rfl, rfl, _, rfl, hps.le hle⟩)
abbrev s1:Sto:=⟨[some [], some [d0]], []⟩
abbrev s2:Sto:=⟨[some [], some [d0], some [d2]], []⟩
abbrev s3:Sto:=⟨[some [], some [d0], some [d2]], [2]⟩
abbrev s4:Sto:=⟨[none, some [d0], some [d2]], [2]⟩
abbrev s5:Sto:=⟨[none, some [d0], some [d2], some [d2]], [2]⟩
abbrev s6:Sto:=⟨[none, some [d0], some [d2], some [d2]], []⟩
end Go.V.L10
set_option maxRecDepth 20000
namespace Go.V.L10
open Go.Proofs Go.RowKit Go.V Go.V.L2 Go.V.L8 Go.V.L6
attribute [local irreducible] V N X VO Par StepOK Has Ret RetL RetO RetT zbd RetX RetY Src
set_option maxRecDepth 20000 in
theorem insE_ret {p:Option Addr} {c:Nat} {w:World} {B:Heap} (hB:B.Le (hp w)):Ret Tryz.prog 269 [.slice p 1 c, .int .i64 0, .int .i64 1] w B (fun _ _ => True):=by
 refine qu Tryz.func269 rfl Tryz.ntmps269 (Nat.le_of_ble_eq_true rfl) hB ?_
 refine ZC ?_;refine Za ?_;refine Zeg ?_;refine ZW ?_
 refine zao (fun _:Nat => [(2, .is (.int .i64 1)), (6, .is (.int .i64 1))]) (fun _ => True) (fun s => s) 0 trivial ⟨rfl, rfl, trivial⟩ ?_
 rintro s _
 refine Zh ?_;refine Zx ?_;refine Zc ?_;refine Zo ?_;refine Zat ?_;refine Zdr ?_
 exact zq5 L rfl (fun _ _ h => h) Since.refl
set_option maxRecDepth 20000 in
theorem z0k {p:Option Addr} {c:Nat} {n:Int} {w:World} {B:Heap} (hB:B.Le (hp w)):Ret Tryz.prog 223 [.slice p 1 c, .int .i64 0, .int .i64 1, .int .i64 n] w B (fun _ _ => True):=by
 refine qu Tryz.func223 rfl Tryz.ntmps223 (Nat.le_of_ble_eq_true rfl) hB ?_
 refine Zac ?_;refine ZW ?_
 refine zao (fun _:Nat => [(0, .is (.slice p 1 c)), (1, .is (.int .i64 0)), (2, .is (.int .i64 1))]) (fun _ => True) (fun s => s) 0 trivial ⟨rfl, rfl, rfl, trivial⟩ ?_
 rintro s _
 have hw1:IntKind.i64.wrap (1 - 0) = 1:=by decide
 refine ZaI ?_;refine Zdh ?_;refine ZaE ?_;refine Zg ?_;refine Zs ?_;refine Zco ?_;refine Zt ?_;refine Zr ?_;refine ZF ?_;refine z7 (yk (φ:=fun _ _ => True) L rfl rfl (zn rfl) rfl rfl rfl (fun _ _ _ _ _ => trivial) (fun u H hH _ _ => insE_ret hH)) rfl ?_;refine Z6 ?_
 refine qt L (rs:=[]) rfl (fun _ _ h => h) Since.refl fun u H hH hle => ?_
 trivial
set_option maxRecDepth 20000 in
theorem zwq {p:Option Addr} {c:Nat} {w:World} {B:Heap} (hB:B.Le (hp w)):Ret Tryz.prog 154 [.slice p 1 c] w B (fun _ _ => True):=by
 have hc:IntKind.u64.wrap ((1:Nat):Int) = ((1:Nat):Int):=by decide
 refine qu Tryz.func154 rfl Tryz.ntmps154 (Nat.le_of_ble_eq_true rfl) hB ?_
 refine ZC ?_;refine Za ?_;refine Zcj ?_;refine Zb ?_;refine Zx ?_;refine ZF ?_;refine z7 (za0 rfl rfl rfl ziv.1 ziv.2 (zal (by omega) (by omega))) rfl ?_;refine z7 (q0 L rfl rfl (zn rfl) rfl rfl rfl (fun u H hH _ _ => So.bitslen_ret (n:=1) (by omega) hH)) rfl ?_;refine z7 (yk (φ:=fun _ _ => True) L rfl rfl (zn rfl) rfl rfl rfl (fun _ _ _ _ _ => trivial) (fun u H hH _ _ => z0k hH)) rfl ?_;refine zk ?_
 exact zq5 L rfl (fun _ _ h => h) Since.refl
set_option maxHeartbeats 2000000 in
set_option maxRecDepth 10000 in
theorem zyr {x:Int} {R:List (Option (List U))} {b m t:Nat} {s:Value} {es:Ent} (hk:zhq R = [x]) (hm:MapOK es R) (hn:R.length ≠ 0) {w:World} {B:Heap} {C:Nat → Prop} (hB:B.Le (hp w)) (hr:(StO b R.length m s t es).P B w C) (hC:∀ k, C k → k < w.heap.size ∧ B k = none) :
  RetT Tryz.prog 85 [.pointer (some ⟨b, 0, none⟩)] w B C (zh8 (z7c R) (StO b R.length m s t es).res):=by
 have hlen:=hm.len
 have he1:es.length = 1:=by rw [hlen, hk]; rfl
 have hz:es.length ≤ 100000:=by omega
 rw [show z7c R = SlE z4w 1 es.length ((zhq R).map (Value.int .u64)) by rw [hlen]]
 unfold RetT
 refine zaf 900 (StO b R.length m s t es) Tryz.func85 rfl Tryz.ntmps85 (Nat.le_of_ble_eq_true rfl) hB hr hC ?_
 rw [zrm]
 refine zc7 900 901 rfl (zag _) ?_
 refine ZaL ?_;refine qy (zcj L 900 (Φ:=fun H => H b = some (.cells (stc R.length m s t).toArray tyS)) (c:=.bool false) rfl rfl (zn rfl) rfl rfl rfl rfl rfl zmw (fun u H hH hle hb => none_ret hn hb hH)) ?_;refine Zdy ?_;refine ZaP ?_;refine qy (z3t (q:=901) (vc:=vcE) mpS rfl rfl rfl rfl rfl) ?_;refine z7 (zxp L es.length rfl rfl rfl z8d rfl rfl rfl (by omega) (by unfold maxLen; omega)) rfl ?_;refine qe (yh (.inr rfl) rfl rfl rfl rfl) ?_;refine Za0 ?_
 refine z1q 3 902 rfl fun b3 rest0 _ _ hcm hcl0 => ?_
 refine ZfU ?_;refine qe (zxm (q:=901) (vc:=vcE) mpS rfl rfl rfl rfl) ?_;refine Zcg ?_
 refine zao (fun T:(List Int × List Value) × Ent => [(3, .is (.slice (some ⟨b3, 0, none⟩) T.1.1.length es.length)), (17, .own (z1t m .u64 vcE es T.2)), (900, .own (zaj b (stc R.length m s t) tyS)), (902, .own (zaj b3 (T.1.1.map (Value.int .u64) ++ T.1.2) z4w))])
  (fun T => (T.1.1 ++ T.2.map Prod.fst).Perm (es.map Prod.fst) ∧ (T.1.1.map (Value.int .u64) ++ T.1.2).length = es.length * 1) (fun T => T.2.length) (([], rest0), es) ⟨List.Perm.refl _, hcl0⟩ ⟨rfl, rfl, rfl, rfl, trivial⟩ ?_
 rintro ⟨⟨out, rest⟩, left⟩ ⟨hp, hcl⟩
 dsimp only at hp hcl ⊢
 have hpl:=hp.length_eq
 rw [List.length_append, List.length_map, List.length_map] at hpl
 by_cases hl:left = []
 ·subst hl
  rw [List.map_nil, List.append_nil] at hp
  have hol:out.length = es.length:=by simpa using hpl
  have hr0:rest = []:=List.eq_nil_of_length_eq_zero (by rw [List.length_append, List.length_map] at hcl; omega)
  subst hr0
  rw [hol]
  have hko:zhq R = out:=by
   obtain ⟨y, hy⟩:=List.length_eq_one_iff.1 (hol.trans he1)
   have h1:y ∈ es.map Prod.fst:=(hp.mem_iff).1 (by rw [hy]; exact List.mem_cons_self ..)
   have h2:=(hm.mem).1 h1
   rw [hk, List.mem_singleton] at h2
   rw [hk, hy, h2]
  rw [he1]
  refine Zau ?_;refine z7 (zxn rfl rfl rfl rfl rfl) rfl ?_;refine ZeN ?_;refine Zgf ?_;refine ZfQ ?_
  refine z67 17 901 rfl ?_
  refine ZaA ?_;refine z7 (yk (φ:=fun _ _ => True) L rfl rfl (zn rfl) rfl rfl rfl (fun _ _ _ _ _ => trivial) (fun u H hH _ _ => zwq hH)) rfl ?_;refine Zj ?_
  rw [List.append_nil, hko]
  refine z2p (s:=1) 3 902 rfl rfl (by rw [List.length_map, hol, he1]) (by decide) ?_
  refine Z3 ?_;refine qe (yh (.inl rfl) rfl rfl rfl rfl) ?_;refine qe (yh (.inr rfl) rfl rfl rfl rfl) ?_;refine Z6 ?_
  refine ZeU ?_
  refine zbw 2 900 rfl rfl (zag (StO b R.length m s t es)) ?_
  exact z63 rfl (fun _ _ h => h) Since.refl rfl
 ·have hll:0 < left.length:=List.length_pos_iff.2 hl
  have hroom:out.length + 1 ≤ es.length:=by omega
  have hrl:0 < rest.length:=by rw [List.length_append, List.length_map] at hcl; omega
  have hcl2:out.length * 1 + 1 * 1 ≤ (out.map (Value.int .u64) ++ rest).length:=by rw [hcl]; omega
  have hrr:∀ k:Int, (out.map (Value.int .u64) ++ rest).take (out.length * 1) ++ ([Value.int .u64 k] ++ (out.map (Value.int .u64) ++ rest).drop (out.length * 1 + 1 * 1)) = (out ++ [k]).map (Value.int .u64) ++ rest.drop 1:=fun k => by
   have e1:(out.map (Value.int .u64)).length = out.length * 1:=by simp
   rw [← e1, List.take_append, List.take_of_length_le (Nat.le_refl _), Nat.sub_self, List.take_zero, List.append_nil, List.drop_append, List.drop_eq_nil_of_le (by omega), List.nil_append, show (out.map (Value.int .u64)).length + 1 * 1 - (out.map (Value.int .u64)).length = 1 by omega]
   simp
  refine Zau ?_;refine zzr rfl rfl hl rfl rfl rfl (fun j p hjp => ?_); refine ZeN ?_;refine Zge ?_;refine Ze7 ?_;refine ZN ?_;refine z7 (zxq rfl rfl rfl) rfl ?_;refine ZeN ?_;refine Zb ?_;refine ZbA ?_;refine ZaV ?_;refine qe (zr3 L (q:=902) rfl rfl rfl rfl (zq1 rfl) rfl z8d (by omega) rfl hroom hcl2 rfl (hrr _)) ?_;refine ZI ?_;refine yd ?_
  refine z4s 17 (z1t m .u64 vcE es (left.eraseIdx j)) rfl z5m ?_
  exact yl (x:=((out, rest), left)) ((out ++ [p.1], rest.drop 1), left.eraseIdx j) ⟨(zym hjp out).trans hp, by
   dsimp only
   rw [List.length_append, List.length_map, List.length_append, List.length_drop]
   rw [List.length_append, List.length_map] at hcl
   simp only [List.length_cons, List.length_nil]
   omega⟩ (by dsimp only; rw [List.length_eraseIdx_of_lt (get_lt hjp)]; omega) ⟨by rw [List.length_append]; rfl, rfl, rfl, rfl, trivial⟩
theorem zuv {x:Int} {S:Sto} {b:Nat} (hk:zhq S.R = [x]) (hn:S.R.length ≠ 0) {w:World} {B:Heap} {C:Nat → Prop} (hB:B.Le (hp w)) (hr:(StG b S).P B w C) (hC:∀ k, C k → k < w.heap.size ∧ B k = none) :
  RetY Tryz.prog 85 [z18 b] w B C (StG b S) (RsV (zhq S.R) true) :=
 RetY.ex hr fun _ ⟨hm, _, _⟩ hr => (zyr hk hm hn hB hr hC).pubY ztu
end Go.V.L10
namespace Go.V.L8
open Go.Proofs Go.RowKit Go.V Go.V.L2 Go.V.L3 Go.V.L6
attribute [local irreducible] V N X VO Par StepOK Has Ret RetL RetO RetT zbd Src
set_option maxRecDepth 20000 in
theorem insE_ret {p:Option Addr} {c:Nat} {w:World} {B:Heap} (hB:B.Le (hp w)):Ret Tryz.prog 310 [.slice p 0 c, .int .i64 0, .int .i64 0, z7g] w B (fun _ _ => True):=by
 refine qu Tryz.func310 rfl Tryz.ntmps310 (Nat.le_of_ble_eq_true rfl) hB ?_
 refine ZC ?_;refine Za ?_;refine Zeg ?_;refine ZW ?_
 refine zao (fun _:Nat => [(2, .is (.int .i64 0)), (8, .is (.int .i64 1))]) (fun _ => True) (fun s => s) 0 trivial ⟨rfl, rfl, trivial⟩ ?_
 rintro s _
 refine Zh ?_;refine Zx ?_;refine Zc ?_;refine Zo ?_;refine Zat ?_;refine Zdr ?_
 exact zq5 L rfl (fun _ _ h => h) Since.refl
set_option maxRecDepth 20000 in
theorem zwl {p:Option Addr} {c:Nat} {w:World} {B:Heap} (hB:B.Le (hp w)):Ret Tryz.prog 281 [.slice p 0 c, .int .i64 0, z7g] w B (fun _ _ => True):=by
 refine qu Tryz.func281 rfl Tryz.ntmps281 (Nat.le_of_ble_eq_true rfl) hB ?_
 refine Zc9 ?_;refine Zq ?_;refine Zd ?_;refine qm ?_
 refine zao (fun _:Nat => [(0, .is (.slice p 0 c)), (1, .is (.int .i64 0)), (2, .is z7g), (6, .is (.int .i64 20)), (7, .is (.int .i64 0)), (8, .is (.int .i64 20))]) (fun _ => True) (fun s => s) 0 trivial ⟨rfl, rfl, rfl, rfl, rfl, rfl, trivial⟩ ?_
 rintro s _
 refine Zh ?_;refine Zdh ?_;refine ZdW ?_;refine Zb0 ?_;refine Zc ?_;refine Zc ?_;refine z7 (yk (φ:=fun _ _ => True) L rfl rfl (zn rfl) rfl rfl rfl (fun _ _ _ _ _ => trivial) (fun u H hH _ _ => insE_ret hH)) rfl ?_;refine Zcg ?_
 refine zao (fun _:Nat => [(1, .is (.int .i64 0)), (6, .is (.int .i64 20))]) (fun _ => True) (fun s => s) 0 trivial ⟨rfl, rfl, trivial⟩ ?_
 rintro s _
 refine Zh ?_;refine ZbA ?_;refine Zo ?_;refine Zat ?_;refine Zdr ?_
 exact zq5 L rfl (fun _ _ h => h) Since.refl
set_option maxRecDepth 20000 in
theorem zut {p:Option Addr} {c:Nat} {w:World} {B:Heap} (hB:B.Le (hp w)):Ret Tryz.prog 229 [.slice p 0 c, z7g] w B (fun _ _ => True):=by
 refine qu Tryz.func229 rfl Tryz.ntmps229 (Nat.le_of_ble_eq_true rfl) hB ?_
 refine Zef ?_;refine Zc ?_;refine Zcj ?_;refine Za ?_;refine z7 (yk (φ:=fun _ _ => True) L rfl rfl (zn rfl) rfl rfl rfl (fun _ _ _ _ _ => trivial) (fun u H hH _ _ => zwl hH)) rfl ?_;refine zk ?_
 exact zq5 L rfl (fun _ _ h => h) Since.refl
set_option maxRecDepth 20000 in
theorem zqv {v:Value} {fu:Bool} {w:World} {B:Heap} (hB:B.Le (hp w)) (hv:KS tyC [] fu v B):Ret Tryz.prog 156 [v] w B (KS tyC [] true):=by
 refine qu Tryz.func156 rfl Tryz.ntmps156 (Nat.le_of_ble_eq_true rfl) hB ?_
 refine za4 0 (KS tyC [] fu) rfl SlV.mono hv ?_
 refine Zac ?_;refine Zf ?_;refine z7 (yk (φ:=KS tyC [] false) L rfl rfl (zn rfl) rfl rfl rfl SlV.mono (fun u H hH _ _ v1 hv1 => (zvl (l:=[]) (by decide) hH hv1).toRet zob)) rfl ?_;refine Zcb ?_;refine Zy ?_;refine Zd ?_
 refine zjk 3 rfl fun s1 H1 hs1 hT1 => ?_
 obtain ⟨p1, c1, rfl⟩:=zbt hT1
 refine Zk ?_;refine Zc ?_;refine z7 (yk (φ:=fun _ _ => True) L rfl rfl (zn rfl) rfl rfl rfl (fun _ _ _ _ _ => trivial) (fun u H hH _ _ => zut hH)) rfl ?_;refine Zj ?_
 refine za4 3 (KS tyC [] false) rfl SlV.mono hT1 ?_
 refine Zr ?_;refine Zf ?_;refine z7 (zbf L (kl:=.i64) (pl:=0) 0 0 true rfl rfl rfl rfl rfl rfl ⟨rfl, rfl⟩ ⟨rfl, rfl⟩ (by decide) (by decide) rfl) rfl ?_;refine ZdJ ?_;refine Zn ?_;refine Zbt ?_
 refine zao (fun _:Nat => [(5, .sat (KS tyC [] true)), (15, .sat (KS tyC [] false)), (16, .is (.int .i64 0)), (17, .is (.int .i64 0))]) (fun _ => True) (fun s => s) 0 trivial ⟨rfl, rfl, rfl, rfl, trivial⟩ ?_
 rintro s _
 refine zj ?_;refine ZN ?_;refine Zao ?_;refine ZM ?_;refine Zf ?_;refine Zv ?_;refine Zv ?_;refine Ze3 ?_;refine ZbE ?_
 refine qt L (rs:=[.tmp 2]) rfl (fun _ _ h => h) hs1 fun u H hH hle => ?_
 exact fun v hv => hv
set_option maxRecDepth 20000 in
theorem zom {av bv:Value} {w:World} {B:Heap} (hB:B.Le (hp w)) (ha:SetV [] av B) (hb:SetV [] bv B):Ret Tryz.prog 89 [av, bv] w B (KS tyC [] true):=by
 obtain ⟨f1, p1, k1, q1, rfl, hp1⟩:=ha.shape
 obtain ⟨f2, p2, k2, q2, rfl, hp2⟩:=hb.shape
 have w1:=z32 (a:=[]) (b:=[]) (by decide) (by decide) List.Pairwise.nil List.Pairwise.nil
 have mG:Kn.mono (.sat (US ([]:List U) true)):=SlV.mono
 refine qu Tryz.func89 rfl Tryz.ntmps89 (Nat.le_of_ble_eq_true rfl) hB ?_
 refine Zaj ?_;refine Zc3 ?_;refine ZcS ?_;refine zd (yk (φ:=US [] true) L rfl rfl (zn rfl) rfl rfl rfl SlV.mono (fun u H hH hle _ => zdt (by decide) hH (ha.le hle))) rfl ?_;refine ZcS ?_;refine zd (yk (φ:=US [] true) L rfl rfl (zn rfl) rfl rfl rfl SlV.mono (fun u H hH hle _ => zdt (by decide) hH (hb.le hle))) rfl ?_;refine Zec ?_;refine Zdl ?_;refine zj ?_;refine Zy ?_;refine Zf ?_;refine Zf ?_;refine z7 (yk (φ:=LE ([], 0)) L rfl rfl (zn rfl) rfl rfl rfl LE.mono (fun u H hH _ _ v1 h1 v2 h2 => ziz w1 hH h1 h2)) rfl ?_;refine Zbo ?_;refine Zcu ?_;refine Zd ?_;refine Zk ?_;refine Zf ?_;refine Zf ?_;refine z7 (yk (φ:=LE ([], 0)) L rfl rfl (zn rfl) rfl rfl rfl LE.mono (fun u H hH _ _ v1 h1 v2 h2 => ziz w1 hH h1 h2)) rfl ?_;refine Zbo ?_;refine Zcu ?_;refine Zd ?_;refine Zr ?_;refine Zg ?_
 refine Zn ?_;refine Zbt ?_
 refine zao (fun _:Nat => [(9, .sat (US [] true)), (11, .is (.slice none 0 0)), (33, .is (.int .i64 0)), (34, .is (.int .i64 0))]) (fun _ => True) (fun s => s) 0 trivial ⟨rfl, rfl, rfl, rfl, trivial⟩ ?_
 rintro _ _
 refine zj ?_;refine ZN ?_;refine ZfS ?_;refine Zfy ?_;refine Zh ?_;refine ZX ?_;refine Zbt ?_
 refine zao (fun _:Nat => [(11, .is (.slice none 0 0)), (45, .is (.int .i64 0)), (46, .is (.int .i64 0))]) (fun _ => True) (fun s => s) 0 trivial ⟨rfl, rfl, rfl, trivial⟩ ?_
 rintro _ _
 refine zj ?_;refine ZM ?_;refine Zao ?_;refine Zcr ?_;refine z7 (yk (φ:=KS tyC [] true) L rfl rfl (zn rfl) rfl rfl rfl SlV.mono (fun u H hH _ _ => zqv (fu:=false) hH SlV.nil)) rfl ?_;refine ZbE ?_
 refine qt L (rs:=[.tmp 4]) rfl (fun _ _ h => h) Since.refl fun u H hH hle => ?_
 exact fun v hv => hv
end Go.V.L8
set_option maxRecDepth 20000
namespace Go.V.L11
open Go.Proofs Go.RowKit Go.V Go.V.L2 Go.V.L4 Go.V.L6 Go.V.L8 Go.V.L10
abbrev WithE (l:List U) (e:Int):Value → Heap → Prop:=TupS [SetV l, fun v _ => v = .int .i64 e]
theorem WithE.mono {l:List U} {e:Int}:Kn.mono (.sat (WithE l e)):=zw6 SetV.mono
theorem zo5 {l:List U} {e:Int} {v:Value} {H:Heap} (h:WithP l e v H):WithE l e v H:=by
 obtain ⟨tv, rfl, h2⟩:=h
 exact z5o h2
theorem z4k {S:Sto} {b:Nat} {r:Int} {t:List U} {e:Int} (he:atS S r = (t, e)) (hn:S.R.length ≠ 0) {w:World} {B:Heap} {C:Nat → Prop} (hB:B.Le (hp w)) (hr:(StG b S).P B w C) (hC:∀ k, C k → k < w.heap.size ∧ B k = none) :
  RetY Tryz.prog 87 [z18 b, .int .u64 r] w B C (StG b S) (WithE t e):=by
 have h:=z3g (r:=r) hn hB hr hC
 rw [he] at h
 exact RetY.mono h fun _ _ _ => zo5
theorem zyq:zhq newS.R = [1]:=by kernel_rfl
theorem z8j:atS newS 1 = ([], 0):=by kernel_rfl
attribute [local irreducible] V N X VO Par XP LV StepOK Has Ret RetL RetO RetT zbd RetX RetY Pan zjl Src
set_option maxRecDepth 20000 in
theorem zy3 {b:Nat} {w:World} {B:Heap} {C:Nat → Prop} (hB:B.Le (hp w)) (hr:(StG b newS).P B w C) (hC:∀ k, C k → k < w.heap.size ∧ B k = none) :
  RetY Tryz.prog 28 [z18 b] w B C (StG b newS) (TupS [BsV [1, 1, 0, 0] true, fun v _ => v = .int .i64 0]):=by
 unfold RetY
 refine zaf 910 (StG b newS) Tryz.func28 rfl Tryz.ntmps28 (Nat.le_of_ble_eq_true rfl) hB hr hC ?_
 refine Zar ?_;refine Zbj ?_;refine qy (zhl L 910 (RsV [1] true) (r:=StG b newS) rfl rfl rfl rfl rfl SlV.mono (fun u H2 C2 hH hle hr2 hC2 => by have h:=zuv (S:=newS) zyq (by decide) hH hr2 hC2; rw [zyq] at h; exact h)) ?_;refine ZdJ ?_;refine Zy ?_;refine Zv ?_;refine z7 (ye rfl rfl rfl rfl rfl) rfl ?_;refine ZQ ?_;refine Zr ?_;refine Zab ?_
 refine zax 5 900 rfl fun wb => ?_
 refine zg5 901 zje 1 ?_
 refine ZeV ?_
 refine zjc (X:=Value) 900 (r:=fun sv => (GWv wb [] sv).res) (φ:=fun sv _ => zq7 sv) zdf (.slice none 0 0) ⟨_, _, _, rfl⟩ rfl ?_
 refine Zn ?_;refine Zv ?_;refine z7 (za0 rfl rfl rfl zcb.1 zcb.2 rfl) rfl ?_;refine qe (zau L 900 (GWr wb [1]) (r:=GWr wb []) rfl rfl rfl rfl rfl (fun u H C hH _ hr hC => by have h:=zc1 (n:=1) (by decide) (by decide) hH hr hC; rw [zcq (by decide)] at h; exact h)) ?_;refine Zj ?_;refine ZN ?_;refine ZbK ?_;refine ZE ?_;refine Zq ?_;refine ZdG ?_;refine Z8 ?_;refine Zbt ?_
 have hcr:=z7q (l:=[1]) (i:=0) (x:=1) rfl
 refine zao (fun i:Nat => match i with
  | 0 => [(0, .is (z18 b)), (5, .is (zam wb)), (6, .is (.int .u64 0)), (7, .own (Cell [.nilFunc, .pointer none, .nilFunc, .pointer none] tySt)), (25, .sat (RsV [1] true)), (26, .is (.int .i64 1)), (27, .is (.int .i64 0)), (900, .own (GWr wb [1]).res), (910, .own (StG b newS).res)]
  | _ + 1 => [(5, .is (zam wb)), (26, .is (.int .i64 1)), (27, .is (.int .i64 1)), (900, .own (GWr wb [1, 1, 0, 0]).res), (910, .own (StG b newS).res)]) (fun i => i ≤ 1) (fun i => 1 - i) 0 (by decide) ⟨rfl, rfl, rfl, rfl, rfl, rfl, rfl, rfl, rfl, trivial⟩ ?_
 rintro i hi
 cases i with
 | succ i =>
  dsimp only
  refine zj ?_;refine Z0 ?_;refine Zao ?_;refine z8 (id:=22) ?_;refine qe (zk5 L 900 GNo (BsV [1, 1, 0, 0] true) (r:=GWr wb [1, 1, 0, 0]) rfl rfl rfl rfl rfl SlV.mono (fun u H C hH _ hr hC => ziu (zid (by decide) hH hr hC))) ?_;refine ZbT ?_;refine Zb ?_
  exact zm5 L 910 (r:=StG b newS) (rs:=[.tmp 2, .tmp 3]) rfl (fun _ _ h => h) Since.refl rfl rfl (fun H _ v hv => z5o hv)
 | zero =>
  dsimp only
  have hms:Kn.mono (.sat (SetV ([]:List U))):=SetV.mono
  have hmi:Kn.mono (.sat (fun v _ => v = Value.int .i64 0)):=fun _ _ _ h _ => h
  refine zj ?_;refine Z0 ?_;refine Za2 ?_;refine Z3 ?_;refine Zaq ?_;refine Za4 ?_;refine Zd ?_;refine ZX ?_;refine Zc ?_;refine qy (zhl L 910 (WithE [] 0) (r:=StG b newS) rfl rfl rfl rfl rfl WithE.mono (fun u H2 C2 hH hle hr2 hC2 => z4k z8j (by decide) hH hr2 hC2)) ?_;refine Zbo ?_;refine ZaG ?_;refine ZE ?_;refine z7 (zk3 L (X:=SXp) (fun x => scs x.1) (zs3 []) (zb3 _) zwt (fun x => ⟨rfl, x.2⟩) rfl rfl rfl rfl rfl) rfl ?_;refine Zd ?_
  refine zgu 10 rfl fun x H1 hs1 hset => ?_
  obtain ⟨⟨f1, p1, f2, p2⟩, hpl⟩:=x
  dsimp only [scs] at hset hpl ⊢
  have hws:IntKind.u64.wrap (1 - 0) = 1:=by decide
  refine ZM ?_;refine Zc ?_;refine ZaE ?_;refine qe (zau L 900 (GWr wb [1, 1]) (r:=GWr wb [1]) rfl rfl rfl rfl rfl (fun u H C hH _ hr hC => by have h:=zc1 (n:=1) (by decide) (by decide) hH hr hC; rw [zcq (by decide)] at h; exact h)) ?_;refine Zj ?_;refine ZD ?_;refine Za ?_;refine qy (zhl L 910 (PinsP newS.P) (r:=StG b newS) rfl rfl rfl rfl rfl PinsP.mono (fun u H2 C2 hH hle hr2 hC2 => zwp (S:=newS) (by decide) hH hr2 hC2)) ?_;refine Za ?_;refine z7 (q0 (r:=.int .i64 0) L rfl rfl (zn rfl) rfl rfl rfl (fun u H hH hle _ v1 h1 => by obtain ⟨sv, rfl, hsv⟩:=h1; exact L10.count_ret (L0:=[]) (r:=1) (by decide) hH hsv)) rfl ?_;refine z7 (za0 rfl rfl rfl zcb.1 zcb.2 (zal (by omega) (by omega))) rfl ?_;refine qe (zau L 900 (GWr wb [1, 1, 0]) (r:=GWr wb [1, 1]) rfl rfl rfl rfl rfl (fun u H C hH _ hr hC => by have h:=zc1 (n:=0) (by decide) (by decide) hH hr hC; rw [zcq (by decide)] at h; exact h)) ?_;refine Zj ?_
  refine Zbx ?_;refine Zah ?_;refine Zah ?_;refine z7 (yk (φ:=KS tyC [] true) L rfl rfl (zn rfl) rfl rfl rfl SlV.mono (fun u H hH hle _ => zom hH SetV.nil (hset.le hle))) rfl ?_;refine Zcb ?_;refine ZaO ?_;refine Zv ?_;refine z7 (za0 rfl rfl rfl zcb.1 zcb.2 rfl) rfl ?_;refine qe (zau L 900 (GWr wb [1, 1, 0, 0]) (r:=GWr wb [1, 1, 0]) rfl rfl rfl rfl rfl (fun u H C hH _ hr hC => by have h:=zc1 (n:=0) (by decide) (by decide) hH hr hC; rw [zcq (by decide)] at h; exact h)) ?_;refine Za0 ?_;refine Zcl ?_;refine Zbt ?_
  refine zao (fun _:Nat => [(5, .is (zam wb)), (7, .own (Cell [.nilFunc, .pointer none, .nilFunc, .pointer none] tySt)), (9, .is (.int .u64 1)), (10, .own (Cell [f1, .pointer p1, f2, .pointer p2] tySt)), (26, .is (.int .i64 1)), (27, .is (.int .i64 0)), (55, .is (.int .i64 0)), (56, .is (.int .i64 0)), (900, .own (GWr wb [1, 1, 0, 0]).res), (910, .own (StG b newS).res)]) (fun _ => True) (fun i => i) 0 trivial ⟨rfl, rfl, rfl, rfl, rfl, rfl, rfl, rfl, rfl, rfl, trivial⟩ ?_
  rintro _ _
  refine zj ?_;refine Zc8 ?_;refine ZfS ?_;refine Zfy ?_;refine qh (id:=20) [] mixed (by kernel_rfl) ?_;refine Zi ?_;refine Zcx ?_;refine Za5 ?_;refine zd (qc L rfl rfl rfl rfl rfl rfl (by assumption) rfl) rfl ?_;refine qp ?_;refine Zai ?_;refine z8 (id:=21) ?_;refine Zak ?_;refine ZdO ?_
  exact zgq (x:=0) 1 hs1 (by decide) (by decide) ⟨rfl, rfl, rfl, rfl, rfl, trivial⟩
end Go.V.L11
set_option maxRecDepth 20000
namespace Go.V.L11
open Go.Proofs Go.RowKit Go.V Go.V.L2 Go.V.L3 Go.V.L4 Go.V.L6 Go.V.L8 Go.V.L10
theorem zu0 {P:Program} {F:Fr} {B:Heap} {O:Boxes} {n:Nat} {ops:Array Oper} {ex:Exs} {κ:Kap} {os:List Oper} {Q:Exit → Act → World → Prop} {K:Nat} {ok o:Oper} {q d:Nat} {k:Kn} (hs:StepOKR P F B n ops O κ o q d k) (hd:vd o = some d) (he:(exR ex o).contains q = true) (h:z41 P F B n O ops ex K ok (upd κ d k) os Q):z41 P F B n O ops ex K ok κ (o :: os) Q:=by
 have hm:q ∈ exR ex o:=by simpa using he
 refine ⟨[(d, k)], fun p hp => ?_, fun κ' a u hl hh => hs κ' a u (fun t ht => hl t (List.mem_append_left _ ht)) (hl q (List.mem_append_right _ (List.mem_append_right _ hm))) hh, h⟩
 simp only [List.mem_cons, List.mem_nil_iff, or_false] at hp
 subst hp
 exact List.mem_append_left _ (by simp [hd])
theorem z16 {sb rb:Nat} {bs:List Nat} {fu:Bool} {sv:Value} {fr:Int} {R:Rd} (hb:∀ b ∈ bs, b ≤ 255) (hl:bs.length ≤ 1099511627776) (hat:R.at_ ≤ bs.length) {w:World} {B:Heap} {C:Nat → Prop} (hB:B.Le (hp w)) (hs:BsV bs fu sv B) (hr:(za3 sb rb sv fr R).P B w C) (hC:∀ k, C k → k < w.heap.size ∧ B k = none) :
  RetX Tryz.prog 99 [zam rb] w B C (za3 sb rb sv fr (zea bs R).2) (uv (zea bs R).1) :=
 RetL.mono (RetY.conv (RetY.frame (zoi hr) hC fun C1 h1 hC1 => (L4.tup_ret hb hl hat hB hs h1 hC1).toY) fun _ _ _ h => zoi h:RetY _ _ _ _ _ _ (za3 sb rb sv fr (zea bs R).2) fun x _ => x = uv (zea bs R).1) fun _ _ _ _ h => h
attribute [local irreducible] V N X VO Par XP LV StepOK Has Ret RetL RetO RetT zbd RetX RetY Pan zjl Src
set_option maxRecDepth 20000 in
set_option maxHeartbeats 8000000 in
theorem zrt {bs:List Nat} {fu:Bool} (hb:∀ b ∈ bs, b ≤ 255) (hz:bs.length ≤ 1099511627776) {v:Value} {w:World} {B:Heap} (hB:B.Le (hp w)) (hv:BsV bs fu v B) :
  Ret Tryz.prog 33 [v] w B (RsP (zek bs).1 (zek bs).2.1 (zek bs).2.2):=by
 obtain ⟨p0, c0, rfl⟩:=zbt hv
 refine qu Tryz.func33 rfl Tryz.ntmps33 (Nat.le_of_ble_eq_true rfl) hB ?_
 refine ZaC ?_;refine ZE ?_;refine Zab ?_
 refine zax 2 910 rfl fun bs0 => ?_
 refine zax 3 911 rfl fun ba => ?_
 refine zax 4 912 rfl fun be => ?_
 refine Zfq ?_;refine zk ?_;(refine zk7 (K:=1) rfl rfl rfl rfl ?_;refine zk ?_); refine zm ?_;refine zj ?_
 refine Z4 ?_;refine z7 (zbz L rfl rfl (zn rfl) rfl rfl rfl (fun u H hH hle _ => zqe hz hH (hv.le hle))) rfl ?_;refine zez 10 922 rfl fun rb => ?_;refine zka (X:=Value) 922 (r:=fun sv => (GRd rb sv ⟨0, 0, 0⟩).res) (φ:=fun sv H => BsV bs false sv H) (hφ:=fun _ _ _ h hle => h.le hle) rfl fun sv H1 hs1 hsv => ?_;refine Zfo ?_;refine ZcB ?_;refine qe (yh (.inr rfl) rfl rfl rfl rfl) ?_;refine Zj ?_
 refine zax 5 921 rfl fun sb => ?_
 refine zbw 921 922 rfl rfl (zag (GRd rb sv ⟨0, 0, 0⟩)) ?_
 obtain ⟨z, R1, hz1⟩:∃ z R1, zbp bs 4096 ⟨0, 0, 0⟩ = (z, R1):=⟨_, _, rfl⟩
 have ha1:=zle (bs:=bs) (lim:=4096) (R:=⟨0, 0, 0⟩) (Nat.zero_le _)
 have hlv:=fun h => zjy (bs:=bs) (lim:=4096) (R:=⟨0, 0, 0⟩) (by decide) h
 unfold zek
 rw [hz1] at ha1 hlv ⊢
 dsimp only at ha1 hlv ⊢
 by_cases h1:R1.err ≠ 0
 ·rw [if_pos h1]
  refine Zk ?_;refine Zg ?_;refine zb8 (id:=4) 1 rfl ?_;refine ZdO ?_;refine zcw (r:=(za3 sb rb sv 0 ⟨0, 0, 0⟩).res) (K:=1) L 921 rfl rfl rfl rfl rfl (fun u H C hH hle hr hC => by have h:=zs8 (lim:=4096) (R:=⟨0, 0, 0⟩) hb hz (Nat.zero_le _) (by omega) (by rw [hz1]; exact h1) hH (hsv.le hle) hr hC; rw [hz1] at h; exact h) (fun _ _ _ _ h => h) ?_
  repeat (first | refine zc8 ?_ | refine zca ?_)
  refine zfg (KRs ba be bs0 _ _ zr6) ⟨rfl, rfl, rfl, rfl, rfl, rfl, trivial⟩ ?_
  exact zhi h1 hs1
 ·rw [if_neg h1]
  have h10:R1.err = 0:=Decidable.not_not.1 h1
  obtain ⟨n, rfl, hn⟩:=hlv h10
  rw [Int.toNat_natCast]
  refine Zk ?_;refine Zg ?_;refine Zw ?_;refine qe (yc L 921 (za3 sb rb sv 0 R1) (.int .i64 n) (r:=za3 sb rb sv 0 ⟨0, 0, 0⟩) rfl rfl rfl rfl rfl (fun u H C hH hle hr hC => by have h:=size_ret (lim:=4096) (R:=⟨0, 0, 0⟩) hb hz (Nat.zero_le _) (by omega) (by rw [hz1]; exact h10) hH (hsv.le hle) hr hC; rw [hz1] at h; exact h)) ?_;refine ZeE ?_
  refine zet 6 tyU 6 rfl ?_
  obtain ⟨Y, hY⟩:∃ Y, zd3 bs n [] R1 = Y:=⟨_, rfl⟩
  rw [hY]
  refine zao (fun x:Nat × List U × Rd × Int => [(2, .is (zam bs0)), (3, .is (zam ba)), (4, .is (zam be)), (910, .own (zaj bs0 zr6 zdh)), (911, .own (zaj ba [.int .i64 0] znd)), (912, .own (zaj be [.int .i64 0] zgv)), (5, .is (zam sb)), (6, .own (SlR tyU 6 x.2.1.length (x.2.1.flatMap ucs))), (14, .is (.int .i64 n)), (15, .is (.int .i64 x.1)), (921, .own (za3 sb rb sv x.2.2.2 x.2.2.1).res)])
   (fun x => x.1 ≤ n ∧ zd3 bs (n - x.1) x.2.1 x.2.2.1 = Y ∧ x.2.2.1.err = 0 ∧ x.2.2.1.at_ ≤ bs.length ∧ SOK x.2.1 ∧ x.2.1.length = x.1) (fun x => n - x.1) (0, [], R1, 0) ⟨Nat.zero_le _, hY, h10, ha1, ⟨List.Pairwise.nil, (fun _ h => by cases h), (fun _ h => by cases h)⟩, rfl⟩ ⟨rfl, rfl, rfl, rfl, rfl, rfl, rfl, rfl, rfl, rfl, rfl, trivial⟩ ?_
  rintro ⟨i, l, R, fr⟩ ⟨hi, hW, hR0, hRa, hsok, hli⟩
  dsimp only at hi hW hR0 hRa hsok hli ⊢
  by_cases hlt:i < n
  ·obtain ⟨m, hm⟩:∃ m, n - i = m + 1:=⟨n - i - 1, by omega⟩
   rw [hm] at hW
   unfold zd3 at hW
   have hta:=znf (bs:=bs) (R:=R) hRa
   have htz:=zrh (bs:=bs) (R:=R)
   obtain ⟨t, R2, hz2⟩:∃ t R2, zea bs R = (t, R2):=⟨_, _, rfl⟩
   rw [hz2] at hW hta htz
   dsimp only at hW hta htz
   refine zc7 (r1:=zaj sb [zam rb, .int .i64 fr] zvt) (r2:=(GRd rb sv R).res) 921 922 rfl (zag _) ?_
   by_cases h2:R2.err ≠ 0
   ·rw [if_pos h2] at hW
    subst hW
    rw [if_pos h2]
    refine Zau ?_;refine Za2 ?_;refine zb8 (id:=6) 6 rfl ?_;refine Zc ?_;refine ZK ?_;refine Zfp ?_;refine zgc 921 922 rfl rfl (zag (GRd rb sv R)) ?_;refine ZaQ ?_;refine zk ?_;refine zcw (r:=(za3 sb rb sv fr R).res) (K:=6) L 921 rfl rfl rfl rfl rfl (fun u H C hH hle hr hC => zrs (x:=t) (fst:=[zam rb]) (cap:=[]) rfl h2 hH hr hC (fun u3 H3 C3 hH3 hle3 hr3 hC3 => by have h:=z16 hb hz hRa hH3 ((hsv.le hle).le hle3) hr3 hC3; rw [hz2] at h; exact h)) (fun _ _ _ _ h => h) ?_
    repeat (first | refine zc8 ?_ | refine zca ?_)
    refine zfg (KRs ba be bs0 _ _ zr6) ⟨rfl, rfl, rfl, rfl, rfl, rfl, trivial⟩ ?_
    exact zhi h2 hs1
   ·rw [if_neg h2] at hW
    have h20:R2.err = 0:=Decidable.not_not.1 h2
    refine Zau ?_;refine Za2 ?_;refine ZN ?_;refine Zc ?_;refine ZK ?_;refine Zfp ?_;refine zgc 921 922 rfl rfl (zag (GRd rb sv R)) ?_;refine ZaQ ?_;refine qe (yc L 921 (za3 sb rb sv R.at_ R2) (uv t) (r:=za3 sb rb sv fr R) rfl rfl rfl rfl rfl (fun u H C hH hle hr hC => zrr (fst:=[zam rb]) (cap:=[]) rfl h20 hH hr hC (fun u3 H3 C3 hH3 hle3 hr3 hC3 => by have h:=z16 hb hz hRa hH3 ((hsv.le hle).le hle3) hr3 hC3; rw [hz2] at h; exact h))) ?_;refine ZdE ?_
    by_cases he:tE t ≠ 0
    ·rw [if_pos he] at hW
     subst hW
     rw [if_pos (show (6:Int) ≠ 0 by decide)]
     refine zb8 (id:=7) 4 rfl ?_;refine Za ?_;refine ZP ?_;refine z7 (q0 L rfl rfl (zn rfl) rfl rfl rfl (fun u H hH _ _ => zbs htz hH)) rfl ?_;refine ZR ?_;refine zk ?_;refine zcw (r:=(za3 sb rb sv R.at_ R2).res) (K:=4) L 921 rfl rfl rfl rfl rfl (fun u H C hH hle hr hC => zju hH hr hC) (fun _ _ _ _ h => h) ?_
     repeat (first | refine zc8 ?_ | refine zca ?_)
     refine zfg (KRs ba be bs0 _ _ zr6) ⟨rfl, rfl, rfl, rfl, rfl, rfl, trivial⟩ ?_
     exact zhi (by decide) hs1
    ·rw [if_neg he] at hW
     have he0:tE t = 0:=Decidable.not_not.1 he
     refine ZU ?_;refine ZP ?_;refine z7 (q0 L rfl rfl (zn rfl) rfl rfl rfl (fun u H hH _ _ => zbs htz hH)) rfl ?_;refine ZJ ?_;refine qe (zau L 921 (za3 sb rb sv R.at_ R2) (r:=za3 sb rb sv R.at_ R2) rfl rfl rfl rfl rfl (fun u H C hH _ hr hC => zd4 hH hr hC)) ?_;refine Zj ?_
     cases hgl:l.getLast? with
     | none =>
      have hl0:l = []:=List.getLast?_eq_none_iff.1 hgl
      subst hl0
      have hbh:zoz [] t = true:=rfl
      rw [if_neg (by rw [hbh]; decide)] at hW
      refine zos 6 931 _ rfl SlR.shape fun z hz => ?_
      obtain ⟨p1, c1, rfl⟩:=hz
      refine qh (id:=8) [(44, [921])] mixed (by kernel_rfl) ?_;refine Z7 ?_;refine ZeJ ?_;refine zd (ye rfl rfl rfl rfl rfl) rfl ?_;refine Zd9 ?_;refine ZcK ?_;refine Zdk ?_;refine zav (zau L 921 (za3 sb rb sv R.at_ R2) (r:=za3 sb rb sv R.at_ R2) rfl rfl rfl rfl rfl (fun u H C hH _ hr hC => zd4 hH hr hC)) rfl rfl ?_;refine Zbu ?_
      refine zot 6 931 rfl rfl ?_
      refine Z3 ?_;refine qe (yh (.inl rfl) rfl rfl rfl rfl) ?_;refine ZP ?_;refine ZaT ?_;refine qe (yh (.inr rfl) rfl rfl rfl rfl) ?_;refine Zav ?_;refine ZX ?_;refine Zbd ?_
      exact yl (x:=(i, [], R, fr)) (i + 1, [] ++ [t], R2, R.at_) ⟨hlt, by rw [show n - (i + 1) = m by omega]; exact hW, h20, hta, zs5 hsok he0 hbh, by rw [← hli]; rfl⟩ (by dsimp only; omega) ⟨rfl, rfl, rfl, rfl, rfl, rfl, rfl, zda rfl, rfl, rfl, rfl, trivial⟩
     | some y =>
      obtain ⟨m', rfl⟩:=List.getLast?_eq_some_iff.1 hgl
      have hml:(m' ++ [y]).length = m'.length + 1:=by simp
      have hws:IntKind.i64.wrap ((((m' ++ [y]).length:Nat):Int) - 1) = ((m'.length:Nat):Int):=(zad (by omega) (by omega)).trans (by omega)
      refine z4p 6 931 rfl (fun h0 _ => by omega) fun lb cap rest hl1 hl2 hl3 hl4 => ?_
      have hcd:(((m' ++ [y]).flatMap ucs ++ rest).drop (0 + m'.length * 6)) = [.string y.1.1.1, .string y.1.1.2, .string y.1.2, .string y.2.1.1, .string y.2.1.2, .string y.2.2] ++ rest:=by
       have hm6:(m'.flatMap ucs).length = m'.length * 6:=by rw [List.length_flatMap]; simp [zkd, List.map_const', List.sum_replicate_nat]
       rw [List.flatMap_append, Nat.zero_add, ← hm6, List.append_assoc, List.drop_left]
       rfl
      by_cases hbh:zcc y t < 0
      ·have hbh2:zoz (m' ++ [y]) t = true:=by unfold zoz; rw [hgl]; exact decide_eq_true hbh
       rw [if_neg (by rw [hbh2]; decide)] at hW
       refine qh (id:=8) [(44, [921]), (200039, [931])] mixed (by kernel_rfl) ?_;refine Z7 ?_;refine ZeJ ?_;refine Zbi ?_;refine Z7 ?_;refine Zi ?_;refine ZeJ ?_;refine Zen ?_;refine Zaa ?_;refine yj (zf5 L (q:=931) (vs:=[.string y.1.1.1, .string y.1.1.2, .string y.1.2, .string y.2.1.1, .string y.2.1.2, .string y.2.2]) rfl rfl rfl rfl rfl rfl ⟨_, hcd⟩) rfl rfl ?_;refine Zca ?_;refine zd (q0 L rfl rfl (zn rfl) rfl rfl rfl (fun u H hH _ _ => zdb (a:=y) (b:=t) hH)) rfl ?_;refine ZdR ?_;refine Zag ?_;refine zav (zau L 921 (za3 sb rb sv R.at_ R2) (r:=za3 sb rb sv R.at_ R2) rfl rfl rfl rfl rfl (fun u H C hH _ hr hC => zd4 hH hr hC)) rfl rfl ?_;refine Zbu ?_
       refine zvq 6 931 rfl rfl rfl hl1 hl2 hl3 hl4 ?_
       refine Z3 ?_;refine qe (yh (.inl rfl) rfl rfl rfl rfl) ?_;refine ZP ?_;refine ZaT ?_;refine qe (yh (.inr rfl) rfl rfl rfl rfl) ?_;refine Zav ?_;refine ZX ?_;refine Zbd ?_
       exact yl (x:=(i, m' ++ [y], R, fr)) (i + 1, m' ++ [y] ++ [t], R2, R.at_) ⟨hlt, by rw [show n - (i + 1) = m by omega]; exact hW, h20, hta, zs5 hsok he0 hbh2, by rw [← hli]; simp⟩ (by dsimp only; omega) ⟨rfl, rfl, rfl, rfl, rfl, rfl, rfl, zda rfl, rfl, rfl, rfl, trivial⟩
      ·have hbh2:zoz (m' ++ [y]) t = false:=by unfold zoz; rw [hgl]; exact decide_eq_false hbh
       rw [if_pos hbh2] at hW
       subst hW
       rw [if_pos (show (18:Int) ≠ 0 by decide)]
       refine zm6 (id:=8) 15 [(44, [921]), (200039, [931]), (200044, [2, 3, 4, 910, 911, 912])] mixed rfl (by kernel_rfl) ?_
       refine ZeA ?_
       refine ZeA ?_
       refine zch (zn0 L rfl rfl rfl rfl) rfl ?_
       refine zch (ye rfl rfl rfl rfl (decide_eq_false (by omega))) rfl ?_
       refine ZeA ?_
       refine ZeA ?_
       refine ZeA ?_
       refine zch (zn0 L rfl rfl rfl rfl) rfl ?_
       refine zch (zp7 rfl rfl rfl rfl (by assumption)) rfl ?_
       refine zch (zgj L _ rfl rfl rfl rfl rfl rfl rfl (by omega)) rfl ?_
       refine zu0 (zf5 L (q:=931) (vs:=[.string y.1.1.1, .string y.1.1.2, .string y.1.2, .string y.2.1.1, .string y.2.1.2, .string y.2.2]) rfl rfl rfl rfl rfl rfl ⟨_, hcd⟩) rfl rfl ?_
       refine zch (q8 L (vs:=[_, _, _, _, _, _]) (qg rfl) rfl rfl rfl rfl ⟨_, rfl⟩) rfl ?_
       refine zch (q0 L rfl rfl (zn rfl) rfl rfl rfl (fun u H hH _ _ => zdb (a:=y) (b:=t) hH)) rfl ?_
       refine zch (qo rfl rfl rfl rfl (decide_eq_false (by omega))) rfl ?_
       refine zch (qb rfl rfl rfl rfl) rfl ?_
       refine ztb [(2, .is (zam bs0)), (3, .is (zam ba)), (4, .is (zam be)), (910, .own (zaj bs0 zr6 zdh)), (911, .own (zaj ba [.int .i64 0] znd)), (912, .own (zaj be [.int .i64 0] zgv)), (29, .is (zam sb)), (43, .is (.bool false)), (921, .own (za3 sb rb sv R.at_ R2).res)] (by kernel_rfl) ⟨rfl, rfl, rfl, rfl, rfl, rfl, rfl, rfl, rfl, trivial⟩ ?_
       refine zcw (r:=(za3 sb rb sv R.at_ R2).res) (K:=15) L 921 rfl rfl rfl rfl rfl (fun u H C hH hle hr hC => zju hH hr hC) (fun _ _ _ _ h => h) ?_
       repeat (first | refine zc8 ?_ | refine zca ?_)
       refine zfg (KRs ba be bs0 _ _ zr6) ⟨rfl, rfl, rfl, rfl, rfl, rfl, trivial⟩ ?_
       exact zhi (by decide) hs1
  ·obtain rfl:i = n:=by omega
   rw [Nat.sub_self] at hW
   have hW2:((l, R), ((0:Int), (0:Int))) = Y:=hW
   subst hW2
   rw [if_neg (fun h => h rfl)]
   dsimp only
   by_cases h5:(zgp bs R).2 ≠ 0
   ·rw [if_pos h5]
    refine Zau ?_;refine Zao ?_;refine zb8 (id:=11) 1 rfl ?_;refine ZdO ?_;refine zcw (r:=(za3 sb rb sv fr R).res) (K:=1) L 921 rfl rfl rfl rfl rfl (fun u H C hH hle hr hC => zmd hz hRa h5 hH (hsv.le hle) hr hC) (fun _ _ _ _ h => h) ?_
    repeat (first | refine zc8 ?_ | refine zca ?_)
    refine zfg (KRs ba be bs0 _ _ zr6) ⟨rfl, rfl, rfl, rfl, rfl, rfl, trivial⟩ ?_
    exact zhi h5 hs1
   ·rw [if_neg h5]
    have h50:(zgp bs R).2 = 0:=Decidable.not_not.1 h5
    have hof:=ztj hsok (by omega)
    refine Zau ?_;refine Zao ?_;refine Zdj ?_;refine qe (zau L 921 (za3 sb rb sv fr R) (r:=za3 sb rb sv fr R) rfl rfl rfl rfl rfl (fun u H C hH hle hr hC => zur hz hRa h50 hH (hsv.le hle) hr hC)) ?_;refine Zj ?_
    refine zes 6 rfl ?_
    have hms:Kn.mono (.sat (SetV l)):=SetV.mono
    refine ZD ?_;refine Zf ?_;refine z7 (yk (φ:=WithE l 0) L rfl rfl (zn rfl) rfl rfl rfl WithE.mono (fun u H hH hle _ v1 h1 => by have h:=zws hof (by omega) hsok.tz hH h1; exact h.mono fun _ _ _ => zo5)) rfl ?_;refine Zbo ?_;refine zco 55 rfl fun sx H3 hs3 hsx => ?_;obtain ⟨f1, q1, k1, q2, rfl, hpl⟩:=hsx.shape; refine ZaG ?_;refine ym (yf L (q:=910) (cs':=[f1, .pointer q1, k1, .pointer q2]) rfl rfl rfl rfl rfl rfl rfl hpl rfl) ?_;refine Zj ?_;refine Zbx ?_;refine qy (zf5 L (q:=910) (vs:=[f1, .pointer q1, k1, .pointer q2]) rfl rfl rfl rfl rfl rfl ⟨[], rfl⟩) ?_;refine ym (yf L (q:=910) (cs':=[f1, .pointer q1, k1, .pointer q2]) rfl rfl rfl rfl rfl rfl rfl hpl rfl) ?_;refine ym (yf L (q:=911) (cs':=[.int .i64 0]) rfl rfl rfl rfl rfl rfl rfl rfl rfl) ?_;refine ym (yf L (q:=912) (cs':=[.int .i64 0]) rfl rfl rfl rfl rfl rfl rfl rfl rfl) ?_;refine Z6 ?_
    refine zbw 912 910 rfl rfl (zcm _ _ _) ?_
    refine zbw 911 912 rfl rfl (zag (zdz (zai be [.int .i64 0] zgv) (zai bs0 [f1, .pointer q1, k1, .pointer q2] zdh))) ?_
    refine z64 L 911 (r:=G4 ba be bs0 (.int .i64 0) (.int .i64 0) [f1, .pointer q1, k1, .pointer q2]) (r':=G4 ba be bs0 (.int .i64 0) (.int .i64 0) (if (0:Int) = 0 then [f1, .pointer q1, k1, .pointer q2] else zr6)) rfl rfl rfl (fun u H C hH _ hr hC => zp0 RecM.idle (fun u H hH => zsf hH) hH hr hC) ?_ (fun _ _ h => h)
    rw [if_pos rfl]
    refine ziq (r1:=zaj ba [.int .i64 0] znd) (r2:=(zdz (zai be [.int .i64 0] zgv) (zai bs0 [f1, .pointer q1, k1, .pointer q2] zdh)).res) 911 912 rfl (zag _) ?_
    refine ziq (r1:=zaj be [.int .i64 0] zgv) (r2:=zaj bs0 [f1, .pointer q1, k1, .pointer q2] zdh) 912 910 rfl (zcm _ _ _) ?_
    refine zcl 3 911 rfl rfl ?_
    refine zcl 4 912 rfl rfl ?_
    refine zcl 2 910 rfl rfl ?_
    exact zye L (rs:=[.cell 2 zdh, .cell 3 znd, .cell 4 zgv]) rfl (hs1.trans hs3) (fun u H _ hle => zdj (qg rfl) rfl rfl (za1 (qg rfl) rfl (za1 (qg rfl) rfl (L11.tup3 (hsx.le hle) rfl rfl))))
end Go.V.L11
set_option maxRecDepth 20000
namespace Go.V.L11
open Go.Proofs Go.RowKit Go.V Go.V.L2 Go.V.L4
abbrev z4x:Nat:=37
abbrev tyI:Nat:=3
abbrev tyE:Nat:=43
attribute [local irreducible] V N X VO Par StepOK Has Ret RetL RetO RetT zbd RetX RetY Src
theorem zj5 {y r:ByteArray} (h:zqt y = some r) (hs:y.size ≤ 9223372036854775807) {w:World} {B:Heap} (hB:B.Le (hp w)) :
  Ret Tryz.prog 130 [.string y, .string ⟨#[10]⟩] w B (fun v _ => v = .tuple #[.string r, .bool true]):=by
 have e1:=zlp h
 have e:y.data.toList = r.data.toList ++ [10]:=by rw [e1, zaz]
 have h1:Lib.hasSuffix y.data.toList [10] = true:=by
  rw [e]
  exact List.isSuffixOf_iff_suffix.2 (List.suffix_append _ _)
 refine zt3 hs h1 ?_ hB
 unfold Lib.trimSuffix
 rw [if_pos h1, e]
 apply zb0
 simp
theorem zy4 {y:ByteArray} (h:zqt y = none) (hs:y.size ≤ 9223372036854775807) {w:World} {B:Heap} (hB:B.Le (hp w)) :
  Ret Tryz.prog 130 [.string y, .string ⟨#[10]⟩] w B (fun v _ => v = .tuple #[.string y, .bool false]):=by
 have h1:Lib.hasSuffix y.data.toList [10] = false:=by
  cases hh:Lib.hasSuffix y.data.toList [10]
  ·rfl
  ·obtain ⟨t, ht⟩:=List.isSuffixOf_iff_suffix.1 hh
   unfold zqt at h
   rw [if_pos (by rw [← ht]; simp)] at h
   cases h
 refine zt3 hs h1 ?_ hB
 unfold Lib.trimSuffix
 rw [if_neg (by rw [h1]; decide)]
set_option maxRecDepth 20000 in
set_option maxHeartbeats 2000000 in
theorem zu1 {rd:ByteArray → U × Int} {rdf:Nat} (hfn:L.fn rdf = some ()) {s:ByteArray} (hs:s.size ≤ 1000000) {w:World} {B:Heap} (hB:B.Le (hp w))
  (hrd:∀ (r:ByteArray), r.size ≤ 1000000 → ∀ (u:World) (H:Heap), H.Le (hp u) → B.Le H → Ret Tryz.prog rdf [.string r] u H (fun v _ => v = .tuple #[uv (rd r).1, .int .i64 (rd r).2])) :
  Ret Tryz.prog 62 [.string s, .func (.func rdf) #[] #[]] w B (TupS [US (zmm rd s).1 true, fun v _ => v = .int .i64 (zmm rd s).2.1, fun v _ => v = .int .i64 (zmm rd s).2.2]):=by
 have hF:zmm rd s = zfu rd [] 1 (zel s):=if_neg (by omega)
 rw [hF]
 refine qu Tryz.func62 rfl Tryz.ntmps62 (Nat.le_of_ble_eq_true rfl) hB ?_
 refine ZZ ?_;refine ZE ?_;refine ZE ?_;refine Zan ?_;refine ZbD ?_;refine ZH ?_;refine Zbv ?_;refine Zk ?_;refine Zan ?_;refine Zw ?_;refine z7 (yk L rfl rfl (zn rfl) rfl rfl rfl LinAt.mono (fun u H hH _ _ => zqj hH)) rfl ?_;refine Zcg ?_
 refine zax 3 83 rfl fun b3 => ?_
 refine zei 83 rfl fun H1 hs1 _ hb3 => ?_
 refine zax 4 84 rfl fun b4 => ?_
 refine zax 5 85 rfl fun b5 => ?_
 refine zax 6 86 rfl fun b6 => ?_
 refine zey 7 rfl fun b7 hb7 => ?_
 refine zg5 87 tyU 6 ?_
 refine zix 87 [] rfl rfl ?_
 refine zjk 18 rfl fun v18 H2 hs2 ⟨lb, e18, hlb⟩ => ?_
 subst e18
 have hsB:=hs1.trans hs2
 have hnil:zfu rd [] 1 (zic []) = ([], 0, 0):=rfl
 refine zeh L (gf:=198) (caps:=[zam lb]) [(3, zam b3), (4, zam b4), (5, zam b5), (6, zam b6), (7, zam b7)]
  (fun pre => [(84, zaj b4 [.slice none 0 0] z4x), (85, zaj b5 [.int .i64 (zfu rd [] 1 (zic pre)).2.1] tyI), (86, zaj b6 [.int .i64 (zfu rd [] 1 (zic pre)).2.2] tyE), (87, zvw b7 z4x (SlR tyU 6 (zjf rd 1 (zic pre)).length ((zjf rd 1 (zic pre)).flatMap ucs)))])
  (fun pre x => [(84, .own (zaj b4 [.slice none 0 0] z4x)), (85, .own (zaj b5 [.int .i64 (zfu rd [] 1 (zic pre)).2.1] tyI)), (86, .own (zaj b6 [.int .i64 (zfu rd [] 1 (zic pre)).2.2] tyE)), (87, .own (zvw b7 z4x (SlR tyU 6 (zjf rd 1 (zic pre)).length ((zjf rd 1 (zic pre)).flatMap ucs)))),
   (3, .is (zam b3)), (4, .is (zam b4)), (5, .is (zam b5)), (6, .is (zam b6)), (7, .is (zam b7)), (8, .is (x.headD undef)), (9, .is (x.tail.headD undef))])
  (zdq 1 (zce (zel s))) (fun p => !zbo rd 1 (zic p)) (fun _ => .ret) rfl rfl rfl ⟨rfl, rfl, rfl, rfl, rfl, rfl, rfl, rfl, rfl, trivial⟩
  (fun pre p hp => by simp only [List.mem_cons, List.not_mem_nil, or_false] at hp; rcases hp with rfl | rfl | rfl | rfl <;> exact Nat.le_of_ble_eq_true rfl) rfl
  (fun x hx => by obtain ⟨p, q, e⟩:=List.append_of_mem hx; obtain ⟨ls, y, _, rfl, _⟩:=zmp (pre:=p) (x:=x) ⟨q, by rw [e]; simp⟩; rfl) (by decide)
  (fun u H hH hle => zlc (by omega) hH (hle _ _ hlb)) ?asg ?bd ?dn ?st
 case asg =>
  intro w1 Ln B' l' D' o pre x' hpre hstp hBB
  obtain ⟨ls, y, rfl, rfl, hls⟩:=zmp hpre
  refine Zau ?_;refine Zb ?_;refine ZN ?_;refine ZI ?_
  exact zvr Since.refl ⟨rfl, rfl, rfl, rfl, rfl, rfl, rfl, rfl, rfl, rfl, rfl, trivial⟩
 case bd =>
  intro w1 Ln B' l' D' o pre x' hpre hstp hBB
  obtain ⟨ls, y, rfl, rfl, hls⟩:=zmp hpre
  have hg:zbo rd 1 ls = true:=by
   have:=hstp
   rw [zay] at this
   simpa using this
  have e3:=zhn ls y
  rw [← e3]
  have hb3':=hBB _ _ (hs2.le _ _ hb3)
  have hln:ls.length + 1 ≤ 1000000:=by
   have h1:=hls.length_le
   have h2:=zhp s
   rw [List.length_append] at h1
   simp at h1
   omega
  have hys:y.size ≤ 1000000:=by
   have:=zql (s:=s) (y:=y) (hls.subset (by simp))
   omega
  rw [zay, zil hg, zim hg]
  have hvl:(zh9 rd ls).length ≤ ls.length:=zjn
  by_cases hn:4096 < ls.length + 1
  ·have hp:=zjq (rd:=rd) (ys:=[]) (y:=y) hg (by omega)
   have hbad:zbo rd 1 (ls ++ [y]) = false:=by rw [zb9, hg]; unfold zja; simp; omega
   have how:zjf rd 1 (ls ++ [y]) = zh9 rd ls:=by rw [zdx hg]; unfold zjf; rw [if_pos (by unfold zja; simp; omega), List.append_nil]
   refine ZdI ?_;refine ZU ?_;refine Z2 ?_;refine Zt ?_;refine ZaA ?_;refine ym (yf L (q:=84) (cs':=[.slice none 0 0]) rfl rfl rfl rfl rfl rfl rfl rfl rfl) ?_;refine ym (yf L (q:=85) (cs':=[.int .i64 ((ls.length + 1:Nat):Int)]) rfl rfl rfl rfl rfl rfl rfl rfl rfl) ?_;refine ym (yf L (q:=86) (cs':=[.int .i64 3]) rfl rfl rfl rfl rfl rfl rfl rfl rfl) ?_;refine Z6 ?_
   refine zh6 (zlv (zfo (zow Since.refl (by rw [zay, hbad]; rfl) rfl ?_)))
   rw [zay, hp, how, Nat.add_comm 1]
   exact ⟨rfl, rfl, rfl, rfl, trivial⟩
  ·cases he:zqt y with
   | none =>
    have hp:=zhk (rd:=rd) (ys:=[]) (y:=y) hg (by omega) he
    have hbad:zbo rd 1 (ls ++ [y]) = false:=by rw [zb9, hg]; unfold zja; rw [he]; simp
    have how:zjf rd 1 (ls ++ [y]) = zh9 rd ls:=by rw [zdx hg]; unfold zjf; rw [if_pos (by unfold zja; rw [he]; simp), List.append_nil]
    refine ZdI ?_;refine ZU ?_;refine Zbv ?_;refine Zb8 ?_;refine z7 (q0 L rfl rfl (zn rfl) rfl rfl rfl (fun u H hH _ _ => zy4 he (by omega) hH)) rfl ?_;refine ZdK ?_;refine Zp ?_;refine Zt ?_;refine Zdj ?_;refine ym (yf L (q:=84) (cs':=[.slice none 0 0]) rfl rfl rfl rfl rfl rfl rfl rfl rfl) ?_;refine ym (yf L (q:=85) (cs':=[.int .i64 ((ls.length + 1:Nat):Int)]) rfl rfl rfl rfl rfl rfl rfl rfl rfl) ?_;refine ym (yf L (q:=86) (cs':=[.int .i64 5]) rfl rfl rfl rfl rfl rfl rfl rfl rfl) ?_;refine Z6 ?_
    refine zh6 (zlv (zfo (zow Since.refl (by rw [zay, hbad]; rfl) rfl ?_)))
    rw [zay, hp, how, Nat.add_comm 1]
    exact ⟨rfl, rfl, rfl, rfl, trivial⟩
   | some r =>
    have hrs:r.size ≤ 1000000:=by
     have:=congrArg ByteArray.size (zlp he)
     rw [ByteArray.size_append] at this
     omega
    obtain ⟨t, e, hrt⟩:∃ t e, rd r = (t, e):=⟨_, _, rfl⟩
    have hrr:=hrd r hrs
    rw [hrt] at hrr
    by_cases h0:e = 0
    ·subst h0
     have hgood:zbo rd 1 (ls ++ [y]) = true:=by rw [zb9, hg]; unfold zja; rw [he]; simp [hrt]; omega
     have hp:=zil hgood
     have how:=zim hgood
     have hvs:=zo8 (rd:=rd) (ls:=ls) he
     rw [hrt] at hvs
     refine ZdI ?_;refine ZU ?_;refine Zbv ?_;refine Zb8 ?_;refine z7 (q0 L rfl rfl (zn rfl) rfl rfl rfl (fun u H hH _ _ => zj5 he (by omega) hH)) rfl ?_;refine ZdK ?_;refine Zdi ?_;refine ZD ?_;refine z7 (q6 L (qn rfl hb3') rfl rfl rfl rfl) rfl ?_;refine Za ?_;refine z7 (q0 L rfl rfl (zn rfl) rfl rfl hfn (fun u H hH hle _ => hrr u H hH (hsB.le.trans (hBB.trans hle)))) rfl ?_;refine ZbH ?_;refine ZbX ?_;refine Zae ?_;refine Zeh ?_
     refine zfd 87 _ rfl SlR.shape fun z hz => ?_
     obtain ⟨p, c, rfl⟩:=hz
     refine Zcl ?_;refine Zdm ?_;refine zcr 42 87 rfl rfl ?_;refine ZP ?_;refine ZaT ?_;refine zd9 45 87 _ rfl SlR.shape fun z hz => ?_;obtain ⟨p', c', rfl⟩:=hz; refine ZfA ?_;refine zk ?_;refine yd ?_
     refine ziy 87 [] rfl rfl ?_
     refine zvs Since.refl (by rw [zay, hgood]; rfl) ?_
     rw [zay, hp, how, hvs, List.flatMap_append, List.length_append]
     exact ⟨rfl, rfl, rfl, rfl, trivial⟩
    ·have hp:=zjr (rd:=rd) (ys:=[]) (y:=y) hg (by omega) he (by rw [hrt]; exact h0)
     rw [hrt] at hp
     have hbad:zbo rd 1 (ls ++ [y]) = false:=by rw [zb9, hg]; unfold zja; rw [he]; simp [hrt, h0]
     have how:zjf rd 1 (ls ++ [y]) = zh9 rd ls:=by rw [zdx hg]; unfold zjf; rw [if_pos (by unfold zja; rw [he]; simp [hrt, h0]), List.append_nil]
     refine ZdI ?_;refine ZU ?_;refine Zbv ?_;refine Zb8 ?_;refine z7 (q0 L rfl rfl (zn rfl) rfl rfl rfl (fun u H hH _ _ => zj5 he (by omega) hH)) rfl ?_;refine ZdK ?_;refine Zdi ?_;refine ZD ?_;refine z7 (q6 L (qn rfl hb3') rfl rfl rfl rfl) rfl ?_;refine Za ?_;refine z7 (q0 L rfl rfl (zn rfl) rfl rfl hfn (fun u H hH hle _ => hrr u H hH (hsB.le.trans (hBB.trans hle)))) rfl ?_;refine ZbH ?_;refine ZbX ?_;refine Zz ?_;refine ZaO ?_;refine Zc ?_;refine ym (yf L (q:=84) (cs':=[.slice none 0 0]) rfl rfl rfl rfl rfl rfl rfl rfl rfl) ?_;refine ym (yf L (q:=85) (cs':=[.int .i64 ((ls.length + 1:Nat):Int)]) rfl rfl rfl rfl rfl rfl rfl rfl rfl) ?_;refine ym (yf L (q:=86) (cs':=[.int .i64 e]) rfl rfl rfl rfl rfl rfl rfl rfl rfl) ?_;refine Z6 ?_
     refine zh6 (zlv (zfo (zow Since.refl (by rw [zay, hbad]; rfl) rfl ?_)))
     rw [zay, hp, how, Nat.add_comm 1]
     exact ⟨rfl, rfl, rfl, rfl, trivial⟩
 case st =>
  intro l' D' o hstop
  obtain ⟨ks, h1, h2, h3⟩:=zfy rd (zel s) [] rfl
  have h1':za7 (fun p => !zbo rd 1 (zic p)) [] (zdq 1 (zce (zel s))) = zdq 1 (zce ks):=h1
  rw [h1', zay] at hstop
  have hbad:zbo rd 1 ks = false:=by simpa using hstop
  have hn1:=znu (out:=[]) hbad
  have h2':zfu rd [] 1 ks = zfu rd [] 1 (zel s):=h2
  rw [h1', zay, h2']
  rw [h2'] at hn1
  generalize zfu rd [] 1 (zel s) = R at hn1 ⊢
  obtain ⟨R1, R2, R3⟩:=R
  dsimp only at hn1
  subst hn1
  refine zb7 4 84 rfl rfl ?_
  refine zb7 5 85 rfl rfl ?_
  refine zb7 6 86 rfl rfl ?_
  refine zq3 L (rs:=[.cell 4 z4x, .cell 5 tyI, .cell 6 tyE]) rfl (fun _ _ h => h) hsB fun O' u H hH hle => ?_
  exact za1 (qg rfl) rfl (za1 (qg rfl) rfl (za1 (qg rfl) rfl (tup3 SlV.nil rfl rfl)))
 case dn =>
  intro l' D' o hgo
  obtain ⟨ks, h1, h2, h3⟩:=zfy rd (zel s) [] rfl
  have h1':za7 (fun p => !zbo rd 1 (zic p)) [] (zdq 1 (zce (zel s))) = zdq 1 (zce ks):=h1
  rw [h1', zay] at hgo
  have hg:zbo rd 1 ks = true:=by simpa using hgo
  have hkl:ks = zel s:=h3 hg
  have hll:=zhp s
  have hvl:(zh9 rd ks).length ≤ ks.length:=zjn
  rw [h1', zay, ← hkl, zil hg, zim hg]
  refine yd ?_
  refine zm ?_
  refine zfd 87 _ rfl SlR.shape fun z hz => ?_
  obtain ⟨p, c, rfl⟩:=hz
  refine zj ?_;refine Zc8 ?_;refine Zdm ?_;refine zcr 46 87 rfl rfl ?_;refine zfw 46 rfl ?_;refine Zdm ?_;refine Zcj ?_;refine Zdm ?_;refine Zcj ?_;refine Ze3 ?_;refine zco 51 rfl fun sv H3 hs3 hsv => ?_;obtain ⟨p1, c1, rfl⟩:=zbt hsv; refine ym (yf L (q:=84) (cs':=[.slice p1 (zh9 rd ks).length c1]) rfl rfl rfl rfl rfl rfl rfl rfl rfl) ?_;refine ym (yf L (q:=85) (cs':=[.int .i64 0]) rfl rfl rfl rfl rfl rfl rfl rfl rfl) ?_;refine ym (yf L (q:=86) (cs':=[.int .i64 0]) rfl rfl rfl rfl rfl rfl rfl rfl rfl) ?_;refine Z6 ?_
  refine zb7 4 84 rfl rfl ?_
  refine zb7 5 85 rfl rfl ?_
  refine zb7 6 86 rfl rfl ?_
  refine zq3 L (rs:=[.cell 4 z4x, .cell 5 tyI, .cell 6 tyE]) rfl (fun _ _ h => h) (hsB.trans hs3) fun O' u H hH hle => ?_
  exact za1 (qg rfl) rfl (za1 (qg rfl) rfl (za1 (qg rfl) rfl (tup3 (hsv.le hle) rfl rfl)))
end Go.V.L11
set_option maxRecDepth 20000
namespace Go.V.L11
open Go.Proofs Go.RowKit Go.V Go.V.L2 Go.V.L4 Go.V.L8
attribute [local irreducible] V N X VO Par StepOK Has Ret RetL RetO RetT zbd RetX RetY Src
set_option maxRecDepth 20000 in
set_option maxHeartbeats 2000000 in
theorem zu2 {rd:ByteArray → CH × Int} {rdf:Nat} (hfn:L.fn rdf = some ()) {s:ByteArray} (hs:s.size ≤ 1000000) {w:World} {B:Heap} (hB:B.Le (hp w))
  (hrd:∀ (r:ByteArray), r.size ≤ 1000000 → ∀ (u:World) (H:Heap), H.Le (hp u) → B.Le H → Ret Tryz.prog rdf [.string r] u H (fun v _ => v = .tuple #[cvC (rd r).1, .int .i64 (rd r).2])) :
  Ret Tryz.prog 64 [.string s, .func (.func rdf) #[] #[]] w B (TupS [KS tyC (zmm rd s).1 true, fun v _ => v = .int .i64 (zmm rd s).2.1, fun v _ => v = .int .i64 (zmm rd s).2.2]):=by
 have hF:zmm rd s = zfu rd [] 1 (zel s):=if_neg (by omega)
 rw [hF]
 refine qu Tryz.func64 rfl Tryz.ntmps64 (Nat.le_of_ble_eq_true rfl) hB ?_
 refine ZZ ?_;refine ZE ?_;refine ZE ?_;refine Zan ?_;refine ZbD ?_;refine ZH ?_;refine Zbv ?_;refine Zk ?_;refine Zan ?_;refine Zw ?_;refine z7 (yk L rfl rfl (zn rfl) rfl rfl rfl LinAt.mono (fun u H hH _ _ => zqj hH)) rfl ?_;refine Zcg ?_
 refine zax 3 83 rfl fun b3 => ?_
 refine zei 83 rfl fun H1 hs1 _ hb3 => ?_
 refine zax 4 84 rfl fun b4 => ?_
 refine zax 5 85 rfl fun b5 => ?_
 refine zax 6 86 rfl fun b6 => ?_
 refine zey 7 rfl fun b7 hb7 => ?_
 refine zg5 87 tyC 7 ?_
 refine zix 87 [] rfl rfl ?_
 refine zjk 18 rfl fun v18 H2 hs2 ⟨lb, e18, hlb⟩ => ?_
 subst e18
 have hsB:=hs1.trans hs2
 have hnil:zfu rd [] 1 (zic []) = ([], 0, 0):=rfl
 refine zeh L (gf:=198) (caps:=[zam lb]) [(3, zam b3), (4, zam b4), (5, zam b5), (6, zam b6), (7, zam b7)]
  (fun pre => [(84, zaj b4 [.slice none 0 0] z20), (85, zaj b5 [.int .i64 (zfu rd [] 1 (zic pre)).2.1] tyI), (86, zaj b6 [.int .i64 (zfu rd [] 1 (zic pre)).2.2] tyE), (87, zvw b7 z20 (SlR tyC 7 (zjf rd 1 (zic pre)).length ((zjf rd 1 (zic pre)).flatMap ccs)))])
  (fun pre x => [(84, .own (zaj b4 [.slice none 0 0] z20)), (85, .own (zaj b5 [.int .i64 (zfu rd [] 1 (zic pre)).2.1] tyI)), (86, .own (zaj b6 [.int .i64 (zfu rd [] 1 (zic pre)).2.2] tyE)), (87, .own (zvw b7 z20 (SlR tyC 7 (zjf rd 1 (zic pre)).length ((zjf rd 1 (zic pre)).flatMap ccs)))),
   (3, .is (zam b3)), (4, .is (zam b4)), (5, .is (zam b5)), (6, .is (zam b6)), (7, .is (zam b7)), (8, .is (x.headD undef)), (9, .is (x.tail.headD undef))])
  (zdq 1 (zce (zel s))) (fun p => !zbo rd 1 (zic p)) (fun _ => .ret) rfl rfl rfl ⟨rfl, rfl, rfl, rfl, rfl, rfl, rfl, rfl, rfl, trivial⟩
  (fun pre p hp => by simp only [List.mem_cons, List.not_mem_nil, or_false] at hp; rcases hp with rfl | rfl | rfl | rfl <;> exact Nat.le_of_ble_eq_true rfl) rfl
  (fun x hx => by obtain ⟨p, q, e⟩:=List.append_of_mem hx; obtain ⟨ls, y, _, rfl, _⟩:=zmp (pre:=p) (x:=x) ⟨q, by rw [e]; simp⟩; rfl) (by decide)
  (fun u H hH hle => zlc (by omega) hH (hle _ _ hlb)) ?asg ?bd ?dn ?st
 case asg =>
  intro w1 Ln B' l' D' o pre x' hpre hstp hBB
  obtain ⟨ls, y, rfl, rfl, hls⟩:=zmp hpre
  refine Zau ?_;refine Zb ?_;refine ZN ?_;refine ZI ?_
  exact zvr Since.refl ⟨rfl, rfl, rfl, rfl, rfl, rfl, rfl, rfl, rfl, rfl, rfl, trivial⟩
 case bd =>
  intro w1 Ln B' l' D' o pre x' hpre hstp hBB
  obtain ⟨ls, y, rfl, rfl, hls⟩:=zmp hpre
  have hg:zbo rd 1 ls = true:=by
   have:=hstp
   rw [zay] at this
   simpa using this
  have e3:=zhn ls y
  rw [← e3]
  have hb3':=hBB _ _ (hs2.le _ _ hb3)
  have hln:ls.length + 1 ≤ 1000000:=by
   have h1:=hls.length_le
   have h2:=zhp s
   rw [List.length_append] at h1
   simp at h1
   omega
  have hys:y.size ≤ 1000000:=by
   have:=zql (s:=s) (y:=y) (hls.subset (by simp))
   omega
  rw [zay, zil hg, zim hg]
  have hvl:(zh9 rd ls).length ≤ ls.length:=zjn
  by_cases hn:4096 < ls.length + 1
  ·have hp:=zjq (rd:=rd) (ys:=[]) (y:=y) hg (by omega)
   have hbad:zbo rd 1 (ls ++ [y]) = false:=by rw [zb9, hg]; unfold zja; simp; omega
   have how:zjf rd 1 (ls ++ [y]) = zh9 rd ls:=by rw [zdx hg]; unfold zjf; rw [if_pos (by unfold zja; simp; omega), List.append_nil]
   refine ZdI ?_;refine ZU ?_;refine Z2 ?_;refine Zt ?_;refine ZaA ?_;refine ym (yf L (q:=84) (cs':=[.slice none 0 0]) rfl rfl rfl rfl rfl rfl rfl rfl rfl) ?_;refine ym (yf L (q:=85) (cs':=[.int .i64 ((ls.length + 1:Nat):Int)]) rfl rfl rfl rfl rfl rfl rfl rfl rfl) ?_;refine ym (yf L (q:=86) (cs':=[.int .i64 3]) rfl rfl rfl rfl rfl rfl rfl rfl rfl) ?_;refine Z6 ?_
   refine zh6 (zlv (zfo (zow Since.refl (by rw [zay, hbad]; rfl) rfl ?_)))
   rw [zay, hp, how, Nat.add_comm 1]
   exact ⟨rfl, rfl, rfl, rfl, trivial⟩
  ·cases he:zqt y with
   | none =>
    have hp:=zhk (rd:=rd) (ys:=[]) (y:=y) hg (by omega) he
    have hbad:zbo rd 1 (ls ++ [y]) = false:=by rw [zb9, hg]; unfold zja; rw [he]; simp
    have how:zjf rd 1 (ls ++ [y]) = zh9 rd ls:=by rw [zdx hg]; unfold zjf; rw [if_pos (by unfold zja; rw [he]; simp), List.append_nil]
    refine ZdI ?_;refine ZU ?_;refine Zbv ?_;refine Zb8 ?_;refine z7 (q0 L rfl rfl (zn rfl) rfl rfl rfl (fun u H hH _ _ => zy4 he (by omega) hH)) rfl ?_;refine ZdK ?_;refine Zp ?_;refine Zt ?_;refine Zdj ?_;refine ym (yf L (q:=84) (cs':=[.slice none 0 0]) rfl rfl rfl rfl rfl rfl rfl rfl rfl) ?_;refine ym (yf L (q:=85) (cs':=[.int .i64 ((ls.length + 1:Nat):Int)]) rfl rfl rfl rfl rfl rfl rfl rfl rfl) ?_;refine ym (yf L (q:=86) (cs':=[.int .i64 5]) rfl rfl rfl rfl rfl rfl rfl rfl rfl) ?_;refine Z6 ?_
    refine zh6 (zlv (zfo (zow Since.refl (by rw [zay, hbad]; rfl) rfl ?_)))
    rw [zay, hp, how, Nat.add_comm 1]
    exact ⟨rfl, rfl, rfl, rfl, trivial⟩
   | some r =>
    have hrs:r.size ≤ 1000000:=by
     have:=congrArg ByteArray.size (zlp he)
     rw [ByteArray.size_append] at this
     omega
    obtain ⟨t, e, hrt⟩:∃ t e, rd r = (t, e):=⟨_, _, rfl⟩
    have hrr:=hrd r hrs
    rw [hrt] at hrr
    by_cases h0:e = 0
    ·subst h0
     have hgood:zbo rd 1 (ls ++ [y]) = true:=by rw [zb9, hg]; unfold zja; rw [he]; simp [hrt]; omega
     have hp:=zil hgood
     have how:=zim hgood
     have hvs:=zo8 (rd:=rd) (ls:=ls) he
     rw [hrt] at hvs
     refine ZdI ?_;refine ZU ?_;refine Zbv ?_;refine Zb8 ?_;refine z7 (q0 L rfl rfl (zn rfl) rfl rfl rfl (fun u H hH _ _ => zj5 he (by omega) hH)) rfl ?_;refine ZdK ?_;refine Zdi ?_;refine ZD ?_;refine z7 (q6 L (qn rfl hb3') rfl rfl rfl rfl) rfl ?_;refine Za ?_;refine z7 (q0 L rfl rfl (zn rfl) rfl rfl hfn (fun u H hH hle _ => hrr u H hH (hsB.le.trans (hBB.trans hle)))) rfl ?_;refine ZbH ?_;refine ZbX ?_;refine Zae ?_;refine Zeh ?_
     refine zfd 87 _ rfl SlR.shape fun z hz => ?_
     obtain ⟨p, c, rfl⟩:=hz
     refine Zcl ?_;refine Zdm ?_;refine zcr 42 87 rfl rfl ?_;refine Zfv ?_;refine ZaV ?_;refine Zgb ?_;refine zd9 45 87 _ rfl SlR.shape fun z hz => ?_;obtain ⟨p', c', rfl⟩:=hz; refine ZfA ?_;refine zk ?_;refine yd ?_
     refine ziy 87 [] rfl rfl ?_
     refine zvs Since.refl (by rw [zay, hgood]; rfl) ?_
     rw [zay, hp, how, hvs, List.flatMap_append, List.length_append]
     exact ⟨rfl, rfl, rfl, rfl, trivial⟩
    ·have hp:=zjr (rd:=rd) (ys:=[]) (y:=y) hg (by omega) he (by rw [hrt]; exact h0)
     rw [hrt] at hp
     have hbad:zbo rd 1 (ls ++ [y]) = false:=by rw [zb9, hg]; unfold zja; rw [he]; simp [hrt, h0]
     have how:zjf rd 1 (ls ++ [y]) = zh9 rd ls:=by rw [zdx hg]; unfold zjf; rw [if_pos (by unfold zja; rw [he]; simp [hrt, h0]), List.append_nil]
     refine ZdI ?_;refine ZU ?_;refine Zbv ?_;refine Zb8 ?_;refine z7 (q0 L rfl rfl (zn rfl) rfl rfl rfl (fun u H hH _ _ => zj5 he (by omega) hH)) rfl ?_;refine ZdK ?_;refine Zdi ?_;refine ZD ?_;refine z7 (q6 L (qn rfl hb3') rfl rfl rfl rfl) rfl ?_;refine Za ?_;refine z7 (q0 L rfl rfl (zn rfl) rfl rfl hfn (fun u H hH hle _ => hrr u H hH (hsB.le.trans (hBB.trans hle)))) rfl ?_;refine ZbH ?_;refine ZbX ?_;refine Zz ?_;refine ZaO ?_;refine Zc ?_;refine ym (yf L (q:=84) (cs':=[.slice none 0 0]) rfl rfl rfl rfl rfl rfl rfl rfl rfl) ?_;refine ym (yf L (q:=85) (cs':=[.int .i64 ((ls.length + 1:Nat):Int)]) rfl rfl rfl rfl rfl rfl rfl rfl rfl) ?_;refine ym (yf L (q:=86) (cs':=[.int .i64 e]) rfl rfl rfl rfl rfl rfl rfl rfl rfl) ?_;refine Z6 ?_
     refine zh6 (zlv (zfo (zow Since.refl (by rw [zay, hbad]; rfl) rfl ?_)))
     rw [zay, hp, how, Nat.add_comm 1]
     exact ⟨rfl, rfl, rfl, rfl, trivial⟩
 case st =>
  intro l' D' o hstop
  obtain ⟨ks, h1, h2, h3⟩:=zfy rd (zel s) [] rfl
  have h1':za7 (fun p => !zbo rd 1 (zic p)) [] (zdq 1 (zce (zel s))) = zdq 1 (zce ks):=h1
  rw [h1', zay] at hstop
  have hbad:zbo rd 1 ks = false:=by simpa using hstop
  have hn1:=znu (out:=[]) hbad
  have h2':zfu rd [] 1 ks = zfu rd [] 1 (zel s):=h2
  rw [h1', zay, h2']
  rw [h2'] at hn1
  generalize zfu rd [] 1 (zel s) = R at hn1 ⊢
  obtain ⟨R1, R2, R3⟩:=R
  dsimp only at hn1
  subst hn1
  refine zb7 4 84 rfl rfl ?_
  refine zb7 5 85 rfl rfl ?_
  refine zb7 6 86 rfl rfl ?_
  refine zq3 L (rs:=[.cell 4 z20, .cell 5 tyI, .cell 6 tyE]) rfl (fun _ _ h => h) hsB fun O' u H hH hle => ?_
  exact za1 (qg rfl) rfl (za1 (qg rfl) rfl (za1 (qg rfl) rfl (tup3 SlV.nil rfl rfl)))
 case dn =>
  intro l' D' o hgo
  obtain ⟨ks, h1, h2, h3⟩:=zfy rd (zel s) [] rfl
  have h1':za7 (fun p => !zbo rd 1 (zic p)) [] (zdq 1 (zce (zel s))) = zdq 1 (zce ks):=h1
  rw [h1', zay] at hgo
  have hg:zbo rd 1 ks = true:=by simpa using hgo
  have hkl:ks = zel s:=h3 hg
  have hll:=zhp s
  have hvl:(zh9 rd ks).length ≤ ks.length:=zjn
  rw [h1', zay, ← hkl, zil hg, zim hg]
  refine yd ?_
  refine zm ?_
  refine zfd 87 _ rfl SlR.shape fun z hz => ?_
  obtain ⟨p, c, rfl⟩:=hz
  refine zj ?_;refine Zc8 ?_;refine Zdm ?_;refine zcr 46 87 rfl rfl ?_;refine zfw 46 rfl ?_;refine Zdm ?_;refine Zcj ?_;refine Zdm ?_;refine Zcj ?_;refine Ze3 ?_;refine zco 51 rfl fun sv H3 hs3 hsv => ?_;obtain ⟨p1, c1, rfl⟩:=zbt hsv; refine ym (yf L (q:=84) (cs':=[.slice p1 (zh9 rd ks).length c1]) rfl rfl rfl rfl rfl rfl rfl rfl rfl) ?_;refine ym (yf L (q:=85) (cs':=[.int .i64 0]) rfl rfl rfl rfl rfl rfl rfl rfl rfl) ?_;refine ym (yf L (q:=86) (cs':=[.int .i64 0]) rfl rfl rfl rfl rfl rfl rfl rfl rfl) ?_;refine Z6 ?_
  refine zb7 4 84 rfl rfl ?_
  refine zb7 5 85 rfl rfl ?_
  refine zb7 6 86 rfl rfl ?_
  refine zq3 L (rs:=[.cell 4 z20, .cell 5 tyI, .cell 6 tyE]) rfl (fun _ _ h => h) (hsB.trans hs3) fun O' u H hH hle => ?_
  exact za1 (qg rfl) rfl (za1 (qg rfl) rfl (za1 (qg rfl) rfl (tup3 (hsv.le hle) rfl rfl)))
theorem zcv {φ:Value → Heap → Prop} {a b:Value} (h:Kn.mono (.sat φ)):Kn.mono (.sat (TupS [φ, fun v _ => v = a, fun v _ => v = b])):=TupS.mono fun ψ hψ => by
 simp only [List.mem_cons, List.not_mem_nil, or_false] at hψ
 rcases hψ with rfl | rfl | rfl
 ·exact h
 ·exact fun _ _ _ h _ => h
 ·exact fun _ _ _ h _ => h
theorem zuf {s:ByteArray} (hs:s.size ≤ 1000000) {w:World} {B:Heap} (hB:B.Le (hp w)) (hM:GlobM B) :
  Ret Tryz.prog 16 [.string s] w B (TupS [US (zmm ptA s).1 true, fun v _ => v = .int .i64 (zmm ptA s).2.1, fun v _ => v = .int .i64 (zmm ptA s).2.2]):=by
 have hmo:Kn.mono (.sat (US (zmm ptA s).1 true)):=SlV.mono
 refine qu Tryz.func16 rfl Tryz.ntmps16 (Nat.le_of_ble_eq_true rfl) hB ?_
 refine ZC ?_;refine ZaZ ?_;refine Zbj ?_;refine z7 (yk L rfl rfl (zn rfl) rfl rfl rfl (zcv SlV.mono) (fun u H hH hle _ => zu1 (rd:=ptA) rfl hs hH (fun r hr u2 H2 hH2 hle2 => ze1 rfl hr hH2 (hM.mono (hle.trans hle2))))) rfl ?_;refine Zfk ?_;refine ZaG ?_;refine Zcu ?_;refine Z5 ?_
 refine qt L (rs:=[.tmp 2, .tmp 3, .tmp 4]) rfl (fun _ _ h => h) Since.refl fun u H hH hle => ?_
 exact fun a h => tup3 h rfl rfl
theorem zm8 {s:ByteArray} (hs:s.size ≤ 1000000) {w:World} {B:Heap} (hB:B.Le (hp w)) (hM:GlobM B) :
  Ret Tryz.prog 17 [.string s] w B (TupS [KS tyC (zmm prC s).1 true, fun v _ => v = .int .i64 (zmm prC s).2.1, fun v _ => v = .int .i64 (zmm prC s).2.2]):=by
 have hmo:Kn.mono (.sat (KS tyC (zmm prC s).1 true)):=SlV.mono
 refine qu Tryz.func17 rfl Tryz.ntmps17 (Nat.le_of_ble_eq_true rfl) hB ?_
 refine ZC ?_;refine ZaZ ?_;refine Zbj ?_;refine z7 (yk L rfl rfl (zn rfl) rfl rfl rfl (zcv SlV.mono) (fun u H hH hle _ => zu2 (rd:=prC) rfl hs hH (fun r hr u2 H2 hH2 hle2 => z3l hr hH2 (hM.mono (hle.trans hle2))))) rfl ?_;refine Zfk ?_;refine ZaG ?_;refine Zcu ?_;refine Z5 ?_
 refine qt L (rs:=[.tmp 2, .tmp 3, .tmp 4]) rfl (fun _ _ h => h) Since.refl fun u H hH hle => ?_
 exact fun a h => tup3 h rfl rfl
end Go.V.L11
set_option maxRecDepth 20000
namespace Go.V
open Go.RowKit
abbrev z2o (s:ByteArray):List Value:=s.data.toList.map fun c:UInt8 => Value.int .u8 (c.toNat:Int)
section
variable {P:Program} {F:Fr} {B:Heap} {O:Boxes} {n:Nat} {ops:Array Oper} {κ:Kap} {d:Nat} {ty:TypeId} {pos:String} {aft:Array Edge} {g:Option (Nat × Bool)} {x:Operand} {s:ByteArray}
theorem zxr {src dst e:TypeId} (hn:Nat.blt d n = true) (hg:gK ops κ ⟨some d, .convert src dst x, ty, pos, aft, g⟩ = some true) (hx:evK κ x = some (.string s)) (hs:P.underlying src = some .string) (hd:P.underlying dst = some (.slice e)) (he:P.underlying e = some (.int .u8)) :
  StepOK P F B n ops O κ ⟨some d, .convert src dst x, ty, pos, aft, g⟩ d (.sat (SlV e 1 (z2o s) s.size false)):=by
 rintro κ' a u hl ⟨H, fp, hh⟩
 unfold After
 rw [if_pos (zae hh hl hg)]
 have en:=hh.env hl
 have h1:=en.is_ x _ (by simp [Op.operands]) hx
 have hr:=run_bytes_of_string (P:=P) u src dst e s hs hd he
 generalize hcap:grownCap u s.size 0 e = cap at hr
 generalize hfr:((bytesRow s cap).size, (bytesRow s cap).size + 1) = fr at hr
 have hrun:(execOp a.eval ⟨some d, .convert src dst x, ty, pos, aft, g⟩).run P u = .ok (.value (.slice (some ⟨u.heap.size, 0, none⟩) s.size cap)) (u.drew.alloc (.cells (bytesRow s cap) e fr)):=by
  simp only [execOp, h1, Sem.run_bind, hr, Result.andThen_ok]; rfl
 rw [hrun]
 simp only [Upon]
 have hcl:s.size ≤ cap:=by subst hcap; exact grownCap_ge u s.size 0 e
 have hg2:=(hh.drew).grow (Grow.hid (hh.drew).sub (.cells (bytesRow s cap) e fr))
 have hval:(a.put (some d) (.slice (some ⟨u.heap.size, 0, none⟩) s.size cap)).eval (.tmp d) = .slice (some ⟨u.heap.size, 0, none⟩) s.size cap:=zat (by rw [hh.size]; exact zn hn)
 have h2:=hg2.putR (d:=d) (r:=⟨fun v H u' C => v = .slice (some ⟨u.heap.size, 0, none⟩) s.size cap ∧ C u.heap.size, fun h _ _ _ _ => h⟩) (C:=fun k => k = u.heap.size) (a':=a.put (some d) (.slice (some ⟨u.heap.size, 0, none⟩) s.size cap)) (by simp [Act.put]) rfl (fun t ht => zap ht) ⟨hval, rfl⟩ (fun k hk => by
  subst hk
  exact ⟨zaa (zak u.drew _), za8 hh.sub (Nat.le_refl _), .inl hh.keep.size, fun y hy e => by have:=zaa (hh.boxes y hy).1; omega⟩) fun t r' _ ht k hf hk => by
  have:=((hh.slot t _ ht).2 k hf).1
  omega
 obtain ⟨H', h3⟩:=h2.pub (t:=d) (b:=u.heap.size) (φ:=SlV e 1 (z2o s) s.size false) (zah ..) (zak u.drew _) (by simp [fpu]) SlV.mono fun H' _ hb => by
  rw [hval]
  refine ⟨by rw [List.length_map, Array.length_toList, Nat.mul_one]; rfl, .inr ⟨u.heap.size, 0, cap, _, _, _, rfl, hb, ?_, hcl, fun h => by cases h⟩⟩
  rw [List.drop_zero, List.length_map]
  unfold bytesRow
  rw [Array.toList_append, Array.toList_map, List.take_append_of_le_length (by simp)]
  rw [List.take_of_length_le (by simp)]
 rw [zbr] at h3
 exact ⟨H', _, h3⟩
end
end Go.V
set_option maxRecDepth 20000
namespace Go.V.L11
open Go.Proofs Go.RowKit Go.V Go.V.L2 Go.V.L4 Go.V.L6 Go.V.L8 Go.V.L10
theorem _root_.Go.V.Zfa {A B:Prop} (h:B) (t:Wr B → A:=by intro h; refine z7 (zdk L _ rfl rfl rfl rfl rfl rfl rfl (by omega)) rfl ?_;exact h.h):A:=t ⟨h⟩
theorem _root_.Go.V.ZfM {A B:Prop} (h:B) (t:Wr B → A:=by intro h; refine Za ?_;refine z7 (zny rfl rfl rfl rfl z8y rfl rfl) rfl ?_;exact h.h):A:=t ⟨h⟩
theorem _root_.Go.V.ZfN {A B:Prop} (h:B) (t:Wr B → A:=by intro h; refine Zez ?_;refine z7 (zxr rfl rfl rfl rfl rfl rfl) rfl ?_;exact h.h):A:=t ⟨h⟩
abbrev z8t:ByteArray:=⟨#[100, 111, 99, 58, 97, 35, 118, 105, 101, 119, 101, 114, 64, 117, 115, 101, 114, 58, 120]⟩
abbrev z9f:ByteArray:=⟨#[100, 111, 99, 58, 98, 35, 118, 105, 101, 119, 101, 114, 64, 117, 115, 101, 114, 58, 120]⟩
abbrev z8s:ByteArray:=⟨#[100, 111, 99, 58, 97, 35, 118, 105, 101, 119, 101, 114, 64, 117, 115, 101, 114, 58, 120, 10]⟩
abbrev z9d:ByteArray:=⟨#[43, 100, 111, 99, 58, 97, 35, 118, 105, 101, 119, 101, 114, 64, 117, 115, 101, 114, 58, 120, 10, 45, 100, 111, 99, 58, 98, 35, 118, 105, 101, 119, 101, 114, 64, 117, 115, 101, 114, 58, 120, 10]⟩
def wrS:List ByteArray:=[⟨#[0]⟩, ⟨#[1, 0]⟩, ⟨#[1, 1, 0, 0, 7]⟩, ⟨#[1, 1]⟩]
def wrA:List Int:=[0, 1, 4, 2]
theorem z9j:zwd [d0] = (z8s, 0):=by decide +kernel
theorem z9m:zwc [(d0, false), (d2, true)] = (z9d, 0):=by decide +kernel
theorem z9l:zmm ptA z8t = ([], 1, 5):=by decide +kernel
theorem z9k:zmm prC z8s = ([], 1, 5):=by kernel_rfl
theorem zue {l:List U} {fu:Bool} {s:ByteArray} {e:Int} (h:zwd l = (s, e)) (hz:∀ t ∈ l, TZ t) (hs:∀ t ∈ l, (zjh t).size ≤ 1000) {v:Value} {w:World} {B:Heap} (hB:B.Le (hp w)) (hv:US l fu v B) :
  Ret Tryz.prog 12 [v] w B (fun r _ => r = .tuple #[.string s, .int .i64 e]):=by
 have:=zvy hz hs hB hv
 rw [h] at this
 exact this
theorem zrd {l:List CH} {fu:Bool} {s:ByteArray} {e:Int} (h:zwc l = (s, e)) (hz:∀ t ∈ l, TZ t.1) (hs:∀ t ∈ l, (zji t).size ≤ 1000) {v:Value} {w:World} {B:Heap} (hB:B.Le (hp w)) (hv:KS tyC l fu v B) :
  Ret Tryz.prog 13 [v] w B (fun r _ => r = .tuple #[.string s, .int .i64 e]):=by
 have:=zuh hz hs hB hv
 rw [h] at this
 exact this
theorem zrc {s:ByteArray} {l:List U} {n:Nat} {e:Int} (h:zmm ptA s = (l, n, e)) (hs:s.size ≤ 1000000) {w:World} {B:Heap} (hB:B.Le (hp w)) (hM:GlobM B) :
  Ret Tryz.prog 16 [.string s] w B (TupS [US l true, fun v _ => v = .int .i64 n, fun v _ => v = .int .i64 e]):=by
 have:=zuf hs hB hM
 rw [h] at this
 exact this
theorem zlx {s:ByteArray} {l:List CH} {n:Nat} {e:Int} (h:zmm prC s = (l, n, e)) (hs:s.size ≤ 1000000) {w:World} {B:Heap} (hB:B.Le (hp w)) (hM:GlobM B) :
  Ret Tryz.prog 17 [.string s] w B (TupS [KS tyC l true, fun v _ => v = .int .i64 n, fun v _ => v = .int .i64 e]):=by
 have:=zm8 hs hB hM
 rw [h] at this
 exact this
abbrev LdE (a e:Int):Value → Heap → Prop:=fun r _ => r = .tuple #[.pointer none, .int .i64 a, .int .i64 e]
theorem wl0 {v:Value} {w:World} {B:Heap} (hB:B.Le (hp w)) (hv:BsV [0] false v B):Ret Tryz.prog 26 [v] w B (LdE 0 5) :=
 zyg (bs:=[0]) (R1:=⟨1, 0, 0⟩) (by decide) (by decide) (by kernel_rfl) rfl hB hv
theorem wl1 {v:Value} {w:World} {B:Heap} (hB:B.Le (hp w)) (hv:BsV [1, 0] false v B):Ret Tryz.prog 26 [v] w B (LdE 1 5) :=
 zyf (bs:=[1, 0]) (n1:=1) (R1:=⟨1, 0, 0⟩) (R2:=⟨2, 0, 0⟩) (by decide) (by decide) (by kernel_rfl) rfl (by decide) (by decide) (by kernel_rfl) rfl hB hv
theorem wl2 {v:Value} {w:World} {B:Heap} (hB:B.Le (hp w)) (hv:BsV [1, 1, 0, 0, 7] false v B):Ret Tryz.prog 26 [v] w B (LdE 4 5) :=
 zyh (bs:=[1, 1, 0, 0, 7]) (st:=1) (R1:=⟨1, 0, 0⟩) (R2:=⟨2, 0, 0⟩) (R3:=⟨3, 0, 0⟩) (R4:=⟨4, 0, 0⟩) (by decide) (by decide) (by kernel_rfl) rfl (by decide) (by kernel_rfl) rfl (by decide) (by decide) (by decide) (by kernel_rfl) rfl (by decide) (by kernel_rfl) rfl (by decide) (by decide) hB hv
theorem wl3 {v:Value} {w:World} {B:Heap} (hB:B.Le (hp w)) (hv:BsV [1, 1] false v B):Ret Tryz.prog 26 [v] w B (LdE 2 17) :=
 zvb (bs:=[1, 1]) (n1:=1) (x:=0) (st:=1) (R1:=⟨1, 0, 0⟩) (R2:=⟨2, 0, 0⟩) (R3:=⟨2, 2, 17⟩) (by decide) (by decide) (by kernel_rfl) rfl (by decide) (by decide) (by kernel_rfl) rfl (by decide) (by decide) (by decide) (by kernel_rfl) (by decide) hB hv
attribute [local irreducible] V N X VO Par XP LV StepOK Has Ret RetL RetO RetT zbd RetX RetY Pan zjl Src
set_option maxHeartbeats 8000000 in
set_option maxRecDepth 20000 in
theorem zg4 {w:World} {B:Heap} (hB:B.Le (hp w)) (hM:GlobM B):Ret Tryz.prog 9 [] w B (fun v _ => v = .bool true):=by
 have p0:ptA z8t = (d0, 0):=by decide +kernel
 have p2:ptA z9f = (d2, 0):=by decide +kernel
 have z0:TZ d0:=z1z (by decide)
 have z2:TZ d2:=z1z (by decide)
 have hz1:∀ t ∈ [d0], TZ t:=fun t ht => by rw [List.mem_singleton] at ht; subst ht; exact z0
 have hz2:∀ t ∈ [((d0, false):CH), (d2, true)], TZ t.1:=fun t ht => by
  simp only [List.mem_cons, List.not_mem_nil, or_false] at ht
  rcases ht with rfl | rfl
  ·exact z0
  ·exact z2
 have hs1:∀ t ∈ [d0], (zjh t).size ≤ 1000:=by decide +kernel
 have hs2:∀ t ∈ [((d0, false):CH), (d2, true)], (zji t).size ≤ 1000:=by decide +kernel
 have k1:Kn.mono (.sat (US ([]:List U) true)):=SlV.mono
 have k2:Kn.mono (.sat (KS tyC ([]:List CH) true)):=SlV.mono
 have k3:Kn.mono (.sat (BsV [1, 1, 0, 0] true)):=SlV.mono
 refine qu Tryz.func9 rfl Tryz.ntmps9 (Nat.le_of_ble_eq_true rfl) hB ?_
 refine Zac ?_;refine z7 (q0 L rfl rfl (zn rfl) rfl rfl rfl (fun u H hH _ _ => zkv p0 (Nat.le_of_ble_eq_true rfl) hH)) rfl ?_;refine Ze5 ?_;refine Zd ?_;refine Zy ?_;refine z7 (q0 L rfl rfl (zn rfl) rfl rfl rfl (fun u H hH _ _ => zkv p2 (Nat.le_of_ble_eq_true rfl) hH)) rfl ?_;refine Ze5 ?_;refine Zd ?_;refine Zk ?_;refine ZP ?_;refine ZaV ?_;refine z7 (q0 L rfl rfl (zn rfl) rfl rfl rfl (fun u H hH hle _ v1 h1 => zue z9j hz1 hs1 hH (h1.toV (n:=1) rfl))) rfl ?_;refine ZaY ?_;refine Zd ?_;refine Zr ?_;refine ZP ?_;refine Zev ?_;refine ZP ?_;refine Zev ?_;refine ZaV ?_;refine z7 (q0 L rfl rfl (zn rfl) rfl rfl rfl (fun u H hH hle _ v1 h1 => zrd z9m hz2 hs2 hH (h1.toV (n:=2) rfl))) rfl ?_;refine Ze6 ?_;refine Zn ?_;refine Zc ?_;refine Zeg ?_;refine Zae ?_;refine Zc ?_;refine z7 (zg0 rfl rfl rfl rfl rfl) rfl ?_;refine Zaf ?_;refine z7 (zg0 rfl rfl rfl rfl rfl) rfl ?_;refine ZY ?_
 refine Z8 ?_;refine z7 (yk (φ:=TupS [US ([]:List U) true, fun v _ => v = .int .i64 1, fun v _ => v = .int .i64 5]) L rfl rfl (zn rfl) rfl rfl rfl (zcv SlV.mono) (fun u H hH hle _ => zrc z9l (Nat.le_of_ble_eq_true rfl) hH (hM.mono hle))) rfl ?_;refine Zbo ?_;refine ZaG ?_;refine Zcu ?_;refine Zq ?_;refine Zd ?_;refine ZaA ?_;refine z7 (yk (φ:=TupS [KS tyC ([]:List CH) true, fun v _ => v = .int .i64 1, fun v _ => v = .int .i64 5]) L rfl rfl (zn rfl) rfl rfl rfl (zcv SlV.mono) (fun u H hH hle _ => zlx z9k (Nat.le_of_ble_eq_true rfl) hH (hM.mono hle))) rfl ?_;refine Zbo ?_;refine ZaG ?_;refine Zcu ?_;refine Zq ?_;refine Zd ?_;refine Z3 ?_;refine Zab ?_
 refine ZX ?_;refine z7 (zbz L rfl rfl (zn rfl) rfl rfl rfl (fun u H hH hle _ => zz8 hH)) rfl ?_;refine zez 72 900 rfl fun b => ?_;refine qy (zhl L 900 (TupS [BsV [1, 1, 0, 0] true, fun v _ => v = .int .i64 0]) (r:=StG b newS) rfl rfl rfl rfl rfl (zw6 SlV.mono) (fun u H2 C2 hH hle hr2 hC2 => zy3 hH hr2 hC2)) ?_;refine Zbo ?_;refine Zcu ?_;refine Zg ?_
 refine Zdj ?_;refine Zae ?_;refine Zc ?_;refine Zae ?_;refine Zaf ?_;refine Zae ?_;refine Zaf ?_;refine ZcV ?_;refine Za ?_;refine Zah ?_;refine z7 (yk (φ:=BsV [0] true) L rfl rfl (zn rfl) rfl rfl rfl SlV.mono (fun u H hH hle _ => znm hH)) rfl ?_;refine z7 (zdy (bs:=[0]) (fu:=true) (by decide) rfl rfl rfl rfl rfl rfl) rfl ?_;refine z7 (zg0 rfl rfl rfl rfl rfl) rfl ?_;refine Zaf ?_;refine ZcV ?_;refine Za ?_;refine Zf ?_;refine z7 (zdy (bs:=[1, 1, 0, 0]) (fu:=true) (by decide) rfl rfl rfl rfl rfl rfl) rfl ?_;refine z7 (zg0 rfl rfl rfl rfl rfl) rfl ?_;refine ZY ?_
 refine Zbx ?_;refine ZaV ?_;refine Zcb ?_;refine ZaO ?_;refine ZaV ?_;refine ZdJ ?_;refine Zcl ?_;refine ZW ?_
 refine z1p 18 (SlB (wrS.map Value.string) 9 4) rfl SlB.mono (fun _ _ h => by unfold wrS; exact h) ?_
 refine z1p 19 (SlB (wrA.map (Value.int .i64)) tyI 4) rfl SlB.mono (fun _ _ h => by unfold wrA; exact h) ?_
 refine zao (fun i:Nat => [(18, .sat (SlB (wrS.map Value.string) 9 4)), (19, .sat (SlB (wrA.map (Value.int .i64)) tyI 4)), (20, .is (.int .i64 i))]) (fun i => i ≤ 4) (fun i => 4 - i) 0 (Nat.zero_le _) ⟨rfl, rfl, rfl, trivial⟩ ?_
 rintro i hi
 have hcases:i = 0 ∨ i = 1 ∨ i = 2 ∨ i = 3 ∨ i = 4:=by omega
 rcases hcases with rfl | rfl | rfl | rfl | rfl
 ·have hcs:(wrS.map Value.string)[0 * 1]? = some (.string ⟨#[0]⟩):=rfl
  have hca:(wrA.map (Value.int .i64))[0 * 1]? = some (.int .i64 0):=rfl
  refine Zh ?_;refine ZbS ?_;refine Zes ?_;refine ZdY ?_;refine Zg ?_;refine z8 (id:=19) ?_;refine Za ?_;refine ZbW ?_;refine z8 (id:=21) ?_;refine Zf ?_;refine Za ?_;refine Zft ?_;refine ZfN ?_;refine z7 (q0 L rfl rfl (zn rfl) rfl rfl rfl (fun u H hH hle _ v1 h1 => wl0 hH h1)) rfl ?_;refine Zbk ?_;refine Zd ?_;refine z8 (id:=22) ?_;refine ZfM ?_;refine Zc ?_;refine Zf ?_;refine Za ?_;refine Zft ?_;refine Zez ?_;refine ZcV ?_;refine ZF ?_;refine ZcV ?_;refine Za3 ?_;refine Za1 ?_;refine Za ?_;refine Zb5 ?_
  exact yl (x:=0) 1 (by decide) (by decide) ⟨rfl, rfl, rfl, trivial⟩
 ·have hcs:(wrS.map Value.string)[1 * 1]? = some (.string ⟨#[1, 0]⟩):=rfl
  have hca:(wrA.map (Value.int .i64))[1 * 1]? = some (.int .i64 1):=rfl
  refine Zh ?_;refine ZbS ?_;refine Zes ?_;refine ZdY ?_;refine Zg ?_;refine z8 (id:=19) ?_;refine Za ?_;refine ZbW ?_;refine z8 (id:=21) ?_;refine Zf ?_;refine Za ?_;refine Zfa ?_;refine ZfN ?_;refine z7 (q0 L rfl rfl (zn rfl) rfl rfl rfl (fun u H hH hle _ v1 h1 => wl1 hH h1)) rfl ?_;refine Zbk ?_;refine Zd ?_;refine z8 (id:=22) ?_;refine ZfM ?_;refine Zc ?_;refine Zf ?_;refine Za ?_;refine Zfa ?_;refine Zez ?_;refine ZcV ?_;refine ZF ?_;refine ZcV ?_;refine Za3 ?_;refine Za1 ?_;refine Za ?_;refine Zb5 ?_
  exact yl (x:=1) 2 (by decide) (by decide) ⟨rfl, rfl, rfl, trivial⟩
 ·have hcs:(wrS.map Value.string)[2 * 1]? = some (.string ⟨#[1, 1, 0, 0, 7]⟩):=rfl
  have hca:(wrA.map (Value.int .i64))[2 * 1]? = some (.int .i64 4):=rfl
  refine Zh ?_;refine ZbS ?_;refine Zes ?_;refine ZdY ?_;refine Zg ?_;refine z8 (id:=19) ?_;refine Za ?_;refine ZbW ?_;refine z8 (id:=21) ?_;refine Zf ?_;refine Za ?_;refine Zfa ?_;refine ZfN ?_;refine z7 (q0 L rfl rfl (zn rfl) rfl rfl rfl (fun u H hH hle _ v1 h1 => wl2 hH h1)) rfl ?_;refine Zbk ?_;refine Zd ?_;refine z8 (id:=22) ?_;refine ZfM ?_;refine Zc ?_;refine Zf ?_;refine Za ?_;refine Zfa ?_;refine Zez ?_;refine ZcV ?_;refine ZF ?_;refine ZcV ?_;refine Za3 ?_;refine Za1 ?_;refine Za ?_;refine Zb5 ?_
  exact yl (x:=2) 3 (by decide) (by decide) ⟨rfl, rfl, rfl, trivial⟩
 ·have hcs:(wrS.map Value.string)[3 * 1]? = some (.string ⟨#[1, 1]⟩):=rfl
  have hca:(wrA.map (Value.int .i64))[3 * 1]? = some (.int .i64 2):=rfl
  refine Zh ?_;refine ZbS ?_;refine Zes ?_;refine ZdY ?_;refine Zg ?_;refine z8 (id:=19) ?_;refine Za ?_;refine ZJ ?_;refine Z9 ?_;refine Ze8 ?_;refine Zd ?_;refine z8 (id:=21) ?_;refine Zf ?_;refine Za ?_;refine Zfa ?_;refine ZfN ?_;refine z7 (q0 L rfl rfl (zn rfl) rfl rfl rfl (fun u H hH hle _ v1 h1 => wl3 hH h1)) rfl ?_;refine Zbk ?_;refine Zd ?_;refine z8 (id:=22) ?_;refine ZfM ?_;refine Zc ?_;refine Zf ?_;refine Za ?_;refine Zfa ?_;refine Zez ?_;refine ZcV ?_;refine ZF ?_;refine ZcV ?_;refine Za3 ?_;refine Za1 ?_;refine Za ?_;refine Zb5 ?_
  exact yl (x:=3) 4 (by decide) (by decide) ⟨rfl, rfl, rfl, trivial⟩
 ·refine Zh ?_;refine ZbS ?_;refine Zo ?_;refine ZaS ?_;refine z8 (id:=24) ?_;refine Zb ?_
  refine qt L (rs:=[.tmp 0]) rfl (fun _ _ h => h) Since.refl fun u H hH hle => ?_
  rfl
end Go.V.L11
set_option maxRecDepth 20000
namespace Go.V
open Go.RowKit
inductive LeafK where
 | s
 | b
 | i (k:IntKind)
def z7b:LeafK → Value → Prop
 | .s, v => ∃ a:ByteArray, v = .string a ∧ a.size ≤ maxLen
 | .b, v => ∃ c, v = .bool c
 | .i k, v => ∃ n, v = .int k n ∧ (Lit.int k n).wf = true
def LeafsOK:List LeafK → List Value → Prop
 | [], [] => True
 | l :: ls, v :: vs => z7b l v ∧ LeafsOK ls vs
 | _, _ => False
theorem LeafsOK.append:∀ {a b:List LeafK} {x y:List Value}, LeafsOK a x → LeafsOK b y → LeafsOK (a ++ b) (x ++ y)
 | [], _, [], _, _, h => h
 | [], _, _ :: _, _, h, _ => h.elim
 | _ :: _, _, [], _, h, _ => h.elim
 | _ :: _, _, _ :: _, _, h, k => ⟨h.1, LeafsOK.append h.2 k⟩
theorem LeafsOK.length:∀ {a:List LeafK} {x:List Value}, LeafsOK a x → x.length = a.length
 | [], [], _ => rfl
 | [], _ :: _, h => h.elim
 | _ :: _, [], h => h.elim
 | _ :: _, _ :: _, h => by simp [LeafsOK.length h.2]
theorem z6d {ls:List LeafK} {vs:List Value} (h:LeafsOK (.s :: ls) vs):∃ a r, vs = .string a :: r ∧ a.size ≤ maxLen ∧ LeafsOK ls r:=by
 cases vs with
 | nil => exact h.elim
 | cons v vs => obtain ⟨⟨a, rfl, ha⟩, h⟩:=h; exact ⟨a, vs, rfl, ha, h⟩
theorem zi5 {k:IntKind} {ls:List LeafK} {vs:List Value} (h:LeafsOK (.i k :: ls) vs):∃ n r, vs = .int k n :: r ∧ (Lit.int k n).wf = true ∧ LeafsOK ls r:=by
 cases vs with
 | nil => exact h.elim
 | cons v vs => obtain ⟨⟨a, rfl, ha⟩, h⟩:=h; exact ⟨a, vs, rfl, ha, h⟩
theorem z6e {ls:List LeafK} {vs:List Value} (h:LeafsOK (.b :: ls) vs):∃ c r, vs = .bool c :: r ∧ LeafsOK ls r:=by
 cases vs with
 | nil => exact h.elim
 | cons v vs => obtain ⟨⟨a, rfl⟩, h⟩:=h; exact ⟨a, vs, rfl, h⟩
theorem zj0 {vs:List Value} (h:LeafsOK [] vs):vs = []:=by
 cases vs with
 | nil => rfl
 | cons _ _ => exact h.elim
def z01 (P:Program) (rec:TypeId → Option (List LeafK)):List Field → Nat → Option (List LeafK)
 | [], _ => some []
 | f :: fs, off => match rec f.type with
  | some ls => if f.offset = off ∧ P.cellsOf f.type = ls.length then
    match z01 P rec fs (off + ls.length) with
    | some r => some (ls ++ r)
    | none => none
   else none
  | none => none
def z17 (ls:List LeafK):Nat → List LeafK
 | 0 => []
 | n + 1 => ls ++ z17 ls n
def leafI (P:Program):Nat → TypeId → Option (List LeafK)
 | 0, _ => none
 | d + 1, t => match P.underlying t with
  | some .string => some [.s]
  | some (.int k) => some [.i k]
  | some .bool => some [.b]
  | some (.struct fs) => match z01 P (leafI P d) fs.toList 0 with
   | some ls => if P.cellsOf t = ls.length then some ls else none
   | none => none
  | some (.array n e) => match leafI P d e with
   | some ls => if P.cellsOf e = ls.length ∧ P.cellsOf t = (z17 ls n).length then some (z17 ls n) else none
   | none => none
  | _ => none
theorem zjw {α β:Type} {f:α → Option β}:∀ {l:List α} {ys:List β}, l.mapM f = some ys → ∃ g:List β, g = ys ∧ (∀ x ∈ l, ∃ y, f x = some y ∧ y ∈ ys) ∧ (∀ y ∈ ys, ∃ x ∈ l, f x = some y)
 | [], ys, h => by
  simp at h; subst h
  exact ⟨_, rfl, by simp, by simp⟩
 | x :: l, ys, h => by
  rw [List.mapM_cons] at h
  cases hx:f x with
  | none => rw [hx] at h; cases h
  | some y =>
   rw [hx] at h
   cases hl:l.mapM f with
   | none => rw [hl] at h; cases h
   | some zs =>
    rw [hl] at h
    cases h
    obtain ⟨_, _, h1, h2⟩:=zjw hl
    refine ⟨_, rfl, fun z hz => ?_, fun z hz => ?_⟩
    ·rcases List.mem_cons.1 hz with rfl | hz
     ·exact ⟨y, hx, List.mem_cons_self ..⟩
     ·obtain ⟨w, hw, hm⟩:=h1 z hz; exact ⟨w, hw, List.mem_cons_of_mem _ hm⟩
    ·rcases List.mem_cons.1 hz with rfl | hz
     ·exact ⟨x, List.mem_cons_self .., hx⟩
     ·obtain ⟨w, hw, hm⟩:=h2 z hz; exact ⟨w, List.mem_cons_of_mem _ hw, hm⟩
theorem zge (cs:List Value) (off m r:Nat):(cs.drop off).take (m + r) = (cs.drop off).take m ++ (cs.drop (off + m)).take r:=by
 rw [List.take_add, List.drop_drop]
section
variable {P:Program} {H:Type} {enc:TypeId × Value → H} {W:World} {sp:Nat → Bool} {held:Bool} {base:Nat}
theorem zeq:∀ (d:Nat) {t:TypeId} {ls:List LeafK}, leafI P d t = some ls → ∀ {fuel:Nat} {cs:List Value} {x:DataW H × List MemPlace},
  DataW.trod enc P W base sp held fuel t cs = some x → LeafsOK ls cs ∧ x.2 = []
 | 0, _, _, h, _, _, _, _ => by cases h
 | d + 1, t, ls, h, fuel, cs, x, hx => by
  have ih:=@zeq d
  cases fuel with
  | zero => simp [DataW.trod] at hx
  | succ fuel =>
   rw [leafI] at h
   unfold DataW.trod at hx
   cases hu:P.underlying t with
   | none => rw [hu] at h; cases h
   | some ds =>
    rw [hu] at h hx
    cases ds <;> first | (cases h; done) | skip
    ·cases h
     match cs, hx with
     | [.bool b], hx => cases hx; exact ⟨⟨⟨b, rfl⟩, trivial⟩, rfl⟩
    ·rename_i k
     cases h
     match cs, hx with
     | [.int k' m], hx =>
      simp only at hx
      split at hx
      ·rename_i hk
       obtain ⟨rfl, hw⟩:=hk
       cases hx; exact ⟨⟨⟨m, rfl, hw⟩, trivial⟩, rfl⟩
      ·cases hx
    ·cases h
     match cs, hx with
     | [.string s], hx =>
      simp only at hx
      split at hx
      ·rename_i hs; cases hx; exact ⟨⟨⟨s, rfl, hs⟩, trivial⟩, rfl⟩
      ·cases hx
    ·rename_i n e
     simp only at h hx
     split at h
     ·rename_i l1 hl1
      split at h
      ·rename_i hc
       cases h
       split at hx
       ·rename_i hlen
        obtain ⟨xs, hxs, rfl⟩:=Option.map_eq_some_iff.1 hx
        obtain ⟨_, _, hall, hback⟩:=zjw hxs
        have each:∀ i, i < n → LeafsOK l1 ((cs.drop (i * P.cellsOf e)).take (P.cellsOf e)):=fun i hi => by
         obtain ⟨y, hy, _⟩:=hall i (List.mem_range.2 hi)
         exact (ih hl1 hy).1
        have gen:∀ m k, k + m = n → LeafsOK (z17 l1 m) ((cs.drop (k * P.cellsOf e)).take (m * P.cellsOf e)):=by
         intro m
         induction m with
         | zero => intro k _; simp [z17, LeafsOK]
         | succ m ihm =>
          intro k hk
          rw [show (m + 1) * P.cellsOf e = P.cellsOf e + m * P.cellsOf e by rw [Nat.succ_mul]; omega, zge]
          refine LeafsOK.append (each k (by omega)) ?_
          rw [show k * P.cellsOf e + P.cellsOf e = (k + 1) * P.cellsOf e by rw [Nat.succ_mul]]
          exact ihm (k + 1) (by omega)
        refine ⟨?_, ?_⟩
        ·have:=gen n 0 (by omega)
         have hrl:∀ m, (z17 l1 m).length = m * P.cellsOf e:=by
          intro m
          induction m with
          | zero => simp [z17]
          | succ m ihm => simp only [z17, List.length_append, ihm, hc.1]; rw [Nat.succ_mul]; omega
         rw [← hrl n, ← hc.2, ← hlen] at this
         simpa using this
        ·refine List.flatMap_eq_nil_iff.2 fun y hy => ?_
         obtain ⟨i, _, hi⟩:=hback y hy
         exact (ih hl1 hi).2
       ·cases hx
      ·cases h
     ·cases h
    ·rename_i fs
     simp only at h hx
     split at h
     ·rename_i l1 hl1
      split at h
      ·rename_i hc
       cases h
       split at hx
       ·rename_i hlen
        obtain ⟨xs, hxs, rfl⟩:=Option.map_eq_some_iff.1 hx
        obtain ⟨_, _, hall, hback⟩:=zjw hxs
        have gen:∀ (fl:List Field) (off:Nat) (ls:List LeafK), (∀ f ∈ fl, f ∈ fs.toList) → z01 P (leafI P d) fl off = some ls →
          LeafsOK ls ((cs.drop off).take ls.length) ∧ ∀ f ∈ fl, ∃ l, leafI P d f.type = some l:=by
         intro fl
         induction fl with
         | nil => intro off ls _ h; cases h; simp [LeafsOK]
         | cons f fl ihf =>
          intro off ls hm h
          simp only [z01] at h
          split at h
          ·rename_i l2 hl2
           split at h
           ·rename_i hc2
            obtain ⟨rfl, hc3⟩:=hc2
            split at h
            ·rename_i r hr
             cases h
             obtain ⟨g1, g2⟩:=ihf _ _ (fun g hg => hm g (List.mem_cons_of_mem _ hg)) hr
             refine ⟨?_, fun g hg => ?_⟩
             ·rw [List.length_append, zge]
              refine LeafsOK.append ?_ g1
              obtain ⟨y, hy, _⟩:=hall f (hm f (List.mem_cons_self ..))
              rw [← hc3]
              exact (ih hl2 hy).1
             ·rcases List.mem_cons.1 hg with rfl | hg
              ·exact ⟨l2, hl2⟩
              ·exact g2 g hg
            ·cases h
           ·cases h
          ·cases h
        obtain ⟨g1, g2⟩:=gen fs.toList 0 _ (fun _ h => h) hl1
        refine ⟨?_, ?_⟩
        ·rw [← hc, ← hlen] at g1; simpa using g1
        ·refine List.flatMap_eq_nil_iff.2 fun y hy => ?_
         obtain ⟨f, hf, hi⟩:=hback y hy
         obtain ⟨l, hl⟩:=g2 f hf
         exact (ih hl hi).2
       ·cases hx
      ·cases h
     ·cases h
theorem open_one {t:TypeId} {k:IntKind} {b0:Nat} {v:Value} {dd:DataW H} {ps:List MemPlace} (h:leafI P 20 t = some [.i k]) (hu:P.underlying t = some (.int k))
  (hval:Value.okWide P W .any b0 t v) (hd:DataW.Trod enc P W base sp held t v dd ps):∃ n, v = .int k n ∧ (Lit.int k n).wf = true ∧ ps = []:=by
 obtain ⟨fuel, hf⟩:=hd
 have h0:Cell.ok P W .any b0 t v:=by
  unfold Value.okWide at hval
  rw [hu] at hval
  unfold Cell.okWide at hval
  rw [hu] at hval
  exact hval
 unfold Cell.ok at h0
 rw [hu] at h0
 match v, h0 with
 | .int k' n, h0 =>
  obtain ⟨h1, h2⟩:=zeq 20 h (by simpa [Value.cells] using hf)
  obtain ⟨n', r, g1, g2, g3⟩:=zi5 h1
  cases g1
  exact ⟨n, rfl, g2, h2⟩
theorem open_sl {t e:TypeId} {ls:List LeafK} {b0:Nat} {v:Value} {dd:DataW H} {ps:List MemPlace} (ht:P.underlying t = some (.slice e)) (hlf:leafI P 20 e = some ls) (hce:P.cellsOf e = ls.length)
  (hval:Value.okWide P W .any b0 t v) (hd:DataW.Trod enc P W 0 (fun _ => true) held t v dd ps) :
  ∃ cs:List (List Value), (∀ c ∈ cs, LeafsOK ls c) ∧ cs.length ≤ maxLen ∧ SlV e ls.length cs.flatten cs.length false v (hp W):=by
 obtain ⟨fuel, hf⟩:=hd
 have hv:v = .slice none 0 0 ∨ ∃ a len cap, v = .slice (some a) len cap ∧ len ≤ cap ∧ cap ≤ maxLen ∧ a.spot = none ∧ ∃ cs fr ty, W.heap[a.block]? = some (.cells cs ty fr):=by
  have h0:Cell.ok P W .any b0 t v:=by
   unfold Value.okWide at hval
   rw [ht] at hval
   unfold Cell.okWide at hval
   rw [ht] at hval
   exact hval
  unfold Cell.ok at h0
  rw [ht] at h0
  match v, h0 with
  | .slice none 0 0, _ => exact .inl rfl
  | .slice (some a) len cap, h0 =>
   obtain ⟨h1, h2, _, h3, row, cells, h4, _⟩:=h0
   have hm:IntKind.i64.max = 9223372036854775807:=by decide
   refine .inr ⟨a, len, cap, rfl, h1, by rw [hm] at h2; unfold maxLen; omega, h3, ?_⟩
   unfold World.shape? at h4
   split at h4
   ·rename_i cs ty fr hh; exact ⟨_, _, _, hh⟩
   ·cases h4
 rcases hv with rfl | ⟨a, len, cap, rfl, h1, h2, h3, cs, fr, ty, h4⟩
 ·exact ⟨[], fun c h => (nomatch h), Nat.zero_le _, SlV.nil⟩
 ·rcases Deep.open_slice ht (by simpa [Value.cells] using hf) with ⟨h, _⟩ | ⟨a', len', cap', m, nn, D, Pl, h5, _, _, _, hm, _, hx⟩
  ·cases h
  ·cases h5
   simp only [if_true] at hm
   rw [hm] at hx
   clear hm
   obtain ⟨C, hC⟩:=Deep.choose_lt (α:=List Value) (n:=cap) (p:=fun i c => W.cells? 0 (a.add (i * P.cellsOf e)) (P.cellsOf e) = some c ∧ LeafsOK ls c) (fun i hi => by
    obtain ⟨c, g1, g2⟩:=hx i hi
    exact ⟨c, g1, (zeq 20 hlf g2).1⟩)
   have hln:∀ i, i < cap → (C i).length = ls.length:=fun i hi => (hC i hi).2.length
   refine ⟨(List.range len).map C, fun c hc => ?_, by simp; omega, ?_⟩
   ·obtain ⟨i, hi, rfl⟩:=List.mem_map.1 hc
    exact (hC i (by have:=List.mem_range.1 hi; omega)).2
   ·have hfl:∀ k, k ≤ cap → ((List.range k).map C).flatten.length = k * ls.length:=by
     intro k
     induction k with
     | zero => simp
     | succ k ih =>
      intro hk
      rw [List.range_succ, List.map_append, List.flatten_append, List.length_append, ih (by omega), Nat.succ_mul]
      simp [hln k (by omega)]
    refine ⟨by rw [hfl len h1, List.length_map, List.length_range], .inr ⟨a.block, a.off, cap, cs, ty, fr, ?_, h4, ?_, by simpa using h1, fun h => by cases h⟩⟩
    ·obtain ⟨ab, ao, asp⟩:=a
     simp only at h3
     subst h3
     simp
    ·rw [hfl len h1]
     have key:∀ k, k ≤ cap → (cs.toList.drop a.off).take (k * ls.length) = ((List.range k).map C).flatten:=by
      intro k
      induction k with
      | zero => simp
      | succ k ih =>
       intro hk
       rw [Nat.succ_mul, zge, ih (by omega), List.range_succ, List.map_append, List.flatten_append]
       congr 1
       obtain ⟨_, g2, g3⟩:=World.cells?_some (hC k (by omega)).1
       simp only [List.map_cons, List.map_nil, List.flatten_cons, List.flatten_nil, List.append_nil]
       apply List.ext_getElem?
       intro j
       rcases Nat.lt_or_ge j ls.length with hj | hj
       ·have:=g3 j (by omega)
        rw [← this, List.getElem?_take_of_lt hj, List.getElem?_drop]
        obtain ⟨ab, ao, asp⟩:=a
        simp only at h3
        subst h3
        rw [zb1, zb1, zas h4]
        simp only [hce]
        rw [Array.getElem?_toList]
       ·rw [List.getElem?_eq_none (by rw [List.length_take]; omega), List.getElem?_eq_none (by rw [hln k (by omega)]; exact hj)]
     exact key len h1
end
end Go.V
set_option maxRecDepth 20000
namespace Go.V.L3
open Go.Proofs Go.RowKit Go.V Go.V.L2
theorem zuo {n:Int} (h:Lit.wf (.int .u8 n) = true):∃ k:Nat, n = k ∧ k ≤ 255:=by
 have hb:IntKind.u8.min ≤ n ∧ n ≤ IntKind.u8.max:=by simpa [Lit.wf] using h
 have hmin:IntKind.u8.min = 0:=by decide
 have hmax:IntKind.u8.max = 255:=by decide
 rw [hmin, hmax] at hb
 exact ⟨n.toNat, by omega, by omega⟩
theorem ztc:∀ (cs:List (List Value)), (∀ c ∈ cs, LeafsOK [.i .u8, .i .u8] c) → ∃ ps:List (Nat × Nat), cs.flatten = ps.flatMap pcs ∧ cs.length = ps.length ∧ ∀ p ∈ ps, p.1 ≤ 255 ∧ p.2 ≤ 255
 | [], _ => ⟨[], rfl, rfl, fun n h => by cases h⟩
 | c :: cs, h => by
  obtain ⟨ps, h1, h2, h3⟩:=ztc cs fun x hx => h x (List.mem_cons_of_mem _ hx)
  have hc:=h c (List.mem_cons_self ..)
  obtain ⟨n, r1, rfl, hw, hc⟩:=zi5 hc
  obtain ⟨m, r2, rfl, hw2, hc⟩:=zi5 hc
  obtain rfl:=zj0 hc
  obtain ⟨n, rfl, hn⟩:=zuo hw
  obtain ⟨m, rfl, hm⟩:=zuo hw2
  refine ⟨(n, m) :: ps, by rw [List.flatten_cons, List.flatMap_cons, h1]; rfl, by rw [List.length_cons, List.length_cons, h2], fun p hp => ?_⟩
  rcases List.mem_cons.1 hp with rfl | hp
  ·exact ⟨hn, hm⟩
  ·exact h3 p hp
theorem z7r {cs:List (List Value)} (lcs:∀ c ∈ cs, LeafsOK [.i .u8, .i .u8] c) (zcs:cs.length ≤ maxLen) {H:Heap} {v:Value} (hcs:SlV ty2 2 cs.flatten cs.length false v H) :
  ∃ ps:List (Nat × Nat), (∀ p ∈ ps, p.1 ≤ 255 ∧ p.2 ≤ 255) ∧ ps.length ≤ 9223372036854775807 ∧ PS2 ps false v H:=by
 obtain ⟨ps, h1, h2, h3⟩:=ztc cs lcs
 rw [h1, h2] at hcs
 exact ⟨ps, h3, by unfold maxLen at zcs; omega, hcs⟩
end Go.V.L3
set_option maxRecDepth 20000
namespace Go.V.L8
open Go.Proofs Go.RowKit Go.V Go.V.L2 Go.V.L3 Go.V.L6
theorem zkh:∀ (cs:List (List Value)), (∀ c ∈ cs, LeafsOK [.i .u8, .i .u8, .i .u8] c) → ∃ qs:List C3, cs.flatten = qs.flatMap qcs ∧ cs.length = qs.length ∧ ∀ c ∈ qs, c.1 ≤ 255 ∧ c.2.1 ≤ 255 ∧ c.2.2 ≤ 255
 | [], _ => ⟨[], rfl, rfl, fun n h => by cases h⟩
 | c :: cs, h => by
  obtain ⟨qs, h1, h2, h3⟩:=zkh cs fun x hx => h x (List.mem_cons_of_mem _ hx)
  have hc:=h c (List.mem_cons_self ..)
  obtain ⟨n, r1, rfl, hw, hc⟩:=zi5 hc
  obtain ⟨m, r2, rfl, hw2, hc⟩:=zi5 hc
  obtain ⟨k, r3, rfl, hw3, hc⟩:=zi5 hc
  obtain rfl:=zj0 hc
  obtain ⟨n, rfl, hn⟩:=zuo hw
  obtain ⟨m, rfl, hm⟩:=zuo hw2
  obtain ⟨k, rfl, hk⟩:=zuo hw3
  refine ⟨(n, m, k) :: qs, by rw [List.flatten_cons, List.flatMap_cons, h1]; rfl, by rw [List.length_cons, List.length_cons, h2], fun p hp => ?_⟩
  rcases List.mem_cons.1 hp with rfl | hp
  ·exact ⟨hn, hm, hk⟩
  ·exact h3 p hp
theorem z6r {cs:List (List Value)} (lcs:∀ c ∈ cs, LeafsOK [.i .u8, .i .u8, .i .u8] c) (zcs:cs.length ≤ maxLen) {H:Heap} {v:Value} (hcs:SlV ty3 3 cs.flatten cs.length false v H) :
  ∃ qs:List C3, (∀ c ∈ qs, c.1 ≤ 255 ∧ c.2.1 ≤ 255 ∧ c.2.2 ≤ 255) ∧ qs.length ≤ 9223372036854775807 ∧ PS3 qs false v H:=by
 obtain ⟨qs, h1, h2, h3⟩:=zkh cs lcs
 rw [h1, h2] at hcs
 exact ⟨qs, h3, by unfold maxLen at zcs; omega, hcs⟩
end Go.V.L8
set_option maxRecDepth 20000
namespace Go.V.L11
open Go.Proofs Go.RowKit Go.V Go.V.L2 Go.V.L3 Go.V.L4 Go.V.L6 Go.V.L8 Go.V.Bd Go.V.L10
theorem _root_.Go.V.ZfO {A B:Prop} (h:B) (t:Wr B → A:=by intro h; refine zd (qz rfl rfl rfl rfl (decide_eq_false (by omega))) rfl ?_;exact h.h):A:=t ⟨h⟩
theorem z26 (s:ByteArray):∀ b ∈ zft s, b ≤ 255:=fun b hb => by
 unfold zft at hb
 rcases List.mem_append.1 hb with h | h
 ·exact zxz _ b h
 ·exact zor s b h
theorem zwu (l:List U):∀ b ∈ zfp l, b ≤ 255:=fun b hb => by
 unfold zfp at hb
 rcases List.mem_append.1 hb with h | h
 ·exact zxz _ b h
 ·obtain ⟨t, _, ht⟩:=List.mem_flatMap.1 h
  obtain ⟨s, _, hs⟩:=List.mem_flatMap.1 (show b ∈ (u6 t).flatMap zft from ht)
  exact z26 s b hs
theorem zv9 {l:List U} (h:∀ t ∈ l, tE t = 0):∀ t ∈ l, ∀ s ∈ u6 t, s.size ≤ 1000:=fun t ht s hs => by have:=z2y (h t ht) s hs; omega
section
variable {P:Program} {F:Fr} {B:Heap} {O:Boxes} {n:Nat} {ops:Array Oper} {κ:Kap} {d q:Nat} {ty:TypeId} {pos:String} {aft:Array Edge} {g:Option (Nat × Bool)}
theorem zxi (L:Tabs P) {tt:TypeId} {bs:List Nat} {fu ag:Bool} {hi:Operand} {kh:IntKind} (k:Nat) {ph:Int} (hn:Nat.blt d n = true) (hg:gK ops κ ⟨some d, .slice tt (.tmp q) none (some hi) none, ty, pos, aft, g⟩ = some true) (hx:κ q = some (.sat (BsV bs fu))) (ht:L.sl tt = some zje) (hl:L.ld zje = some (ag, 1))
  (hhi:evK κ hi = some (.int kh ph)) (eh:ph = k) (hjs:k ≤ bs.length):StepOK P F B n ops O κ ⟨some d, .slice tt (.tmp q) none (some hi) none, ty, pos, aft, g⟩ d (.sat (BsV (bs.take k) false)):=by
 have h:=zbf (kl:=.i64) (pl:=0) (km:=.i64) (pm:=0) (P:=P) (F:=F) (B:=B) (O:=O) (ops:=ops) (aft:=aft) (ty:=ty) (pos:=pos) (ys:=(bs.take k).map fun b:Nat => Value.int .u8 (b:Int)) L 0 k false hn hg hx ht hl rfl ⟨hhi, eh⟩ (fun h => by cases h) (by omega) hjs (by rw [Nat.zero_mul, List.drop_zero, Nat.mul_one, Nat.sub_zero, List.map_take])
 have e:k - 0 = (bs.take k).length:=by rw [List.length_take]; omega
 rw [e] at h
 exact h
end
attribute [local irreducible] V N X VO Par XP LV StepOK Has Ret RetL RetO RetT zbd RetX RetY Pan zjl Src
theorem zem {bs:List Nat} {fu:Bool} {l:List U} {a e:Int} (h:zek bs = (l, a, e)) (hb:∀ b ∈ bs, b ≤ 255) (hz:bs.length ≤ 1099511627776) {v:Value} {w:World} {B:Heap} (hB:B.Le (hp w)) (hv:BsV bs fu v B) :
  Ret Tryz.prog 33 [v] w B (RsP l a e):=by
 have:=zrt hb hz hB hv
 rw [h] at this
 exact this
theorem zf2 {bs:List Nat} {fu:Bool} {l:List U} {a e:Int} (h:zek bs = (l, a, e)) (hb:∀ b ∈ bs, b ≤ 255) (hz:bs.length ≤ 1099511627776) {v:Value} {w:World} {B:Heap} (hB:B.Le (hp w)) (hv:BsV bs fu v B) :
  Ret Tryz.prog 37 [v] w B (TupS [US l false, fun v _ => v = .int .i64 a, fun v _ => v = .int .i64 e]):=by
 have:=zlz hb hz hB hv
 rw [h] at this
 exact this
set_option maxHeartbeats 4000000 in
set_option maxRecDepth 20000 in
theorem zo6 {ps:List (Nat × Nat)} {cs:List C3} {fx fc fb:Bool} (hps:∀ p ∈ ps, p.1 ≤ 255 ∧ p.2 ≤ 255) (lps:ps.length ≤ 9223372036854775807) (hcs:∀ c ∈ cs, c.1 ≤ 255 ∧ c.2.1 ≤ 255 ∧ c.2.2 ≤ 255) (lcs:cs.length ≤ 9223372036854775807)
  {bs:List Nat} (hb:∀ b ∈ bs, b ≤ 255) {p:Nat} (hp65:p ≤ 65535) {sx cx bv:Value} {w:World} {B:Heap} (hB:B.Le (hp w)) (hM:GlobM B) (hx:PS2 ps fx sx B) (hc:PS3 cs fc cx B) (hv:BsV bs fb bv B) :
  Ret Tryz.prog 6 [.agg #[sx, cx], bv, .int .u16 p] w B (fun v _ => v = .bool true):=by
 obtain ⟨okl, ll⟩:=z5l ps cs
 have hsx:=fun (u:World) (H:Heap) (hH:H.Le (hp u)) (h1:PS2 ps fx sx H) (h2:PS3 cs fc cx H) => zz7 (fx:=fx) (fc:=fc) rfl hps lps hcs lcs hH h1 h2
 generalize sOf ps cs = M at okl ll hsx
 have hof:=ztj okl (by omega)
 have hok:=z3h okl (by omega)
 have hcut:=fun k (hk:k < (zfp M).length) => z0d okl (by omega) hk
 have hsb:=zwu M
 have hsz:=zv9 okl.ok
 have hln:1 ≤ (zfp M).length ∧ (zfp M).length ≤ 1000000:=by
  have h1:=zg8 hsz M.length
  rw [List.take_length] at h1
  rw [znn (by omega), List.length_cons]
  omega
 obtain ⟨pv, cv, rfl⟩:=zbt hv
 refine qu Tryz.func6 rfl Tryz.ntmps6 (Nat.le_of_ble_eq_true rfl) hB ?_
 refine za4 1 (BsV bs fb) rfl SlV.mono hv ?_
 by_cases h300:300 < bs.length
 ·refine Zbf ?_;refine ZbM ?_;refine ZaK ?_;refine z7 (q0 L rfl rfl (zn rfl) rfl rfl rfl (fun u H hH hle _ => zg4 hH (hM.mono hle))) rfl ?_;refine Zb ?_
  refine qt L (rs:=[.tmp 6]) rfl (fun _ _ h => h) Since.refl fun u H hH hle => ?_
  rfl
 ·have hbl:bs.length ≤ 1099511627776:=by omega
  have hms:Kn.mono (.sat (SetV M)):=SetV.mono
  have hme:Kn.mono (.sat (SetV [])):=SetV.mono
  refine Zbf ?_;refine Zv ?_;refine Zbv ?_;refine Zk ?_;refine Ze0 ?_;refine z7 (yk (φ:=US M false) L rfl rfl (zn rfl) rfl rfl rfl SlV.mono (fun u H hH hle _ => hsx u H hH (hx.le hle) (hc.le hle))) rfl ?_;refine Zcb ?_;refine Zr ?_;refine Zf ?_;refine z7 (yk (φ:=WithP M 0) L rfl rfl (zn rfl) rfl rfl rfl WithP.mono (fun u H hH _ _ v1 h1 => zws hof (by omega) okl.tz hH h1)) rfl ?_;refine zco 30 rfl ?_;rintro _ H1 hs1 ⟨tv, rfl, hT1⟩; obtain ⟨f1, p1, k1, q1, rfl, hp1⟩:=hT1.shape; refine ZdF ?_;refine Zd ?_;refine Zn ?_;refine Zah ?_;refine z7 (yk (φ:=BsV (zfp M) true) L rfl rfl (zn rfl) rfl rfl rfl SlV.mono (fun u H hH hle _ => zi1 (by omega) hsz hH (hT1.le hle))) rfl ?_;refine Zcb ?_;refine ZN ?_;refine Zf ?_;refine z7 (yk (φ:=RsP M 0 0) L rfl rfl (zn rfl) rfl rfl rfl (zcv SetV.mono) (fun u H hH hle _ v1 h1 => zem hok hsb (by omega) hH h1)) rfl ?_;refine Zbo ?_;refine zco 38 rfl fun s2 H2 hs2 hT2 => ?_;obtain ⟨f2, p2, k2, q2, rfl, hp2⟩:=hT2.shape; replace hT1:=hT1.le hs2.le; refine ZaG ?_;refine ZaG ?_;refine Zfm ?_;refine Zq ?_;refine Zg ?_
  have hMM:decide (M = M) = true:=decide_eq_true rfl
  have hmx:(if (1:Int) > ((zfp M).length:Int) then (1:Int) else ((zfp M).length:Int)) = ((zfp M).length:Int):=if_neg (by omega)
  have hc69:IntKind.i64.wrap (p:Int) = (p:Int):=zad (by omega) (by omega)
  obtain ⟨k, hk⟩:∃ k, p % (zfp M).length = k:=⟨_, rfl⟩
  have hkl:k < (zfp M).length:=by rw [← hk]; exact Nat.mod_lt _ (by omega)
  have hrm:(p:Int).tmod ((zfp M).length:Int) = (k:Int):=by rw [← hk]; rfl
  have hmn:(if ((zfp M).length:Int) < (k:Int) then ((zfp M).length:Int) else (k:Int)) = (k:Int):=if_neg (by omega)
  have hlk:((zfp M).take k).length = k:=by rw [List.length_take]; omega
  have hkb:∀ b ∈ (zfp M).take k, b ≤ 255:=fun b hb => hsb b (List.mem_of_mem_take hb)
  obtain ⟨l, n, e, hrs⟩:∃ l n e, zek bs = (l, n, e):=⟨_, _, _, rfl⟩
  have hall:=zw1 (bs:=bs)
  have hcan:=z0e hb
  rw [hrs] at hall hcan
  dsimp only at hall hcan
  have hsl:=zv9 hall.1
  have hml:Kn.mono (.sat (SetV l)):=SetV.mono
  have hmu:Kn.mono (.sat (US l false)):=SlV.mono
  have hl1:(if l = l then 1 else 0:Int) = 1:=if_pos rfl
  refine Zd7 ?_;refine Zal ?_;refine zd (zdy (bs:=zfp M) (fu:=true) hsb rfl rfl rfl rfl rfl rfl) rfl ?_;refine Zal ?_;refine zd (yk (φ:=BsV (zfp M) false) L rfl rfl (zn rfl) rfl rfl rfl SlV.mono (fun u H hH _ _ v1 h1 => (zw2 (by omega) hsz hH h1).toRet zob)) rfl ?_;refine zd (zdy (bs:=zfp M) (fu:=false) hsb rfl rfl rfl rfl rfl rfl) rfl ?_;refine zd (zg0 rfl rfl rfl rfl (decide_eq_false (fun h => h rfl))) rfl ?_;refine Zi ?_;refine Zal ?_;refine zd (z3u L rfl rfl rfl rfl) rfl ?_;refine ZeY ?_;refine ZfO ?_;refine Zag ?_;refine Z7 ?_;refine ZfO ?_;refine Zag ?_;refine Z7 ?_;refine ZfO ?_;refine Zcv ?_;refine Zcx ?_;refine Zcx ?_;refine zd (q0 L rfl rfl (zn rfl) rfl rfl rfl (fun u H hH hle _ => zwn (by omega) (by omega) hMM hH (hT1.le hle) (hT2.le hle))) rfl ?_;refine ZcJ ?_;refine Zag ?_;refine Zci ?_;refine Zb8 ?_;refine z7 (za0 rfl rfl rfl z2j.1 z2j.2 (zad (by omega) (by omega))) rfl ?_;refine Zv ?_;refine z7 (zf4 rfl rfl rfl rfl (by assumption)) rfl ?_;refine ZeW ?_;refine Zd ?_;refine ZX ?_;refine Zf ?_;refine Za ?_;refine Zv ?_;refine z7 (zxo rfl rfl rfl rfl (by assumption)) rfl ?_;refine z7 (zxi L k rfl rfl rfl rfl rfl rfl rfl (by omega)) rfl ?_;refine z7 (yk (φ:=RsP [] (k:Int) 17) L rfl rfl (zn rfl) rfl rfl rfl (zcv SetV.mono) (fun u H hH hle _ v1 h1 => zem (hcut k hkl) hkb (by omega) hH h1)) rfl ?_;refine Zbo ?_;refine zco 82 rfl fun s3 H3 hs3 hT3 => ?_;obtain ⟨f3, p3, k3, q3, rfl, hp3⟩:=hT3.shape; refine ZaG ?_;refine ZaG ?_;refine Zfm ?_;refine Zq ?_;refine Zg ?_;refine ZM ?_;refine Zc ?_;refine Zae ?_;refine Zc ?_;refine ZcV ?_;refine Za ?_;refine Zah ?_;refine z7 (q0 L rfl rfl (zn rfl) rfl rfl rfl (fun u H hH hle _ => zdc rfl hH (hT3.le hle))) rfl ?_;refine ZeM ?_;refine ZY ?_
  by_cases he:e = 0
  ·have hst:zds (zfp l) = zds bs:=congrArg zds (hcan he)
   have hlb:=zwu l
   refine Zbx ?_;refine Zf ?_;refine z7 (yk (φ:=RsP l n e) L rfl rfl (zn rfl) rfl rfl rfl (zcv SetV.mono) (fun u H hH hle _ v1 h1 => zem hrs hb hbl hH h1)) rfl ?_;refine Zbo ?_;refine zco 100 rfl fun s4 H4 hs4 hT4 => ?_;obtain ⟨f4, p4, k4, q4, rfl, hp4⟩:=hT4.shape; refine ZaG ?_;refine ZaG ?_;refine Zfm ?_;refine Zq ?_;refine Zd ?_;refine ZaO ?_;refine Zf ?_;refine z7 (yk (φ:=TupS [US l false, fun v _ => v = .int .i64 n, fun v _ => v = .int .i64 e]) L rfl rfl (zn rfl) rfl rfl rfl (zcv SlV.mono) (fun u H hH hle _ v1 h1 => zf2 hrs hb hbl hH h1)) rfl ?_;refine Zbo ?_;refine ZaG ?_;refine Zcu ?_;refine Zq ?_;refine Zd ?_;refine qh (id:=15) [] mixed (by kernel_rfl) ?_;refine Z7 ?_;refine Zbw ?_;refine Z7 ?_;refine Zi ?_;refine Zbw ?_;refine Zcv ?_;refine Zcx ?_;refine zd (yk (φ:=US l true) L rfl rfl (zn rfl) rfl rfl rfl SlV.mono (fun u H hH hle _ => zdt (by omega) hH (hT4.le hle))) rfl ?_;refine Zal ?_;refine zd (q0 L rfl rfl (zn rfl) rfl rfl rfl (fun u H hH hle _ v1 h1 v2 h2 => zmi (by omega) (by omega) hl1 hH h1 h2)) rfl ?_;refine Zbw ?_;refine Zag ?_;refine Z7 ?_;refine ZfO ?_;refine Zi ?_;refine Zcx ?_;refine zd (yk (φ:=BsV (zfp l) true) L rfl rfl (zn rfl) rfl rfl rfl SlV.mono (fun u H hH hle _ => zi1 (by omega) hsl hH (hT4.le hle))) rfl ?_;refine zd (zdy (bs:=zfp l) (fu:=true) hlb rfl rfl rfl rfl rfl rfl) rfl ?_;refine Zal ?_;refine zd (zdy (bs:=bs) (fu:=fb) hb rfl rfl rfl rfl rfl rfl) rfl ?_;refine zd (zk4 rfl rfl rfl rfl (decide_eq_true hst)) rfl ?_;refine Zag ?_;refine Zcv ?_;refine zd (q0 L rfl rfl (zn rfl) rfl rfl rfl (fun u H hH hle _ => zg4 hH (hM.mono (hs1.le.trans (hs2.le.trans (hs3.le.trans (hs4.le.trans hle))))))) rfl ?_;refine Zag ?_;refine Zl ?_
   refine qt L (rs:=[.tmp 6]) rfl (fun _ _ h => h) (hs1.trans (hs2.trans (hs3.trans hs4))) fun u H hH hle => ?_
   rfl
  ·refine Zbx ?_;refine Zf ?_;refine z7 (yk (φ:=RsP l n e) L rfl rfl (zn rfl) rfl rfl rfl (zcv SetV.mono) (fun u H hH hle _ v1 h1 => zem hrs hb hbl hH h1)) rfl ?_;refine Zbo ?_;refine zco 100 rfl fun s4 H4 hs4 hT4 => ?_;obtain ⟨f4, p4, k4, q4, rfl, hp4⟩:=hT4.shape; refine ZaG ?_;refine ZaG ?_;refine Zfm ?_;refine Zq ?_;refine Zd ?_;refine ZaO ?_;refine Zf ?_;refine z7 (yk (φ:=TupS [US l false, fun v _ => v = .int .i64 n, fun v _ => v = .int .i64 e]) L rfl rfl (zn rfl) rfl rfl rfl (zcv SlV.mono) (fun u H hH hle _ v1 h1 => zf2 hrs hb hbl hH h1)) rfl ?_;refine Zbo ?_;refine ZaG ?_;refine Zcu ?_;refine Zq ?_;refine Zd ?_;refine qh (id:=15) [] mixed (by kernel_rfl) ?_;refine Z7 ?_;refine Zbw ?_;refine Z7 ?_;refine Zi ?_;refine Zbw ?_;refine Zcv ?_;refine Zcx ?_;refine zd (yk (φ:=US l true) L rfl rfl (zn rfl) rfl rfl rfl SlV.mono (fun u H hH hle _ => zdt (by omega) hH (hT4.le hle))) rfl ?_;refine Zal ?_;refine zd (q0 L rfl rfl (zn rfl) rfl rfl rfl (fun u H hH hle _ v1 h1 v2 h2 => zmi (by omega) (by omega) hl1 hH h1 h2)) rfl ?_;refine Zbw ?_;refine Zag ?_;refine Z7 ?_;refine zd (qz rfl rfl rfl rfl (decide_eq_true (by omega))) rfl ?_;refine Zd9 ?_;refine ZbY ?_;refine Zag ?_;refine Zcv ?_;refine zd (q0 L rfl rfl (zn rfl) rfl rfl rfl (fun u H hH hle _ => zg4 hH (hM.mono (hs1.le.trans (hs2.le.trans (hs3.le.trans (hs4.le.trans hle))))))) rfl ?_;refine Zag ?_;refine Zl ?_
   refine qt L (rs:=[.tmp 6]) rfl (fun _ _ h => h) (hs1.trans (hs2.trans (hs3.trans hs4))) fun u H hH hle => ?_
   rfl
theorem wiresSet_in {ps cs ns:List (List Value)} (lps:∀ c ∈ ps, LeafsOK [.i .u8, .i .u8] c) (zps:ps.length ≤ maxLen) {W:World} {v1 v2 bv:Value} (hps:SlV ty2 2 ps.flatten ps.length false v1 (hp W)) (lcs:∀ c ∈ cs, LeafsOK [.i .u8, .i .u8, .i .u8] c) (zcs:cs.length ≤ maxLen) (hcs:SlV ty3 3 cs.flatten cs.length false v2 (hp W))
  (lns:∀ c ∈ ns, LeafsOK [.i .u8] c) (zns:ns.length ≤ maxLen) (hns:SlV zje 1 ns.flatten ns.length false bv (hp W)) {p:Int} (zp:Lit.wf (.int .u16 p) = true) (hM:GlobM (hp W)) :
  Ret Tryz.prog 6 [.agg #[v1, v2], bv, .int .u16 p] W (hp W) (fun v _ => v = .bool true):=by
 obtain ⟨p1, a1, a2, a3⟩:=z7r lps zps hps
 obtain ⟨q, b1, b2, b3⟩:=z6r lcs zcs hcs
 obtain ⟨bs, c1, c2⟩:∃ bs:List Nat, (∀ b ∈ bs, b ≤ 255) ∧ BsV bs false bv (hp W):=by
  have key:∀ (ns:List (List Value)), (∀ c ∈ ns, LeafsOK [.i .u8] c) → ∃ bs:List Nat, ns.flatten = byV bs ∧ ns.length = bs.length ∧ ∀ b ∈ bs, b ≤ 255:=by
   intro ns
   induction ns with
   | nil => exact fun _ => ⟨[], rfl, rfl, fun _ h => by cases h⟩
   | cons c ns ih =>
    intro h
    obtain ⟨bs, h1, h2, h3⟩:=ih fun x hx => h x (List.mem_cons_of_mem _ hx)
    have hc:=h c (List.mem_cons_self ..)
    obtain ⟨n, r1, rfl, hw, hc⟩:=zi5 hc
    obtain rfl:=zj0 hc
    obtain ⟨n, rfl, hn⟩:=zuo hw
    refine ⟨n :: bs, by rw [List.flatten_cons, h1]; rfl, by rw [List.length_cons, List.length_cons, h2], fun b hb => ?_⟩
    rcases List.mem_cons.1 hb with rfl | hb
    ·exact hn
    ·exact h3 b hb
  obtain ⟨bs, h1, h2, h3⟩:=key ns lns
  rw [h1, h2] at hns
  exact ⟨bs, h3, hns⟩
 obtain ⟨k, rfl, hk⟩:∃ k:Nat, p = k ∧ k ≤ 65535:=by
  have hb:IntKind.u16.min ≤ p ∧ p ≤ IntKind.u16.max:=by simpa [Lit.wf] using zp
  have hmin:IntKind.u16.min = 0:=by decide
  have hmax:IntKind.u16.max = 65535:=by decide
  rw [hmin, hmax] at hb
  exact ⟨p.toNat, by omega, by omega⟩
 exact zo6 a1 a2 b1 b2 c1 hk (Heap.Le.refl _) hM a3 b3 c2
end Go.V.L11
set_option maxRecDepth 20000
namespace Go.V
open Go.ChangeShapes Go.WideShapes Go.ChangeAt Go.ChangeMaps Go.RowKit
inductive Sh where
 | l (k:LeafK)
 | s (t e:TypeId) (ls:List LeafK)
def z86 (H:Heap) (e:TypeId) (ls:List LeafK) (v:Value):Prop:=∃ cs:List (List Value), (∀ c ∈ cs, LeafsOK ls c) ∧ cs.length ≤ maxLen ∧ SlV e ls.length cs.flatten cs.length false v H
def ShOK (H:Heap):List Sh → List Value → Prop
 | [], vs => vs = []
 | .l k :: r, vs => ∃ v w, vs = v :: w ∧ LeafsOK [k] [v] ∧ ShOK H r w
 | .s _ e ls :: r, vs => ∃ v w, vs = v :: w ∧ z86 H e ls v ∧ ShOK H r w
theorem ShOK.append {H:Heap}:∀ {a b:List Sh} {x y:List Value}, ShOK H a x → ShOK H b y → ShOK H (a ++ b) (x ++ y)
 | [], _, _, _, hx, hy => by cases hx; exact hy
 | .l k :: a, _, _, _, ⟨v, w, e, h1, h2⟩, hy => by subst e; exact ⟨v, _, rfl, h1, ShOK.append h2 hy⟩
 | .s t e ls :: a, _, _, _, ⟨v, w, e', h1, h2⟩, hy => by subst e'; exact ⟨v, _, rfl, h1, ShOK.append h2 hy⟩
theorem ShOK.leafs {H:Heap}:∀ {ls:List LeafK} {vs:List Value}, LeafsOK ls vs → ShOK H (ls.map .l) vs
 | [], vs, h => zj0 h
 | k :: ls, [], h => by have:=LeafsOK.length h; cases this
 | k :: ls, v :: vs, h => by
  cases k with
  | s => obtain ⟨a, r, e, h1, h2⟩:=z6d h; cases e; exact ⟨_, _, rfl, ⟨⟨a, rfl, h1⟩, trivial⟩, ShOK.leafs h2⟩
  | i k => obtain ⟨a, r, e, h1, h2⟩:=zi5 h; cases e; exact ⟨_, _, rfl, ⟨⟨a, rfl, h1⟩, trivial⟩, ShOK.leafs h2⟩
  | b => obtain ⟨a, r, e, h2⟩:=z6e h; cases e; exact ⟨_, _, rfl, ⟨⟨a, rfl⟩, trivial⟩, ShOK.leafs h2⟩
def shF (P:Program) (rec:TypeId → Option (List Sh)):List Field → Nat → Option (List Sh)
 | [], _ => some []
 | f :: fs, off => match rec f.type with
  | some ls => if f.offset = off ∧ P.cellsOf f.type = ls.length then
    match shF P rec fs (off + ls.length) with
    | some r => some (ls ++ r)
    | none => none
   else none
  | none => none
def shI (P:Program):Nat → TypeId → Option (List Sh)
 | 0, _ => none
 | d + 1, t => match leafI P 20 t with
  | some ls => some (ls.map .l)
  | none => match P.underlying t with
   | some (.slice e) => match leafI P 20 e with
    | some ls => if P.cellsOf e = ls.length then some [.s t e ls] else none
    | none => none
   | some (.struct fs) => match shF P (shI P d) fs.toList 0 with
    | some ls => if P.cellsOf t = ls.length then some ls else none
    | none => none
   | _ => none
section
variable {P:Program} {H:Type} {enc:TypeId × Value → H} {W:World} {held:Bool}
def z4u (P:Program) (W:World) (b0:Nat) (shs:List Sh) (cs:List Value):Prop:=∀ (i:Nat) t e ls v, shs[i]? = some (.s t e ls) → cs[i]? = some v → Cell.okWide P W .any b0 t v
theorem zmf {b0:Nat}:∀ (d:Nat) {t:TypeId} {ls:List Sh}, shI P d t = some ls → ∀ {fuel:Nat} {cs:List Value} {x:DataW H × List MemPlace},
  DataW.trod enc P W 0 (fun _ => true) held fuel t cs = some x → z4u P W b0 ls cs → ShOK (hp W) ls cs ∧ cs.length = ls.length
 | 0, _, _, h, _, _, _, _, _ => by cases h
 | d + 1, t, ls, h, fuel, cs, x, hx, hok => by
  have ih:=@zmf b0 d
  rw [shI] at h
  cases hlf:leafI P 20 t with
  | some l0 =>
   rw [hlf] at h; cases h
   have h1:=(zeq 20 hlf hx).1
   exact ⟨ShOK.leafs h1, by rw [h1.length, List.length_map]⟩
  | none =>
   rw [hlf] at h
   simp only at h
   cases hu:P.underlying t with
   | none => rw [hu] at h; cases h
   | some ds =>
    rw [hu] at h
    cases ds <;> first | (cases h; done) | skip
    ·rename_i e
     simp only at h
     split at h
     ·rename_i l1 hl1
      split at h
      ·rename_i hc
       cases h
       have hone:∃ v, cs = [v]:=by
        rcases Deep.open_slice hu hx with ⟨h1, _⟩ | ⟨a, len, cap, _, _, _, _, h1, _⟩
        ·exact ⟨_, h1⟩
        ·exact ⟨_, h1⟩
       obtain ⟨v, rfl⟩:=hone
       have h0:Cell.okWide P W .any b0 t v:=hok 0 t e l1 v rfl rfl
       have hval:Value.okWide P W .any b0 t v:=by unfold Value.okWide; rw [hu]; exact h0
       have hcl:v.cells = #[v]:=by
        rcases Deep.open_slice hu hx with ⟨h1, _⟩ | ⟨a, len, cap, _, _, _, _, h1, _⟩
        ·cases h1; rfl
        ·cases h1; rfl
       have hd:DataW.Trod enc P W 0 (fun _ => true) held t v x.1 x.2:=⟨fuel, by rw [hcl]; exact hx⟩
       exact ⟨⟨v, [], rfl, open_sl hu hl1 hc hval hd, rfl⟩, rfl⟩
      ·cases h
     ·cases h
    ·rename_i fs
     simp only at h
     cases fuel with
     | zero => simp [DataW.trod] at hx
     | succ fuel =>
     unfold DataW.trod at hx
     rw [hu] at hx
     simp only at hx
     split at h
     ·rename_i l1 hl1
      split at h
      ·rename_i hc
       cases h
       split at hx
       ·rename_i hlen
        obtain ⟨xs, hxs, rfl⟩:=Option.map_eq_some_iff.1 hx
        obtain ⟨_, _, hall, hback⟩:=zjw hxs
        have gen:∀ (fl:List Field) (off:Nat) (ls:List Sh), (∀ f ∈ fl, f ∈ fs.toList) → shF P (shI P d) fl off = some ls → (∀ (i:Nat) t e l v, ls[i]? = some (.s t e l) → cs[off + i]? = some v → Cell.okWide P W .any b0 t v) →
          ShOK (hp W) ls ((cs.drop off).take ls.length):=by
         intro fl
         induction fl with
         | nil => intro off ls _ h _; cases h; simp [ShOK]
         | cons f fl ihf =>
          intro off ls hm h hk
          simp only [shF] at h
          split at h
          ·rename_i l2 hl2
           split at h
           ·rename_i hc2
            obtain ⟨rfl, hc3⟩:=hc2
            split at h
            ·rename_i r hr
             cases h
             have g1:=ihf _ _ (fun g hg => hm g (List.mem_cons_of_mem _ hg)) hr fun i t e l v h1 h2 => hk (l2.length + i) t e l v (by rw [List.getElem?_append_right (by omega)]; simpa using h1) (by rw [← h2]; congr 1; omega)
             rw [List.length_append, zge]
             refine ShOK.append ?_ g1
             obtain ⟨y, hy, _⟩:=hall f (hm f (List.mem_cons_self ..))
             rw [← hc3]
             refine (ih hl2 hy fun i t e l v h1 h2 => ?_).1
             have hlt:i < l2.length:=by
              rcases Nat.lt_or_ge i l2.length with h | h
              ·exact h
              ·rw [List.getElem?_eq_none h] at h1; cases h1
             refine hk i t e l v (by rw [List.getElem?_append_left hlt]; exact h1) ?_
             rw [List.getElem?_take_of_lt (by omega), List.getElem?_drop] at h2
             exact h2
            ·cases h
           ·cases h
          ·cases h
        have g1:=gen fs.toList 0 _ (fun _ h => h) hl1 fun i t e l v h1 h2 => hok i t e l v h1 (by rw [← h2]; congr 1; omega)
        have hcl:cs.length = ls.length:=by rw [← hc, ← hlen]
        rw [List.drop_zero, ← hcl, List.take_length] at g1
        exact ⟨g1, hcl⟩
       ·cases hx
      ·cases h
     ·cases h
def z5j:List Sh → List TypeId → Bool
 | [], [] => true
 | .l _ :: r, _ :: ts => z5j r ts
 | .s t _ _ :: r, u :: ts => Nat.beq t u && z5j r ts
 | _, _ => false
theorem zks:∀ {shs:List Sh} {ts:List TypeId}, z5j shs ts = true → shs.length = ts.length ∧ ∀ (i:Nat) t e ls, shs[i]? = some (.s t e ls) → ts[i]? = some t
 | [], [], _ => ⟨rfl, fun i t e ls h => by simp at h⟩
 | [], _ :: _, h => by cases h
 | .l _ :: _, [], h => by cases h
 | .s .. :: _, [], h => by cases h
 | .l k :: r, u :: ts, h => by
  obtain ⟨h1, h2⟩:=zks (shs:=r) (ts:=ts) h
  refine ⟨by simp [h1], fun i t e ls hi => ?_⟩
  cases i with
  | zero => simp at hi
  | succ i => simpa using h2 i t e ls (by simpa using hi)
 | .s t0 e0 l0 :: r, u :: ts, h => by
  simp only [z5j, Bool.and_eq_true] at h
  obtain ⟨h1, h2⟩:=zks (shs:=r) (ts:=ts) h.2
  refine ⟨by simp [h1], fun i t e ls hi => ?_⟩
  cases i with
  | zero =>
   simp only [List.getElem?_cons_zero, Option.some.injEq, Sh.s.injEq] at hi
   have:=Nat.eq_of_beq_eq_true h.1
   simp only [List.getElem?_cons_zero, Option.some.injEq]
   rw [← hi.1, this]
  | succ i => simpa using h2 i t e ls (by simpa using hi)
theorem open_st {t:TypeId} {fs:Array Field} {ls:List Sh} {tys:List TypeId} {b0:Nat} {v:Value} {dd:DataW H} {ps:List MemPlace} (h:shI P 20 t = some ls) (hu:P.underlying t = some (.struct fs)) (hct:P.cellTypes P.depth t = some tys) (hst:z5j ls tys = true)
  (hval:Value.okWide P W .any b0 t v) (hd:DataW.Trod enc P W 0 (fun _ => true) held t v dd ps):∃ cs:List Value, v = .agg cs.toArray ∧ ShOK (hp W) ls cs:=by
 obtain ⟨fuel, hf⟩:=hd
 unfold Value.okWide at hval
 rw [hu] at hval
 obtain ⟨cs, rfl, _, ts, hts, _, hcell⟩:=hval
 rw [hct] at hts
 cases hts
 obtain ⟨h1, h2⟩:=zks hst
 refine ⟨cs.toList, by simp, (zmf (b0:=b0) 20 h hf fun i t' e l v hi hv => ?_).1⟩
 have hlt:i < ls.length:=by
  rcases Nat.lt_or_ge i ls.length with h | h
  ·exact h
  ·rw [List.getElem?_eq_none h] at hi; cases hi
 obtain ⟨u, hu1, hu2⟩:=hcell i v (by simpa [Value.cells] using hv)
 rw [Nat.mod_eq_of_lt (by omega), h2 i t' e l hi] at hu1
 cases hu1
 exact hu2
theorem sh_s {Hh:Heap} {t e:TypeId} {ls:List LeafK} {r:List Sh} {vs:List Value} (h:ShOK Hh (.s t e ls :: r) vs):∃ v w, vs = v :: w ∧ z86 Hh e ls v ∧ ShOK Hh r w:=h
end
end Go.V
set_option maxRecDepth 20000
namespace Go.Proofs.YtefilnnomholbaaGreat.wiresSet
open Go.ChangeShapes Go.WideShapes Go.ChangeAt Go.ChangeMaps Go.RowKit Go.V Go.V.L11
theorem own : ownKnob Tryz.prog.godebug = none := by kernel_rfl
theorem laidOut : laidOutB Tryz.prog = true := by kernel_rfl
theorem lf0 : shI Tryz.prog 20 82 = some [.s 22 64 [.i .u8, .i .u8], .s 25 135 [.i .u8, .i .u8, .i .u8]] := by kernel_rfl
theorem lq0 : Tryz.prog.cellTypes Tryz.prog.depth 82 = some [22, 25] := by kernel_rfl
theorem lr1 : Tryz.prog.readableRec 82 = true := by kernel_rfl
theorem lt1 : 82 < Tryz.prog.types.size := of_decide_eq_true (by kernel_rfl)
theorem lf2 : leafI Tryz.prog 20 5 = some [.i .u8] := by kernel_rfl
theorem lc2 : Tryz.prog.cellsOf 5 = ([.i .u8] : List LeafK).length := by kernel_rfl
theorem lr3 : Tryz.prog.readableRec 62 = true := by kernel_rfl
theorem lt3 : 62 < Tryz.prog.types.size := of_decide_eq_true (by kernel_rfl)
theorem lu4 : Tryz.prog.underlying 62 = some (.slice 5) := by kernel_rfl
theorem lf5 : leafI Tryz.prog 20 83 = some [.i .u16] := by kernel_rfl
theorem lo5 : Tryz.prog.underlying 83 = some (.int .u16) := by kernel_rfl
theorem lr6 : Tryz.prog.readableRec 83 = true := by kernel_rfl
theorem lt6 : 83 < Tryz.prog.types.size := of_decide_eq_true (by kernel_rfl)
set_option maxRecDepth 100000 in
theorem lifted (os : Os) (started : os.Started) (H : Type) (enc : TypeId × Value → H) :
    ReturnsInHanded {} Tryz.checked os 6 .any (Rows.wiresSetSpec.pre6 enc Tryz.prog Tryz.f6 Rows.wiresSetRow.domain false) (Rows.wiresSetSpec.post enc Tryz.prog Tryz.f6 false true false false) := by
  refine returnsInHanded_of_change_shaped (C := Tryz.checked) own started (by kernel_rfl) Tryz.func6
    (ChangeSpec.witness6 (enc := enc) (C := Tryz.checked) false ⟨#[], #[.agg #[.slice none 0 0, .slice none 0 0], .slice none 0 0, .int .u16 0], []⟩ 8 (by kernel_rfl) (by kernel_rfl) (by kernel_rfl) (by kernel_rfl)) ?_
  intro W base args ds gs before hval0 hW hcnd _ hsh _
  have hval : ∀ (j : Nat) t v, Tryz.f6.params[j]? = some t → args[j]? = some v → Value.okWide Tryz.prog W .any base t v := hval0
  have hW' := hW
  obtain ⟨p, q, hA0, hV, rfl, hfz, hnd⟩ := hW
  have hA : DataW.TrodAll enc Tryz.prog W 0 (fun _ => true) true Tryz.f6.params.toList args.toList ds p := hA0
  rw [Tryz.params6] at hA hval
  obtain ⟨v0, v1, v2, d0, d1, d2, p0, p1, p2, rfl, rfl, rfl, h0, h1, h2⟩ := trodAll_three hA
  obtain ⟨rfl, rfl⟩ := trodVars_none hV
  clear hA0 hval0
  obtain ⟨c0, rfl, l0⟩ := open_st lf0 Tryz.underlying82 lq0 rfl (hval 0 82 v0 rfl rfl) h0
  obtain ⟨wps, r0, rfl, ⟨ps, lps, zps, hps⟩, l0⟩ := sh_s l0
  obtain ⟨wcs, r0, rfl, ⟨cs, lcs, zcs, hcs⟩, l0⟩ := sh_s l0
  obtain rfl := l0
  obtain ⟨ns, lns, zns, hns⟩ := open_sl lu4 lf2 lc2 (hval 1 62 v1 rfl rfl) h1
  obtain ⟨a, rfl, za, rfl⟩ := open_one lf5 lo5 (hval 2 83 v2 rfl rfl) h2
  obtain ⟨m0, hm0⟩ := Tryz.laysM145.s1_3 W hsh
  have hglob := GlobM.of_cell hm0
  have hplc := hW'.lt
  simp only [List.append_nil] at hW'
  have hlaw := Go.V.L11.wiresSet_in lps zps hps lcs zcs hcs lns zns hns za hglob
  unfold Ret at hlaw
  refine hlaw.mono fun e W' hp => ?_
  obtain ⟨v, rfl, H', g, rfl⟩ := hp
  refine ⟨_, rfl, _, _, _, [], p0 ++ (p1 ++ ([] ++ ([]))), [], hW', trodAll_cons_mk (shut_bool Tryz.underlying4 _) trodAll_mk0, ?_, rfl, g.below.frame _, fun h => by cases h⟩
  exact trodAll_cons_mk (Below.trod laidOut lr1 lt1 h0 g.below (fun x hx => hplc x (by simp [hx]))) (trodAll_cons_mk (Below.trod laidOut lr3 lt3 h1 g.below (fun x hx => hplc x (by simp [hx]))) (trodAll_cons_mk (Below.trod laidOut lr6 lt6 h2 g.below (fun x hx => by cases hx)) trodAll_mk0))
theorem j1 : (Rows.wiresSetRow.inPlace == Tryz.prog.inPlace 6) = true := by kernel_rfl
theorem j2 : (Rows.wiresSetRow.unfollowed == Tryz.prog.unfollowed 6) = true := by kernel_rfl
theorem j3 : (Rows.wiresSetRow.recurses == Tryz.prog.recurses 6) = true := by kernel_rfl
theorem j4 : (Rows.wiresSetRow.named == Tryz.prog.varsNamed 6) = true := by kernel_rfl
theorem j5 : Tryz.prog.stopsHeard = true := by kernel_rfl
theorem j6 : laidOutB Tryz.prog = true := by kernel_rfl
theorem joined : joinedFacts Tryz.prog 6 Tryz.f6 Rows.wiresSetSpec Rows.wiresSetRow = true := by
  unfold joinedFacts
  rw [j1, j2, j3, j4, j5, j6]
  kernel_rfl
theorem proved : Rows.WiresSetSaid :=
  OpenClaim.holds_of_wide 6 Tryz.f6 rfl rfl rfl rfl rfl rfl rfl ⟨rfl, rfl, rfl, rfl, rfl⟩ rfl rfl rfl rfl rfl (by kernel_rfl) Tryz.func6 joined
    (of_decide_eq_true (by kernel_rfl)) (by unfold Func.isWrapper; first | (rw [if_pos (by decide +kernel)]; kernel_rfl) | (rw [if_neg (by decide +kernel)]; exact ⟨rfl, rfl⟩))
    (fun os started H enc _ => lifted os started H enc)
#print axioms proved
end Go.Proofs.YtefilnnomholbaaGreat.wiresSet
