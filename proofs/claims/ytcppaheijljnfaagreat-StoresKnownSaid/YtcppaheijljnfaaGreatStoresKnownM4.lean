/- Texts on the way to StoresKnown, part 4: one behind another. -/
import Derived.Test.YtcppaheijljnfaaGreatStoresKnownM3
import Derived.Sort.LotD5
import Derived.Sort.Walk7
import Derived.Sort.WalkA14
import Derived.Sort.Walk13
import Derived.Lib.AppendZerosOnto
import Derived.Lib.Overlaps
import Derived.Laws.Externs
set_option linter.unusedVariables false
set_option linter.unusedSimpArgs false
set_option maxRecDepth 20000
namespace Go.V.L8
open Go.Proofs Go.RowKit Go.V Go.V.L2 Go.V.L3 Go.V.L6
theorem _root_.Go.V.Z293 {A B : Prop} (h : B) (t : Wr B → A := by intro h; refine Z163 ?_; refine Z17 ?_; exact h.h) : A := t ⟨h⟩
theorem firstR_no {s : List U} {l : List CH} (h0 : cE 32 l = 0) {i : Nat} {c : CH} (h : ∀ (j : Nat) x, j < i → l[j]? = some x → holdB s x = true) (hc : l[i]? = some c) (hh : holdB s c = false) : firstR s l = (i, 13) := by
  unfold firstR; rw [if_pos h0]; exact firstI_hit h hc hh
theorem firstR_yes {s : List U} {l : List CH} (h0 : cE 32 l = 0) (h : ∀ (j : Nat) x, l[j]? = some x → holdB s x = true) : firstR s l = (l.length, 0) := by
  unfold firstR; rw [if_pos h0]; exact firstI_all fun x hx => let ⟨j, hj⟩ := List.getElem?_of_mem hx; h j x hj
attribute [local irreducible] V N X VO Par StepOK Has Ret RetL RetO RetT Src
theorem cchk_ret {l : List CH} {fu : Bool} (hz : ∀ c ∈ l, TM c.1) (hl : l.length ≤ 9223372036854775807) {e : Int} (he : cE 32 l = e) {v : Value} {w : World} {B : Heap} (hB : B.Le (hp w)) (hv : KS tyC l fu v B) :
    Ret Tryz.prog 79 [v] w B (fun r _ => r = .int .i64 e) := by
  obtain ⟨p, m, c, rfl⟩ := slv_shape hv
  refine y7 Tryz.func79 rfl Tryz.ntmps79 (Nat.le_of_ble_eq_true rfl) hB ?_
  refine Z146 ?_; refine Z124 ?_
  refine V_opn 1 rfl fun q H1 hs1 ⟨b, hpb, hb1⟩ => ?_
  subst hpb
  refine Z17 ?_; refine Z50 ?_; refine vo_seen 3 (KS tyC l fu) rfl SlV.mono (hv.le hs1.le) ?_; refine Z25 ?_; refine z7 (ok_makeFunc rfl rfl rfl rfl) rfl ?_; refine z7 (zp L rfl rfl (zk rfl) rfl rfl rfl (fun u H hH hle _ => mcheck_ret (caps := [.pointer (some ⟨b, 0, none⟩)]) hz hl rfl he hH (fun i c hc u' H' hH' hle' => ccl_ret hc hH' (hle' _ _ (hle _ _ hb1)) ((hv.le hs1.le).le (Heap.Le.trans hle hle'))))) rfl ?_; refine Z122 ?_
  refine y9 L (rs := [.tmp 2]) rfl (fun _ _ h => h) hs1 fun u H hH hle => ?_
  rfl
theorem holds_ret {s : List U} {c : CH} {b : Bool} (hb : holdB s c = b) {v : Value} {w : World} {B : Heap} (hB : B.Le (hp w)) (hv : SetV s v B) : Ret Tryz.prog 122 [v, chv c.1 c.2] w B (fun r _ => r = .bool b) := by
  subst hb
  obtain ⟨x, d⟩ := c
  obtain ⟨f1, p1, f2, q1, rfl, hpl⟩ := hv.shape
  obtain ⟨h, hh⟩ : ∃ h, decide (x ∈ s) = h := ⟨_, rfl⟩
  unfold holdB
  dsimp only
  rw [hh]
  refine y7 Tryz.func122 rfl Tryz.ntmps122 (Nat.le_of_ble_eq_true rfl) hB ?_
  refine Z189 ?_; refine Z124 ?_; refine Z82 ?_; refine z8 (zt L (vs := [_, _, _, _]) (qt rfl) rfl rfl rfl rfl ⟨_, rfl⟩) rfl ?_; refine Z45 ?_; refine z8 (zt L (vs := [_, _, _, _, _, _]) (qt rfl) rfl rfl rfl rfl ⟨_, rfl⟩) rfl ?_; refine z8 (zp L rfl rfl (zk rfl) rfl rfl rfl (fun u H hH hle _ => shas_ret hh hH (hv.le hle))) rfl ?_; refine Z283 ?_; refine Z207 ?_
  refine y9 L (rs := [.tmp 4]) rfl (fun _ _ h => h) Since.refl fun u H hH hle => ?_
  cases h <;> cases d <;> rfl
set_option maxHeartbeats 1000000 in
theorem first_ret {s : List U} {l : List CH} {fu : Bool} (hz : ∀ c ∈ l, TM c.1) (hl : l.length ≤ 9223372036854775807) {r : Nat} {e : Int} (hr : firstR s l = (r, e)) {sv v : Value} {w : World} {B : Heap} (hB : B.Le (hp w)) (hs : SetV s sv B) (hv : KS tyM l fu v B) :
    Ret Tryz.prog 80 [sv, v] w B (fun x _ => x = .tuple #[.int .i64 r, .int .i64 e]) := by
  obtain ⟨f1, p1, f2, q1, rfl, hpl⟩ := hs.shape
  refine y7 Tryz.func80 rfl Tryz.ntmps80 (Nat.le_of_ble_eq_true rfl) hB ?_
  refine V_seen 1 (KS tyM l fu) rfl SlV.mono hv ?_
  by_cases h0 : cE 32 l = 0
  · refine Z146 ?_; refine Z293 ?_; refine Z7 ?_; refine z7 (zp L rfl rfl (zk rfl) rfl rfl rfl (fun u H hH _ _ v1 h1 => mchk_ret hz hl h0 hH h1)) rfl ?_; refine Z208 ?_; refine Z254 ?_; refine Z34 ?_; refine Z304 ?_
    refine V_loop (fun i : Nat => [(1, .sat (KS tyM l fu)), (2, .sat (At [f1, .pointer p1, f2, .pointer q1] tySet 0)), (14, .sat (KS tyM l fu)), (15, .is (.int .i64 l.length)), (16, .is (.int .i64 i))]) (fun i => i ≤ l.length ∧ ∀ (j : Nat) x, j < i → l[j]? = some x → holdB s x = true) (fun i => l.length - i) 0 ⟨Nat.zero_le _, fun j c h => absurd h (Nat.not_lt_zero _)⟩ ⟨rfl, rfl, rfl, rfl, rfl, trivial⟩ ?_
    rintro i ⟨hi, hok⟩
    by_cases hlt : i < l.length
    · obtain ⟨c, hc0⟩ := get_some hlt
      have hc := ks_at hc0
      cases hh : holdB s c
      · rw [firstR_no h0 hok hc0 hh] at hr
        cases hr
        refine zh ?_; refine Z44 ?_; refine Z193 ?_; refine Z172 ?_; refine z7 (ye L _ rfl rfl rfl rfl rfl rfl rfl (by first | omega | decide) (by assumption)) rfl ?_; refine z7 (yn L (vs := [_, _, _, _, _, _, _]) rfl rfl rfl rfl rfl ⟨_, rfl⟩) rfl ?_; refine Z21 ?_; refine Z2 ?_; refine Z13 ?_; refine Z137 ?_; refine Z43 ?_; refine z7 (zt L (vs := [_, _, _, _]) (qt rfl) rfl rfl rfl rfl ⟨_, rfl⟩) rfl ?_; refine z7 (zt L (vs := [_, _, _, _, _, _, _]) (y5 rfl) rfl rfl rfl rfl ⟨_, rfl⟩) rfl ?_; refine z7 (zp L rfl rfl (zk rfl) rfl rfl rfl (fun u H hH hle _ => holds_ret hh hH (hs.le hle))) rfl ?_; refine Z49 ?_; refine Z138 ?_; refine Z197 ?_; refine Z173 ?_
        refine y9 L (rs := [.tmp 4, .tmp 5]) rfl (fun _ _ h => h) Since.refl fun u H hH hle => ?_
        rfl
      · refine zh ?_; refine Z44 ?_; refine Z193 ?_; refine Z172 ?_; refine z7 (ye L _ rfl rfl rfl rfl rfl rfl rfl (by first | omega | decide) (by assumption)) rfl ?_; refine z7 (yn L (vs := [_, _, _, _, _, _, _]) rfl rfl rfl rfl rfl ⟨_, rfl⟩) rfl ?_; refine Z21 ?_; refine Z2 ?_; refine Z13 ?_; refine Z137 ?_; refine Z43 ?_; refine z7 (zt L (vs := [_, _, _, _]) (qt rfl) rfl rfl rfl rfl ⟨_, rfl⟩) rfl ?_; refine z7 (zt L (vs := [_, _, _, _, _, _, _]) (y5 rfl) rfl rfl rfl rfl ⟨_, rfl⟩) rfl ?_; refine z7 (zp L rfl rfl (zk rfl) rfl rfl rfl (fun u H hH hle _ => holds_ret hh hH (hs.le hle))) rfl ?_; refine Z49 ?_; refine Z257 ?_; refine Z61 ?_; refine Z258 ?_
        exact y8 (x := i) (i + 1) ⟨hlt, fun j c' hj hc' => by
          rcases Nat.lt_or_ge j i with h | h
          · exact hok j c' h hc'
          · have : j = i := by omega
            subst this; rw [hc0] at hc'; cases hc'; exact hh⟩ (by omega) ⟨rfl, rfl, rfl, rfl, rfl, trivial⟩
    · rw [firstR_yes h0 (fun j x hj => hok j x (by have := get_lt hj; omega) hj)] at hr
      cases hr
      refine zh ?_; refine Z44 ?_; refine Z259 ?_; refine Z74 ?_; refine Z139 ?_; refine Z173 ?_
      refine y9 L (rs := [.tmp 4, .tmp 5]) rfl (fun _ _ h => h) Since.refl fun u H hH hle => ?_
      rfl
  · have : firstR s l = (0, cE 32 l) := if_neg h0
    rw [this] at hr
    cases hr
    refine Z146 ?_; refine Z293 ?_; refine Z7 ?_; refine z7 (zp L rfl rfl (zk rfl) rfl rfl rfl (fun u H hH _ _ v1 h1 => mchk_ret hz hl rfl hH h1)) rfl ?_; refine Z208 ?_; refine Z211 ?_; refine Z158 ?_; refine Z173 ?_
    refine y9 L (rs := [.tmp 4, .tmp 5]) rfl (fun _ _ h => h) Since.refl fun u H hH hle => ?_
    rfl
end Go.V.L8
set_option maxRecDepth 20000
namespace Go.V.L8
open Go.Proofs Go.RowKit Go.V Go.V.L2 Go.V.L3 Go.V.L6
attribute [local irreducible] V N X VO Par StepOK Has Ret RetL RetO RetT Src
end Go.V.L8
set_option maxRecDepth 20000
namespace Go.V.L8
open Go.Proofs Go.RowKit Go.V Go.V.L2 Go.V.L3 Go.V.L6
theorem _root_.Go.V.Z81 {A B : Prop} (h : B) (t : Wr B → A := by intro h; refine zf (id := 20) ?_; exact h.h) : A := t ⟨h⟩
theorem _root_.Go.V.Z103 {A B : Prop} (h : B) (t : Wr B → A := by intro h; refine qk (ok_append L rfl rfl rfl (apd_B rfl) rfl el120 rfl rfl (by omega) (by omega)) ?_; exact h.h) : A := t ⟨h⟩
theorem _root_.Go.V.Z119 {A B : Prop} (h : B) (t : Wr B → A := by intro h; refine z8 (ok_beql rfl rfl rfl rfl bt4 rfl) rfl ?_; exact h.h) : A := t ⟨h⟩
theorem _root_.Go.V.Z236 {A B : Prop} (h : B) (t : Wr B → A := by intro h; refine Z95 ?_; refine Z1 ?_; exact h.h) : A := t ⟨h⟩
theorem _root_.Go.V.Z242 {A B : Prop} (h : B) (t : Wr B → A := by intro h; refine Z21 ?_; refine Z51 ?_; exact h.h) : A := t ⟨h⟩
theorem _root_.Go.V.Z255 {A B : Prop} (h : B) (t : Wr B → A := by intro h; refine Z147 ?_; refine Z242 ?_; exact h.h) : A := t ⟨h⟩
theorem _root_.Go.V.Z294 {A B : Prop} (h : B) (t : Wr B → A := by intro h; refine Z255 ?_; refine Z132 ?_; exact h.h) : A := t ⟨h⟩
theorem cE_all {n : Nat} {l : List CH} (h : cE n l = 0) : l.length ≤ n ∧ ∀ c ∈ l, tE c.1 = 0 := by
  unfold cE at h
  split at h
  · exact absurd h (by decide)
  · split at h
    · exact absurd h (by decide)
    · rename_i h1 h2
      refine ⟨by omega, fun c hc => ?_⟩
      by_cases h0 : tE c.1 = 0
      · exact h0
      · exact absurd (List.any_eq_true.2 ⟨c, hc, by simp [h0]⟩) h2
theorem tz_chk {s : ByteArray} (h : chk s = 0) : s.size ≤ 1099511627776 := by
  unfold chk at h
  split at h
  · rename_i h1; omega
  · exact absurd h (by decide)
theorem tz_valid {t : U} (h : tE t = 0) : TZ t := by
  unfold tE at h
  split at h
  · rename_i h1
    obtain ⟨c1, c2, c3⟩ := allE3 h1
    obtain ⟨d1, d2, d3⟩ := subjE_zero h
    refine ⟨⟨tz_chk c1, tz_chk c2, tz_chk c3⟩, tz_chk d1, tz_chk d2, ?_⟩
    rcases d3 with d3 | d3
    · rw [d3]; exact Nat.zero_le _
    · exact tz_chk d3
  · rename_i h1; exact absurd h h1
def WriteP (t : List U) (made : List CH) (e : Int) (r : Value) (H : Heap) : Prop := ∃ tv mv, r = .tuple #[tv, mv, .int .i64 e] ∧ SetV t tv H ∧ KS tyC made true mv H
theorem WriteP.mono {t : List U} {made : List CH} {e : Int} : Kn.mono (.sat (WriteP t made e)) := fun _ _ _ ⟨tv, mv, h1, h2, h3⟩ hle => ⟨tv, mv, h1, h2.le hle, h3.le hle⟩
attribute [local irreducible] V N X VO Par StepOK Has Ret RetL RetO RetT Src
theorem clipC_ret {l : List CH} {fu : Bool} {v : Value} {w : World} {B : Heap} (hB : B.Le (hp w)) (hv : KS tyC l fu v B) : Ret Tryz.prog 81 [v] w B (KS tyC l true) := by
  refine y7 Tryz.func81 rfl Tryz.ntmps81 (Nat.le_of_ble_eq_true rfl) hB ?_
  refine V_seen 0 (KS tyC l fu) rfl SlV.mono hv ?_
  refine Z206 ?_; refine Z7 ?_; refine Z139 ?_; refine Z139 ?_; refine Z104 ?_; refine Z52 ?_; refine Z121 ?_
  refine y9 L (rs := [.tmp 2]) rfl (fun _ _ h => h) Since.refl fun u H hH hle => ?_
  exact fun v hv => hv
set_option maxHeartbeats 4000000 in
set_option maxRecDepth 10000 in
theorem write_ret {s t : List U} {l cs made : List CH} {fl fc : Bool} {e : Int} (zl : ∀ c ∈ l, TM c.1) (zc : ∀ c ∈ cs, TM c.1) (ll : l.length ≤ 9223372036854775807) (lc : cs.length ≤ 9223372036854775807) (hsl : s.length ≤ 4096) (hr : writeR s l cs = (t, made, e)) {sv lv cv : Value} {w : World} {B : Heap} (hB : B.Le (hp w))
    (hs : SetV s sv B) (hl : KS tyM l fl lv B) (hc : KS tyC cs fc cv B) : Ret Tryz.prog 49 [sv, lv, cv] w B (WriteP t made e) := by
  obtain ⟨f1, p1, f2, q1, rfl, hpl⟩ := hs.shape
  refine y7 Tryz.func49 rfl Tryz.ntmps49 (Nat.le_of_ble_eq_true rfl) hB ?_
  refine V_seen 1 (KS tyM l fl) rfl SlV.mono hl ?_
  refine V_seen 2 (KS tyC cs fc) rfl SlV.mono hc ?_
  unfold writeR at hr
  by_cases h1 : cE 32 l = 0
  · rw [if_pos h1] at hr
    by_cases h2 : cE 32 cs = 0
    · rw [if_pos h2] at hr
      obtain ⟨r, e1, hf⟩ : ∃ r e1, firstR s l = (r, e1) := ⟨_, _, rfl⟩
      rw [hf] at hr
      dsimp only at hr
      by_cases h3 : e1 = 0
      · subst h3
        rw [if_pos rfl] at hr
        obtain ⟨l32, hval⟩ := cE_all h2
        refine Z271 ?_; refine Z21 ?_; refine Z293 ?_; refine Z7 ?_; refine z7 (zp L rfl rfl (zk rfl) rfl rfl rfl (fun u H hH _ _ v1 g1 => mchk_ret zl ll h1 hH g1)) rfl ?_; refine Z208 ?_; refine Z254 ?_; refine Z34 ?_; refine Z7 ?_; refine z7 (zp L rfl rfl (zk rfl) rfl rfl rfl (fun u H hH _ _ v1 g1 => cchk_ret zc lc h2 hH g1)) rfl ?_; refine Z124 ?_; refine Z166 ?_; refine Z254 ?_; refine Z43 ?_; refine z7 (zt L (vs := [_, _, _, _]) (y5 rfl) rfl rfl rfl rfl ⟨_, rfl⟩) rfl ?_; refine Z7 ?_; refine z7 (zp L rfl rfl (zk rfl) rfl rfl rfl (fun u H hH hle _ v1 g1 => first_ret zl ll hf hH (hs.le hle) g1)) rfl ?_; refine Z196 ?_; refine Z197 ?_; refine Z254 ?_; refine Z74 ?_; refine Z304 ?_
        refine V_clsX (X := SXp) 3 (r := fun x => Cell (scs x.1) tySet) (φ := sphi s) (sphi_mono s) ⟨(f1, p1, f2, q1), hpl⟩ hs rfl ?_
        refine V_nilR 7 tyC 7 rfl ?_
        refine V_loop (fun y : Nat × List U × List CH => [(3, .own (ExR (fun x : SXp => Cell (scs x.1) tySet) (sphi y.2.1) (sphi_mono y.2.1))), (6, .own (Cell [.nilFunc, .pointer none, .nilFunc, .pointer none] tySet)), (7, .own (SlR tyC 7 y.2.2.length (y.2.2.flatMap ccs))), (40, .sat (KS tyC cs fc)), (41, .is (.int .i64 cs.length)), (42, .is (.int .i64 y.1))])
          (fun y => y.1 ≤ cs.length ∧ writeL y.2.1 y.2.2 (cs.drop y.1) = (t, made, e) ∧ y.2.1.length ≤ 4096 ∧ y.2.2.length ≤ y.1) (fun y => cs.length - y.1) (0, s, []) ⟨Nat.zero_le _, hr, hsl, Nat.le_refl _⟩ ⟨rfl, rfl, rfl, rfl, rfl, rfl, trivial⟩ ?_
        clear hr hs hsl
        rintro ⟨k, s, md⟩ ⟨hk, he, hsl, hmd⟩
        dsimp only at hk he hsl hmd ⊢
        refine V_opnX 3 rfl fun ⟨⟨f1, p1, f2, q1⟩, hpl⟩ H3 hs3 hT => ?_
        have hT : SetV s (.agg #[f1, .pointer p1, f2, .pointer q1]) H3 := hT
        by_cases hlt : k < cs.length
        · obtain ⟨c, hc0⟩ := get_some hlt
          have hc := ks_at hc0
          have hv := hval c (List.mem_of_getElem? hc0)
          have hzt := tz_valid hv
          rw [drop_g hc0, writeL] at he
          obtain ⟨x, d⟩ := c
          dsimp only at hc hv hzt he
          rcases hw : withU s x d with ⟨s', e'⟩
          rw [hw] at he
          dsimp only at he
          have hsl' := withU_len hsl x d
          rw [hw] at hsl'
          obtain ⟨i, hin⟩ : ∃ i, decide (x ∈ s) = i := ⟨_, rfl⟩
          rw [hin] at he
          by_cases h0 : e' = 0
          · rw [if_pos h0] at he
            subst h0
            cases i <;> cases d
            · rw [if_pos rfl] at he
              refine zh ?_; refine Z64 ?_; refine Z193 ?_; refine Z80 ?_; refine z7 (ye L _ rfl rfl rfl rfl rfl rfl rfl (by first | omega | decide) (by assumption)) rfl ?_; refine z7 (yn L (vs := [_, _, _, _, _, _, _]) rfl rfl rfl rfl rfl ⟨_, rfl⟩) rfl ?_; refine Z170 ?_; refine Z137 ?_
              refine V_box 14 rfl fun b14 hb14 => ?_
              refine Z105 ?_; refine z8 (zt L (vs := [_, _, _, _]) (y5 rfl) rfl rfl rfl rfl ⟨_, rfl⟩) rfl ?_; refine Z24 ?_; refine z8 (zt L (vs := [_, _, _, _, _, _]) (src_box rfl (List.Mem.head _)) rfl rfl rfl rfl ⟨_, rfl⟩) rfl ?_; refine z8 (zp L rfl rfl (zk rfl) rfl rfl rfl (fun u H hH hle _ => shas_ret hin hH (hT.le hle))) rfl ?_; refine Z24 ?_; refine z8 (qh L (src_box rfl (List.Mem.head _)) rfl rfl rfl rfl) rfl ?_; refine Z119 ?_; refine Z260 ?_; refine Z69 ?_; refine z7 (zt L (vs := [_, _, _, _]) (y5 rfl) rfl rfl rfl rfl ⟨_, rfl⟩) rfl ?_; refine z7 (zt L (vs := [_, _, _, _, _, _, _]) (src_box rfl (List.Mem.head _)) rfl rfl rfl rfl ⟨_, rfl⟩) rfl ?_; refine z7 (yr (φ := WithP s' 0) L rfl rfl (zk rfl) rfl rfl rfl WithP.mono (fun u H hH hle _ => with_p hw hsl hzt hH (hT.le hle))) rfl ?_; refine vo_opn 56 rfl ?_; rintro _ H19 hs19 ⟨tv, rfl, hT19⟩; obtain ⟨g1, r1, g2, r2, rfl, hpl2⟩ := hT19.shape; refine Z294 ?_; refine Z88 ?_; refine Z1 ?_; refine Z222 ?_; refine Z100 ?_; refine z7 (zt L (vs := [_, _, _, _]) (y5 rfl) rfl rfl rfl rfl ⟨_, rfl⟩) rfl ?_; refine Z51 ?_; refine Z137 ?_; refine Z236 ?_; refine Z129 ?_; refine zf (id := 19) ?_; refine qk (ok_moveO (.inl rfl) rfl rfl rfl rfl) ?_; refine z7 (zt L (vs := [_, _, _, _, _, _, _]) (src_box rfl (List.Mem.head _)) rfl rfl rfl rfl ⟨_, rfl⟩) rfl ?_; refine Z54 ?_; refine Z103 ?_; refine qk (ok_moveO (.inr rfl) rfl rfl rfl rfl) ?_; refine Z302 ?_
              refine V_drop (O' := []) (List.nil_sublist _) ?_
              refine Z81 ?_; refine Z258 ?_
              refine N_clsX (X := SXp) 3 (r := fun x => Cell (scs x.1) tySet) (φ := sphi s') (sphi_mono _) ⟨(g1, r1, g2, r2), hpl2⟩ hT19 rfl ?_
              exact N_roundS (x := (k, s, md)) (k + 1, s', md ++ [(x, false)]) (hs3.trans hs19) ⟨hlt, he, hsl', by dsimp only; rw [List.length_append]; show md.length + 1 ≤ k + 1; omega⟩ (by dsimp only; omega) ⟨rfl, rfl, ks_snoc rfl, rfl, rfl, rfl, trivial⟩
            · rw [if_neg (by decide)] at he
              refine zh ?_; refine Z64 ?_; refine Z193 ?_; refine Z80 ?_; refine z7 (ye L _ rfl rfl rfl rfl rfl rfl rfl (by first | omega | decide) (by assumption)) rfl ?_; refine z7 (yn L (vs := [_, _, _, _, _, _, _]) rfl rfl rfl rfl rfl ⟨_, rfl⟩) rfl ?_; refine Z170 ?_; refine Z137 ?_
              refine V_box 14 rfl fun b14 hb14 => ?_
              refine Z105 ?_; refine z8 (zt L (vs := [_, _, _, _]) (y5 rfl) rfl rfl rfl rfl ⟨_, rfl⟩) rfl ?_; refine Z24 ?_; refine z8 (zt L (vs := [_, _, _, _, _, _]) (src_box rfl (List.Mem.head _)) rfl rfl rfl rfl ⟨_, rfl⟩) rfl ?_; refine z8 (zp L rfl rfl (zk rfl) rfl rfl rfl (fun u H hH hle _ => shas_ret hin hH (hT.le hle))) rfl ?_; refine Z24 ?_; refine z8 (qh L (src_box rfl (List.Mem.head _)) rfl rfl rfl rfl) rfl ?_; refine Z119 ?_; refine Z260 ?_; refine Z69 ?_; refine z7 (zt L (vs := [_, _, _, _]) (y5 rfl) rfl rfl rfl rfl ⟨_, rfl⟩) rfl ?_; refine z7 (zt L (vs := [_, _, _, _, _, _, _]) (src_box rfl (List.Mem.head _)) rfl rfl rfl rfl ⟨_, rfl⟩) rfl ?_; refine z7 (yr (φ := WithP s' 0) L rfl rfl (zk rfl) rfl rfl rfl WithP.mono (fun u H hH hle _ => with_p hw hsl hzt hH (hT.le hle))) rfl ?_; refine vo_opn 56 rfl ?_; rintro _ H19 hs19 ⟨tv, rfl, hT19⟩; obtain ⟨g1, r1, g2, r2, rfl, hpl2⟩ := hT19.shape; refine Z294 ?_; refine Z88 ?_; refine Z1 ?_; refine Z222 ?_; refine Z100 ?_; refine z7 (zt L (vs := [_, _, _, _]) (y5 rfl) rfl rfl rfl rfl ⟨_, rfl⟩) rfl ?_; refine Z51 ?_; refine Z137 ?_; refine Z236 ?_; refine Z257 ?_
              refine V_drop (O' := []) (List.nil_sublist _) ?_
              refine Z81 ?_; refine Z258 ?_
              refine N_clsX (X := SXp) 3 (r := fun x => Cell (scs x.1) tySet) (φ := sphi s') (sphi_mono _) ⟨(g1, r1, g2, r2), hpl2⟩ hT19 rfl ?_
              exact N_roundS (x := (k, s, md)) (k + 1, s', md) (hs3.trans hs19) ⟨hlt, he, hsl', by dsimp only; omega⟩ (by dsimp only; omega) ⟨rfl, rfl, rfl, rfl, rfl, rfl, trivial⟩
            · rw [if_neg (by decide)] at he
              refine zh ?_; refine Z64 ?_; refine Z193 ?_; refine Z80 ?_; refine z7 (ye L _ rfl rfl rfl rfl rfl rfl rfl (by first | omega | decide) (by assumption)) rfl ?_; refine z7 (yn L (vs := [_, _, _, _, _, _, _]) rfl rfl rfl rfl rfl ⟨_, rfl⟩) rfl ?_; refine Z170 ?_; refine Z137 ?_
              refine V_box 14 rfl fun b14 hb14 => ?_
              refine Z105 ?_; refine z8 (zt L (vs := [_, _, _, _]) (y5 rfl) rfl rfl rfl rfl ⟨_, rfl⟩) rfl ?_; refine Z24 ?_; refine z8 (zt L (vs := [_, _, _, _, _, _]) (src_box rfl (List.Mem.head _)) rfl rfl rfl rfl ⟨_, rfl⟩) rfl ?_; refine z8 (zp L rfl rfl (zk rfl) rfl rfl rfl (fun u H hH hle _ => shas_ret hin hH (hT.le hle))) rfl ?_; refine Z24 ?_; refine z8 (qh L (src_box rfl (List.Mem.head _)) rfl rfl rfl rfl) rfl ?_; refine Z119 ?_; refine Z260 ?_; refine Z69 ?_; refine z7 (zt L (vs := [_, _, _, _]) (y5 rfl) rfl rfl rfl rfl ⟨_, rfl⟩) rfl ?_; refine z7 (zt L (vs := [_, _, _, _, _, _, _]) (src_box rfl (List.Mem.head _)) rfl rfl rfl rfl ⟨_, rfl⟩) rfl ?_; refine z7 (yr (φ := WithP s' 0) L rfl rfl (zk rfl) rfl rfl rfl WithP.mono (fun u H hH hle _ => with_p hw hsl hzt hH (hT.le hle))) rfl ?_; refine vo_opn 56 rfl ?_; rintro _ H19 hs19 ⟨tv, rfl, hT19⟩; obtain ⟨g1, r1, g2, r2, rfl, hpl2⟩ := hT19.shape; refine Z294 ?_; refine Z88 ?_; refine Z1 ?_; refine Z222 ?_; refine Z100 ?_; refine z7 (zt L (vs := [_, _, _, _]) (y5 rfl) rfl rfl rfl rfl ⟨_, rfl⟩) rfl ?_; refine Z51 ?_; refine Z137 ?_; refine Z236 ?_; refine Z257 ?_
              refine V_drop (O' := []) (List.nil_sublist _) ?_
              refine Z81 ?_; refine Z258 ?_
              refine N_clsX (X := SXp) 3 (r := fun x => Cell (scs x.1) tySet) (φ := sphi s') (sphi_mono _) ⟨(g1, r1, g2, r2), hpl2⟩ hT19 rfl ?_
              exact N_roundS (x := (k, s, md)) (k + 1, s', md) (hs3.trans hs19) ⟨hlt, he, hsl', by dsimp only; omega⟩ (by dsimp only; omega) ⟨rfl, rfl, rfl, rfl, rfl, rfl, trivial⟩
            · rw [if_pos rfl] at he
              refine zh ?_; refine Z64 ?_; refine Z193 ?_; refine Z80 ?_; refine z7 (ye L _ rfl rfl rfl rfl rfl rfl rfl (by first | omega | decide) (by assumption)) rfl ?_; refine z7 (yn L (vs := [_, _, _, _, _, _, _]) rfl rfl rfl rfl rfl ⟨_, rfl⟩) rfl ?_; refine Z170 ?_; refine Z137 ?_
              refine V_box 14 rfl fun b14 hb14 => ?_
              refine Z105 ?_; refine z8 (zt L (vs := [_, _, _, _]) (y5 rfl) rfl rfl rfl rfl ⟨_, rfl⟩) rfl ?_; refine Z24 ?_; refine z8 (zt L (vs := [_, _, _, _, _, _]) (src_box rfl (List.Mem.head _)) rfl rfl rfl rfl ⟨_, rfl⟩) rfl ?_; refine z8 (zp L rfl rfl (zk rfl) rfl rfl rfl (fun u H hH hle _ => shas_ret hin hH (hT.le hle))) rfl ?_; refine Z24 ?_; refine z8 (qh L (src_box rfl (List.Mem.head _)) rfl rfl rfl rfl) rfl ?_; refine Z119 ?_; refine Z260 ?_; refine Z69 ?_; refine z7 (zt L (vs := [_, _, _, _]) (y5 rfl) rfl rfl rfl rfl ⟨_, rfl⟩) rfl ?_; refine z7 (zt L (vs := [_, _, _, _, _, _, _]) (src_box rfl (List.Mem.head _)) rfl rfl rfl rfl ⟨_, rfl⟩) rfl ?_; refine z7 (yr (φ := WithP s' 0) L rfl rfl (zk rfl) rfl rfl rfl WithP.mono (fun u H hH hle _ => with_p hw hsl hzt hH (hT.le hle))) rfl ?_; refine vo_opn 56 rfl ?_; rintro _ H19 hs19 ⟨tv, rfl, hT19⟩; obtain ⟨g1, r1, g2, r2, rfl, hpl2⟩ := hT19.shape; refine Z294 ?_; refine Z88 ?_; refine Z1 ?_; refine Z222 ?_; refine Z100 ?_; refine z7 (zt L (vs := [_, _, _, _]) (y5 rfl) rfl rfl rfl rfl ⟨_, rfl⟩) rfl ?_; refine Z51 ?_; refine Z137 ?_; refine Z236 ?_; refine Z129 ?_; refine zf (id := 19) ?_; refine qk (ok_moveO (.inl rfl) rfl rfl rfl rfl) ?_; refine z7 (zt L (vs := [_, _, _, _, _, _, _]) (src_box rfl (List.Mem.head _)) rfl rfl rfl rfl ⟨_, rfl⟩) rfl ?_; refine Z54 ?_; refine Z103 ?_; refine qk (ok_moveO (.inr rfl) rfl rfl rfl rfl) ?_; refine Z302 ?_
              refine V_drop (O' := []) (List.nil_sublist _) ?_
              refine Z81 ?_; refine Z258 ?_
              refine N_clsX (X := SXp) 3 (r := fun x => Cell (scs x.1) tySet) (φ := sphi s') (sphi_mono _) ⟨(g1, r1, g2, r2), hpl2⟩ hT19 rfl ?_
              exact N_roundS (x := (k, s, md)) (k + 1, s', md ++ [(x, true)]) (hs3.trans hs19) ⟨hlt, he, hsl', by dsimp only; rw [List.length_append]; show md.length + 1 ≤ k + 1; omega⟩ (by dsimp only; omega) ⟨rfl, rfl, ks_snoc rfl, rfl, rfl, rfl, trivial⟩
          · rw [if_neg h0] at he
            cases he
            refine zh ?_; refine Z64 ?_; refine Z193 ?_; refine Z80 ?_; refine z7 (ye L _ rfl rfl rfl rfl rfl rfl rfl (by first | omega | decide) (by assumption)) rfl ?_; refine z7 (yn L (vs := [_, _, _, _, _, _, _]) rfl rfl rfl rfl rfl ⟨_, rfl⟩) rfl ?_; refine Z170 ?_; refine Z137 ?_
            refine V_box 14 rfl fun b14 hb14 => ?_
            refine Z105 ?_; refine z8 (zt L (vs := [_, _, _, _]) (y5 rfl) rfl rfl rfl rfl ⟨_, rfl⟩) rfl ?_; refine Z24 ?_; refine z8 (zt L (vs := [_, _, _, _, _, _]) (src_box rfl (List.Mem.head _)) rfl rfl rfl rfl ⟨_, rfl⟩) rfl ?_; refine z8 (zp L rfl rfl (zk rfl) rfl rfl rfl (fun u H hH hle _ => shas_ret hin hH (hT.le hle))) rfl ?_; refine Z24 ?_; refine z8 (qh L (src_box rfl (List.Mem.head _)) rfl rfl rfl rfl) rfl ?_; refine Z119 ?_; refine Z260 ?_; refine Z69 ?_; refine z7 (zt L (vs := [_, _, _, _]) (y5 rfl) rfl rfl rfl rfl ⟨_, rfl⟩) rfl ?_; refine z7 (zt L (vs := [_, _, _, _, _, _, _]) (src_box rfl (List.Mem.head _)) rfl rfl rfl rfl ⟨_, rfl⟩) rfl ?_; refine z7 (yr (φ := WithP s' e) L rfl rfl (zk rfl) rfl rfl rfl WithP.mono (fun u H hH hle _ => with_p hw hsl hzt hH (hT.le hle))) rfl ?_; refine vo_opn 56 rfl ?_; rintro _ H19 hs19 ⟨tv, rfl, hT19⟩; obtain ⟨g1, r1, g2, r2, rfl, hpl2⟩ := hT19.shape; refine Z294 ?_; refine Z88 ?_; refine Z1 ?_; refine Z211 ?_; refine Z92 ?_; refine z7 (ym (cs := [_, _, _, _]) rfl rfl pl45 rfl rfl) rfl ?_; refine Z1 ?_; refine Z13 ?_; refine Z173 ?_
            refine y9 L (rs := [.cell 6 45, .tmp 7, .tmp 8]) rfl (fun _ _ h => h) (hs3.trans hs19) fun u H hH hle => ?_
            exact ⟨_, y5 rfl, rfl, _, _, rfl, SetV.nil, SlV.nil⟩
        · obtain rfl : k = cs.length := by omega
          rw [List.drop_length, writeL] at he
          cases he
          refine zh ?_; refine Z64 ?_; refine Z259 ?_
          refine V_pubR 7 rfl ?_
          refine zy (id := 21) [] mixed (by kernel_rfl) ?_; refine z8 (zt L (vs := [_, _, _, _]) (y5 rfl) rfl rfl rfl rfl ⟨_, rfl⟩) rfl ?_; refine Z62 ?_; refine z8 (yr (φ := KS tyC made true) L rfl rfl (zk rfl) rfl rfl rfl SlV.mono (fun u H hH _ _ v1 g1 => clipC_ret hH g1)) rfl ?_; refine z8 (qq L rfl rfl rfl rfl rfl rfl (by assumption) rfl) rfl ?_; refine Z85 ?_; refine Z207 ?_
          refine y9 L (rs := [.cell 6 45, .tmp 7, .tmp 8]) rfl (fun _ _ h => h) hs3 fun u H hH hle => ?_
          exact ⟨_, y5 rfl, rfl, fun mv hmv => ⟨_, mv, rfl, hT.le hle, hmv⟩⟩
      · rw [if_neg h3] at hr
        cases hr
        refine Z271 ?_; refine Z21 ?_; refine Z293 ?_; refine Z7 ?_; refine z7 (zp L rfl rfl (zk rfl) rfl rfl rfl (fun u H hH _ _ v1 g1 => mchk_ret zl ll h1 hH g1)) rfl ?_; refine Z208 ?_; refine Z254 ?_; refine Z34 ?_; refine Z7 ?_; refine z7 (zp L rfl rfl (zk rfl) rfl rfl rfl (fun u H hH _ _ v1 g1 => cchk_ret zc lc h2 hH g1)) rfl ?_; refine Z124 ?_; refine Z166 ?_; refine Z254 ?_; refine Z43 ?_; refine z7 (zt L (vs := [_, _, _, _]) (y5 rfl) rfl rfl rfl rfl ⟨_, rfl⟩) rfl ?_; refine Z7 ?_; refine z7 (zp L rfl rfl (zk rfl) rfl rfl rfl (fun u H hH hle _ v1 g1 => first_ret zl ll hf hH (hs.le hle) g1)) rfl ?_; refine Z196 ?_; refine Z197 ?_; refine Z211 ?_; refine Z61 ?_; refine z7 (ym (cs := [_, _, _, _]) rfl rfl pl45 rfl rfl) rfl ?_; refine Z1 ?_; refine Z13 ?_; refine Z173 ?_
        refine y9 L (rs := [.cell 6 45, .tmp 7, .tmp 8]) rfl (fun _ _ h => h) Since.refl fun u H hH hle => ?_
        exact ⟨_, y5 rfl, rfl, _, _, rfl, SetV.nil, SlV.nil⟩
    · rw [if_neg h2] at hr
      cases hr
      refine Z271 ?_; refine Z21 ?_; refine Z293 ?_; refine Z7 ?_; refine z7 (zp L rfl rfl (zk rfl) rfl rfl rfl (fun u H hH _ _ v1 g1 => mchk_ret zl ll h1 hH g1)) rfl ?_; refine Z208 ?_; refine Z254 ?_; refine Z34 ?_; refine Z7 ?_; refine z7 (zp L rfl rfl (zk rfl) rfl rfl rfl (fun u H hH _ _ v1 g1 => cchk_ret zc lc rfl hH g1)) rfl ?_; refine Z124 ?_; refine Z166 ?_; refine Z211 ?_; refine Z42 ?_; refine z7 (ym (cs := [_, _, _, _]) rfl rfl pl45 rfl rfl) rfl ?_; refine Z1 ?_; refine Z13 ?_; refine Z173 ?_
      refine y9 L (rs := [.cell 6 45, .tmp 7, .tmp 8]) rfl (fun _ _ h => h) Since.refl fun u H hH hle => ?_
      exact ⟨_, y5 rfl, rfl, _, _, rfl, SetV.nil, SlV.nil⟩
  · rw [if_neg h1] at hr
    cases hr
    refine Z271 ?_; refine Z21 ?_; refine Z293 ?_; refine Z7 ?_; refine z7 (zp L rfl rfl (zk rfl) rfl rfl rfl (fun u H hH _ _ v1 g1 => mchk_ret zl ll rfl hH g1)) rfl ?_; refine Z208 ?_; refine Z211 ?_; refine Z28 ?_; refine z7 (ym (cs := [_, _, _, _]) rfl rfl pl45 rfl rfl) rfl ?_; refine Z1 ?_; refine Z13 ?_; refine Z173 ?_
    refine y9 L (rs := [.cell 6 45, .tmp 7, .tmp 8]) rfl (fun _ _ h => h) Since.refl fun u H hH hle => ?_
    exact ⟨_, y5 rfl, rfl, _, _, rfl, SetV.nil, SlV.nil⟩
end Go.V.L8
set_option maxRecDepth 20000
namespace Go.V.L8
open Go.Proofs Go.RowKit Go.V Go.V.L2 Go.V.L3 Go.V.L6
attribute [local irreducible] V N X VO Par StepOK Has Ret RetL RetO RetT Src
end Go.V.L8
set_option maxRecDepth 20000
namespace Go.V.L8
open Go.Proofs Go.RowKit Go.V Go.V.L2 Go.V.L3 Go.V.L6
attribute [local irreducible] V N X VO Par StepOK Has Ret RetL RetO RetT Src
end Go.V.L8
set_option maxRecDepth 20000
namespace Go.V.L8
open Go.Proofs Go.RowKit Go.V Go.V.L2 Go.V.L3 Go.V.L6
def RWriteP (t : List U) (made : List CH) (e : Int) (r : Value) (H : Heap) : Prop := ∃ tv mv, r = .tuple #[tv, mv, .int .i64 e] ∧ US t false tv H ∧ KS tyC made false mv H
theorem RWriteP.mono {t : List U} {made : List CH} {e : Int} : Kn.mono (.sat (RWriteP t made e)) := fun _ _ _ ⟨tv, mv, h1, h2, h3⟩ hle => ⟨tv, mv, h1, h2.le hle, h3.le hle⟩
attribute [local irreducible] V N X VO Par StepOK Has Ret RetL RetO RetT Src
end Go.V.L8
set_option maxRecDepth 20000
namespace Go.V.L8
open Go.Proofs Go.RowKit Go.V Go.V.L2 Go.V.L3 Go.V.L6
attribute [local irreducible] V N X VO Par StepOK Has Ret RetL RetO RetT Src
end Go.V.L8
set_option maxRecDepth 20000
namespace Go.V.L8
open Go.Proofs Go.RowKit Go.V Go.V.L2 Go.V.L3 Go.V.L6
attribute [local irreducible] V N X VO Par StepOK Has Ret RetL RetO RetT Src
end Go.V.L8
set_option maxRecDepth 20000
namespace Go.V.L8
open Go.Proofs Go.RowKit Go.V Go.V.L2 Go.V.L3 Go.V.L6
theorem writeL_ok : ∀ {cs : List CH} {s : List U} {md : List CH}, SOK s → (∀ c ∈ cs, TZ c.1 ∧ tE c.1 = 0) → s.length + cs.length < 4096 → ∃ t made, writeL s md cs = (t, made, 0) ∧ SOK t ∧ t.length ≤ s.length + cs.length
  | [], s, md, h, _, _ => ⟨s, md, rfl, h, Nat.le_refl _⟩
  | c :: r, s, md, h, hc, hl => by
    simp only [List.length_cons] at hl
    obtain ⟨hz, h0⟩ := hc c (List.mem_cons_self ..)
    obtain ⟨h1, h2, h3⟩ := withU_ok h hz h0 c.2 (by omega)
    obtain ⟨t, made, e, ht, hlt⟩ := writeL_ok (cs := r) (s := (withU s c.1 c.2).1) (md := if decide (c.1 ∈ s) = c.2 then md ++ [c] else md) h1 (fun x hx => hc x (List.mem_cons_of_mem _ hx)) (by omega)
    refine ⟨t, made, by rw [writeL, if_pos h2, e], ht, ?_⟩
    simp only [List.length_cons]; omega
theorem writeR_ok {s : List U} {l cs : List CH} (h1 : cE 32 l = 0) (h2 : cE 32 cs = 0) (h3 : (firstR s l).2 = 0) : writeR s l cs = writeL s [] cs := by
  unfold writeR; rw [if_pos h1, if_pos h2, if_pos h3]
end Go.V.L8
set_option maxRecDepth 20000
namespace Go.V.L8
open Go.Proofs Go.RowKit Go.V Go.V.L2 Go.V.L3 Go.V.L6
attribute [local irreducible] V N X VO Par StepOK Has Ret RetL RetO RetT Src
end Go.V.L8
set_option maxRecDepth 20000
namespace Go.V.L10
open Go.Proofs Go.RowKit Go.V Go.V.L2 Go.V.L8 Go.V.L6
structure OO where
  wh : Nat
  ms : List C3
  cs : List C3
  rv : Nat
  kp : Int
def OO.rev (o : OO) : Int := if o.rv = 255 then 18446744073709551615 else (o.rv : Int)
structure JJ (n : Nat) (S : Sto) : Prop where
  last : (kpt S.R S.R.length).isSome = true
  pin : ∀ r ∈ S.P, (kpt S.R r).isSome = true
  so : ∀ r t, kpt S.R r = some t → SOK t ∧ t.length ≤ 30 * S.R.length
  hR : S.R.length ≤ n + 1
  hP : S.P.length ≤ n
theorem JJ.ne {n : Nat} {S : Sto} (h : JJ n S) : S.R.length ≠ 0 := by have := kpt_le h.last; omega
theorem JJ.I {n : Nat} {S : Sto} (h : JJ n S) (hn : n ≤ 100) : StoI S := ⟨h.last, Nat.le_trans (keptL_length _) (by have := h.hR; omega), h.pin, fun r t ht => by have := (h.so r t ht).2; have := h.hR; omega⟩
theorem JJ.mono {n m : Nat} {S : Sto} (h : JJ n S) (hm : n ≤ m) : JJ m S := ⟨h.last, h.pin, h.so, Nat.le_trans h.hR (by omega), Nat.le_trans h.hP hm⟩
theorem JJ.pos {n : Nat} {S : Sto} (h : JJ n S) : ∀ x ∈ S.P, 0 < x := fun x hx => (kpt_le (h.pin x hx)).1
theorem jj_new : JJ 0 newS := ⟨rfl, fun _ h => (by cases h), fun r t h => by
  have hr := kpt_le (R := newS.R) (r := r) (by rw [h]; rfl)
  have h1 : newS.R.length = 1 := rfl
  have : r = ((0 + 1 : Nat) : Int) := by omega
  subst this
  have h2 : kpt newS.R ((0 + 1 : Nat) : Int) = some [] := by rw [kpt_nat]; rfl
  rw [h2] at h
  cases h
  exact ⟨⟨Sst.nil, fun _ h => (by cases h), fun _ h => (by cases h)⟩, Nat.zero_le _⟩, Nat.le_refl _, Nat.le_refl _⟩
theorem tz_tm {t : U} (h : TZ t) : TM t := by
  unfold TZ at h; unfold TM; omega
theorem writeR_ok {s : List U} {l cs : List CH} {t : List U} {made : List CH} (h : writeR s l cs = (t, made, 0)) (hs : SOK s) (hc : ∀ c ∈ cs, TZ c.1 ∧ tE c.1 = 0) (hl : s.length + cs.length < 4096) : SOK t ∧ t.length ≤ s.length + cs.length := by
  obtain ⟨t2, m2, h2, h3, h4⟩ := writeL_ok (md := []) hs hc hl
  unfold writeR at h
  split at h
  · split at h
    · split at h
      · rw [h2] at h; cases h; exact ⟨h3, h4⟩
      · rename_i h1; exact absurd (congrArg (·.2.2) h) h1
    · rename_i h1; exact absurd (congrArg (·.2.2) h) h1
  · rename_i h1; exact absurd (congrArg (·.2.2) h) h1
theorem atS_last {S : Sto} {t : List U} (h : kpt S.R S.R.length = some t) : atS S 0 = (t, 0) := by unfold atS; rw [if_pos rfl, h]
theorem jj_write {n : Nat} {S : Sto} (h : JJ n S) (hn : n ≤ 100) {l cs : List CH} (hc : ∀ c ∈ cs, TZ c.1 ∧ tE c.1 = 0) (hcl : cs.length ≤ 30) : JJ (n + 1) (writeS S l cs).1 := by
  obtain ⟨t0, ht0⟩ : ∃ t0, kpt S.R S.R.length = some t0 := Option.isSome_iff_exists.1 h.last
  obtain ⟨⟨t1, made, e1⟩, hwr⟩ : ∃ x, writeR t0 l cs = x := ⟨_, rfl⟩
  unfold writeS
  rw [atS_last ht0, hwr]
  dsimp only
  by_cases he : e1 = 0
  · subst he
    rw [if_pos rfl]
    split
    · exact h.mono (Nat.le_succ _)
    · have h0 := h.so _ _ ht0
      have hR := h.hR
      have h1 := writeR_ok hwr h0.1 hc (by omega)
      have hln : (S.R ++ [some t1]).length = S.R.length + 1 := by rw [List.length_append]; rfl
      refine ⟨?_, fun r hr => ?_, fun r t ht => ?_, ?_, Nat.le_succ_of_le h.hP⟩
      · dsimp only; rw [hln, kpt_snoc, if_pos rfl]; rfl
      · dsimp only; rw [kpt_snoc]
        split
        · rfl
        · exact h.pin r hr
      · dsimp only at ht ⊢
        rw [kpt_snoc] at ht
        rw [hln]
        split at ht
        · cases ht; exact ⟨h1.1, by omega⟩
        · have h2 := h.so r t ht; exact ⟨h2.1, by omega⟩
      · dsimp only; omega
  · rw [if_neg he]; exact h.mono (Nat.le_succ _)
theorem jj_pin {n : Nat} {S : Sto} (h : JJ n S) (r : Int) (un : Bool) : JJ (n + 1) (pinS S r un).1 := by
  unfold pinS
  by_cases hk : (kpt S.R r).isSome = true
  · rw [if_pos hk]
    cases un with
    | true =>
      rw [if_pos rfl]
      split
      · refine ⟨h.last, fun x hx => h.pin x ?_, h.so, Nat.le_succ_of_le h.hR, ?_⟩
        · dsimp only at hx
          unfold unpinR at hx
          split at hx
          · cases hx
          · exact List.mem_of_mem_erase hx
        · dsimp only
          unfold unpinR
          split
          · exact Nat.zero_le _
          · exact Nat.le_trans (List.length_erase_le ..) (Nat.le_succ_of_le h.hP)
      · exact h.mono (Nat.le_succ _)
    | false =>
      rw [if_neg (by decide)]
      refine ⟨h.last, fun x hx => ?_, h.so, Nat.le_succ_of_le h.hR, ?_⟩
      · rcases List.mem_append.1 hx with hx | hx
        · exact h.pin x hx
        · rw [List.mem_singleton.1 hx]; exact hk
      · have := h.hP; dsimp only; rw [List.length_append, List.length_singleton]; omega
  · rw [if_neg hk]; exact h.mono (Nat.le_succ _)
theorem last_stays {S : Sto} {k : Nat} (hk : 1 ≤ k) : ((S.R.length : Nat) : Int) ∉ goesR S.P (keptL S.R) k := fun hm => by
  unfold goesR at hm
  have h1 := (List.mem_filter.1 hm).1
  obtain ⟨i, hi⟩ := List.getElem?_of_mem h1
  have hil : i < (keptL S.R).length - k := by have := get_lt hi; rw [List.length_take] at this; omega
  rw [List.getElem?_take_of_lt hil] at hi
  obtain ⟨y, hy⟩ := get_some (show i + 1 < (keptL S.R).length by omega)
  have h3 := List.pairwise_iff_getElem.1 (sst_keptL S.R) i (i + 1) (get_lt hi) (get_lt hy) (Nat.lt_succ_self i)
  rw [at_get hi, at_get hy, cP_lt] at h3
  have := kpt_le (mem_keptL.1 (List.mem_of_getElem? hy))
  omega
theorem goes_kept {P0 : List Int} {R : List (Option (List U))} {k : Nat} {g : Int} (hg : g ∈ goesR P0 (keptL R) k) : (kpt R g).isSome = true ∧ g ∉ P0 := by
  unfold goesR at hg
  have h1 := List.mem_filter.1 hg
  exact ⟨mem_keptL.1 (List.mem_of_mem_take h1.1), fun hm => by have := List.count_pos_iff.2 hm; have h2 := h1.2; simp at h2; omega⟩
theorem jj_coll {n : Nat} {S : Sto} (h : JJ n S) (keep : Int) : JJ (n + 1) (collS S keep).1 := by
  unfold collS
  split
  · rename_i hk
    have hp : ∀ g ∈ goesR S.P (keptL S.R) keep.toNat, 0 < g := fun g hg => (kpt_le (goes_kept hg).1).1
    refine ⟨?_, fun r hr => ?_, fun r t ht => ?_, ?_, Nat.le_succ_of_le h.hP⟩
    · dsimp only; rw [clrL_length, kpt_clrL hp, if_neg (last_stays (by omega))]; exact h.last
    · dsimp only; rw [kpt_clrL hp, if_neg (fun hm => (goes_kept hm).2 hr)]; exact h.pin r hr
    · dsimp only at ht ⊢
      rw [kpt_clrL hp] at ht
      rw [clrL_length]
      split at ht
      · cases ht
      · exact h.so r t ht
    · dsimp only; rw [clrL_length]; exact Nat.le_succ_of_le h.hR
  · exact h.mono (Nat.le_succ _)
end Go.V.L10
set_option maxRecDepth 20000
namespace Go.V
open Go.RowKit
def RngC {V : Type} (m : Nat) (kd : IntKind) (vc : V → Value) (l left : List (Int × V)) (p : Int × V) : Res where
  P x _ u C := ∃ (i : Nat) (es : Array MapEntry) (ck since : Nat) (seen : Array Nat) (e : MapEntry), x = .pointer (some ⟨i, 0, none⟩) ∧ i ≠ m ∧ u.heap[m]? = some (.map es ck) ∧ MiE kd vc l es.toList ∧ Brn es.toList ck ∧ u.heap[i]? = some (.mapIter (some m) since (seen.push e.born) ck) ∧
    (∀ e ∈ es.toList, e.born < since) ∧ since ≤ ck ∧ MiE kd vc left (leftOf es (seen.push e.born)).toList ∧ e ∈ es.toList ∧ e.key = .int kd p.1 ∧ e.val = vc p.2 ∧ ∀ k, C k ↔ k = m ∨ k = i
  st := fun ⟨i, es, ck, since, seen, e, h1, h2, h3, h4, h5, h6, h7, h8, h9, h10, h11, h12, hC⟩ _ _ _ hk => ⟨i, es, ck, since, seen, e, h1, h2, (hk m ((hC m).2 (.inl rfl))).trans h3, h4, h5, (hk i ((hC i).2 (.inr rfl))).trans h6, h7, h8, h9, h10, h11, h12, hC⟩
theorem rngC_M {V : Type} {m : Nat} {kd : IntKind} {vc : V → Value} {l left : List (Int × V)} {p : Int × V} {B : Heap} : ∀ v H u C, B.Le H → (RngC m kd vc l left p).P v H u C → (RngM m kd vc l left).P v H u C :=
  fun _ _ _ _ _ ⟨i, es, ck, since, seen, e, h1, h2, h3, h4, h5, h6, h7, h8, h9, _, _, _, hC⟩ => ⟨i, es, ck, since, seen.push e.born, ck, h1, h2, h3, h4, h5, h6, h7, h8, h8, h9, hC⟩
theorem left_mem {es : Array MapEntry} {seen : Array Nat} {j : Nat} {e : MapEntry} (h : (leftOf es seen)[j]? = some e) : e ∈ es.toList := by
  have h1 : e ∈ leftOf es seen := Array.mem_of_getElem? h
  unfold leftOf at h1
  rw [Array.mem_filter] at h1
  exact Array.mem_toList_iff.2 h1.1
theorem find_born {es : List MapEntry} (hn : (es.map (·.born)).Nodup) {e : MapEntry} (he : e ∈ es) : es.find? (fun x => x.born == e.born) = some e := by
  induction es with
  | nil => cases he
  | cons x es ih =>
    rw [List.map_cons, List.nodup_cons] at hn
    rw [List.find?_cons]
    rcases List.mem_cons.1 he with h | h
    · subst h; simp
    · have hne : x.born ≠ e.born := fun h2 => hn.1 (h2 ▸ List.mem_map_of_mem (f := (·.born)) h)
      have : (x.born == e.born) = false := by simpa using hne
      rw [this]
      exact ih hn.2 h
section
variable {P : Program} {F : Fr} {B : Heap} {O : Boxes} {n : Nat} {ops : Array Oper} {κ : Kap} {d : Nat} {ty : TypeId} {pos : String} {aft : Array Edge} {g : Option (Nat × Bool)} {a : Act} {u : World} {H : Heap} {os : List Oper} {Q : Exit → Act → World → Prop}
variable {Y : Type} {kd : IntKind} {vc : Y → Value} {l left : List (Int × Y)}
theorem vo_nextC {q m d : Nat} {o : Oper} (ho : o = ⟨some d, .next (.tmp q) false, ty, pos, aft, g⟩) (hq : κ q = some (.own (RngM m kd vc l left))) (hl : left ≠ []) (hn : Nat.blt d n = true) (hdq : Nat.beq q d = false) (hg : gK ops κ o = some true)
    (h : ∀ (j : Nat) (p : Int × Y), left[j]? = some p → VO P F B n O ops (upd (upd κ q (.own (RngC m kd vc l (left.eraseIdx j) p))) d (.is (.tuple #[.bool true, .int kd p.1, vc p.2]))) os Q) : VO P F B n O ops κ (o :: os) Q := fun a u hh => by
  subst ho
  obtain ⟨H, fp, hh⟩ := hh
  obtain ⟨⟨i, es, ck, since, seen, last, h1, h2, h3, h4, h5, h6, h7, h8, h9, h10, hC⟩, hM⟩ := hh.slot q _ hq
  show After P ops _ _ a u
  unfold After
  rw [if_pos (wanted_gK hh (fun _ _ => rfl) hg)]
  rcases run_nextM (P := P) (ty := ty) h3 h6 h7 h8 with ⟨hz, _⟩ | ⟨j, e, he, u1, hu1, hr⟩
  · exfalso
    have := congrArg List.length h10
    simp [hz] at this
    exact hl (List.eq_nil_of_length_eq_zero this.symm)
  · have hrun : (execOp a.eval ⟨some d, .next (.tmp q) false, ty, pos, aft, g⟩).run P u = .ok (.value (.tuple #[.bool true, e.key, e.val])) (u1.putObj i (.mapIter (some m) since (seen.push e.born) ck)) := by
      simp only [execOp, h1, Sem.run_bind, hr, Result.andThen_ok]
      rfl
    rw [hrun]
    simp only [Upon]
    obtain ⟨p, hp, hk1, hv1⟩ := mie_at h10 (by rw [Array.getElem?_toList]; exact he)
    rw [hk1, hv1]
    have him := hM i ((hC i).2 (.inr rfl))
    have hsub : H.Le (Go.V.hp u1) := by rcases hu1 with rfl | rfl <;> exact hh.sub
    have hgr : Grow (fp q) u H (u1.putObj i (.mapIter (some m) since (seen.push e.born) ck)) H := by
      have g1 := grow_putObj (u := u1) (L := fp q) (o := .mapIter (some m) since (seen.push e.born) ck) hsub ((hC i).2 (.inr rfl)) him.2.1
      rcases hu1 with rfl | rfl
      · exact g1
      · exact ⟨⟨g1.keep.os, g1.keep.tape, g1.keep.output, g1.keep.size, g1.keep.block, Nat.le_trans (Nat.le_succ _) g1.keep.dr⟩, g1.sub, g1.le, g1.fresh⟩
    have hmm : u1.heap[m]? = some (.map es ck) := by rcases hu1 with rfl | rfl <;> exact h3
    have hsz : i < u1.heap.size := by rcases hu1 with rfl | rfl <;> exact him.1
    have h5' := hh.usePut (d := q) (a' := a) (r' := RngC m kd vc l (left.eraseIdx j) p) (C := fun k => k = m ∨ k = i) hq hgr rfl rfl (fun _ _ => rfl)
      ⟨i, es, ck, since, seen, e, h1, h2, by rw [World.putObj_heap_other (Ne.symm h2)]; exact hmm, h4, h5, World.putObj_heap_same hsz, h7, h9, by rw [left_erase h5 he]; exact mie_erase h10 j, left_mem he, hk1, hv1, fun _ => Iff.rfl⟩
      (fun k hk => by
        have hkC : fp q k := (hC k).2 hk
        refine ⟨.inl hkC, ?_, (hM k hkC).2.1⟩
        rw [World.putObj_size]
        rcases hu1 with rfl | rfl <;> exact (hM k hkC).1)
    rw [upd_upd] at h5'
    exact h j p hp _ _ ⟨H, _, h5'.put (k := .is _) (zk hn) trivial rfl⟩
theorem ok_entryM {q m : Nat} {p : Int × Y} (hq : κ q = some (.own (RngC m kd vc l left p))) (hn : Nat.blt d n = true) (hg : gK ops κ ⟨some d, .entry (.tmp q), ty, pos, aft, g⟩ = some true) :
    StepOK P F B n ops O κ ⟨some d, .entry (.tmp q), ty, pos, aft, g⟩ d (.is (.tuple #[.int kd p.1, vc p.2])) :=
  ok_pure rfl (zk hn) hg trivial fun a u H fp e => by
    obtain ⟨⟨i, es, ck, since, seen, x, h1, h2, h3, h4, h5, h6, h7, h8, h9, h10, h11, h12, hC⟩, hM⟩ := e.own_ q _ (by simp [Op.operands]) hq
    refine ⟨_, ?_, rfl⟩
    have hf := find_born h5.nd h10
    have hf2 : es.find? (fun y => y.born == x.born) = some x := by rw [← Array.find?_toList]; exact hf
    simp only [execOp, h1, Instr.entry, getObj, Sem.run_bind, Sem.run, h6, Result.andThen, Array.back?_push, h3, bne_self_eq_false, Bool.false_eq_true, if_false, hf2, h11, h12]
    rfl
theorem ok_insertB {x y z : Operand} {q b : Nat} {t kt et : TypeId} (k : Int) (v : Y) {zv : Value} {l' : List (Int × Y)} (ht : P.underlying t = some (.map kt et)) (hkt : P.underlying kt = some (.int kd))
    (hx : evK κ x = some (.map (some b))) (hq : κ q = some (.own (MapB b kd vc l))) (hy : evK κ y = some (.int kd k)) (hz : evK κ z = some zv) (hzv : vc v = zv) (hg : gK ops κ ⟨none, .insert t x y z, ty, pos, aft, g⟩ = some true)
    (hl' : mput k v l = l') :
    StepOKS P F B n ops O κ ⟨none, .insert t x y z, ty, pos, aft, g⟩ q (.own (MapB b kd vc l')) := by
  rintro κ' a u hlk hqk ⟨H, fp, hh⟩
  subst hl' hzv
  unfold After
  rw [if_pos (wanted_gK hh hlk hg)]
  have e := hh.env hlk
  have h1 := e.is_ x _ (by simp [Op.operands]) hx
  have h2 := e.is_ y _ (by simp [Op.operands]) hy
  have h3 := e.is_ z _ (by simp [Op.operands]) hz
  have hqs := hqk.trans hq
  obtain ⟨⟨⟨es, ck, hb, he, hbn⟩, hC⟩, hM⟩ := hh.slot q _ hqs
  obtain ⟨es', ck', hr, he', hb'⟩ := run_mapUpdateB ht hkt hb he hbn k v
  have hrun : (execOp a.eval ⟨none, .insert t x y z, ty, pos, aft, g⟩).run P u = .ok .skip (u.putObj b (.map es' ck')) := by
    simp only [execOp, h1, h2, h3, Sem.run_bind, hr, Result.andThen_ok]
    rfl
  rw [hrun]
  simp only [Upon, Act.put]
  exact ⟨H, _, hh.turnMap hqs he' hb'⟩
end
end Go.V
set_option maxRecDepth 20000
namespace Go.V.So
open Go.Proofs Go.RowKit Go.V Go.Sort
theorem _root_.Go.V.Z19 {A B : Prop} (h : B) (t : Wr B → A := by intro h; refine z7 (y6 rfl rfl rfl rfl (by assumption)) rfl ?_; exact h.h) : A := t ⟨h⟩
theorem _root_.Go.V.Z202 {A B : Prop} (h : B) (t : Wr B → A := by intro h; refine Z126 ?_; refine Z48 ?_; exact h.h) : A := t ⟨h⟩
theorem _root_.Go.V.Z205 {A B : Prop} (h : B) (t : Wr B → A := by intro h; refine Z123 ?_; refine Z8 ?_; exact h.h) : A := t ⟨h⟩
theorem _root_.Go.V.Z218 {A B : Prop} (h : B) (t : Wr B → A := by intro h; refine Z179 ?_; refine Z145 ?_; exact h.h) : A := t ⟨h⟩
theorem _root_.Go.V.Z243 {A B : Prop} (h : B) (t : Wr B → A := by intro h; refine Z1 ?_; refine Z12 ?_; exact h.h) : A := t ⟨h⟩
theorem _root_.Go.V.Z274 {A B : Prop} (h : B) (t : Wr B → A := by intro h; refine Z123 ?_; refine Z182 ?_; exact h.h) : A := t ⟨h⟩
abbrev lt : Int → Int → Bool := ltInt
abbrev tyU : TypeId := 49
attribute [local irreducible] V N X VO Par StepOK Has Ret RetL RetO RetG RetX Src
theorem isnanU (a : Int) {w : World} {B : Heap} (hB : B.Le (hp w)) : Ret Tryz.prog 153 [.int .u64 a] w B (fun v _ => v = .bool false) := by
  refine y7 Tryz.func153 rfl Tryz.ntmps153 (Nat.le_of_ble_eq_true rfl) hB ?_
  refine Z206 ?_; refine Z123 ?_; refine Z22 ?_; refine Z122 ?_
  refine y9 L (rs := [.tmp 2]) rfl (fun _ _ h => h) Since.refl fun u H hH hle => ?_
  rfl
theorem lessU (a b : Int) {w : World} {B : Heap} (hB : B.Le (hp w)) : Ret Tryz.prog 107 [.int .u64 a, .int .u64 b] w B (fun v _ => v = .bool (lt a b)) := by
  unfold lt ltInt
  refine y7 Tryz.func107 rfl Tryz.ntmps107 (Nat.le_of_ble_eq_true rfl) hB ?_
  by_cases h : a < b
  · rw [decide_eq_true h]
    refine Z251 ?_; refine z7 (zp L rfl rfl (zk rfl) rfl rfl rfl (fun u H hH _ _ => isnanU _ hH)) rfl ?_; refine Z212 ?_; refine Z150 ?_; refine Z8 ?_; refine Z9 ?_; refine Z122 ?_
    refine y9 L (rs := [.tmp 4]) rfl (fun _ _ h => h) Since.refl fun u H hH hle => ?_
    rfl
  · rw [decide_eq_false h]
    refine Z251 ?_; refine z7 (zp L rfl rfl (zk rfl) rfl rfl rfl (fun u H hH _ _ => isnanU _ hH)) rfl ?_; refine Z212 ?_; refine Z150 ?_; refine Z11 ?_; refine Z9 ?_; refine Z122 ?_
    refine y9 L (rs := [.tmp 4]) rfl (fun _ _ h => h) Since.refl fun u H hH hle => ?_
    rfl
theorem lessU' {a b : Int} {f : Bool} (h : lt a b = f) {w : World} {B : Heap} (hB : B.Le (hp w)) : Ret Tryz.prog 107 [.int .u64 a, .int .u64 b] w B (fun v _ => v = .bool f) := h ▸ lessU a b hB
set_option maxHeartbeats 1000000 in
set_option maxRecDepth 20000 in
theorem ins_ret {d : Array Int} {rest : List Value} {b m cap a e : Nat} (hab : a ≤ e) (he : e ≤ d.size) (hm : d.size = m) (hm1 : m ≤ 100000) {w : World} {B : Heap} {C : Nat → Prop} (hB : B.Le (hp w))
    (hr : (GHeld b (uC d ++ rest) tyU).P B w C) (hC : ∀ k, C k → k < w.heap.size ∧ B k = none) :
    RetG Tryz.prog 101 [.slice (some ⟨b, 0, none⟩) m cap, .int .i64 a, .int .i64 e] w B C (GHeld b (uC (insertionSort lt d a e) ++ rest) tyU) := by
  unfold RetG
  refine V_enterG 900 (GHeld b (uC d ++ rest) tyU) Tryz.func101 rfl Tryz.ntmps101 (Nat.le_of_ble_eq_true rfl) hB hr hC ?_
  rw [gheld_res]
  have hw0 : IntKind.i64.wrap ((a : Int) + 1) = ((a + 1 : Nat) : Int) := wrap_i64 (by omega) (by omega)
  refine Z130 ?_; refine Z243 ?_; refine Z203 ?_
  refine V_loop (fun s : Nat × Array Int => [(0, .is (.slice (some ⟨b, 0, none⟩) m cap)), (1, .is (.int .i64 a)), (2, .is (.int .i64 e)), (6, .is (.int .i64 s.1)), (900, .own (HeldR b (uC s.2 ++ rest) tyU))]) (fun s => s.1 ≤ e + 1 ∧ a < s.1 ∧ s.2.size = m ∧ insOuter lt a e s.1 s.2 = insertionSort lt d a e) (fun s => e + 1 - s.1) (a + 1, d) ⟨by omega, by omega, hm, rfl⟩ ⟨rfl, rfl, rfl, rfl, rfl, trivial⟩ ?_
  rintro ⟨i, D⟩ ⟨hi, hai, hD, hO⟩
  dsimp only at hi hai hD hO ⊢
  by_cases hlt : i < e
  · rw [insOuter, if_pos hlt] at hO
    refine Z131 ?_; refine Z17 ?_; refine Z205 ?_; refine Z268 ?_; refine Z158 ?_; refine Z203 ?_
    refine V_loop (fun t : Nat × Array Int => [(0, .is (.slice (some ⟨b, 0, none⟩) m cap)), (1, .is (.int .i64 a)), (2, .is (.int .i64 e)), (6, .is (.int .i64 i)), (7, .is (.int .i64 t.1)), (900, .own (HeldR b (uC t.2 ++ rest) tyU))]) (fun t => t.1 ≤ i ∧ t.2.size = m ∧ insInner lt a t.1 t.2 = insInner lt a i D) (fun t => t.1) (i, D) ⟨Nat.le_refl _, hD, rfl⟩ ⟨rfl, rfl, rfl, rfl, rfl, rfl, trivial⟩ ?_
    rintro ⟨j, E⟩ ⟨hj, hE, hI⟩
    dsimp only at hj hE hI ⊢
    rcases j with _ | j
    · rw [insInner] at hI
      rw [hI]
      refine Z131 ?_; refine Z99 ?_; refine Z126 ?_; refine Z83 ?_; refine Z253 ?_; refine Z218 ?_; refine Z175 ?_; refine Z155 ?_; refine Z250 ?_
      exact y8 (x := (i, D)) (i + 1, insInner lt a i D) ⟨by dsimp only; omega, by dsimp only; omega, by dsimp only; rw [← hI]; exact hE, hO⟩ (by dsimp only; omega) ⟨rfl, rfl, rfl, rfl, rfl, trivial⟩
    · by_cases hja : a < j + 1
      · have hw1 : IntKind.i64.wrap (((j + 1 : Nat) : Int) - 1) = (j : Int) := wrap_i64 (by omega) (by omega) |>.trans (by omega)
        obtain ⟨r1, q1⟩ := u_at (rest := rest) (show j + 1 < E.size by omega) (0 + (j + 1) * 1) rfl
        obtain ⟨r2, q2⟩ := u_at (rest := rest) (show j < E.size by omega) (0 + j * 1) rfl
        cases hc : lt E[j + 1]! E[j]! with
        | true =>
          rw [insInner, if_pos (by rw [hc]; simp; omega)] at hI
          have s1 := u_set (rest := rest) E[j]! (show j + 1 < E.size by omega) (0 + (j + 1) * 1) rfl
          have b1 := u_ble (rest := rest) (show j + 1 < E.size by omega) (0 + (j + 1) * 1) rfl
          have hz : j < (E.setIfInBounds (j + 1) E[j]!).size := by rw [Array.size_setIfInBounds]; omega
          have s2 := u_set (rest := rest) E[j + 1]! hz (0 + j * 1) rfl
          have b2 := u_ble (rest := rest) hz (0 + j * 1) rfl
          rw [swp_eq] at s2
          refine Z131 ?_; refine zy (id := 4) [(200023, [900]), (200028, [900])] mixed (by kernel_rfl) ?_; refine Z126 ?_; refine Z78 ?_; refine Z148 ?_; refine z8 (zo L _ rfl rfl rfl rfl rfl rfl rfl (by omega)) rfl ?_; refine qg (qf L (q := 900) rfl rfl rfl rfl rfl q1) rfl rfl ?_; refine Z202 ?_; refine z8 (zo L _ rfl rfl rfl rfl rfl rfl rfl (by omega)) rfl ?_; refine qg (qf L (q := 900) rfl rfl rfl rfl rfl q2) rfl rfl ?_; refine z8 (zp L rfl rfl (zk rfl) rfl rfl rfl (fun u H hH _ _ => lessU' hc hH)) rfl ?_; refine Z224 ?_; refine Z247 ?_; refine zy (id := 6) [(200042, [900]), (200046, [900]), (100047, [900]), (100048, [900])] mixed (by kernel_rfl) ?_; refine Z126 ?_; refine Z202 ?_; refine Z202 ?_; refine z8 (zo L _ rfl rfl rfl rfl rfl rfl rfl (by omega)) rfl ?_; refine qg (qf L (q := 900) rfl rfl rfl rfl rfl q2) rfl rfl ?_; refine Z126 ?_; refine z8 (zo L _ rfl rfl rfl rfl rfl rfl rfl (by omega)) rfl ?_; refine qg (qf L (q := 900) rfl rfl rfl rfl rfl q1) rfl rfl ?_; refine z8 (zo L _ rfl rfl rfl rfl rfl rfl rfl (by omega)) rfl ?_; refine yk (yh L (q := 900) rfl rfl rfl rfl rfl rfl b1 rfl s1) rfl ?_; refine z8 (zo L _ rfl rfl rfl rfl rfl rfl rfl (by omega)) rfl ?_; refine yk (yh L (q := 900) rfl rfl rfl rfl rfl rfl b2 rfl s2) rfl ?_; refine ql ?_; refine Z175 ?_; refine Z166 ?_; refine Z19 ?_; refine Z142 ?_
          exact y8 (x := (j + 1, E)) (j, swp E (j + 1) j) ⟨by dsimp only; omega, by dsimp only; rw [swp_size]; exact hE, hI⟩ (by dsimp only; omega) ⟨rfl, rfl, rfl, rfl, rfl, rfl, trivial⟩
        | false =>
          rw [insInner, if_neg (by rw [hc]; simp)] at hI
          refine Z131 ?_; refine zy (id := 4) [(200023, [900]), (200028, [900])] mixed (by kernel_rfl) ?_; refine Z126 ?_; refine Z78 ?_; refine Z148 ?_; refine z8 (zo L _ rfl rfl rfl rfl rfl rfl rfl (by omega)) rfl ?_; refine qg (qf L (q := 900) rfl rfl rfl rfl rfl q1) rfl rfl ?_; refine Z202 ?_; refine z8 (zo L _ rfl rfl rfl rfl rfl rfl rfl (by omega)) rfl ?_; refine qg (qf L (q := 900) rfl rfl rfl rfl rfl q2) rfl rfl ?_; refine z8 (zp L rfl rfl (zk rfl) rfl rfl rfl (fun u H hH _ _ => lessU' hc hH)) rfl ?_; refine Z218 ?_; refine Z175 ?_
          rw [hI]
          refine Z155 ?_; refine Z250 ?_
          exact y8 (x := (i, D)) (i + 1, insInner lt a i D) ⟨by dsimp only; omega, by dsimp only; omega, by dsimp only; rw [← hI]; exact hE, hO⟩ (by dsimp only; omega) ⟨rfl, rfl, rfl, rfl, rfl, trivial⟩
      · rw [insInner, if_neg (by simp; omega)] at hI
        rw [hI]
        refine Z131 ?_; refine Z99 ?_; refine Z126 ?_; refine Z83 ?_; refine Z253 ?_; refine Z218 ?_; refine Z175 ?_; refine Z155 ?_; refine Z250 ?_
        exact y8 (x := (i, D)) (i + 1, insInner lt a i D) ⟨by dsimp only; omega, by dsimp only; omega, by dsimp only; rw [← hI]; exact hE, hO⟩ (by dsimp only; omega) ⟨rfl, rfl, rfl, rfl, rfl, trivial⟩
  · rw [insOuter, if_neg hlt] at hO
    subst hO
    refine Z131 ?_; refine Z17 ?_; refine Z274 ?_; refine Z145 ?_
    exact N_retGhost L 900 (r := GHeld b _ tyU) rfl (fun _ _ h => h) Since.refl rfl rfl
end Go.V.So
set_option maxRecDepth 20000
namespace Go.V.So
open Go.Proofs Go.RowKit Go.V Go.Sort
theorem _root_.Go.V.Z38 {A B : Prop} (h : B) (t : Wr B → A := by intro h; refine z7 (ok_mul rfl rfl rfl rfl (wrap_i64 (by omega) (by omega))) rfl ?_; exact h.h) : A := t ⟨h⟩
theorem _root_.Go.V.Z41 {A B : Prop} (h : B) (t : Wr B → A := by intro h; refine z7 (ok_quo rfl rfl rfl rfl (by omega) (by assumption)) rfl ?_; exact h.h) : A := t ⟨h⟩
theorem _root_.Go.V.Z96 {A B : Prop} (h : B) (t : Wr B → A := by intro h; refine zy (id := 5) [(200044, [900]), (200050, [900])] mixed (by kernel_rfl) ?_; exact h.h) : A := t ⟨h⟩
theorem _root_.Go.V.Z107 {A B : Prop} (h : B) (t : Wr B → A := by intro h; refine zy (id := 6) [(200066, [900]), (200072, [900]), (100073, [900]), (100074, [900])] mixed (by kernel_rfl) ?_; exact h.h) : A := t ⟨h⟩
theorem _root_.Go.V.Z115 {A B : Prop} (h : B) (t : Wr B → A := by intro h; refine zy (id := 3) [(200027, [900]), (200034, [900])] mixed (by kernel_rfl) ?_; exact h.h) : A := t ⟨h⟩
theorem _root_.Go.V.Z168 {A B : Prop} (h : B) (t : Wr B → A := by intro h; refine Z148 ?_; refine Z23 ?_; exact h.h) : A := t ⟨h⟩
theorem _root_.Go.V.Z174 {A B : Prop} (h : B) (t : Wr B → A := by intro h; refine Z123 ?_; refine Z19 ?_; exact h.h) : A := t ⟨h⟩
theorem _root_.Go.V.Z184 {A B : Prop} (h : B) (t : Wr B → A := by intro h; refine Z38 ?_; refine Z12 ?_; exact h.h) : A := t ⟨h⟩
theorem _root_.Go.V.Z191 {A B : Prop} (h : B) (t : Wr B → A := by intro h; refine Z123 ?_; refine Z123 ?_; exact h.h) : A := t ⟨h⟩
theorem _root_.Go.V.Z231 {A B : Prop} (h : B) (t : Wr B → A := by intro h; refine Z1 ?_; refine Z19 ?_; exact h.h) : A := t ⟨h⟩
theorem _root_.Go.V.Z244 {A B : Prop} (h : B) (t : Wr B → A := by intro h; refine Z126 ?_; refine Z126 ?_; exact h.h) : A := t ⟨h⟩
theorem _root_.Go.V.Z275 {A B : Prop} (h : B) (t : Wr B → A := by intro h; refine Z136 ?_; refine Z140 ?_; exact h.h) : A := t ⟨h⟩
theorem _root_.Go.V.Z295 {A B : Prop} (h : B) (t : Wr B → A := by intro h; refine Z132 ?_; refine Z158 ?_; exact h.h) : A := t ⟨h⟩
attribute [local irreducible] V N X VO Par StepOK Has Ret RetL RetO RetG RetX Src
set_option maxHeartbeats 1000000 in
set_option maxRecDepth 20000 in
theorem rev_ret {d : Array Int} {rest : List Value} {b m cap a e : Nat} (hab : a < e) (he : e ≤ d.size) (hm : d.size = m) (hm1 : m ≤ 100000) {w : World} {B : Heap} {C : Nat → Prop} (hB : B.Le (hp w))
    (hr : (GHeld b (uC d ++ rest) tyU).P B w C) (hC : ∀ k, C k → k < w.heap.size ∧ B k = none) :
    RetG Tryz.prog 105 [.slice (some ⟨b, 0, none⟩) m cap, .int .i64 a, .int .i64 e] w B C (GHeld b (uC (reverseRange d a e) ++ rest) tyU) := by
  unfold RetG
  refine V_enterG 900 (GHeld b (uC d ++ rest) tyU) Tryz.func105 rfl Tryz.ntmps105 (Nat.le_of_ble_eq_true rfl) hB hr hC ?_
  rw [gheld_res]
  have hw0 : IntKind.i64.wrap ((e : Int) - 1) = ((e - 1 : Nat) : Int) := wrap_i64 (by omega) (by omega) |>.trans (by omega)
  refine Z130 ?_; refine Z1 ?_; refine Z215 ?_; refine Z19 ?_; refine Z203 ?_
  refine V_loop (fun s : (Nat × Nat) × Array Int => [(0, .is (.slice (some ⟨b, 0, none⟩) m cap)), (6, .is (.int .i64 s.1.1)), (7, .is (.int .i64 s.1.2)), (900, .own (HeldR b (uC s.2 ++ rest) tyU))]) (fun s => s.1.1 ≤ m ∧ s.1.2 < m ∧ s.2.size = m ∧ reverseLoop s.1.1 s.1.2 s.2 = reverseRange d a e) (fun s => s.1.2 - s.1.1) ((a, e - 1), d) ⟨by dsimp only; omega, by dsimp only; omega, hm, rfl⟩ ⟨rfl, rfl, rfl, rfl, trivial⟩ ?_
  rintro ⟨⟨i, j⟩, E⟩ ⟨hi, hj, hE, hO⟩
  dsimp only at hi hj hE hO ⊢
  by_cases hlt : i < j
  · rw [reverseLoop, if_pos hlt] at hO
    have hw1 : IntKind.i64.wrap ((i : Int) + 1) = ((i + 1 : Nat) : Int) := wrap_i64 (by omega) (by omega)
    have hw2 : IntKind.i64.wrap ((j : Int) - 1) = ((j - 1 : Nat) : Int) := wrap_i64 (by omega) (by omega) |>.trans (by omega)
    obtain ⟨_, qj⟩ := u_at (rest := rest) (show j < E.size by omega) (0 + (j) * 1) rfl
    obtain ⟨_, qi⟩ := u_at (rest := rest) (show i < E.size by omega) (0 + (i) * 1) rfl
    have s1 := u_set (rest := rest) E[j]! (show i < E.size by omega) (0 + (i) * 1) rfl
    have b1 := u_ble (rest := rest) (show i < E.size by omega) (0 + (i) * 1) rfl
    have hz : j < (E.setIfInBounds (i) E[j]!).size := by rw [Array.size_setIfInBounds]; omega
    have s2 := u_set (rest := rest) E[i]! hz (0 + (j) * 1) rfl
    have b2 := u_ble (rest := rest) hz (0 + (j) * 1) rfl
    rw [swp_eq] at s2
    refine Z131 ?_; refine Z31 ?_; refine Z205 ?_; refine Z195 ?_; refine zy (id := 3) [(200021, [900]), (200025, [900]), (100026, [900]), (100027, [900])] mixed (by kernel_rfl) ?_; refine Z244 ?_; refine Z126 ?_; refine z8 (zo L _ rfl rfl rfl rfl rfl rfl rfl (by omega)) rfl ?_; refine qg (qf L (q := 900) rfl rfl rfl rfl rfl qj) rfl rfl ?_; refine Z126 ?_; refine z8 (zo L _ rfl rfl rfl rfl rfl rfl rfl (by omega)) rfl ?_; refine qg (qf L (q := 900) rfl rfl rfl rfl rfl qi) rfl rfl ?_; refine z8 (zo L _ rfl rfl rfl rfl rfl rfl rfl (by omega)) rfl ?_; refine yk (yh L (q := 900) rfl rfl rfl rfl rfl rfl b1 rfl s1) rfl ?_; refine z8 (zo L _ rfl rfl rfl rfl rfl rfl rfl (by omega)) rfl ?_; refine yk (yh L (q := 900) rfl rfl rfl rfl rfl rfl b2 rfl s2) rfl ?_; refine Z185 ?_; refine Z156 ?_; refine Z12 ?_; refine Z122 ?_; refine Z166 ?_; refine Z19 ?_; refine Z160 ?_
    exact y8 (x := ((i, j), E)) ((i + 1, j - 1), swp E i j) ⟨by dsimp only; omega, by dsimp only; omega, by dsimp only; rw [swp_size]; exact hE, hO⟩ (by dsimp only; omega) ⟨rfl, rfl, rfl, rfl, trivial⟩
  · rw [reverseLoop, if_neg hlt] at hO
    subst hO
    refine Z131 ?_; refine Z225 ?_; refine Z182 ?_; refine Z145 ?_
    exact N_retGhost L 900 (r := GHeld b _ tyU) rfl (fun _ _ h => h) Since.refl rfl rfl
set_option maxHeartbeats 1000000 in
set_option maxRecDepth 20000 in
theorem sift_ret {d : Array Int} {rest : List Value} {b m cap lo hi first : Nat} (hlo : lo ≤ hi) (hf : first + hi ≤ d.size) (hm : d.size = m) (hm1 : m ≤ 100000) {w : World} {B : Heap} {C : Nat → Prop} (hB : B.Le (hp w))
    (hr : (GHeld b (uC d ++ rest) tyU).P B w C) (hC : ∀ k, C k → k < w.heap.size ∧ B k = none) :
    RetG Tryz.prog 148 [.slice (some ⟨b, 0, none⟩) m cap, .int .i64 lo, .int .i64 hi, .int .i64 first] w B C (GHeld b (uC (siftDown lt hi first lo d) ++ rest) tyU) := by
  unfold RetG
  refine V_enterG 900 (GHeld b (uC d ++ rest) tyU) Tryz.func148 rfl Tryz.ntmps148 (Nat.le_of_ble_eq_true rfl) hB hr hC ?_
  rw [gheld_res]
  refine Z130 ?_; refine Z1 ?_; refine Z203 ?_
  refine V_loop (fun s : Nat × Array Int => [(0, .is (.slice (some ⟨b, 0, none⟩) m cap)), (2, .is (.int .i64 hi)), (3, .is (.int .i64 first)), (8, .is (.int .i64 s.1)), (900, .own (HeldR b (uC s.2 ++ rest) tyU))]) (fun s => s.1 ≤ hi ∧ s.2.size = m ∧ siftDown lt hi first s.1 s.2 = siftDown lt hi first lo d) (fun s => hi - s.1) (lo, d) ⟨hlo, hm, rfl⟩ ⟨rfl, rfl, rfl, rfl, rfl, trivial⟩ ?_
  rintro ⟨r, E⟩ ⟨hr0, hE, hO⟩
  dsimp only at hr0 hE hO ⊢
  have hw1 : IntKind.i64.wrap (2 * (r : Int)) = ((2 * r : Nat) : Int) := wrap_i64 (by omega) (by omega) |>.trans (by omega)
  have hw2 : IntKind.i64.wrap (((2 * r : Nat) : Int) + 1) = ((2 * r + 1 : Nat) : Int) := wrap_i64 (by omega) (by omega)
  by_cases hend : hi ≤ 2 * r + 1
  · rw [siftDown, dif_pos (by omega)] at hO
    subst hO
    refine Z275 ?_; refine Z184 ?_; refine Z132 ?_; refine Z225 ?_; refine Z214 ?_; refine Z143 ?_; refine X_there rfl ?_; refine qs ?_; refine yo ?_
    exact N_retGhost L 900 (r := GHeld b _ tyU) rfl (fun _ _ h => h) Since.refl rfl rfl
  · rw [siftDown, dif_neg (by omega)] at hO
    have hw3 : IntKind.i64.wrap (((2 * r + 1 : Nat) : Int) + 1) = ((2 * r + 2 : Nat) : Int) := wrap_i64 (by omega) (by omega)
    have hw4 : IntKind.i64.wrap ((first : Int) + ((2 * r + 1 : Nat) : Int)) = ((first + (2 * r + 1) : Nat) : Int) := wrap_i64 (by omega) (by omega)
    have hw5 : IntKind.i64.wrap (((first + (2 * r + 1) : Nat) : Int) + 1) = ((first + (2 * r + 2) : Nat) : Int) := wrap_i64 (by omega) (by omega)
    have hw6 : IntKind.i64.wrap ((first : Int) + (r : Int)) = ((first + r : Nat) : Int) := wrap_i64 (by omega) (by omega)
    have hw7 : IntKind.i64.wrap ((first : Int) + ((2 * r + 2 : Nat) : Int)) = ((first + (2 * r + 2) : Nat) : Int) := wrap_i64 (by omega) (by omega)
    obtain ⟨_, qr⟩ := u_at (rest := rest) (show first + r < E.size by omega) (0 + (first + r) * 1) rfl
    by_cases h2 : 2 * r + 2 < hi
    · obtain ⟨_, q1⟩ := u_at (rest := rest) (show first + (2 * r + 1) < E.size by omega) (0 + (first + (2 * r + 1)) * 1) rfl
      obtain ⟨_, q2⟩ := u_at (rest := rest) (show first + (2 * r + 2) < E.size by omega) (0 + (first + (2 * r + 2)) * 1) rfl
      have e2 : first + (2 * r + 1) + 1 = first + (2 * r + 2) := by omega
      rw [e2] at hO
      cases hc : lt E[first + (2 * r + 1)]! E[first + (2 * r + 2)]! with
      | true =>
        rw [if_pos (by rw [hc]; simp; omega)] at hO
        have qc := q2
        cases hc2 : lt E[first + r]! E[first + (2 * r + 2)]! with
        | false =>
          rw [hc2] at hO
          simp only [Bool.not_false, if_true] at hO
          subst hO
          refine Z275 ?_; refine Z184 ?_; refine Z132 ?_; refine Z225 ?_; refine Z39 ?_; refine Z151 ?_; refine Z115 ?_; refine Z3 ?_; refine Z23 ?_; refine Z3 ?_; refine Z70 ?_; refine Z244 ?_; refine Z23 ?_; refine z8 (zo L _ rfl rfl rfl rfl rfl rfl rfl (by omega)) rfl ?_; refine qg (qf L (q := 900) rfl rfl rfl rfl rfl q1) rfl rfl ?_; refine Z168 ?_; refine Z23 ?_; refine z8 (zo L _ rfl rfl rfl rfl rfl rfl rfl (by omega)) rfl ?_; refine qg (qf L (q := 900) rfl rfl rfl rfl rfl q2) rfl rfl ?_; refine z8 (zp L rfl rfl (zk rfl) rfl rfl rfl (fun u H hH _ _ => lessU' hc hH)) rfl ?_; refine Z224 ?_; refine Z156 ?_; refine Z12 ?_; refine Z132 ?_; refine Z96 ?_; refine Z168 ?_; refine z8 (zo L _ rfl rfl rfl rfl rfl rfl rfl (by omega)) rfl ?_; refine qg (qf L (q := 900) rfl rfl rfl rfl rfl qr) rfl rfl ?_; refine Z168 ?_; refine z8 (zo L _ rfl rfl rfl rfl rfl rfl rfl (by omega)) rfl ?_; refine qg (qf L (q := 900) rfl rfl rfl rfl rfl qc) rfl rfl ?_; refine z8 (zp L rfl rfl (zk rfl) rfl rfl rfl (fun u H hH _ _ => lessU' hc2 hH)) rfl ?_; refine Z58 ?_; refine Z181 ?_
          exact V_retGhost L 900 (r := GHeld b _ tyU) rfl (fun _ _ h => h) Since.refl rfl rfl
        | true =>
          rw [hc2] at hO
          simp only [Bool.not_true, Bool.false_eq_true, if_false] at hO
          rw [dif_pos (by omega)] at hO
          obtain ⟨_, qj⟩ := u_at (rest := rest) (show first + (2 * r + 2) < E.size by omega) (0 + (first + (2 * r + 2)) * 1) rfl
          obtain ⟨_, qi⟩ := u_at (rest := rest) (show first + r < E.size by omega) (0 + (first + r) * 1) rfl
          have s1 := u_set (rest := rest) E[first + (2 * r + 2)]! (show first + r < E.size by omega) (0 + (first + r) * 1) rfl
          have b1 := u_ble (rest := rest) (show first + r < E.size by omega) (0 + (first + r) * 1) rfl
          have hz : first + (2 * r + 2) < (E.setIfInBounds (first + r) E[first + (2 * r + 2)]!).size := by rw [Array.size_setIfInBounds]; omega
          have s2 := u_set (rest := rest) E[first + r]! hz (0 + (first + (2 * r + 2)) * 1) rfl
          have b2 := u_ble (rest := rest) hz (0 + (first + (2 * r + 2)) * 1) rfl
          rw [swp_eq] at s2
          refine Z275 ?_; refine Z184 ?_; refine Z132 ?_; refine Z225 ?_; refine Z39 ?_; refine Z151 ?_; refine Z115 ?_; refine Z3 ?_; refine Z23 ?_; refine Z3 ?_; refine Z70 ?_; refine Z244 ?_; refine Z23 ?_; refine z8 (zo L _ rfl rfl rfl rfl rfl rfl rfl (by omega)) rfl ?_; refine qg (qf L (q := 900) rfl rfl rfl rfl rfl q1) rfl rfl ?_; refine Z168 ?_; refine Z23 ?_; refine z8 (zo L _ rfl rfl rfl rfl rfl rfl rfl (by omega)) rfl ?_; refine qg (qf L (q := 900) rfl rfl rfl rfl rfl q2) rfl rfl ?_; refine z8 (zp L rfl rfl (zk rfl) rfl rfl rfl (fun u H hH _ _ => lessU' hc hH)) rfl ?_; refine Z224 ?_; refine Z156 ?_; refine Z12 ?_; refine Z132 ?_; refine Z96 ?_; refine Z168 ?_; refine z8 (zo L _ rfl rfl rfl rfl rfl rfl rfl (by omega)) rfl ?_; refine qg (qf L (q := 900) rfl rfl rfl rfl rfl qr) rfl rfl ?_; refine Z168 ?_; refine z8 (zo L _ rfl rfl rfl rfl rfl rfl rfl (by omega)) rfl ?_; refine qg (qf L (q := 900) rfl rfl rfl rfl rfl qc) rfl rfl ?_; refine z8 (zp L rfl rfl (zk rfl) rfl rfl rfl (fun u H hH _ _ => lessU' hc2 hH)) rfl ?_; refine Z58 ?_; refine Z153 ?_; refine Z128 ?_; refine Z107 ?_; refine Z168 ?_; refine Z168 ?_; refine Z168 ?_; refine z8 (zo L _ rfl rfl rfl rfl rfl rfl rfl (by omega)) rfl ?_; refine qg (qf L (q := 900) rfl rfl rfl rfl rfl qj) rfl rfl ?_; refine Z168 ?_; refine z8 (zo L _ rfl rfl rfl rfl rfl rfl rfl (by omega)) rfl ?_; refine qg (qf L (q := 900) rfl rfl rfl rfl rfl qi) rfl rfl ?_; refine z8 (zo L _ rfl rfl rfl rfl rfl rfl rfl (by omega)) rfl ?_; refine yk (yh L (q := 900) rfl rfl rfl rfl rfl rfl b1 rfl s1) rfl ?_; refine z8 (zo L _ rfl rfl rfl rfl rfl rfl rfl (by omega)) rfl ?_; refine yk (yh L (q := 900) rfl rfl rfl rfl rfl rfl b2 rfl s2) rfl ?_; refine Z135 ?_; refine Z176 ?_; refine Z160 ?_
          exact y8 (x := (r, E)) (2 * r + 2, swp E (first + r) (first + (2 * r + 2))) ⟨by dsimp only; omega, by dsimp only; rw [swp_size]; exact hE, hO⟩ (by dsimp only; omega) ⟨rfl, rfl, rfl, rfl, rfl, trivial⟩
      | false =>
        rw [if_neg (by rw [hc]; simp)] at hO
        have qc := q1
        cases hc2 : lt E[first + r]! E[first + (2 * r + 1)]! with
        | false =>
          rw [hc2] at hO
          simp only [Bool.not_false, if_true] at hO
          subst hO
          refine Z275 ?_; refine Z184 ?_; refine Z132 ?_; refine Z225 ?_; refine Z39 ?_; refine Z151 ?_; refine Z115 ?_; refine Z3 ?_; refine Z23 ?_; refine Z3 ?_; refine Z70 ?_; refine Z244 ?_; refine Z23 ?_; refine z8 (zo L _ rfl rfl rfl rfl rfl rfl rfl (by omega)) rfl ?_; refine qg (qf L (q := 900) rfl rfl rfl rfl rfl q1) rfl rfl ?_; refine Z168 ?_; refine Z23 ?_; refine z8 (zo L _ rfl rfl rfl rfl rfl rfl rfl (by omega)) rfl ?_; refine qg (qf L (q := 900) rfl rfl rfl rfl rfl q2) rfl rfl ?_; refine z8 (zp L rfl rfl (zk rfl) rfl rfl rfl (fun u H hH _ _ => lessU' hc hH)) rfl ?_; refine Z261 ?_; refine zh ?_; refine Z96 ?_; refine Z168 ?_; refine z8 (zo L _ rfl rfl rfl rfl rfl rfl rfl (by omega)) rfl ?_; refine qg (qf L (q := 900) rfl rfl rfl rfl rfl qr) rfl rfl ?_; refine Z168 ?_; refine z8 (zo L _ rfl rfl rfl rfl rfl rfl rfl (by omega)) rfl ?_; refine qg (qf L (q := 900) rfl rfl rfl rfl rfl qc) rfl rfl ?_; refine z8 (zp L rfl rfl (zk rfl) rfl rfl rfl (fun u H hH _ _ => lessU' hc2 hH)) rfl ?_; refine Z58 ?_; refine Z181 ?_
          exact V_retGhost L 900 (r := GHeld b _ tyU) rfl (fun _ _ h => h) Since.refl rfl rfl
        | true =>
          rw [hc2] at hO
          simp only [Bool.not_true, Bool.false_eq_true, if_false] at hO
          obtain ⟨_, qj⟩ := u_at (rest := rest) (show first + (2 * r + 1) < E.size by omega) (0 + (first + (2 * r + 1)) * 1) rfl
          obtain ⟨_, qi⟩ := u_at (rest := rest) (show first + r < E.size by omega) (0 + (first + r) * 1) rfl
          have s1 := u_set (rest := rest) E[first + (2 * r + 1)]! (show first + r < E.size by omega) (0 + (first + r) * 1) rfl
          have b1 := u_ble (rest := rest) (show first + r < E.size by omega) (0 + (first + r) * 1) rfl
          have hz : first + (2 * r + 1) < (E.setIfInBounds (first + r) E[first + (2 * r + 1)]!).size := by rw [Array.size_setIfInBounds]; omega
          have s2 := u_set (rest := rest) E[first + r]! hz (0 + (first + (2 * r + 1)) * 1) rfl
          have b2 := u_ble (rest := rest) hz (0 + (first + (2 * r + 1)) * 1) rfl
          rw [swp_eq] at s2
          refine Z275 ?_; refine Z184 ?_; refine Z132 ?_; refine Z225 ?_; refine Z39 ?_; refine Z151 ?_; refine Z115 ?_; refine Z3 ?_; refine Z23 ?_; refine Z3 ?_; refine Z70 ?_; refine Z244 ?_; refine Z23 ?_; refine z8 (zo L _ rfl rfl rfl rfl rfl rfl rfl (by omega)) rfl ?_; refine qg (qf L (q := 900) rfl rfl rfl rfl rfl q1) rfl rfl ?_; refine Z168 ?_; refine Z23 ?_; refine z8 (zo L _ rfl rfl rfl rfl rfl rfl rfl (by omega)) rfl ?_; refine qg (qf L (q := 900) rfl rfl rfl rfl rfl q2) rfl rfl ?_; refine z8 (zp L rfl rfl (zk rfl) rfl rfl rfl (fun u H hH _ _ => lessU' hc hH)) rfl ?_; refine Z261 ?_; refine zh ?_; refine Z96 ?_; refine Z168 ?_; refine z8 (zo L _ rfl rfl rfl rfl rfl rfl rfl (by omega)) rfl ?_; refine qg (qf L (q := 900) rfl rfl rfl rfl rfl qr) rfl rfl ?_; refine Z168 ?_; refine z8 (zo L _ rfl rfl rfl rfl rfl rfl rfl (by omega)) rfl ?_; refine qg (qf L (q := 900) rfl rfl rfl rfl rfl qc) rfl rfl ?_; refine z8 (zp L rfl rfl (zk rfl) rfl rfl rfl (fun u H hH _ _ => lessU' hc2 hH)) rfl ?_; refine Z58 ?_; refine Z153 ?_; refine Z128 ?_; refine Z107 ?_; refine Z168 ?_; refine Z168 ?_; refine Z168 ?_; refine z8 (zo L _ rfl rfl rfl rfl rfl rfl rfl (by omega)) rfl ?_; refine qg (qf L (q := 900) rfl rfl rfl rfl rfl qj) rfl rfl ?_; refine Z168 ?_; refine z8 (zo L _ rfl rfl rfl rfl rfl rfl rfl (by omega)) rfl ?_; refine qg (qf L (q := 900) rfl rfl rfl rfl rfl qi) rfl rfl ?_; refine z8 (zo L _ rfl rfl rfl rfl rfl rfl rfl (by omega)) rfl ?_; refine yk (yh L (q := 900) rfl rfl rfl rfl rfl rfl b1 rfl s1) rfl ?_; refine z8 (zo L _ rfl rfl rfl rfl rfl rfl rfl (by omega)) rfl ?_; refine yk (yh L (q := 900) rfl rfl rfl rfl rfl rfl b2 rfl s2) rfl ?_; refine Z135 ?_; refine Z176 ?_; refine Z160 ?_
          exact y8 (x := (r, E)) (2 * r + 1, swp E (first + r) (first + (2 * r + 1))) ⟨by dsimp only; omega, by dsimp only; rw [swp_size]; exact hE, hO⟩ (by dsimp only; omega) ⟨rfl, rfl, rfl, rfl, rfl, trivial⟩
    · rw [if_neg (by simp; omega)] at hO
      obtain ⟨_, qc⟩ := u_at (rest := rest) (show first + (2 * r + 1) < E.size by omega) (0 + (first + (2 * r + 1)) * 1) rfl
      cases hc2 : lt E[first + r]! E[first + (2 * r + 1)]! with
      | false =>
        rw [hc2] at hO
        simp only [Bool.not_false, if_true] at hO
        subst hO
        refine Z275 ?_; refine Z184 ?_; refine Z132 ?_; refine Z225 ?_; refine Z39 ?_; refine Z151 ?_; refine Z75 ?_; refine Z3 ?_; refine Z23 ?_; refine Z3 ?_; refine Z89 ?_; refine Z209 ?_; refine Z159 ?_; refine Z134 ?_; refine Z261 ?_; refine zh ?_; refine Z96 ?_; refine Z168 ?_; refine z8 (zo L _ rfl rfl rfl rfl rfl rfl rfl (by omega)) rfl ?_; refine qg (qf L (q := 900) rfl rfl rfl rfl rfl qr) rfl rfl ?_; refine Z168 ?_; refine z8 (zo L _ rfl rfl rfl rfl rfl rfl rfl (by omega)) rfl ?_; refine qg (qf L (q := 900) rfl rfl rfl rfl rfl qc) rfl rfl ?_; refine z8 (zp L rfl rfl (zk rfl) rfl rfl rfl (fun u H hH _ _ => lessU' hc2 hH)) rfl ?_; refine Z58 ?_; refine Z181 ?_
        exact V_retGhost L 900 (r := GHeld b _ tyU) rfl (fun _ _ h => h) Since.refl rfl rfl
      | true =>
        rw [hc2] at hO
        simp only [Bool.not_true, Bool.false_eq_true, if_false] at hO
        obtain ⟨_, qj⟩ := u_at (rest := rest) (show first + (2 * r + 1) < E.size by omega) (0 + (first + (2 * r + 1)) * 1) rfl
        obtain ⟨_, qi⟩ := u_at (rest := rest) (show first + r < E.size by omega) (0 + (first + r) * 1) rfl
        have s1 := u_set (rest := rest) E[first + (2 * r + 1)]! (show first + r < E.size by omega) (0 + (first + r) * 1) rfl
        have b1 := u_ble (rest := rest) (show first + r < E.size by omega) (0 + (first + r) * 1) rfl
        have hz : first + (2 * r + 1) < (E.setIfInBounds (first + r) E[first + (2 * r + 1)]!).size := by rw [Array.size_setIfInBounds]; omega
        have s2 := u_set (rest := rest) E[first + r]! hz (0 + (first + (2 * r + 1)) * 1) rfl
        have b2 := u_ble (rest := rest) hz (0 + (first + (2 * r + 1)) * 1) rfl
        rw [swp_eq] at s2
        refine Z275 ?_; refine Z184 ?_; refine Z132 ?_; refine Z225 ?_; refine Z39 ?_; refine Z151 ?_; refine Z75 ?_; refine Z3 ?_; refine Z23 ?_; refine Z3 ?_; refine Z89 ?_; refine Z209 ?_; refine Z159 ?_; refine Z134 ?_; refine Z261 ?_; refine zh ?_; refine Z96 ?_; refine Z168 ?_; refine z8 (zo L _ rfl rfl rfl rfl rfl rfl rfl (by omega)) rfl ?_; refine qg (qf L (q := 900) rfl rfl rfl rfl rfl qr) rfl rfl ?_; refine Z168 ?_; refine z8 (zo L _ rfl rfl rfl rfl rfl rfl rfl (by omega)) rfl ?_; refine qg (qf L (q := 900) rfl rfl rfl rfl rfl qc) rfl rfl ?_; refine z8 (zp L rfl rfl (zk rfl) rfl rfl rfl (fun u H hH _ _ => lessU' hc2 hH)) rfl ?_; refine Z58 ?_; refine Z153 ?_; refine Z128 ?_; refine Z107 ?_; refine Z168 ?_; refine Z168 ?_; refine Z168 ?_; refine z8 (zo L _ rfl rfl rfl rfl rfl rfl rfl (by omega)) rfl ?_; refine qg (qf L (q := 900) rfl rfl rfl rfl rfl qj) rfl rfl ?_; refine Z168 ?_; refine z8 (zo L _ rfl rfl rfl rfl rfl rfl rfl (by omega)) rfl ?_; refine qg (qf L (q := 900) rfl rfl rfl rfl rfl qi) rfl rfl ?_; refine z8 (zo L _ rfl rfl rfl rfl rfl rfl rfl (by omega)) rfl ?_; refine yk (yh L (q := 900) rfl rfl rfl rfl rfl rfl b1 rfl s1) rfl ?_; refine z8 (zo L _ rfl rfl rfl rfl rfl rfl rfl (by omega)) rfl ?_; refine yk (yh L (q := 900) rfl rfl rfl rfl rfl rfl b2 rfl s2) rfl ?_; refine Z135 ?_; refine Z176 ?_; refine Z160 ?_
        exact y8 (x := (r, E)) (2 * r + 1, swp E (first + r) (first + (2 * r + 1))) ⟨by dsimp only; omega, by dsimp only; rw [swp_size]; exact hE, hO⟩ (by dsimp only; omega) ⟨rfl, rfl, rfl, rfl, rfl, trivial⟩
theorem sift_size (hi first : Nat) : ∀ (n root : Nat) (d : Array Int), hi - root ≤ n → (siftDown lt hi first root d).size = d.size := by
  intro n
  induction n with
  | zero =>
    intro root d h
    rw [siftDown, dif_pos (by omega)]
  | succ n ih =>
    intro root d h
    rw [siftDown]
    split
    · rfl
    · split
      · split
        · rfl
        · split
          · rw [ih _ _ (by omega), swp_size]
          · rfl
      · split
        · rfl
        · rw [ih _ _ (by omega), swp_size]
set_option maxHeartbeats 1000000 in
set_option maxRecDepth 20000 in
theorem heap_ret {d : Array Int} {rest : List Value} {b m cap a e : Nat} (hab : a < e) (he : e ≤ d.size) (hm : d.size = m) (hm1 : m ≤ 100000) {w : World} {B : Heap} {C : Nat → Prop} (hB : B.Le (hp w))
    (hr : (GHeld b (uC d ++ rest) tyU).P B w C) (hC : ∀ k, C k → k < w.heap.size ∧ B k = none) :
    RetG Tryz.prog 102 [.slice (some ⟨b, 0, none⟩) m cap, .int .i64 a, .int .i64 e] w B C (GHeld b (uC (heapSort lt d a e) ++ rest) tyU) := by
  unfold RetG
  refine V_enterG 900 (GHeld b (uC d ++ rest) tyU) Tryz.func102 rfl Tryz.ntmps102 (Nat.le_of_ble_eq_true rfl) hB hr hC ?_
  rw [gheld_res]
  have hw0 : IntKind.i64.wrap ((e : Int) - (a : Int)) = ((e - a : Nat) : Int) := wrap_i64 (by omega) (by omega) |>.trans (by omega)
  have hw1 : IntKind.i64.wrap (((e - a : Nat) : Int) - 1) = ((e - a - 1 : Nat) : Int) := wrap_i64 (by omega) (by omega) |>.trans (by omega)
  have et : ((e - a - 1 : Nat) : Int).tdiv 2 = (((e - a - 1) / 2 + 1 : Nat) : Int) - 1 := by
    rw [Int.tdiv_eq_ediv_of_nonneg (by omega)]
    omega
  have hw2 : IntKind.i64.wrap (((e - a - 1 : Nat) : Int).tdiv 2) = (((e - a - 1) / 2 + 1 : Nat) : Int) - 1 := by rw [et]; exact wrap_i64 (by omega) (by omega)
  refine Z130 ?_; refine Z1 ?_; refine Z169 ?_; refine Z124 ?_; refine Z31 ?_; refine Z174 ?_; refine Z295 ?_; refine Z19 ?_; refine Z41 ?_; refine Z203 ?_
  refine V_loop (fun s : Nat × Array Int => [(0, .is (.slice (some ⟨b, 0, none⟩) m cap)), (6, .is (.int .i64 a)), (7, .is (.int .i64 0)), (8, .is (.int .i64 (e - a : Nat))), (9, .is (.int .i64 ((s.1 : Int) - 1))), (900, .own (HeldR b (uC s.2 ++ rest) tyU))]) (fun s => s.1 ≤ (e - a - 1) / 2 + 1 ∧ s.2.size = m ∧ heapBuild lt (e - a) a s.1 s.2 = heapBuild lt (e - a) a ((e - a - 1) / 2 + 1) d) (fun s => s.1) ((e - a - 1) / 2 + 1, d) ⟨Nat.le_refl _, hm, rfl⟩ ⟨rfl, rfl, rfl, rfl, rfl, rfl, trivial⟩ ?_
  rintro ⟨k, E⟩ ⟨hk, hE, hO⟩
  dsimp only at hk hE hO ⊢
  rcases k with _ | k
  · have e9 : (((0 : Nat) : Int) - 1) = -1 := rfl
    rw [e9]
    refine Z131 ?_; refine Z156 ?_; refine Z39 ?_; refine Z252 ?_
    rw [heapBuild] at hO
    have e10 : ((e - a - 1 : Nat) : Int) = ((e - a : Nat) : Int) - 1 := by omega
    rw [e10] at hw1
    refine Z176 ?_; refine Z19 ?_; refine Z203 ?_
    refine V_loop (fun s : Nat × Array Int => [(0, .is (.slice (some ⟨b, 0, none⟩) m cap)), (6, .is (.int .i64 a)), (7, .is (.int .i64 0)), (10, .is (.int .i64 ((s.1 : Int) - 1))), (900, .own (HeldR b (uC s.2 ++ rest) tyU))]) (fun s => s.1 ≤ e - a ∧ s.2.size = m ∧ heapPop lt a s.1 s.2 = heapPop lt a (e - a) E) (fun s => s.1) (e - a, E) ⟨Nat.le_refl _, hE, rfl⟩ ⟨rfl, rfl, rfl, rfl, rfl, trivial⟩ ?_
    rintro ⟨j, G⟩ ⟨hj, hG, hP⟩
    dsimp only at hj hG hP ⊢
    rcases j with _ | j
    · rw [e9]
      rw [heapPop] at hP
      have : G = heapSort lt d a e := by unfold heapSort; rw [← hO, hP]
      subst this
      refine Z131 ?_; refine Z197 ?_; refine Z39 ?_; refine Z127 ?_; refine Z145 ?_
      exact N_retGhost L 900 (r := GHeld b _ tyU) rfl (fun _ _ h => h) Since.refl rfl rfl
    · have e8 : (((j + 1 : Nat) : Int) - 1) = (j : Int) := by omega
      rw [heapPop] at hP
      rw [e8]
      have hw3 : IntKind.i64.wrap ((a : Int) + (j : Int)) = ((a + j : Nat) : Int) := wrap_i64 (by omega) (by omega)
      have hw4 : IntKind.i64.wrap ((j : Int) - 1) = (j : Int) - 1 := wrap_i64 (by omega) (by omega)
      have hsz := swp_size G a (a + j)
      have hss := sift_size j a j 0 (swp G a (a + j)) (by omega)
      obtain ⟨_, qj⟩ := u_at (rest := rest) (show a + j < G.size by omega) (0 + (a + j) * 1) rfl
      obtain ⟨_, qi⟩ := u_at (rest := rest) (show a < G.size by omega) (0 + (a) * 1) rfl
      have s1 := u_set (rest := rest) G[a + j]! (show a < G.size by omega) (0 + (a) * 1) rfl
      have b1 := u_ble (rest := rest) (show a < G.size by omega) (0 + (a) * 1) rfl
      have hz : a + j < (G.setIfInBounds (a) G[a + j]!).size := by rw [Array.size_setIfInBounds]; omega
      have s2 := u_set (rest := rest) G[a]! hz (0 + (a + j) * 1) rfl
      have b2 := u_ble (rest := rest) hz (0 + (a + j) * 1) rfl
      rw [swp_eq] at s2
      refine Z131 ?_; refine Z197 ?_; refine Z214 ?_; refine Z165 ?_; refine zy (id := 10) [(200044, [900]), (200048, [900]), (100049, [900]), (100050, [900])] mixed (by kernel_rfl) ?_; refine Z126 ?_; refine Z168 ?_; refine Z168 ?_; refine z8 (zo L _ rfl rfl rfl rfl rfl rfl rfl (by omega)) rfl ?_; refine qg (qf L (q := 900) rfl rfl rfl rfl rfl qj) rfl rfl ?_; refine Z126 ?_; refine z8 (zo L _ rfl rfl rfl rfl rfl rfl rfl (by omega)) rfl ?_; refine qg (qf L (q := 900) rfl rfl rfl rfl rfl qi) rfl rfl ?_; refine z8 (zo L _ rfl rfl rfl rfl rfl rfl rfl (by omega)) rfl ?_; refine yk (yh L (q := 900) rfl rfl rfl rfl rfl rfl b1 rfl s1) rfl ?_; refine z8 (zo L _ rfl rfl rfl rfl rfl rfl rfl (by omega)) rfl ?_; refine yk (yh L (q := 900) rfl rfl rfl rfl rfl rfl b2 rfl s2) rfl ?_; refine Z135 ?_; refine Z64 ?_; refine Z191 ?_; refine qk (ok_callG L 900 (GHeld b (uC (siftDown lt j a 0 (swp G a (a + j))) ++ rest) tyU) (r := GHeld b (uC (swp G a (a + j)) ++ rest) tyU) rfl rfl rfl rfl rfl (fun u H C hH _ hr hC => sift_ret (Nat.zero_le _) (by omega) (by omega) hm1 hH hr hC)) ?_; refine Z302 ?_; refine Z61 ?_; refine Z231 ?_; refine Z142 ?_
      exact y8 (x := (j + 1, G)) (j, siftDown lt j a 0 (swp G a (a + j))) ⟨by dsimp only; omega, by dsimp only; omega, hP⟩ (by dsimp only; omega) ⟨rfl, rfl, rfl, rfl, rfl, trivial⟩
  · have e8 : (((k + 1 : Nat) : Int) - 1) = (k : Int) := by omega
    rw [heapBuild] at hO
    rw [e8]
    have hw4 : IntKind.i64.wrap ((k : Int) - 1) = (k : Int) - 1 := wrap_i64 (by omega) (by omega)
    have hss := sift_size (e - a) a (e - a) k E (by omega)
    refine Z131 ?_; refine Z156 ?_; refine Z214 ?_; refine Z247 ?_; refine Z42 ?_; refine Z191 ?_; refine qk (ok_callG L 900 (GHeld b (uC (siftDown lt (e - a) a k E) ++ rest) tyU) (r := GHeld b (uC E ++ rest) tyU) rfl rfl rfl rfl rfl (fun u H C hH _ hr hC => sift_ret (by omega) (by omega) (by omega) hm1 hH hr hC)) ?_; refine Z302 ?_; refine Z166 ?_; refine Z19 ?_; refine Z142 ?_
    exact y8 (x := (k + 1, E)) (k, siftDown lt (e - a) a k E) ⟨by dsimp only; omega, by dsimp only; omega, hO⟩ (by dsimp only; omega) ⟨rfl, rfl, rfl, rfl, rfl, rfl, trivial⟩
end Go.V.So
set_option maxRecDepth 20000
namespace Go.V.So
open Go.Proofs Go.RowKit Go.V Go.Sort
theorem _root_.Go.V.Z116 {A B : Prop} (h : B) (t : Wr B → A := by intro h; refine zy (id := 5) [(200053, [900]), (200057, [900])] mixed (by kernel_rfl) ?_; exact h.h) : A := t ⟨h⟩
theorem _root_.Go.V.Z219 {A B : Prop} (h : B) (t : Wr B → A := by intro h; refine Z69 ?_; refine Z1 ?_; exact h.h) : A := t ⟨h⟩
theorem _root_.Go.V.Z276 {A B : Prop} (h : B) (t : Wr B → A := by intro h; refine Z126 ?_; refine Z71 ?_; exact h.h) : A := t ⟨h⟩
theorem _root_.Go.V.Z277 {A B : Prop} (h : B) (t : Wr B → A := by intro h; refine Z276 ?_; refine Z148 ?_; exact h.h) : A := t ⟨h⟩
theorem _root_.Go.V.Z313 {A B : Prop} (h : B) (t : Wr B → A := by intro h; refine Z131 ?_; refine Z43 ?_; exact h.h) : A := t ⟨h⟩
attribute [local irreducible] V N X VO Par StepOK Has Ret RetL RetO RetG RetX Src
theorem scanUp_stop {p : Int → Bool} {d : Array Int} {j i : Nat} (h : ¬ (i ≤ j ∧ p d[i]! = true)) : scanUp p d j i = i := by
  rw [scanUp, if_neg]
  simpa using h
theorem scanUp_go {p : Int → Bool} {d : Array Int} {j i : Nat} (h1 : i ≤ j) (h2 : p d[i]! = true) : scanUp p d j i = scanUp p d j (i + 1) := by
  rw [scanUp, if_pos (by simp [h1, h2])]
theorem scanDown_stop {p : Int → Bool} {d : Array Int} {i j : Nat} (h : ¬ (i ≤ j ∧ p d[j]! = true)) : scanDown p d i j = j := by
  cases j with
  | zero => rfl
  | succ j => rw [scanDown, if_neg]; simpa using h
theorem scanDown_go {p : Int → Bool} {d : Array Int} {i j : Nat} (h1 : i ≤ j + 1) (h2 : p d[j + 1]! = true) : scanDown p d i (j + 1) = scanDown p d i j := by
  rw [scanDown, if_pos (by simp [h1, h2])]
set_option maxHeartbeats 2000000 in
set_option maxRecDepth 20000 in
theorem part_ret {d : Array Int} {rest : List Value} {b m cap a e p : Nat} (hap : a ≤ p) (hpe : p < e) (he : e ≤ d.size) (hm : d.size = m) (hm1 : m ≤ 100000) {w : World} {B : Heap} {C : Nat → Prop} (hB : B.Le (hp w))
    (hr : (GHeld b (uC d ++ rest) tyU).P B w C) (hC : ∀ k, C k → k < w.heap.size ∧ B k = none) :
    RetX Tryz.prog 109 [.slice (some ⟨b, 0, none⟩) m cap, .int .i64 a, .int .i64 e, .int .i64 p] w B C (GHeld b (uC (Go.Sort.partition lt d a e p).2.2 ++ rest) tyU) (.tuple #[.int .i64 (Go.Sort.partition lt d a e p).1, .bool (Go.Sort.partition lt d a e p).2.1]) := by
  unfold RetX
  refine V_enterG 900 (GHeld b (uC d ++ rest) tyU) Tryz.func109 rfl Tryz.ntmps109 (Nat.le_of_ble_eq_true rfl) hB hr hC ?_
  rw [gheld_res]
  obtain ⟨_, qj⟩ := u_at (rest := rest) (show p < d.size by omega) (0 + (p) * 1) rfl
  obtain ⟨_, qi⟩ := u_at (rest := rest) (show a < d.size by omega) (0 + (a) * 1) rfl
  have s1 := u_set (rest := rest) d[p]! (show a < d.size by omega) (0 + (a) * 1) rfl
  have b1 := u_ble (rest := rest) (show a < d.size by omega) (0 + (a) * 1) rfl
  have hz : p < (d.setIfInBounds (a) d[p]!).size := by rw [Array.size_setIfInBounds]; omega
  have s2 := u_set (rest := rest) d[a]! hz (0 + (p) * 1) rfl
  have b2 := u_ble (rest := rest) hz (0 + (p) * 1) rfl
  rw [swp_eq] at s2
  have hw1 : IntKind.i64.wrap ((a : Int) + 1) = ((a + 1 : Nat) : Int) := wrap_i64 (by omega) (by omega)
  obtain ⟨e1, rfl⟩ : ∃ e1, e = e1 + 1 := ⟨e - 1, by omega⟩
  have hw2 : IntKind.i64.wrap (((e1 + 1 : Nat) : Int) - 1) = (e1 : Int) := wrap_i64 (by omega) (by omega) |>.trans (by omega)
  obtain ⟨R, hR⟩ : ∃ R, R = Go.Sort.partition lt d a (e1 + 1) p := ⟨_, rfl⟩
  rw [← hR]
  have hR' := hR
  unfold Go.Sort.partition at hR'
  have hDs := swp_size d a p
  refine Z307 ?_; refine zy (id := 1) [(200019, [900]), (200023, [900]), (100024, [900]), (100025, [900])] mixed (by kernel_rfl) ?_; refine Z244 ?_; refine Z126 ?_; refine z8 (zo L _ rfl rfl rfl rfl rfl rfl rfl (by omega)) rfl ?_; refine qg (qf L (q := 900) rfl rfl rfl rfl rfl qj) rfl rfl ?_; refine Z126 ?_; refine z8 (zo L _ rfl rfl rfl rfl rfl rfl rfl (by omega)) rfl ?_; refine qg (qf L (q := 900) rfl rfl rfl rfl rfl qi) rfl rfl ?_; refine z8 (zo L _ rfl rfl rfl rfl rfl rfl rfl (by omega)) rfl ?_; refine yk (yh L (q := 900) rfl rfl rfl rfl rfl rfl b1 rfl s1) rfl ?_; refine z8 (zo L _ rfl rfl rfl rfl rfl rfl rfl (by omega)) rfl ?_; refine yk (yh L (q := 900) rfl rfl rfl rfl rfl rfl b2 rfl s2) rfl ?_; refine Z185 ?_; refine Z155 ?_; refine Z12 ?_; refine Z231 ?_; refine Z154 ?_; refine qe ?_
  generalize swp d a p = D at *
  rw [Nat.add_sub_cancel] at hR'
  dsimp only at hR'
  refine V_midB (mid_last (fun i : Nat => [(0, .is (.slice (some ⟨b, 0, none⟩) m cap)), (1, .is (.int .i64 a)), (10, .is (.int .i64 i)), (11, .is (.int .i64 e1)), (900, .own (HeldR b (uC D ++ rest) tyU))]) (fun i => (a + 1) ≤ i ∧ i ≤ max (a + 1) (e1 + 1) ∧ i = scanUp (fun x => lt x D[a]!) D e1 (a + 1)) (fun _ => []) ?_) ?_
  rotate_left
  · refine V_loop (fun i : Nat => [(0, .is (.slice (some ⟨b, 0, none⟩) m cap)), (1, .is (.int .i64 a)), (10, .is (.int .i64 i)), (11, .is (.int .i64 e1)), (900, .own (HeldR b (uC D ++ rest) tyU))]) (fun i => (a + 1) ≤ i ∧ i ≤ max (a + 1) (e1 + 1) ∧ scanUp (fun x => lt x D[a]!) D e1 i = scanUp (fun x => lt x D[a]!) D e1 (a + 1)) (fun i => e1 + 1 - i) (a + 1) ⟨Nat.le_refl _, by omega, rfl⟩ ⟨rfl, rfl, rfl, rfl, rfl, trivial⟩ ?_
    rintro i ⟨hi1, hi2, hi3⟩
    by_cases hle : i ≤ e1
    · obtain ⟨_, qx⟩ := u_at (rest := rest) (show i < D.size by omega) (0 + (i) * 1) rfl
      obtain ⟨_, qa⟩ := u_at (rest := rest) (show a < D.size by omega) (0 + (a) * 1) rfl
      cases hc : lt D[i]! D[a]! with
      | true =>
        have hw : IntKind.i64.wrap ((i : Int) + 1) = ((i + 1 : Nat) : Int) := wrap_i64 (by omega) (by omega)
        refine Z131 ?_; refine zy (id := 3) [(200037, [900]), (200041, [900])] mixed (by kernel_rfl) ?_; refine Z277 ?_; refine z8 (zo L _ rfl rfl rfl rfl rfl rfl rfl (by omega)) rfl ?_; refine qg (qf L (q := 900) rfl rfl rfl rfl rfl qx) rfl rfl ?_; refine Z126 ?_; refine z8 (zo L _ rfl rfl rfl rfl rfl rfl rfl (by omega)) rfl ?_; refine qg (qf L (q := 900) rfl rfl rfl rfl rfl qa) rfl rfl ?_; refine z8 (zp L rfl rfl (zk rfl) rfl rfl rfl (fun u H hH _ _ => lessU' hc hH)) rfl ?_; refine Z224 ?_; refine Z177 ?_; refine qe ?_; refine Z156 ?_; refine Z12 ?_; refine Z160 ?_
        exact y8 (x := i) (i + 1) ⟨by omega, by omega, by rw [← hi3]; exact (scanUp_go hle (by simp [hc])).symm⟩ (by omega) ⟨rfl, rfl, rfl, rfl, rfl, trivial⟩
      | false =>
        refine Z131 ?_; refine zy (id := 3) [(200037, [900]), (200041, [900])] mixed (by kernel_rfl) ?_; refine Z277 ?_; refine z8 (zo L _ rfl rfl rfl rfl rfl rfl rfl (by omega)) rfl ?_; refine qg (qf L (q := 900) rfl rfl rfl rfl rfl qx) rfl rfl ?_; refine Z126 ?_; refine z8 (zo L _ rfl rfl rfl rfl rfl rfl rfl (by omega)) rfl ?_; refine qg (qf L (q := 900) rfl rfl rfl rfl rfl qa) rfl rfl ?_; refine z8 (zp L rfl rfl (zk rfl) rfl rfl rfl (fun u H hH _ _ => lessU' hc hH)) rfl ?_; refine Z218 ?_
        exact N_mids i Since.refl ⟨hi1, hi2, by rw [← hi3]; exact (scanUp_stop (by rintro ⟨_, h⟩; simp [hc] at h)).symm⟩ rfl ⟨rfl, rfl, rfl, rfl, rfl, trivial⟩
    · refine Z131 ?_; refine Z75 ?_; refine Z126 ?_; refine Z91 ?_; refine Z209 ?_; refine Z4 ?_; refine Z218 ?_
      exact N_mids i Since.refl ⟨hi1, hi2, by rw [← hi3]; exact (scanUp_stop (by rintro ⟨h, _⟩; exact hle h)).symm⟩ rfl ⟨rfl, rfl, rfl, rfl, rfl, trivial⟩
  rintro I ⟨hI1, hI2, hI3⟩
  refine zh (qe ?_)
  refine V_midB (mid_last (fun i : Nat => [(0, .is (.slice (some ⟨b, 0, none⟩) m cap)), (1, .is (.int .i64 a)), (10, .is (.int .i64 I)), (11, .is (.int .i64 i)), (900, .own (HeldR b (uC D ++ rest) tyU))]) (fun i => i ≤ e1 ∧ min (I - 1) e1 ≤ i ∧ i = scanDown (fun x => !lt x D[a]!) D I e1) (fun _ => []) ?_) ?_
  rotate_left
  · refine V_loop (fun i : Nat => [(0, .is (.slice (some ⟨b, 0, none⟩) m cap)), (1, .is (.int .i64 a)), (10, .is (.int .i64 I)), (11, .is (.int .i64 i)), (900, .own (HeldR b (uC D ++ rest) tyU))]) (fun i => i ≤ e1 ∧ min (I - 1) e1 ≤ i ∧ scanDown (fun x => !lt x D[a]!) D I i = scanDown (fun x => !lt x D[a]!) D I e1) (fun i => i) e1 ⟨Nat.le_refl _, by omega, rfl⟩ ⟨rfl, rfl, rfl, rfl, rfl, trivial⟩ ?_
    rintro i ⟨hi1, hi2, hi3⟩
    by_cases hle : I ≤ i
    · obtain ⟨_, qx⟩ := u_at (rest := rest) (show i < D.size by omega) (0 + (i) * 1) rfl
      obtain ⟨_, qa⟩ := u_at (rest := rest) (show a < D.size by omega) (0 + (a) * 1) rfl
      cases hc : lt D[i]! D[a]! with
      | false =>
        obtain ⟨i, rfl⟩ : ∃ k, i = k + 1 := ⟨i - 1, by omega⟩
        have hw : IntKind.i64.wrap (((i + 1 : Nat) : Int) - 1) = (i : Int) := wrap_i64 (by omega) (by omega) |>.trans (by omega)
        refine Z131 ?_; refine Z116 ?_; refine Z277 ?_; refine z8 (zo L _ rfl rfl rfl rfl rfl rfl rfl (by omega)) rfl ?_; refine qg (qf L (q := 900) rfl rfl rfl rfl rfl qx) rfl rfl ?_; refine Z126 ?_; refine z8 (zo L _ rfl rfl rfl rfl rfl rfl rfl (by omega)) rfl ?_; refine qg (qf L (q := 900) rfl rfl rfl rfl rfl qa) rfl rfl ?_; refine z8 (zp L rfl rfl (zk rfl) rfl rfl rfl (fun u H hH _ _ => lessU' hc hH)) rfl ?_; refine Z58 ?_; refine Z224 ?_; refine Z177 ?_; refine qe ?_; refine Z172 ?_; refine Z19 ?_; refine Z160 ?_
        exact y8 (x := i + 1) i ⟨by omega, by omega, by rw [← hi3]; exact (scanDown_go hle (by simp [hc])).symm⟩ (by omega) ⟨rfl, rfl, rfl, rfl, rfl, trivial⟩
      | true =>
        refine Z131 ?_; refine Z116 ?_; refine Z277 ?_; refine z8 (zo L _ rfl rfl rfl rfl rfl rfl rfl (by omega)) rfl ?_; refine qg (qf L (q := 900) rfl rfl rfl rfl rfl qx) rfl rfl ?_; refine Z126 ?_; refine z8 (zo L _ rfl rfl rfl rfl rfl rfl rfl (by omega)) rfl ?_; refine qg (qf L (q := 900) rfl rfl rfl rfl rfl qa) rfl rfl ?_; refine z8 (zp L rfl rfl (zk rfl) rfl rfl rfl (fun u H hH _ _ => lessU' hc hH)) rfl ?_; refine Z58 ?_; refine Z218 ?_
        exact N_mids i Since.refl ⟨hi1, hi2, by rw [← hi3]; exact (scanDown_stop (by rintro ⟨_, h⟩; simp [hc] at h)).symm⟩ rfl ⟨rfl, rfl, rfl, rfl, rfl, trivial⟩
    · refine Z131 ?_; refine Z109 ?_; refine Z126 ?_; refine Z91 ?_; refine Z253 ?_; refine Z218 ?_
      exact N_mids i Since.refl ⟨hi1, hi2, by rw [← hi3]; exact (scanDown_stop (by rintro ⟨h, _⟩; exact hle h)).symm⟩ rfl ⟨rfl, rfl, rfl, rfl, rfl, trivial⟩
  rintro J ⟨hJ1, hJ2, hJ3⟩
  rw [← hI3, ← hJ3] at hR'
  by_cases hIJ : J < I
  · rw [if_pos hIJ] at hR'
    subst hR'
    obtain ⟨_, qj⟩ := u_at (rest := rest) (show a < D.size by omega) (0 + (a) * 1) rfl
    obtain ⟨_, qi⟩ := u_at (rest := rest) (show J < D.size by omega) (0 + (J) * 1) rfl
    have s1 := u_set (rest := rest) D[a]! (show J < D.size by omega) (0 + (J) * 1) rfl
    have b1 := u_ble (rest := rest) (show J < D.size by omega) (0 + (J) * 1) rfl
    have hz : a < (D.setIfInBounds (J) D[a]!).size := by rw [Array.size_setIfInBounds]; omega
    have s2 := u_set (rest := rest) D[J]! hz (0 + (a) * 1) rfl
    have b2 := u_ble (rest := rest) hz (0 + (a) * 1) rfl
    rw [swp_eq] at s2
    refine Z313 ?_; refine Z123 ?_; refine Z37 ?_; refine Z138 ?_; refine zy (id := 8) [(200073, [900]), (200077, [900]), (100078, [900]), (100079, [900])] mixed (by kernel_rfl) ?_; refine Z244 ?_; refine Z126 ?_; refine z8 (zo L _ rfl rfl rfl rfl rfl rfl rfl (by omega)) rfl ?_; refine qg (qf L (q := 900) rfl rfl rfl rfl rfl qj) rfl rfl ?_; refine Z126 ?_; refine z8 (zo L _ rfl rfl rfl rfl rfl rfl rfl (by omega)) rfl ?_; refine qg (qf L (q := 900) rfl rfl rfl rfl rfl qi) rfl rfl ?_; refine z8 (zo L _ rfl rfl rfl rfl rfl rfl rfl (by omega)) rfl ?_; refine yk (yh L (q := 900) rfl rfl rfl rfl rfl rfl b1 rfl s1) rfl ?_; refine z8 (zo L _ rfl rfl rfl rfl rfl rfl rfl (by omega)) rfl ?_; refine yk (yh L (q := 900) rfl rfl rfl rfl rfl rfl b2 rfl s2) rfl ?_; refine Z185 ?_; refine Z61 ?_; refine Z1 ?_; refine Z173 ?_
    exact V_retX L 900 (r := GHeld b _ tyU) (rs := [.tmp 8, .tmp 9]) rfl (fun _ _ h => h) Since.refl rfl rfl (fun _ => rfl)
  · rw [if_neg hIJ] at hR'
    have hw3 : IntKind.i64.wrap ((I : Int) + 1) = ((I + 1 : Nat) : Int) := wrap_i64 (by omega) (by omega)
    have hw4 : IntKind.i64.wrap ((J : Int) - 1) = ((J - 1 : Nat) : Int) := wrap_i64 (by omega) (by omega) |>.trans (by omega)
    obtain ⟨_, qj⟩ := u_at (rest := rest) (show J < D.size by omega) (0 + (J) * 1) rfl
    obtain ⟨_, qi⟩ := u_at (rest := rest) (show I < D.size by omega) (0 + (I) * 1) rfl
    have s1 := u_set (rest := rest) D[J]! (show I < D.size by omega) (0 + (I) * 1) rfl
    have b1 := u_ble (rest := rest) (show I < D.size by omega) (0 + (I) * 1) rfl
    have hz : J < (D.setIfInBounds (I) D[J]!).size := by rw [Array.size_setIfInBounds]; omega
    have s2 := u_set (rest := rest) D[I]! hz (0 + (J) * 1) rfl
    have b2 := u_ble (rest := rest) hz (0 + (J) * 1) rfl
    rw [swp_eq] at s2
    have hEs := swp_size D I J
    refine Z313 ?_; refine Z123 ?_; refine Z29 ?_; refine Z133 ?_; refine zy (id := 10) [(200088, [900]), (200092, [900]), (100093, [900]), (100094, [900])] mixed (by kernel_rfl) ?_; refine Z244 ?_; refine Z126 ?_; refine z8 (zo L _ rfl rfl rfl rfl rfl rfl rfl (by omega)) rfl ?_; refine qg (qf L (q := 900) rfl rfl rfl rfl rfl qj) rfl rfl ?_; refine Z126 ?_; refine z8 (zo L _ rfl rfl rfl rfl rfl rfl rfl (by omega)) rfl ?_; refine qg (qf L (q := 900) rfl rfl rfl rfl rfl qi) rfl rfl ?_; refine z8 (zo L _ rfl rfl rfl rfl rfl rfl rfl (by omega)) rfl ?_; refine yk (yh L (q := 900) rfl rfl rfl rfl rfl rfl b1 rfl s1) rfl ?_; refine z8 (zo L _ rfl rfl rfl rfl rfl rfl rfl (by omega)) rfl ?_; refine yk (yh L (q := 900) rfl rfl rfl rfl rfl rfl b2 rfl s2) rfl ?_; refine Z185 ?_; refine Z234 ?_; refine Z12 ?_; refine Z124 ?_; refine Z80 ?_; refine Z231 ?_; refine Z124 ?_; refine qe ?_
    generalize swp D I J = E at *
    obtain ⟨X, hX⟩ : ∃ X, X = partLoop lt a (I + 1) (J - 1) E := ⟨_, rfl⟩
    rw [← hX] at hR'
    refine V_midB (mid_last (fun s : Nat × Array Int => [(0, .is (.slice (some ⟨b, 0, none⟩) m cap)), (1, .is (.int .i64 a)), (11, .is (.int .i64 s.1)), (900, .own (HeldR b (uC s.2 ++ rest) tyU))]) (fun s => s.2.size = m ∧ a ≤ s.1 ∧ s.1 ≤ e1 ∧ s = X) (fun _ => []) ?_) ?_
    rotate_left
    · refine V_loop (fun s : (Nat × Nat) × Array Int => [(0, .is (.slice (some ⟨b, 0, none⟩) m cap)), (1, .is (.int .i64 a)), (10, .is (.int .i64 s.1.1)), (11, .is (.int .i64 s.1.2)), (900, .own (HeldR b (uC s.2 ++ rest) tyU))]) (fun s => s.2.size = m ∧ a + 1 ≤ s.1.1 ∧ s.1.1 ≤ e1 + 1 ∧ a ≤ s.1.2 ∧ s.1.2 ≤ e1 ∧ partLoop lt a s.1.1 s.1.2 s.2 = X) (fun s => s.1.2 + 1 - s.1.1) ((I + 1, J - 1), E) ⟨by dsimp only; omega, by dsimp only; omega, by dsimp only; omega, by dsimp only; omega, by dsimp only; omega, hX.symm⟩ ⟨rfl, rfl, rfl, rfl, rfl, trivial⟩ ?_
      rintro ⟨⟨i0, j0⟩, G⟩ ⟨hG, hi1, hi2, hj1, hj2, hL⟩
      dsimp only at hG hi1 hi2 hj1 hj2 hL ⊢
      rw [partLoop] at hL
      clear hX hR' hEs hIJ hI3 hJ3
      refine qe (zh (qe ?_))
      refine V_midB (mid_last (fun i : Nat => [(0, .is (.slice (some ⟨b, 0, none⟩) m cap)), (1, .is (.int .i64 a)), (10, .is (.int .i64 i)), (11, .is (.int .i64 j0)), (900, .own (HeldR b (uC G ++ rest) tyU))]) (fun i => i0 ≤ i ∧ i ≤ max i0 (j0 + 1) ∧ i = scanUp (fun x => lt x G[a]!) G j0 i0) (fun _ => []) ?_) ?_
      rotate_left
      · refine V_loop (fun i : Nat => [(0, .is (.slice (some ⟨b, 0, none⟩) m cap)), (1, .is (.int .i64 a)), (10, .is (.int .i64 i)), (11, .is (.int .i64 j0)), (900, .own (HeldR b (uC G ++ rest) tyU))]) (fun i => i0 ≤ i ∧ i ≤ max i0 (j0 + 1) ∧ scanUp (fun x => lt x G[a]!) G j0 i = scanUp (fun x => lt x G[a]!) G j0 i0) (fun i => j0 + 1 - i) i0 ⟨Nat.le_refl _, by omega, rfl⟩ ⟨rfl, rfl, rfl, rfl, rfl, trivial⟩ ?_
        rintro i ⟨hi1, hi2, hi3⟩
        by_cases hle : i ≤ j0
        · obtain ⟨_, qx⟩ := u_at (rest := rest) (show i < G.size by omega) (0 + (i) * 1) rfl
          obtain ⟨_, qa⟩ := u_at (rest := rest) (show a < G.size by omega) (0 + (a) * 1) rfl
          cases hc : lt G[i]! G[a]! with
          | true =>
            have hw : IntKind.i64.wrap ((i : Int) + 1) = ((i + 1 : Nat) : Int) := wrap_i64 (by omega) (by omega)
            refine Z131 ?_; refine zy (id := 13) [(200106, [900]), (200110, [900])] mixed (by kernel_rfl) ?_; refine Z277 ?_; refine z8 (zo L _ rfl rfl rfl rfl rfl rfl rfl (by omega)) rfl ?_; refine qg (qf L (q := 900) rfl rfl rfl rfl rfl qx) rfl rfl ?_; refine Z126 ?_; refine z8 (zo L _ rfl rfl rfl rfl rfl rfl rfl (by omega)) rfl ?_; refine qg (qf L (q := 900) rfl rfl rfl rfl rfl qa) rfl rfl ?_; refine z8 (zp L rfl rfl (zk rfl) rfl rfl rfl (fun u H hH _ _ => lessU' hc hH)) rfl ?_; refine Z224 ?_; refine Z177 ?_; refine qe ?_; refine Z219 ?_; refine Z12 ?_; refine Z160 ?_
            exact y8 (x := i) (i + 1) ⟨by omega, by omega, by rw [← hi3]; exact (scanUp_go hle (by simp [hc])).symm⟩ (by omega) ⟨rfl, rfl, rfl, rfl, rfl, trivial⟩
          | false =>
            refine Z131 ?_; refine zy (id := 13) [(200106, [900]), (200110, [900])] mixed (by kernel_rfl) ?_; refine Z277 ?_; refine z8 (zo L _ rfl rfl rfl rfl rfl rfl rfl (by omega)) rfl ?_; refine qg (qf L (q := 900) rfl rfl rfl rfl rfl qx) rfl rfl ?_; refine Z126 ?_; refine z8 (zo L _ rfl rfl rfl rfl rfl rfl rfl (by omega)) rfl ?_; refine qg (qf L (q := 900) rfl rfl rfl rfl rfl qa) rfl rfl ?_; refine z8 (zp L rfl rfl (zk rfl) rfl rfl rfl (fun u H hH _ _ => lessU' hc hH)) rfl ?_; refine Z218 ?_
            exact N_mids i Since.refl ⟨hi1, hi2, by rw [← hi3]; exact (scanUp_stop (by rintro ⟨_, h⟩; simp [hc] at h)).symm⟩ rfl ⟨rfl, rfl, rfl, rfl, rfl, trivial⟩
        · refine Z131 ?_; refine Z105 ?_; refine Z126 ?_; refine Z91 ?_; refine Z209 ?_; refine Z4 ?_; refine Z218 ?_
          exact N_mids i Since.refl ⟨hi1, hi2, by rw [← hi3]; exact (scanUp_stop (by rintro ⟨h, _⟩; exact hle h)).symm⟩ rfl ⟨rfl, rfl, rfl, rfl, rfl, trivial⟩
      rintro K ⟨hK1, hK2, hK3⟩
      refine zh (qe ?_)
      refine V_midB (mid_last (fun i : Nat => [(0, .is (.slice (some ⟨b, 0, none⟩) m cap)), (1, .is (.int .i64 a)), (10, .is (.int .i64 K)), (11, .is (.int .i64 i)), (900, .own (HeldR b (uC G ++ rest) tyU))]) (fun i => i ≤ j0 ∧ min (K - 1) j0 ≤ i ∧ i = scanDown (fun x => !lt x G[a]!) G K j0) (fun _ => []) ?_) ?_
      rotate_left
      · refine V_loop (fun i : Nat => [(0, .is (.slice (some ⟨b, 0, none⟩) m cap)), (1, .is (.int .i64 a)), (10, .is (.int .i64 K)), (11, .is (.int .i64 i)), (900, .own (HeldR b (uC G ++ rest) tyU))]) (fun i => i ≤ j0 ∧ min (K - 1) j0 ≤ i ∧ scanDown (fun x => !lt x G[a]!) G K i = scanDown (fun x => !lt x G[a]!) G K j0) (fun i => i) j0 ⟨Nat.le_refl _, by omega, rfl⟩ ⟨rfl, rfl, rfl, rfl, rfl, trivial⟩ ?_
        rintro i ⟨hi1, hi2, hi3⟩
        by_cases hle : K ≤ i
        · obtain ⟨_, qx⟩ := u_at (rest := rest) (show i < G.size by omega) (0 + (i) * 1) rfl
          obtain ⟨_, qa⟩ := u_at (rest := rest) (show a < G.size by omega) (0 + (a) * 1) rfl
          cases hc : lt G[i]! G[a]! with
          | false =>
            obtain ⟨i, rfl⟩ : ∃ k, i = k + 1 := ⟨i - 1, by omega⟩
            have hw : IntKind.i64.wrap (((i + 1 : Nat) : Int) - 1) = (i : Int) := wrap_i64 (by omega) (by omega) |>.trans (by omega)
            refine Z131 ?_; refine zy (id := 15) [(200122, [900]), (200126, [900])] mixed (by kernel_rfl) ?_; refine Z277 ?_; refine z8 (zo L _ rfl rfl rfl rfl rfl rfl rfl (by omega)) rfl ?_; refine qg (qf L (q := 900) rfl rfl rfl rfl rfl qx) rfl rfl ?_; refine Z126 ?_; refine z8 (zo L _ rfl rfl rfl rfl rfl rfl rfl (by omega)) rfl ?_; refine qg (qf L (q := 900) rfl rfl rfl rfl rfl qa) rfl rfl ?_; refine z8 (zp L rfl rfl (zk rfl) rfl rfl rfl (fun u H hH _ _ => lessU' hc hH)) rfl ?_; refine Z58 ?_; refine Z224 ?_; refine Z177 ?_; refine qe ?_; refine Z92 ?_; refine Z231 ?_; refine Z160 ?_
            exact y8 (x := i + 1) i ⟨by omega, by omega, by rw [← hi3]; exact (scanDown_go hle (by simp [hc])).symm⟩ (by omega) ⟨rfl, rfl, rfl, rfl, rfl, trivial⟩
          | true =>
            refine Z131 ?_; refine zy (id := 15) [(200122, [900]), (200126, [900])] mixed (by kernel_rfl) ?_; refine Z277 ?_; refine z8 (zo L _ rfl rfl rfl rfl rfl rfl rfl (by omega)) rfl ?_; refine qg (qf L (q := 900) rfl rfl rfl rfl rfl qx) rfl rfl ?_; refine Z126 ?_; refine z8 (zo L _ rfl rfl rfl rfl rfl rfl rfl (by omega)) rfl ?_; refine qg (qf L (q := 900) rfl rfl rfl rfl rfl qa) rfl rfl ?_; refine z8 (zp L rfl rfl (zk rfl) rfl rfl rfl (fun u H hH _ _ => lessU' hc hH)) rfl ?_; refine Z58 ?_; refine Z218 ?_
            exact N_mids i Since.refl ⟨hi1, hi2, by rw [← hi3]; exact (scanDown_stop (by rintro ⟨_, h⟩; simp [hc] at h)).symm⟩ rfl ⟨rfl, rfl, rfl, rfl, rfl, trivial⟩
        · refine Z131 ?_; refine zy (id := 15) [] mixed (by kernel_rfl) ?_; refine Z126 ?_; refine Z91 ?_; refine Z253 ?_; refine Z218 ?_
          exact N_mids i Since.refl ⟨hi1, hi2, by rw [← hi3]; exact (scanDown_stop (by rintro ⟨h, _⟩; exact hle h)).symm⟩ rfl ⟨rfl, rfl, rfl, rfl, rfl, trivial⟩
      rintro M ⟨hM1, hM2, hM3⟩
      rw [← hK3, ← hM3] at hL
      by_cases hKM : M < K
      · rw [if_pos hKM] at hL
        refine Z131 ?_; refine Z100 ?_; refine Z123 ?_; refine Z37 ?_; refine Z129 ?_; refine Z143 ?_; refine X_there rfl ?_; refine qs ?_; refine yo ?_
        exact N_mids (M, G) Since.refl ⟨hG, by dsimp only; omega, by dsimp only; omega, hL⟩ rfl ⟨rfl, rfl, rfl, rfl, trivial⟩
      · rw [if_neg hKM, dif_pos (by omega)] at hL
        have hw5 : IntKind.i64.wrap ((K : Int) + 1) = ((K + 1 : Nat) : Int) := wrap_i64 (by omega) (by omega)
        have hw6 : IntKind.i64.wrap ((M : Int) - 1) = ((M - 1 : Nat) : Int) := wrap_i64 (by omega) (by omega) |>.trans (by omega)
        have hGs := swp_size G K M
        obtain ⟨_, qj⟩ := u_at (rest := rest) (show M < G.size by omega) (0 + (M) * 1) rfl
        obtain ⟨_, qi⟩ := u_at (rest := rest) (show K < G.size by omega) (0 + (K) * 1) rfl
        have s1 := u_set (rest := rest) G[M]! (show K < G.size by omega) (0 + (K) * 1) rfl
        have b1 := u_ble (rest := rest) (show K < G.size by omega) (0 + (K) * 1) rfl
        have hz : M < (G.setIfInBounds (K) G[M]!).size := by rw [Array.size_setIfInBounds]; omega
        have s2 := u_set (rest := rest) G[K]! hz (0 + (M) * 1) rfl
        have b2 := u_ble (rest := rest) hz (0 + (M) * 1) rfl
        rw [swp_eq] at s2
        refine Z131 ?_; refine Z100 ?_; refine Z123 ?_; refine Z29 ?_; refine Z133 ?_; refine zy (id := 18) [(200142, [900]), (200146, [900]), (100147, [900]), (100148, [900])] mixed (by kernel_rfl) ?_; refine Z244 ?_; refine Z126 ?_; refine z8 (zo L _ rfl rfl rfl rfl rfl rfl rfl (by omega)) rfl ?_; refine qg (qf L (q := 900) rfl rfl rfl rfl rfl qj) rfl rfl ?_; refine Z126 ?_; refine z8 (zo L _ rfl rfl rfl rfl rfl rfl rfl (by omega)) rfl ?_; refine qg (qf L (q := 900) rfl rfl rfl rfl rfl qi) rfl rfl ?_; refine z8 (zo L _ rfl rfl rfl rfl rfl rfl rfl (by omega)) rfl ?_; refine yk (yh L (q := 900) rfl rfl rfl rfl rfl rfl b1 rfl s1) rfl ?_; refine z8 (zo L _ rfl rfl rfl rfl rfl rfl rfl (by omega)) rfl ?_; refine yk (yh L (q := 900) rfl rfl rfl rfl rfl rfl b2 rfl s2) rfl ?_; refine Z185 ?_; refine zf (id := 19) ?_; refine Z243 ?_; refine Z122 ?_; refine Z81 ?_; refine Z231 ?_; refine Z160 ?_
        exact y8 (x := ((i0, j0), G)) ((K + 1, M - 1), swp G K M) ⟨by dsimp only; omega, by dsimp only; omega, by dsimp only; omega, by dsimp only; omega, by dsimp only; omega, hL⟩ (by dsimp only; omega) ⟨rfl, rfl, rfl, rfl, rfl, trivial⟩
    · rintro ⟨J2, G⟩ ⟨hG, hj1, hj2, hL⟩
      dsimp only at hG hj1 hj2 ⊢
      rw [← hL] at hR'
      dsimp only at hR'
      subst hR'
      obtain ⟨_, qj⟩ := u_at (rest := rest) (show a < G.size by omega) (0 + (a) * 1) rfl
      obtain ⟨_, qi⟩ := u_at (rest := rest) (show J2 < G.size by omega) (0 + (J2) * 1) rfl
      have s1 := u_set (rest := rest) G[a]! (show J2 < G.size by omega) (0 + (J2) * 1) rfl
      have b1 := u_ble (rest := rest) (show J2 < G.size by omega) (0 + (J2) * 1) rfl
      have hz : a < (G.setIfInBounds (J2) G[a]!).size := by rw [Array.size_setIfInBounds]; omega
      have s2 := u_set (rest := rest) G[J2]! hz (0 + (a) * 1) rfl
      have b2 := u_ble (rest := rest) hz (0 + (a) * 1) rfl
      rw [swp_eq] at s2
      refine zh ?_; refine zy (id := 21) [(200160, [900]), (200164, [900]), (100165, [900]), (100166, [900])] mixed (by kernel_rfl) ?_; refine Z244 ?_; refine Z126 ?_; refine z8 (zo L _ rfl rfl rfl rfl rfl rfl rfl (by omega)) rfl ?_; refine qg (qf L (q := 900) rfl rfl rfl rfl rfl qj) rfl rfl ?_; refine Z126 ?_; refine z8 (zo L _ rfl rfl rfl rfl rfl rfl rfl (by omega)) rfl ?_; refine qg (qf L (q := 900) rfl rfl rfl rfl rfl qi) rfl rfl ?_; refine z8 (zo L _ rfl rfl rfl rfl rfl rfl rfl (by omega)) rfl ?_; refine yk (yh L (q := 900) rfl rfl rfl rfl rfl rfl b1 rfl s1) rfl ?_; refine z8 (zo L _ rfl rfl rfl rfl rfl rfl rfl (by omega)) rfl ?_; refine yk (yh L (q := 900) rfl rfl rfl rfl rfl rfl b2 rfl s2) rfl ?_; refine Z185 ?_; refine zf (id := 22) ?_; refine Z1 ?_; refine Z173 ?_
      exact V_retX L 900 (r := GHeld b _ tyU) (rs := [.tmp 8, .tmp 9]) rfl (fun _ _ h => h) Since.refl rfl rfl (fun _ => rfl)
end Go.V.So
set_option maxRecDepth 20000
namespace Go.V.So
open Go.Proofs Go.RowKit Go.V Go.Sort
attribute [local irreducible] V N X VO Par StepOK Has Ret RetL RetO RetG RetX Src
set_option maxHeartbeats 2000000 in
set_option maxRecDepth 20000 in
theorem peq_ret {d : Array Int} {rest : List Value} {b m cap a e p : Nat} (hap : a ≤ p) (hpe : p < e) (he : e ≤ d.size) (hm : d.size = m) (hm1 : m ≤ 100000) {w : World} {B : Heap} {C : Nat → Prop} (hB : B.Le (hp w))
    (hr : (GHeld b (uC d ++ rest) tyU).P B w C) (hC : ∀ k, C k → k < w.heap.size ∧ B k = none) :
    RetX Tryz.prog 108 [.slice (some ⟨b, 0, none⟩) m cap, .int .i64 a, .int .i64 e, .int .i64 p] w B C (GHeld b (uC (partitionEqual lt d a e p).2 ++ rest) tyU) (.int .i64 (partitionEqual lt d a e p).1) := by
  unfold RetX
  refine V_enterG 900 (GHeld b (uC d ++ rest) tyU) Tryz.func108 rfl Tryz.ntmps108 (Nat.le_of_ble_eq_true rfl) hB hr hC ?_
  rw [gheld_res]
  obtain ⟨_, qj⟩ := u_at (rest := rest) (show p < d.size by omega) (0 + (p) * 1) rfl
  obtain ⟨_, qi⟩ := u_at (rest := rest) (show a < d.size by omega) (0 + (a) * 1) rfl
  have s1 := u_set (rest := rest) d[p]! (show a < d.size by omega) (0 + (a) * 1) rfl
  have b1 := u_ble (rest := rest) (show a < d.size by omega) (0 + (a) * 1) rfl
  have hz : p < (d.setIfInBounds (a) d[p]!).size := by rw [Array.size_setIfInBounds]; omega
  have s2 := u_set (rest := rest) d[a]! hz (0 + (p) * 1) rfl
  have b2 := u_ble (rest := rest) hz (0 + (p) * 1) rfl
  rw [swp_eq] at s2
  have hw1 : IntKind.i64.wrap ((a : Int) + 1) = ((a + 1 : Nat) : Int) := wrap_i64 (by omega) (by omega)
  obtain ⟨e1, rfl⟩ : ∃ e1, e = e1 + 1 := ⟨e - 1, by omega⟩
  have hw2 : IntKind.i64.wrap (((e1 + 1 : Nat) : Int) - 1) = (e1 : Int) := wrap_i64 (by omega) (by omega) |>.trans (by omega)
  obtain ⟨X, hX⟩ : ∃ X, X = partitionEqual lt d a (e1 + 1) p := ⟨_, rfl⟩
  rw [← hX]
  have hR' := hX
  unfold partitionEqual at hR'
  rw [Nat.add_sub_cancel] at hR'
  have hDs := swp_size d a p
  refine Z130 ?_; refine Z124 ?_; refine zy (id := 1) [(200018, [900]), (200022, [900]), (100023, [900]), (100024, [900])] mixed (by kernel_rfl) ?_; refine Z244 ?_; refine Z126 ?_; refine z8 (zo L _ rfl rfl rfl rfl rfl rfl rfl (by omega)) rfl ?_; refine qg (qf L (q := 900) rfl rfl rfl rfl rfl qj) rfl rfl ?_; refine Z126 ?_; refine z8 (zo L _ rfl rfl rfl rfl rfl rfl rfl (by omega)) rfl ?_; refine qg (qf L (q := 900) rfl rfl rfl rfl rfl qi) rfl rfl ?_; refine z8 (zo L _ rfl rfl rfl rfl rfl rfl rfl (by omega)) rfl ?_; refine yk (yh L (q := 900) rfl rfl rfl rfl rfl rfl b1 rfl s1) rfl ?_; refine z8 (zo L _ rfl rfl rfl rfl rfl rfl rfl (by omega)) rfl ?_; refine yk (yh L (q := 900) rfl rfl rfl rfl rfl rfl b2 rfl s2) rfl ?_; refine Z185 ?_; refine Z155 ?_; refine Z12 ?_; refine Z231 ?_; refine Z154 ?_; refine qe ?_
  generalize swp d a p = D at *
  refine V_midB (mid_last (fun s : Nat × Array Int => [(9, .is (.int .i64 s.1)), (900, .own (HeldR b (uC s.2 ++ rest) tyU))]) (fun s => s.2.size = m ∧ s = X) (fun _ => []) ?_) ?_
  rotate_left
  · refine V_loop (fun s : (Nat × Nat) × Array Int => [(0, .is (.slice (some ⟨b, 0, none⟩) m cap)), (1, .is (.int .i64 a)), (9, .is (.int .i64 s.1.1)), (10, .is (.int .i64 s.1.2)), (900, .own (HeldR b (uC s.2 ++ rest) tyU))]) (fun s => s.2.size = m ∧ a + 1 ≤ s.1.1 ∧ s.1.1 ≤ e1 + 1 ∧ a ≤ s.1.2 ∧ s.1.2 ≤ e1 ∧ partEqLoop lt a s.1.1 s.1.2 s.2 = X) (fun s => s.1.2 + 1 - s.1.1) ((a + 1, e1), D) ⟨by dsimp only; omega, by dsimp only; omega, by dsimp only; omega, by dsimp only; omega, by dsimp only; omega, hR'.symm⟩ ⟨rfl, rfl, rfl, rfl, rfl, trivial⟩ ?_
    rintro ⟨⟨i0, j0⟩, G⟩ ⟨hG, hi1, hi2, hj1, hj2, hL⟩
    dsimp only at hG hi1 hi2 hj1 hj2 hL ⊢
    rw [partEqLoop] at hL
    clear hX hR' hDs
    refine qe (zh (qe ?_))
    refine V_midB (mid_last (fun i : Nat => [(0, .is (.slice (some ⟨b, 0, none⟩) m cap)), (1, .is (.int .i64 a)), (9, .is (.int .i64 i)), (10, .is (.int .i64 j0)), (900, .own (HeldR b (uC G ++ rest) tyU))]) (fun i => i0 ≤ i ∧ i ≤ max i0 (j0 + 1) ∧ i = scanUp (fun x => !lt G[a]! x) G j0 i0) (fun _ => []) ?_) ?_
    rotate_left
    · refine V_loop (fun i : Nat => [(0, .is (.slice (some ⟨b, 0, none⟩) m cap)), (1, .is (.int .i64 a)), (9, .is (.int .i64 i)), (10, .is (.int .i64 j0)), (900, .own (HeldR b (uC G ++ rest) tyU))]) (fun i => i0 ≤ i ∧ i ≤ max i0 (j0 + 1) ∧ scanUp (fun x => !lt G[a]! x) G j0 i = scanUp (fun x => !lt G[a]! x) G j0 i0) (fun i => j0 + 1 - i) i0 ⟨Nat.le_refl _, by omega, rfl⟩ ⟨rfl, rfl, rfl, rfl, rfl, trivial⟩ ?_
      rintro i ⟨hi1, hi2, hi3⟩
      by_cases hle : i ≤ j0
      · obtain ⟨_, qx⟩ := u_at (rest := rest) (show i < G.size by omega) (0 + (i) * 1) rfl
        obtain ⟨_, qa⟩ := u_at (rest := rest) (show a < G.size by omega) (0 + (a) * 1) rfl
        cases hc : lt G[a]! G[i]! with
        | false =>
          have hw : IntKind.i64.wrap ((i : Int) + 1) = ((i + 1 : Nat) : Int) := wrap_i64 (by omega) (by omega)
          refine Z131 ?_; refine zy (id := 3) [(200036, [900]), (200040, [900])] mixed (by kernel_rfl) ?_; refine Z277 ?_; refine z8 (zo L _ rfl rfl rfl rfl rfl rfl rfl (by omega)) rfl ?_; refine qg (qf L (q := 900) rfl rfl rfl rfl rfl qa) rfl rfl ?_; refine Z126 ?_; refine z8 (zo L _ rfl rfl rfl rfl rfl rfl rfl (by omega)) rfl ?_; refine qg (qf L (q := 900) rfl rfl rfl rfl rfl qx) rfl rfl ?_; refine z8 (zp L rfl rfl (zk rfl) rfl rfl rfl (fun u H hH _ _ => lessU' hc hH)) rfl ?_; refine Z58 ?_; refine Z224 ?_; refine Z177 ?_; refine qe ?_; refine Z156 ?_; refine Z12 ?_; refine Z160 ?_
          exact y8 (x := i) (i + 1) ⟨by omega, by omega, by rw [← hi3]; exact (scanUp_go hle (by simp [hc])).symm⟩ (by omega) ⟨rfl, rfl, rfl, rfl, rfl, trivial⟩
        | true =>
          refine Z131 ?_; refine zy (id := 3) [(200036, [900]), (200040, [900])] mixed (by kernel_rfl) ?_; refine Z277 ?_; refine z8 (zo L _ rfl rfl rfl rfl rfl rfl rfl (by omega)) rfl ?_; refine qg (qf L (q := 900) rfl rfl rfl rfl rfl qa) rfl rfl ?_; refine Z126 ?_; refine z8 (zo L _ rfl rfl rfl rfl rfl rfl rfl (by omega)) rfl ?_; refine qg (qf L (q := 900) rfl rfl rfl rfl rfl qx) rfl rfl ?_; refine z8 (zp L rfl rfl (zk rfl) rfl rfl rfl (fun u H hH _ _ => lessU' hc hH)) rfl ?_; refine Z58 ?_; refine Z218 ?_
          exact N_mids i Since.refl ⟨hi1, hi2, by rw [← hi3]; exact (scanUp_stop (by rintro ⟨_, h⟩; simp [hc] at h)).symm⟩ rfl ⟨rfl, rfl, rfl, rfl, rfl, trivial⟩
      · refine Z131 ?_; refine Z75 ?_; refine Z126 ?_; refine Z91 ?_; refine Z253 ?_; refine Z218 ?_
        exact N_mids i Since.refl ⟨hi1, hi2, by rw [← hi3]; exact (scanUp_stop (by rintro ⟨h, _⟩; exact hle h)).symm⟩ rfl ⟨rfl, rfl, rfl, rfl, rfl, trivial⟩
    rintro K ⟨hK1, hK2, hK3⟩
    refine zh (qe ?_)
    refine V_midB (mid_last (fun i : Nat => [(0, .is (.slice (some ⟨b, 0, none⟩) m cap)), (1, .is (.int .i64 a)), (9, .is (.int .i64 K)), (10, .is (.int .i64 i)), (900, .own (HeldR b (uC G ++ rest) tyU))]) (fun i => i ≤ j0 ∧ min (K - 1) j0 ≤ i ∧ i = scanDown (fun x => lt G[a]! x) G K j0) (fun _ => []) ?_) ?_
    rotate_left
    · refine V_loop (fun i : Nat => [(0, .is (.slice (some ⟨b, 0, none⟩) m cap)), (1, .is (.int .i64 a)), (9, .is (.int .i64 K)), (10, .is (.int .i64 i)), (900, .own (HeldR b (uC G ++ rest) tyU))]) (fun i => i ≤ j0 ∧ min (K - 1) j0 ≤ i ∧ scanDown (fun x => lt G[a]! x) G K i = scanDown (fun x => lt G[a]! x) G K j0) (fun i => i) j0 ⟨Nat.le_refl _, by omega, rfl⟩ ⟨rfl, rfl, rfl, rfl, rfl, trivial⟩ ?_
      rintro i ⟨hi1, hi2, hi3⟩
      by_cases hle : K ≤ i
      · obtain ⟨_, qx⟩ := u_at (rest := rest) (show i < G.size by omega) (0 + (i) * 1) rfl
        obtain ⟨_, qa⟩ := u_at (rest := rest) (show a < G.size by omega) (0 + (a) * 1) rfl
        cases hc : lt G[a]! G[i]! with
        | true =>
          obtain ⟨i, rfl⟩ : ∃ k, i = k + 1 := ⟨i - 1, by omega⟩
          have hw : IntKind.i64.wrap (((i + 1 : Nat) : Int) - 1) = (i : Int) := wrap_i64 (by omega) (by omega) |>.trans (by omega)
          refine Z131 ?_; refine Z116 ?_; refine Z277 ?_; refine z8 (zo L _ rfl rfl rfl rfl rfl rfl rfl (by omega)) rfl ?_; refine qg (qf L (q := 900) rfl rfl rfl rfl rfl qa) rfl rfl ?_; refine Z126 ?_; refine z8 (zo L _ rfl rfl rfl rfl rfl rfl rfl (by omega)) rfl ?_; refine qg (qf L (q := 900) rfl rfl rfl rfl rfl qx) rfl rfl ?_; refine z8 (zp L rfl rfl (zk rfl) rfl rfl rfl (fun u H hH _ _ => lessU' hc hH)) rfl ?_; refine Z224 ?_; refine Z177 ?_; refine qe ?_; refine Z172 ?_; refine Z19 ?_; refine Z160 ?_
          exact y8 (x := i + 1) i ⟨by omega, by omega, by rw [← hi3]; exact (scanDown_go hle (by simp [hc])).symm⟩ (by omega) ⟨rfl, rfl, rfl, rfl, rfl, trivial⟩
        | false =>
          refine Z131 ?_; refine Z116 ?_; refine Z277 ?_; refine z8 (zo L _ rfl rfl rfl rfl rfl rfl rfl (by omega)) rfl ?_; refine qg (qf L (q := 900) rfl rfl rfl rfl rfl qa) rfl rfl ?_; refine Z126 ?_; refine z8 (zo L _ rfl rfl rfl rfl rfl rfl rfl (by omega)) rfl ?_; refine qg (qf L (q := 900) rfl rfl rfl rfl rfl qx) rfl rfl ?_; refine z8 (zp L rfl rfl (zk rfl) rfl rfl rfl (fun u H hH _ _ => lessU' hc hH)) rfl ?_; refine Z218 ?_
          exact N_mids i Since.refl ⟨hi1, hi2, by rw [← hi3]; exact (scanDown_stop (by rintro ⟨_, h⟩; simp [hc] at h)).symm⟩ rfl ⟨rfl, rfl, rfl, rfl, rfl, trivial⟩
      · refine Z131 ?_; refine Z109 ?_; refine Z126 ?_; refine Z91 ?_; refine Z209 ?_; refine Z4 ?_; refine Z218 ?_
        exact N_mids i Since.refl ⟨hi1, hi2, by rw [← hi3]; exact (scanDown_stop (by rintro ⟨h, _⟩; exact hle h)).symm⟩ rfl ⟨rfl, rfl, rfl, rfl, rfl, trivial⟩
    rintro M ⟨hM1, hM2, hM3⟩
    rw [← hK3, ← hM3] at hL
    by_cases hKM : M < K
    · rw [if_pos hKM] at hL
      refine Z313 ?_; refine Z123 ?_; refine Z37 ?_; refine Z129 ?_; refine Z143 ?_; refine X_there rfl ?_; refine qs ?_; refine yo ?_
      exact N_mids (K, G) Since.refl ⟨hG, hL⟩ rfl ⟨rfl, rfl, trivial⟩
    · rw [if_neg hKM, dif_pos (by omega)] at hL
      have hw5 : IntKind.i64.wrap ((K : Int) + 1) = ((K + 1 : Nat) : Int) := wrap_i64 (by omega) (by omega)
      have hw6 : IntKind.i64.wrap ((M : Int) - 1) = ((M - 1 : Nat) : Int) := wrap_i64 (by omega) (by omega) |>.trans (by omega)
      have hGs := swp_size G K M
      obtain ⟨_, qj⟩ := u_at (rest := rest) (show M < G.size by omega) (0 + (M) * 1) rfl
      obtain ⟨_, qi⟩ := u_at (rest := rest) (show K < G.size by omega) (0 + (K) * 1) rfl
      have s1 := u_set (rest := rest) G[M]! (show K < G.size by omega) (0 + (K) * 1) rfl
      have b1 := u_ble (rest := rest) (show K < G.size by omega) (0 + (K) * 1) rfl
      have hz : M < (G.setIfInBounds (K) G[M]!).size := by rw [Array.size_setIfInBounds]; omega
      have s2 := u_set (rest := rest) G[K]! hz (0 + (M) * 1) rfl
      have b2 := u_ble (rest := rest) hz (0 + (M) * 1) rfl
      rw [swp_eq] at s2
      refine Z313 ?_; refine Z123 ?_; refine Z29 ?_; refine Z133 ?_; refine zy (id := 8) [(200072, [900]), (200076, [900]), (100077, [900]), (100078, [900])] mixed (by kernel_rfl) ?_; refine Z244 ?_; refine Z126 ?_; refine z8 (zo L _ rfl rfl rfl rfl rfl rfl rfl (by omega)) rfl ?_; refine qg (qf L (q := 900) rfl rfl rfl rfl rfl qj) rfl rfl ?_; refine Z126 ?_; refine z8 (zo L _ rfl rfl rfl rfl rfl rfl rfl (by omega)) rfl ?_; refine qg (qf L (q := 900) rfl rfl rfl rfl rfl qi) rfl rfl ?_; refine z8 (zo L _ rfl rfl rfl rfl rfl rfl rfl (by omega)) rfl ?_; refine yk (yh L (q := 900) rfl rfl rfl rfl rfl rfl b1 rfl s1) rfl ?_; refine z8 (zo L _ rfl rfl rfl rfl rfl rfl rfl (by omega)) rfl ?_; refine yk (yh L (q := 900) rfl rfl rfl rfl rfl rfl b2 rfl s2) rfl ?_; refine Z185 ?_; refine Z61 ?_; refine Z243 ?_; refine Z122 ?_; refine Z74 ?_; refine Z231 ?_; refine Z160 ?_
      exact y8 (x := ((i0, j0), G)) ((K + 1, M - 1), swp G K M) ⟨by dsimp only; omega, by dsimp only; omega, by dsimp only; omega, by dsimp only; omega, by dsimp only; omega, hL⟩ (by dsimp only; omega) ⟨rfl, rfl, rfl, rfl, rfl, trivial⟩
  · rintro ⟨K, G⟩ ⟨hG, hL⟩
    dsimp only at hG ⊢
    rw [← hL]
    refine zh ?_; refine Z234 ?_; refine Z122 ?_
    exact V_retX L 900 (r := GHeld b _ tyU) (rs := [.tmp 8]) rfl (fun _ _ h => h) Since.refl rfl rfl (fun _ => rfl)
end Go.V.So
set_option maxRecDepth 20000
namespace Go.V.So
open Go.Proofs Go.RowKit Go.V Go.Sort
theorem _root_.Go.V.Z101 {A B : Prop} (h : B) (t : Wr B → A := by intro h; refine zf (id := 21) ?_; exact h.h) : A := t ⟨h⟩
attribute [local irreducible] V N X VO Par StepOK Has Ret RetL RetO RetG RetX Src
theorem scanSorted_stop {d : Array Int} {e i : Nat} (h : ¬ (i < e ∧ lt d[i]! d[i - 1]! = false)) : scanSorted lt d e i = i := by
  rw [scanSorted, if_neg]
  simpa using h
theorem scanSorted_go {d : Array Int} {e i : Nat} (h1 : i < e) (h2 : lt d[i]! d[i - 1]! = false) : scanSorted lt d e i = scanSorted lt d e (i + 1) := by
  rw [scanSorted, if_pos (by simp [h1, h2])]
set_option maxHeartbeats 2000000 in
set_option maxRecDepth 20000 in
theorem pins_ret {d : Array Int} {rest : List Value} {b m cap a e : Nat} (hab : a < e) (he : e ≤ d.size) (hm : d.size = m) (hm1 : m ≤ 100000) {w : World} {B : Heap} {C : Nat → Prop} (hB : B.Le (hp w))
    (hr : (GHeld b (uC d ++ rest) tyU).P B w C) (hC : ∀ k, C k → k < w.heap.size ∧ B k = none) :
    RetX Tryz.prog 106 [.slice (some ⟨b, 0, none⟩) m cap, .int .i64 a, .int .i64 e] w B C (GHeld b (uC (partialInsertionSort lt d a e).1 ++ rest) tyU) (.bool (partialInsertionSort lt d a e).2) := by
  unfold RetX
  refine V_enterG 900 (GHeld b (uC d ++ rest) tyU) Tryz.func106 rfl Tryz.ntmps106 (Nat.le_of_ble_eq_true rfl) hB hr hC ?_
  rw [gheld_res]
  have hw1 : IntKind.i64.wrap ((a : Int) + 1) = ((a + 1 : Nat) : Int) := wrap_i64 (by omega) (by omega)
  have hw2 : IntKind.i64.wrap ((e : Int) - (a : Int)) = ((e - a : Nat) : Int) := wrap_i64 (by omega) (by omega) |>.trans (by omega)
  obtain ⟨X, hX⟩ : ∃ X, X = partialInsertionSort lt d a e := ⟨_, rfl⟩
  rw [← hX]
  unfold partialInsertionSort at hX
  refine Z251 ?_; refine Z12 ?_; refine Z132 ?_; refine Z31 ?_; refine Z203 ?_
  refine V_loop (fun s : (Nat × Nat) × Array Int => [(0, .is (.slice (some ⟨b, 0, none⟩) m cap)), (1, .is (.int .i64 a)), (2, .is (.int .i64 e)), (7, .is (.int .i64 s.1.2)), (8, .is (.int .i64 s.1.1)), (900, .own (HeldR b (uC s.2 ++ rest) tyU))]) (fun s => s.1.1 ≤ 5 ∧ a + 1 ≤ s.1.2 ∧ s.1.2 ≤ e ∧ s.2.size = m ∧ partialIns lt a e (5 - s.1.1) s.1.2 s.2 = X) (fun s => 5 - s.1.1) ((0, a + 1), d) ⟨by dsimp only; omega, by dsimp only; omega, by dsimp only; omega, hm, hX.symm⟩ ⟨rfl, rfl, rfl, rfl, rfl, rfl, trivial⟩ ?_
  rintro ⟨⟨k, i0⟩, D⟩ ⟨hk, hi1, hi2, hD, hL⟩
  dsimp only at hk hi1 hi2 hD hL ⊢
  clear hX
  by_cases hk5 : k < 5
  · obtain ⟨s, hs⟩ : ∃ s, 5 - k = s + 1 := ⟨5 - k - 1, by omega⟩
    have hs' : 5 - (k + 1) = s := by omega
    rw [hs, partialIns] at hL
    dsimp only at hL
    refine Z131 ?_; refine Z158 ?_; refine Z8 ?_; refine Z268 ?_; refine qe ?_
    refine V_midB (mid_last (fun i : Nat => [(0, .is (.slice (some ⟨b, 0, none⟩) m cap)), (1, .is (.int .i64 a)), (2, .is (.int .i64 e)), (7, .is (.int .i64 i)), (8, .is (.int .i64 k)), (900, .own (HeldR b (uC D ++ rest) tyU))]) (fun i => a + 1 ≤ i ∧ i ≤ e ∧ i = scanSorted lt D e i0) (fun _ => []) ?_) ?_
    rotate_left
    · refine V_loop (fun i : Nat => [(0, .is (.slice (some ⟨b, 0, none⟩) m cap)), (1, .is (.int .i64 a)), (2, .is (.int .i64 e)), (7, .is (.int .i64 i)), (8, .is (.int .i64 k)), (900, .own (HeldR b (uC D ++ rest) tyU))]) (fun i => a + 1 ≤ i ∧ i ≤ e ∧ scanSorted lt D e i = scanSorted lt D e i0) (fun i => e - i) i0 ⟨hi1, hi2, rfl⟩ ⟨rfl, rfl, rfl, rfl, rfl, rfl, trivial⟩ ?_
      rintro i ⟨h1, h2, h3⟩
      by_cases hle : i < e
      · obtain ⟨_, q1⟩ := u_at (rest := rest) (show i < D.size by omega) (0 + (i) * 1) rfl
        obtain ⟨_, q2⟩ := u_at (rest := rest) (show i - 1 < D.size by omega) (0 + (i - 1) * 1) rfl
        have hw3 : IntKind.i64.wrap ((i : Int) - 1) = ((i - 1 : Nat) : Int) := wrap_i64 (by omega) (by omega) |>.trans (by omega)
        cases hc : lt D[i]! D[i - 1]! with
        | false =>
          have hw4 : IntKind.i64.wrap ((i : Int) + 1) = ((i + 1 : Nat) : Int) := wrap_i64 (by omega) (by omega)
          refine Z131 ?_; refine zy (id := 5) [(200024, [900]), (200029, [900])] mixed (by kernel_rfl) ?_; refine Z126 ?_; refine Z70 ?_; refine Z148 ?_; refine z8 (zo L _ rfl rfl rfl rfl rfl rfl rfl (by omega)) rfl ?_; refine qg (qf L (q := 900) rfl rfl rfl rfl rfl q1) rfl rfl ?_; refine Z202 ?_; refine z8 (zo L _ rfl rfl rfl rfl rfl rfl rfl (by omega)) rfl ?_; refine qg (qf L (q := 900) rfl rfl rfl rfl rfl q2) rfl rfl ?_; refine z8 (zp L rfl rfl (zk rfl) rfl rfl rfl (fun u H hH _ _ => lessU' hc hH)) rfl ?_; refine Z58 ?_; refine Z224 ?_; refine Z177 ?_; refine qe ?_; refine Z172 ?_; refine Z12 ?_; refine Z160 ?_
          exact y8 (x := i) (i + 1) ⟨by omega, by omega, by rw [← h3]; exact (scanSorted_go hle hc).symm⟩ (by omega) ⟨rfl, rfl, rfl, rfl, rfl, rfl, trivial⟩
        | true =>
          refine Z131 ?_; refine zy (id := 5) [(200024, [900]), (200029, [900])] mixed (by kernel_rfl) ?_; refine Z126 ?_; refine Z70 ?_; refine Z148 ?_; refine z8 (zo L _ rfl rfl rfl rfl rfl rfl rfl (by omega)) rfl ?_; refine qg (qf L (q := 900) rfl rfl rfl rfl rfl q1) rfl rfl ?_; refine Z202 ?_; refine z8 (zo L _ rfl rfl rfl rfl rfl rfl rfl (by omega)) rfl ?_; refine qg (qf L (q := 900) rfl rfl rfl rfl rfl q2) rfl rfl ?_; refine z8 (zp L rfl rfl (zk rfl) rfl rfl rfl (fun u H hH _ _ => lessU' hc hH)) rfl ?_; refine Z58 ?_; refine Z218 ?_
          exact N_mids i Since.refl ⟨h1, h2, by rw [← h3]; exact (scanSorted_stop (by rintro ⟨_, h⟩; simp [hc] at h)).symm⟩ rfl ⟨rfl, rfl, rfl, rfl, rfl, rfl, trivial⟩
      · refine Z131 ?_; refine Z109 ?_; refine Z126 ?_; refine Z89 ?_; refine Z253 ?_; refine Z4 ?_; refine Z218 ?_
        exact N_mids i Since.refl ⟨h1, h2, by rw [← h3]; exact (scanSorted_stop (by rintro ⟨h, _⟩; exact hle h)).symm⟩ rfl ⟨rfl, rfl, rfl, rfl, rfl, rfl, trivial⟩
    · rintro i ⟨h1, h2, h3⟩
      rw [← h3] at hL
      by_cases hie : i = e
      · rw [if_pos hie] at hL
        subst hie
        rw [← hL]
        refine Z313 ?_; refine Z123 ?_; refine Z287 ?_; refine Z57 ?_; refine Z122 ?_
        exact V_retX L 900 (r := GHeld b _ tyU) (rs := [.tmp 6]) rfl (fun _ _ h => h) Since.refl rfl rfl (fun _ => rfl)
      · rw [if_neg hie] at hL
        by_cases h50 : e - a < 50
        · rw [if_pos h50] at hL
          rw [← hL]
          refine Z313 ?_; refine Z123 ?_; refine Z312 ?_; refine Z61 ?_; refine Z174 ?_; refine Z8 ?_; refine Z138 ?_; refine Z74 ?_; refine Z122 ?_
          exact V_retX L 900 (r := GHeld b _ tyU) (rs := [.tmp 6]) rfl (fun _ _ h => h) Since.refl rfl rfl (fun _ => rfl)
        · rw [if_neg h50] at hL
          have hw3 : IntKind.i64.wrap ((i : Int) - 1) = ((i - 1 : Nat) : Int) := wrap_i64 (by omega) (by omega) |>.trans (by omega)
          have hw4 : IntKind.i64.wrap ((i : Int) - (a : Int)) = ((i - a : Nat) : Int) := wrap_i64 (by omega) (by omega) |>.trans (by omega)
          have hw5 : IntKind.i64.wrap ((e : Int) - (i : Int)) = ((e - i : Nat) : Int) := wrap_i64 (by omega) (by omega) |>.trans (by omega)
          have hw6 : IntKind.i64.wrap ((i : Int) + 1) = ((i + 1 : Nat) : Int) := wrap_i64 (by omega) (by omega)
          have hw7 : IntKind.i64.wrap ((k : Int) + 1) = ((k + 1 : Nat) : Int) := wrap_i64 (by omega) (by omega)
          have hDs := swp_size D i (i - 1)
          obtain ⟨_, qj⟩ := u_at (rest := rest) (show i - 1 < D.size by omega) (0 + (i - 1) * 1) rfl
          obtain ⟨_, qi⟩ := u_at (rest := rest) (show i < D.size by omega) (0 + (i) * 1) rfl
          have s1 := u_set (rest := rest) D[i - 1]! (show i < D.size by omega) (0 + (i) * 1) rfl
          have b1 := u_ble (rest := rest) (show i < D.size by omega) (0 + (i) * 1) rfl
          have hz : i - 1 < (D.setIfInBounds (i) D[i - 1]!).size := by rw [Array.size_setIfInBounds]; omega
          have s2 := u_set (rest := rest) D[i]! hz (0 + (i - 1) * 1) rfl
          have b2 := u_ble (rest := rest) hz (0 + (i - 1) * 1) rfl
          rw [swp_eq] at s2
          refine Z313 ?_; refine Z123 ?_; refine Z312 ?_; refine Z61 ?_; refine Z174 ?_; refine Z11 ?_; refine Z133 ?_; refine zy (id := 11) [(200051, [900]), (200055, [900]), (100056, [900]), (100057, [900])] mixed (by kernel_rfl) ?_; refine Z126 ?_; refine Z202 ?_; refine Z202 ?_; refine z8 (zo L _ rfl rfl rfl rfl rfl rfl rfl (by omega)) rfl ?_; refine qg (qf L (q := 900) rfl rfl rfl rfl rfl qj) rfl rfl ?_; refine Z126 ?_; refine z8 (zo L _ rfl rfl rfl rfl rfl rfl rfl (by omega)) rfl ?_; refine qg (qf L (q := 900) rfl rfl rfl rfl rfl qi) rfl rfl ?_; refine z8 (zo L _ rfl rfl rfl rfl rfl rfl rfl (by omega)) rfl ?_; refine yk (yh L (q := 900) rfl rfl rfl rfl rfl rfl b1 rfl s1) rfl ?_; refine z8 (zo L _ rfl rfl rfl rfl rfl rfl rfl (by omega)) rfl ?_; refine yk (yh L (q := 900) rfl rfl rfl rfl rfl rfl b2 rfl s2) rfl ?_; refine Z185 ?_; refine zh ?_
          generalize swp D i (i - 1) = D1 at *
          obtain ⟨D2, hD2⟩ : ∃ D2, D2 = (if i - a ≥ 2 then shiftDown lt (i - 1) D1 else D1) := ⟨_, rfl⟩
          rw [← hD2] at hL
          refine V_meetC (fun E : Array Int => [(0, .is (.slice (some ⟨b, 0, none⟩) m cap)), (1, .is (.int .i64 a)), (2, .is (.int .i64 e)), (7, .is (.int .i64 i)), (8, .is (.int .i64 k)), (900, .own (HeldR b (uC E ++ rest) tyU))]) (fun E => E.size = m ∧ E = D2) (fun _ => []) ?_ ?_
          rotate_left
          · by_cases h2a : i - a ≥ 2
            · rw [if_pos h2a] at hD2
              refine Z80 ?_; refine Z174 ?_; refine Z30 ?_; refine Z138 ?_; refine Z76 ?_; refine Z231 ?_; refine Z203 ?_
              refine V_loop (fun t : Nat × Array Int => [(0, .is (.slice (some ⟨b, 0, none⟩) m cap)), (1, .is (.int .i64 a)), (2, .is (.int .i64 e)), (7, .is (.int .i64 i)), (8, .is (.int .i64 k)), (9, .is (.int .i64 t.1)), (900, .own (HeldR b (uC t.2 ++ rest) tyU))]) (fun t => t.1 ≤ i - 1 ∧ t.2.size = m ∧ shiftDown lt t.1 t.2 = D2) (fun t => t.1) (i - 1, D1) ⟨Nat.le_refl _, by dsimp only; omega, hD2.symm⟩ ⟨rfl, rfl, rfl, rfl, rfl, rfl, rfl, trivial⟩ ?_
              rintro ⟨j, E⟩ ⟨hj, hE, hS⟩
              dsimp only at hj hE hS ⊢
              clear hD2
              rcases j with _ | j
              · rw [shiftDown] at hS
                refine Z131 ?_; refine Z219 ?_; refine Z39 ?_; refine Z127 ?_; refine Z145 ?_
                exact N_mids E Since.refl ⟨hE, hS⟩ rfl ⟨rfl, rfl, rfl, rfl, rfl, rfl, trivial⟩
              · rw [shiftDown] at hS
                have hw8 : IntKind.i64.wrap (((j + 1 : Nat) : Int) - 1) = (j : Int) := wrap_i64 (by omega) (by omega) |>.trans (by omega)
                obtain ⟨_, q1⟩ := u_at (rest := rest) (show j + 1 < E.size by omega) (0 + (j + 1) * 1) rfl
                obtain ⟨_, q2⟩ := u_at (rest := rest) (show j < E.size by omega) (0 + (j) * 1) rfl
                cases hc : lt E[j + 1]! E[j]! with
                | false =>
                  rw [if_pos (by rw [hc]; rfl)] at hS
                  refine Z131 ?_; refine Z219 ?_; refine Z214 ?_; refine Z247 ?_; refine Z131 ?_; refine zy (id := 16) [(200071, [900]), (200076, [900])] mixed (by kernel_rfl) ?_; refine Z126 ?_; refine z8 (zo L _ rfl rfl rfl rfl rfl rfl rfl (by omega)) rfl ?_; refine qg (qf L (q := 900) rfl rfl rfl rfl rfl q1) rfl rfl ?_; refine Z202 ?_; refine z8 (zo L _ rfl rfl rfl rfl rfl rfl rfl (by omega)) rfl ?_; refine qg (qf L (q := 900) rfl rfl rfl rfl rfl q2) rfl rfl ?_; refine z8 (zp L rfl rfl (zk rfl) rfl rfl rfl (fun u H hH _ _ => lessU' hc hH)) rfl ?_; refine Z58 ?_; refine Z181 ?_; refine Z143 ?_; refine X_there rfl ?_; refine qs ?_; refine qs ?_; refine yo ?_
                  exact N_mids E Since.refl ⟨hE, hS⟩ rfl ⟨rfl, rfl, rfl, rfl, rfl, rfl, trivial⟩
                | true =>
                  rw [if_neg (by rw [hc]; simp)] at hS
                  obtain ⟨_, qj⟩ := u_at (rest := rest) (show j < E.size by omega) (0 + (j) * 1) rfl
                  obtain ⟨_, qi⟩ := u_at (rest := rest) (show j + 1 < E.size by omega) (0 + (j + 1) * 1) rfl
                  have s1 := u_set (rest := rest) E[j]! (show j + 1 < E.size by omega) (0 + (j + 1) * 1) rfl
                  have b1 := u_ble (rest := rest) (show j + 1 < E.size by omega) (0 + (j + 1) * 1) rfl
                  have hz : j < (E.setIfInBounds (j + 1) E[j]!).size := by rw [Array.size_setIfInBounds]; omega
                  have s2 := u_set (rest := rest) E[j + 1]! hz (0 + (j) * 1) rfl
                  have b2 := u_ble (rest := rest) hz (0 + (j) * 1) rfl
                  rw [swp_eq] at s2
                  refine Z131 ?_; refine Z219 ?_; refine Z214 ?_; refine Z247 ?_; refine Z131 ?_; refine zy (id := 16) [(200071, [900]), (200076, [900])] mixed (by kernel_rfl) ?_; refine Z126 ?_; refine z8 (zo L _ rfl rfl rfl rfl rfl rfl rfl (by omega)) rfl ?_; refine qg (qf L (q := 900) rfl rfl rfl rfl rfl q1) rfl rfl ?_; refine Z202 ?_; refine z8 (zo L _ rfl rfl rfl rfl rfl rfl rfl (by omega)) rfl ?_; refine qg (qf L (q := 900) rfl rfl rfl rfl rfl q2) rfl rfl ?_; refine z8 (zp L rfl rfl (zk rfl) rfl rfl rfl (fun u H hH _ _ => lessU' hc hH)) rfl ?_; refine Z58 ?_; refine Z153 ?_; refine Z177 ?_; refine zy (id := 17) [(200088, [900]), (200092, [900]), (100093, [900]), (100094, [900])] mixed (by kernel_rfl) ?_; refine Z126 ?_; refine Z202 ?_; refine Z202 ?_; refine z8 (zo L _ rfl rfl rfl rfl rfl rfl rfl (by omega)) rfl ?_; refine qg (qf L (q := 900) rfl rfl rfl rfl rfl qj) rfl rfl ?_; refine Z126 ?_; refine z8 (zo L _ rfl rfl rfl rfl rfl rfl rfl (by omega)) rfl ?_; refine qg (qf L (q := 900) rfl rfl rfl rfl rfl qi) rfl rfl ?_; refine z8 (zo L _ rfl rfl rfl rfl rfl rfl rfl (by omega)) rfl ?_; refine yk (yh L (q := 900) rfl rfl rfl rfl rfl rfl b1 rfl s1) rfl ?_; refine z8 (zo L _ rfl rfl rfl rfl rfl rfl rfl (by omega)) rfl ?_; refine yk (yh L (q := 900) rfl rfl rfl rfl rfl rfl b2 rfl s2) rfl ?_; refine ql ?_; refine Z175 ?_; refine Z88 ?_; refine Z231 ?_; refine Z142 ?_
                  exact y8 (x := (j + 1, E)) (j, swp E (j + 1) j) ⟨by dsimp only; omega, by dsimp only; rw [swp_size]; exact hE, hS⟩ (by dsimp only; omega) ⟨rfl, rfl, rfl, rfl, rfl, rfl, rfl, trivial⟩
            · rw [if_neg h2a] at hD2
              refine Z80 ?_; refine Z174 ?_; refine Z39 ?_; refine Z183 ?_
              exact N_mids D1 Since.refl ⟨by omega, hD2.symm⟩ rfl ⟨rfl, rfl, rfl, rfl, rfl, rfl, trivial⟩
          · rintro G ⟨hG, hGe⟩
            rw [← hGe] at hL
            clear hD2 hGe
            by_cases h2b : e - i ≥ 2
            · rw [if_pos h2b] at hL
              obtain ⟨D3, hD3⟩ : ∃ D3, D3 = shiftUp lt e (i + 1) G := ⟨_, rfl⟩
              rw [← hD3] at hL
              refine zh ?_; refine Z95 ?_; refine Z174 ?_; refine Z30 ?_; refine Z138 ?_; refine zf (id := 19) ?_; refine Z243 ?_; refine Z203 ?_
              · refine V_loop (fun t : Nat × Array Int => [(0, .is (.slice (some ⟨b, 0, none⟩) m cap)), (1, .is (.int .i64 a)), (2, .is (.int .i64 e)), (7, .is (.int .i64 i)), (8, .is (.int .i64 k)), (10, .is (.int .i64 t.1)), (900, .own (HeldR b (uC t.2 ++ rest) tyU))]) (fun t => i + 1 ≤ t.1 ∧ t.1 ≤ e ∧ t.2.size = m ∧ shiftUp lt e t.1 t.2 = D3) (fun t => e - t.1) (i + 1, G) ⟨Nat.le_refl _, by dsimp only; omega, hG, hD3.symm⟩ ⟨rfl, rfl, rfl, rfl, rfl, rfl, rfl, trivial⟩ ?_
                rintro ⟨j, E⟩ ⟨hj1, hj2, hE, hS⟩
                dsimp only at hj1 hj2 hE hS ⊢
                clear hD3
                rw [shiftUp] at hS
                by_cases hje : j < e
                · rw [if_pos hje] at hS
                  have hw8 : IntKind.i64.wrap ((j : Int) - 1) = ((j - 1 : Nat) : Int) := wrap_i64 (by omega) (by omega) |>.trans (by omega)
                  have hw9 : IntKind.i64.wrap ((j : Int) + 1) = ((j + 1 : Nat) : Int) := wrap_i64 (by omega) (by omega)
                  obtain ⟨_, q1⟩ := u_at (rest := rest) (show j < E.size by omega) (0 + (j) * 1) rfl
                  obtain ⟨_, q2⟩ := u_at (rest := rest) (show j - 1 < E.size by omega) (0 + (j - 1) * 1) rfl
                  cases hc : lt E[j]! E[j - 1]! with
                  | false =>
                    rw [if_pos (by rw [hc]; rfl)] at hS
                    refine Z131 ?_; refine Z81 ?_; refine Z205 ?_; refine Z306 ?_; refine Z131 ?_; refine zy (id := 22) [(200109, [900]), (200114, [900])] mixed (by kernel_rfl) ?_; refine Z126 ?_; refine z8 (zo L _ rfl rfl rfl rfl rfl rfl rfl (by omega)) rfl ?_; refine qg (qf L (q := 900) rfl rfl rfl rfl rfl q1) rfl rfl ?_; refine Z202 ?_; refine z8 (zo L _ rfl rfl rfl rfl rfl rfl rfl (by omega)) rfl ?_; refine qg (qf L (q := 900) rfl rfl rfl rfl rfl q2) rfl rfl ?_; refine z8 (zp L rfl rfl (zk rfl) rfl rfl rfl (fun u H hH _ _ => lessU' hc hH)) rfl ?_; refine Z58 ?_; refine Z181 ?_; refine Z143 ?_; refine X_there rfl ?_; refine qs ?_; refine qs ?_; refine yo ?_; refine Z175 ?_; refine Z156 ?_; refine Z12 ?_; refine Z142 ?_
                    exact y8 (x := ((k, i0), D)) ((k + 1, i), E) ⟨by dsimp only; omega, by dsimp only; omega, by dsimp only; omega, hE, by dsimp only; rw [hs', hS]; exact hL⟩ (by dsimp only; omega) ⟨rfl, rfl, rfl, rfl, rfl, rfl, trivial⟩
                  | true =>
                    rw [if_neg (by rw [hc]; simp)] at hS
                    obtain ⟨_, qj⟩ := u_at (rest := rest) (show j - 1 < E.size by omega) (0 + (j - 1) * 1) rfl
                    obtain ⟨_, qi⟩ := u_at (rest := rest) (show j < E.size by omega) (0 + (j) * 1) rfl
                    have s1 := u_set (rest := rest) E[j - 1]! (show j < E.size by omega) (0 + (j) * 1) rfl
                    have b1 := u_ble (rest := rest) (show j < E.size by omega) (0 + (j) * 1) rfl
                    have hz : j - 1 < (E.setIfInBounds (j) E[j - 1]!).size := by rw [Array.size_setIfInBounds]; omega
                    have s2 := u_set (rest := rest) E[j]! hz (0 + (j - 1) * 1) rfl
                    have b2 := u_ble (rest := rest) hz (0 + (j - 1) * 1) rfl
                    rw [swp_eq] at s2
                    refine Z131 ?_; refine Z81 ?_; refine Z205 ?_; refine Z306 ?_; refine Z131 ?_; refine zy (id := 22) [(200109, [900]), (200114, [900])] mixed (by kernel_rfl) ?_; refine Z126 ?_; refine z8 (zo L _ rfl rfl rfl rfl rfl rfl rfl (by omega)) rfl ?_; refine qg (qf L (q := 900) rfl rfl rfl rfl rfl q1) rfl rfl ?_; refine Z202 ?_; refine z8 (zo L _ rfl rfl rfl rfl rfl rfl rfl (by omega)) rfl ?_; refine qg (qf L (q := 900) rfl rfl rfl rfl rfl q2) rfl rfl ?_; refine z8 (zp L rfl rfl (zk rfl) rfl rfl rfl (fun u H hH _ _ => lessU' hc hH)) rfl ?_; refine Z58 ?_; refine Z153 ?_; refine Z177 ?_; refine zy (id := 23) [(200126, [900]), (200130, [900]), (100131, [900]), (100132, [900])] mixed (by kernel_rfl) ?_; refine Z126 ?_; refine Z202 ?_; refine Z202 ?_; refine z8 (zo L _ rfl rfl rfl rfl rfl rfl rfl (by omega)) rfl ?_; refine qg (qf L (q := 900) rfl rfl rfl rfl rfl qj) rfl rfl ?_; refine Z126 ?_; refine z8 (zo L _ rfl rfl rfl rfl rfl rfl rfl (by omega)) rfl ?_; refine qg (qf L (q := 900) rfl rfl rfl rfl rfl qi) rfl rfl ?_; refine z8 (zo L _ rfl rfl rfl rfl rfl rfl rfl (by omega)) rfl ?_; refine yk (yh L (q := 900) rfl rfl rfl rfl rfl rfl b1 rfl s1) rfl ?_; refine z8 (zo L _ rfl rfl rfl rfl rfl rfl rfl (by omega)) rfl ?_; refine yk (yh L (q := 900) rfl rfl rfl rfl rfl rfl b2 rfl s2) rfl ?_; refine ql ?_; refine Z175 ?_; refine Z101 ?_; refine Z243 ?_; refine Z142 ?_
                    exact y8 (x := (j, E)) (j + 1, swp E j (j - 1)) ⟨by dsimp only; omega, by dsimp only; omega, by dsimp only; rw [swp_size]; exact hE, hS⟩ (by dsimp only; omega) ⟨rfl, rfl, rfl, rfl, rfl, rfl, rfl, trivial⟩
                · rw [if_neg hje] at hS
                  refine Z131 ?_; refine Z81 ?_; refine Z274 ?_; refine Z145 ?_; refine Z175 ?_; refine Z156 ?_; refine Z12 ?_; refine Z142 ?_
                  exact y8 (x := ((k, i0), D)) ((k + 1, i), E) ⟨by dsimp only; omega, by dsimp only; omega, by dsimp only; omega, hE, by dsimp only; rw [hs', hS]; exact hL⟩ (by dsimp only; omega) ⟨rfl, rfl, rfl, rfl, rfl, rfl, trivial⟩
            · rw [if_neg h2b] at hL
              refine zh ?_; refine Z95 ?_; refine Z174 ?_; refine Z39 ?_; refine Z257 ?_; refine Z156 ?_; refine Z12 ?_; refine Z142 ?_
              exact y8 (x := ((k, i0), D)) ((k + 1, i), G) ⟨by dsimp only; omega, by dsimp only; omega, by dsimp only; omega, hG, by dsimp only; rw [hs']; exact hL⟩ (by dsimp only; omega) ⟨rfl, rfl, rfl, rfl, rfl, rfl, trivial⟩
  · obtain rfl : k = 5 := by omega
    have hL' : (D, false) = X := hL
    rw [← hL']
    refine Z131 ?_; refine Z158 ?_; refine Z232 ?_; refine zf (id := 24) ?_; refine Z122 ?_
    exact V_retX L 900 (r := GHeld b _ tyU) (rs := [.tmp 6]) rfl (fun _ _ h => h) Since.refl rfl rfl (fun _ => rfl)
end Go.V.So
set_option maxRecDepth 20000
namespace Go.V.So
open Go.Proofs Go.RowKit Go.V Go.Sort
theorem _root_.Go.V.Z67 {A B : Prop} (h : B) (t : Wr B → A := by intro h; refine yf (qf L (q := 900) rfl rfl rfl rfl rfl rfl) ?_; exact h.h) : A := t ⟨h⟩
theorem _root_.Go.V.Z94 {A B : Prop} (h : B) (t : Wr B → A := by intro h; refine qg (qf L (q := 900) rfl rfl rfl rfl rfl rfl) rfl rfl ?_; exact h.h) : A := t ⟨h⟩
theorem _root_.Go.V.Z298 {A B : Prop} (h : B) (t : Wr B → A := by intro h; refine Z33 ?_; refine yk (yh L (q := 900) rfl rfl rfl rfl rfl rfl rfl rfl rfl) rfl ?_; exact h.h) : A := t ⟨h⟩
abbrev tyX : TypeId := 233
attribute [local irreducible] V N X VO Par StepOK Has Ret RetL RetO RetG RetX Src
set_option maxRecDepth 20000 in
theorem next_ret {x b : Nat} (hx : x < 18446744073709551616) {w : World} {B : Heap} {C : Nat → Prop} (hB : B.Le (hp w))
    (hr : (GHeld b [.int .u64 x] tyX).P B w C) (hC : ∀ k, C k → k < w.heap.size ∧ B k = none) :
    RetX Tryz.prog 150 [.pointer (some ⟨b, 0, none⟩)] w B C (GHeld b [.int .u64 (xorNextN x : Nat)] tyX) (.int .u64 (xorNextN x : Nat)) := by
  obtain ⟨X1, h1⟩ : ∃ X1 : Nat, X1 = x ^^^ (x * 8192 % 18446744073709551616) := ⟨_, rfl⟩
  obtain ⟨X2, h2⟩ : ∃ X2 : Nat, X2 = X1 ^^^ (X1 / 128) := ⟨_, rfl⟩
  obtain ⟨X3, h3⟩ : ∃ X3 : Nat, X3 = X2 ^^^ (X2 * 131072 % 18446744073709551616) := ⟨_, rfl⟩
  have l1 : X1 < 18446744073709551616 := by rw [h1]; exact Nat.xor_lt_two_pow (n := 64) (by omega) (by omega)
  have l2 : X2 < 18446744073709551616 := by rw [h2]; exact Nat.xor_lt_two_pow (n := 64) (by omega) (by omega)
  have l3 : X3 < 18446744073709551616 := by rw [h3]; exact Nat.xor_lt_two_pow (n := 64) (by omega) (by omega)
  have hv : xorNextN x = X3 := by unfold xorNextN; simp only []; rw [← h1, ← h2, ← h3]
  have s1 : IntKind.u64.wrap ((x : Int) * 2 ^ min (13 : Int).toNat IntKind.u64.bits) = ((x * 8192 % 18446744073709551616 : Nat) : Int) := by
    rw [IntKind.wrap_u64, show ((2 : Int) ^ min (13 : Int).toNat IntKind.u64.bits) = 8192 from by decide]; omega
  have s2 : (X1 : Int).fdiv (2 ^ min (7 : Int).toNat IntKind.u64.bits) = ((X1 / 128 : Nat) : Int) := by
    rw [show ((2 : Int) ^ min (7 : Int).toNat IntKind.u64.bits) = 128 from by decide, Int.fdiv_eq_ediv_of_nonneg _ (by omega)]; omega
  have s3 : IntKind.u64.wrap ((X2 : Int) * 2 ^ min (17 : Int).toNat IntKind.u64.bits) = ((X2 * 131072 % 18446744073709551616 : Nat) : Int) := by
    rw [IntKind.wrap_u64, show ((2 : Int) ^ min (17 : Int).toNat IntKind.u64.bits) = 131072 from by decide]; omega
  have x1 : bits .xor .u64 (x : Int) ((x * 8192 % 18446744073709551616 : Nat) : Int) = (X1 : Int) := by rw [bits_xor_u64_nat _ _ hx (by omega), h1]
  have x2 : bits .xor .u64 (X1 : Int) ((X1 / 128 : Nat) : Int) = (X2 : Int) := by rw [bits_xor_u64_nat _ _ l1 (by omega), h2]
  have x3 : bits .xor .u64 (X2 : Int) ((X2 * 131072 % 18446744073709551616 : Nat) : Int) = (X3 : Int) := by rw [bits_xor_u64_nat _ _ l2 (by omega), h3]
  rw [hv]
  clear hv h1 h2 h3
  unfold RetX
  refine V_enterG 900 (GHeld b [.int .u64 x] tyX) Tryz.func150 rfl Tryz.ntmps150 (Nat.le_of_ble_eq_true rfl) hB hr hC ?_
  rw [gheld_res]
  refine Z130 ?_; refine Z124 ?_; refine zy (id := 1) [(200005, [900]), (200008, [900]), (100011, [900])] mixed (by kernel_rfl) ?_; refine Z3 ?_; refine Z33 ?_; refine Z94 ?_; refine Z3 ?_; refine Z33 ?_; refine Z94 ?_; refine z8 (ok_shl rfl rfl rfl rfl (by decide) s1) rfl ?_; refine z8 (ok_xor rfl rfl rfl rfl x1) rfl ?_; refine Z298 ?_; refine Z185 ?_; refine zy (id := 2) [(200014, [900]), (200017, [900]), (100020, [900])] mixed (by kernel_rfl) ?_; refine Z3 ?_; refine Z33 ?_; refine Z94 ?_; refine Z3 ?_; refine Z33 ?_; refine Z94 ?_; refine z8 (ok_shr rfl rfl rfl rfl (by decide) s2) rfl ?_; refine z8 (ok_xor rfl rfl rfl rfl x2) rfl ?_; refine Z298 ?_; refine Z185 ?_; refine zy (id := 3) [(200023, [900]), (200026, [900]), (100029, [900])] mixed (by kernel_rfl) ?_; refine Z3 ?_; refine Z33 ?_; refine Z94 ?_; refine Z3 ?_; refine Z33 ?_; refine Z94 ?_; refine z8 (ok_shl rfl rfl rfl rfl (by decide) s3) rfl ?_; refine z8 (ok_xor rfl rfl rfl rfl x3) rfl ?_; refine Z298 ?_; refine Z185 ?_; refine Z156 ?_; refine Z56 ?_; refine Z67 ?_; refine Z122 ?_
  exact V_retX L 900 (r := GHeld b _ tyX) (rs := [.tmp 2]) rfl (fun _ _ h => h) Since.refl rfl rfl (fun _ => rfl)
end Go.V.So
set_option maxRecDepth 20000
namespace Go.V.So
open Go.Proofs Go.RowKit Go.V Go.Sort
theorem _root_.Go.V.Z210 {A B : Prop} (h : B) (t : Wr B → A := by intro h; refine Z41 ?_; refine Z184 ?_; exact h.h) : A := t ⟨h⟩
theorem _root_.Go.V.Z262 {A B : Prop} (h : B) (t : Wr B → A := by intro h; refine Z34 ?_; refine Z123 ?_; exact h.h) : A := t ⟨h⟩
attribute [local irreducible] V N X VO Par StepOK Has Ret RetL RetO RetG RetX Src
set_option maxRecDepth 20000 in
theorem bitslen_ret {n : Nat} (hn : n < 18446744073709551616) {w : World} {B : Heap} (hB : B.Le (hp w)) : Ret Tryz.prog 73 [.int .u64 n] w B (fun v _ => v = .int .i64 (bitsLen n)) := by
  refine y7 Tryz.func73 rfl Tryz.ntmps73 (Nat.le_of_ble_eq_true rfl) hB ?_
  refine Z130 ?_; refine Z124 ?_; refine Z5 ?_; refine Z128 ?_; refine Z155 ?_; refine z7 (zp L rfl rfl (zk rfl) rfl rfl rfl (fun u H hH _ _ => Ret.of_same hH (Tryz.bits_Len64 (n : Int) u (by omega) (by omega)))) rfl ?_; refine Z122 ?_
  refine y9 L (rs := [.tmp 2]) rfl (fun _ _ h => h) Since.refl fun u H hH hle => ?_
  rw [Int.toNat_natCast, bitLen_eq n hn]
  rfl
theorem npot_ret {n : Nat} (hn : n ≤ 100000) {w : World} {B : Heap} (hB : B.Le (hp w)) : Ret Tryz.prog 149 [.int .i64 n] w B (fun v _ => v = .int .u64 (1 <<< bitsLen n : Nat)) := by
  have hb : bitsLen n ≤ 17 := (bitsLen_le_iff n 17).2 (by omega)
  have hp2 : (2 : Nat) ^ bitsLen n ≤ 2 ^ 17 := Nat.pow_le_pow_right (by omega) hb
  have hmin : min ((bitsLen n : Nat) : Int).toNat IntKind.u64.bits = bitsLen n := by
    rw [Int.toNat_natCast]
    have : IntKind.u64.bits = 64 := by decide
    omega
  have s1 : IntKind.u64.wrap ((1 : Int) * 2 ^ min ((bitsLen n : Nat) : Int).toNat IntKind.u64.bits) = ((1 <<< bitsLen n : Nat) : Int) := by
    rw [hmin, Nat.shiftLeft_eq, Nat.one_mul, Int.one_mul, Int.natCast_pow]
    have e2 : ((2 : Nat) : Int) ^ bitsLen n = ((2 ^ bitsLen n : Nat) : Int) := (Int.natCast_pow 2 _).symm
    rw [show ((2 : Int) ^ bitsLen n) = ((2 : Nat) : Int) ^ bitsLen n from rfl, e2]
    have hp3 : 2 ^ bitsLen n ≤ 131072 := hp2
    clear hp2 hmin e2
    generalize 2 ^ bitsLen n = M at *
    exact wrap_u64 (by omega) (by omega)
  have hc : IntKind.u64.wrap (n : Int) = (n : Int) := wrap_u64 (by omega) (by omega)
  refine y7 Tryz.func149 rfl Tryz.ntmps149 (Nat.le_of_ble_eq_true rfl) hB ?_
  refine Z251 ?_; refine z7 (ok_conv rfl rfl rfl cv3_153.1 cv3_153.2 (wrap_u64 (by omega) (by omega))) rfl ?_; refine z7 (zp L rfl rfl (zk rfl) rfl rfl rfl (fun u H hH _ _ => bitslen_ret (by omega) hH)) rfl ?_; refine z7 (ok_shl rfl rfl rfl rfl (by omega) s1) rfl ?_; refine Z122 ?_
  refine y9 L (rs := [.tmp 2]) rfl (fun _ _ h => h) Since.refl fun u H hH hle => ?_
  rfl
set_option maxHeartbeats 2000000 in
set_option maxRecDepth 20000 in
theorem brk_ret {d : Array Int} {rest : List Value} {b m cap a e : Nat} (hab : a ≤ e) (he : e ≤ d.size) (hm : d.size = m) (hm1 : m ≤ 100000) {w : World} {B : Heap} {C : Nat → Prop} (hB : B.Le (hp w))
    (hr : (GHeld b (uC d ++ rest) tyU).P B w C) (hC : ∀ k, C k → k < w.heap.size ∧ B k = none) :
    RetG Tryz.prog 103 [.slice (some ⟨b, 0, none⟩) m cap, .int .i64 a, .int .i64 e] w B C (GHeld b (uC (breakPatterns d a e) ++ rest) tyU) := by
  unfold RetG
  refine V_enterG 900 (GHeld b (uC d ++ rest) tyU) Tryz.func103 rfl Tryz.ntmps103 (Nat.le_of_ble_eq_true rfl) hB hr hC ?_
  rw [gheld_res]
  obtain ⟨Ln, rfl⟩ : ∃ Ln, e = a + Ln := ⟨e - a, by omega⟩
  have hw0 : IntKind.i64.wrap (((a + Ln : Nat) : Int) - (a : Int)) = (Ln : Int) := wrap_i64 (by omega) (by omega) |>.trans (by omega)
  by_cases h8 : 8 ≤ Ln
  · have hX := breakPatterns_eq d a Ln h8
    obtain ⟨M, hM⟩ : ∃ M, M = 1 <<< bitsLen Ln := ⟨_, rfl⟩
    have hb17 : bitsLen Ln ≤ 17 := (bitsLen_le_iff Ln 17).2 (by omega)
    have hMp : 1 ≤ M ∧ M ≤ 131072 := by
      rw [hM, Nat.shiftLeft_eq, Nat.one_mul]
      exact ⟨Nat.one_le_two_pow, Nat.pow_le_pow_right (by omega) hb17⟩
    have hM2 : M ≤ 2 * Ln := by
      rw [hM, Nat.shiftLeft_eq, Nat.one_mul]
      exact two_pow_bitsLen_le (by omega)
    obtain ⟨I0, hI0⟩ : ∃ I0, I0 = a + Ln / 4 * 2 - 1 := ⟨_, rfl⟩
    rw [← hM, ← hI0] at hX
    have hc1 : IntKind.u64.wrap (Ln : Int) = (Ln : Int) := wrap_u64 (by omega) (by omega)
    have et : ((Ln : Nat) : Int).tdiv 4 = ((Ln / 4 : Nat) : Int) := by
      rw [Int.tdiv_eq_ediv_of_nonneg (by omega)]
      omega
    have hq : IntKind.i64.wrap (((Ln : Nat) : Int).tdiv 4) = ((Ln / 4 : Nat) : Int) := by rw [et]; exact wrap_i64 (by omega) (by omega)
    have hw1 : IntKind.i64.wrap (((Ln / 4 : Nat) : Int) * 2) = ((Ln / 4 * 2 : Nat) : Int) := wrap_i64 (by omega) (by omega) |>.trans (by omega)
    have hw2 : IntKind.i64.wrap ((a : Int) + ((Ln / 4 * 2 : Nat) : Int)) = ((a + Ln / 4 * 2 : Nat) : Int) := wrap_i64 (by omega) (by omega) |>.trans (by omega)
    have hw3 : IntKind.i64.wrap (((a + Ln / 4 * 2 : Nat) : Int) - 1) = (I0 : Int) := wrap_i64 (by omega) (by omega) |>.trans (by omega)
    have hw4 : IntKind.i64.wrap (((a + Ln / 4 * 2 : Nat) : Int) + 1) = ((I0 + 2 : Nat) : Int) := wrap_i64 (by omega) (by omega) |>.trans (by omega)
    have hM1 : IntKind.u64.wrap ((M : Int) - 1) = ((M - 1 : Nat) : Int) := wrap_u64 (by omega) (by omega) |>.trans (by omega)
    have hln : (UInt64.ofNat Ln).toNat = Ln := by
      rw [UInt64.toNat_ofNat']
      exact Nat.mod_eq_of_lt (by omega)
    refine Z130 ?_; refine Z174 ?_; refine Z215 ?_; refine Z30 ?_; refine Z138 ?_; refine Z155 ?_; refine z7 (ok_conv rfl rfl rfl cv3_233.1 cv3_233.2 (wrap_u64 (by omega) (by omega))) rfl ?_; refine Z170 ?_; refine Z137 ?_
    refine V_hold 7 901 rfl fun br => ?_
    refine Z158 ?_; refine z7 (zp L rfl rfl (zk rfl) rfl rfl rfl (fun u H hH _ _ => hM ▸ npot_ret (n := Ln) (by omega) hH)) rfl ?_; refine Z124 ?_; refine Z262 ?_; refine Z210 ?_; refine Z19 ?_; refine Z203 ?_
    refine V_loop (fun s : Nat × (UInt64 × Array Int) => [(0, .is (.slice (some ⟨b, 0, none⟩) m cap)), (1, .is (.int .i64 a)), (6, .is (.int .i64 Ln)), (7, .is (.pointer (some ⟨br, 0, none⟩))), (8, .is (.int .u64 M)), (9, .is (.int .i64 (I0 + s.1 : Nat))), (900, .own (HeldR b (uC s.2.2 ++ rest) tyU)), (901, .own (HeldR br [.int .u64 s.2.1.toNat] tyX))]) (fun s => s.1 ≤ 3 ∧ s.2.2.size = m ∧ bpRest a Ln M I0 (3 - s.1) s.1 s.2 = breakPatterns d a (a + Ln)) (fun s => 3 - s.1) (0, (UInt64.ofNat Ln, d)) ⟨by dsimp only; omega, hm, hX.symm⟩ ⟨rfl, rfl, rfl, rfl, rfl, rfl, rfl, by dsimp only; rw [hln]; rfl, trivial⟩ ?_
    rintro ⟨t, ⟨r, D⟩⟩ ⟨ht3, hD, hst⟩
    dsimp only at ht3 hD hst ⊢
    have hrl : r.toNat < 18446744073709551616 := UInt64.toNat_lt r
    by_cases ht : t < 3
    · obtain ⟨o1, ho1⟩ : ∃ o1, o1 = xorNextN r.toNat &&& (M - 1) := ⟨_, rfl⟩
      have ho1l : o1 ≤ M - 1 := by rw [ho1]; exact Nat.and_le_right
      have hand : bits .and .u64 ((xorNextN r.toNat : Nat) : Int) ((M - 1 : Nat) : Int) = (o1 : Int) := by rw [bits_and_u64_nat _ _ (xorNextN_lt _ hrl) (by omega), ho1]
      have hcv : IntKind.i64.wrap (o1 : Int) = (o1 : Int) := wrap_i64 (by omega) (by omega)
      have hwt : IntKind.i64.wrap (((I0 + t : Nat) : Int) + 1) = ((I0 + (t + 1) : Nat) : Int) := wrap_i64 (by omega) (by omega) |>.trans (by omega)
      by_cases hoL : Ln ≤ o1
      · have hw5 : IntKind.i64.wrap ((o1 : Int) - (Ln : Int)) = ((o1 - Ln : Nat) : Int) := wrap_i64 (by omega) (by omega) |>.trans (by omega)
        have hw6 : IntKind.i64.wrap ((a : Int) + ((o1 - Ln : Nat) : Int)) = ((a + (o1 - Ln) : Nat) : Int) := wrap_i64 (by omega) (by omega)
        have ho : (if (xorNext r).toNat &&& (M - 1) ≥ Ln then ((xorNext r).toNat &&& (M - 1)) - Ln else (xorNext r).toNat &&& (M - 1)) = o1 - Ln := by rw [xorNext_toNat, ← ho1, if_pos hoL]
        obtain ⟨_, qj⟩ := u_at (rest := rest) (show a + (o1 - Ln) < D.size by omega) (0 + (a + (o1 - Ln)) * 1) rfl
        obtain ⟨_, qi⟩ := u_at (rest := rest) (show I0 + t < D.size by omega) (0 + (I0 + t) * 1) rfl
        have s1 := u_set (rest := rest) D[a + (o1 - Ln)]! (show I0 + t < D.size by omega) (0 + (I0 + t) * 1) rfl
        have b1 := u_ble (rest := rest) (show I0 + t < D.size by omega) (0 + (I0 + t) * 1) rfl
        have hz : a + (o1 - Ln) < (D.setIfInBounds (I0 + t) D[a + (o1 - Ln)]!).size := by rw [Array.size_setIfInBounds]; omega
        have s2 := u_set (rest := rest) D[I0 + t]! hz (0 + (a + (o1 - Ln)) * 1) rfl
        have b2 := u_ble (rest := rest) hz (0 + (a + (o1 - Ln)) * 1) rfl
        rw [swp_eq] at s2
        refine Z131 ?_; refine Z44 ?_; refine Z150 ?_; refine Z210 ?_; refine Z12 ?_; refine Z66 ?_; refine Z268 ?_; refine Z43 ?_; refine qk (yl L 901 (GHeld br [.int .u64 (xorNextN r.toNat : Nat)] tyX) (.int .u64 (xorNextN r.toNat : Nat)) (r := GHeld br [.int .u64 r.toNat] tyX) rfl rfl rfl rfl rfl (fun u H C hH _ hr hC => next_ret hrl hH hr hC)) ?_; refine Z231 ?_; refine z7 (ok_and rfl rfl rfl rfl hand) rfl ?_; refine z7 (ok_conv rfl rfl rfl cv153_3.1 cv153_3.2 (wrap_i64 (by omega) (by omega))) rfl ?_; refine Z132 ?_; refine Z57 ?_; refine Z123 ?_; refine Z214 ?_; refine Z61 ?_; refine Z174 ?_; refine Z122 ?_; refine zy (id := 10) [(200058, [900]), (200062, [900]), (100063, [900]), (100064, [900])] mixed (by kernel_rfl) ?_; refine Z126 ?_; refine Z168 ?_; refine Z168 ?_; refine z8 (zo L _ rfl rfl rfl rfl rfl rfl rfl (by omega)) rfl ?_; refine qg (qf L (q := 900) rfl rfl rfl rfl rfl qj) rfl rfl ?_; refine Z126 ?_; refine z8 (zo L _ rfl rfl rfl rfl rfl rfl rfl (by omega)) rfl ?_; refine qg (qf L (q := 900) rfl rfl rfl rfl rfl qi) rfl rfl ?_; refine z8 (zo L _ rfl rfl rfl rfl rfl rfl rfl (by omega)) rfl ?_; refine yk (yh L (q := 900) rfl rfl rfl rfl rfl rfl b1 rfl s1) rfl ?_; refine z8 (zo L _ rfl rfl rfl rfl rfl rfl rfl (by omega)) rfl ?_; refine yk (yh L (q := 900) rfl rfl rfl rfl rfl rfl b2 rfl s2) rfl ?_; refine ql ?_; refine Z175 ?_; refine Z172 ?_; refine Z12 ?_; refine Z142 ?_
        exact y8 (x := (t, (r, D))) (t + 1, (xorNext r, swp D (I0 + t) (a + (o1 - Ln)))) ⟨by dsimp only; omega, by dsimp only; rw [swp_size]; exact hD, by dsimp only; rw [← hst, bp_step a Ln M I0 t r D ((o1 - Ln)) ht ho]⟩ (by dsimp only; omega) ⟨rfl, rfl, rfl, rfl, rfl, rfl, rfl, by dsimp only; rw [xorNext_toNat]; rfl, trivial⟩
      · have hw6 : IntKind.i64.wrap ((a : Int) + (o1 : Int)) = ((a + o1 : Nat) : Int) := wrap_i64 (by omega) (by omega)
        have ho : (if (xorNext r).toNat &&& (M - 1) ≥ Ln then ((xorNext r).toNat &&& (M - 1)) - Ln else (xorNext r).toNat &&& (M - 1)) = o1 := by rw [xorNext_toNat, ← ho1, if_neg (by omega)]
        obtain ⟨_, qj⟩ := u_at (rest := rest) (show a + o1 < D.size by omega) (0 + (a + o1) * 1) rfl
        obtain ⟨_, qi⟩ := u_at (rest := rest) (show I0 + t < D.size by omega) (0 + (I0 + t) * 1) rfl
        have s1 := u_set (rest := rest) D[a + o1]! (show I0 + t < D.size by omega) (0 + (I0 + t) * 1) rfl
        have b1 := u_ble (rest := rest) (show I0 + t < D.size by omega) (0 + (I0 + t) * 1) rfl
        have hz : a + o1 < (D.setIfInBounds (I0 + t) D[a + o1]!).size := by rw [Array.size_setIfInBounds]; omega
        have s2 := u_set (rest := rest) D[I0 + t]! hz (0 + (a + o1) * 1) rfl
        have b2 := u_ble (rest := rest) hz (0 + (a + o1) * 1) rfl
        rw [swp_eq] at s2
        refine Z131 ?_; refine Z44 ?_; refine Z150 ?_; refine Z210 ?_; refine Z12 ?_; refine Z66 ?_; refine Z268 ?_; refine Z43 ?_; refine qk (yl L 901 (GHeld br [.int .u64 (xorNextN r.toNat : Nat)] tyX) (.int .u64 (xorNextN r.toNat : Nat)) (r := GHeld br [.int .u64 r.toNat] tyX) rfl rfl rfl rfl rfl (fun u H C hH _ hr hC => next_ret hrl hH hr hC)) ?_; refine Z231 ?_; refine z7 (ok_and rfl rfl rfl rfl hand) rfl ?_; refine z7 (ok_conv rfl rfl rfl cv153_3.1 cv153_3.2 (wrap_i64 (by omega) (by omega))) rfl ?_; refine Z132 ?_; refine Z57 ?_; refine Z123 ?_; refine Z39 ?_; refine Z127 ?_; refine Z177 ?_; refine zy (id := 10) [(200058, [900]), (200062, [900]), (100063, [900]), (100064, [900])] mixed (by kernel_rfl) ?_; refine Z126 ?_; refine Z168 ?_; refine Z168 ?_; refine z8 (zo L _ rfl rfl rfl rfl rfl rfl rfl (by omega)) rfl ?_; refine qg (qf L (q := 900) rfl rfl rfl rfl rfl qj) rfl rfl ?_; refine Z126 ?_; refine z8 (zo L _ rfl rfl rfl rfl rfl rfl rfl (by omega)) rfl ?_; refine qg (qf L (q := 900) rfl rfl rfl rfl rfl qi) rfl rfl ?_; refine z8 (zo L _ rfl rfl rfl rfl rfl rfl rfl (by omega)) rfl ?_; refine yk (yh L (q := 900) rfl rfl rfl rfl rfl rfl b1 rfl s1) rfl ?_; refine z8 (zo L _ rfl rfl rfl rfl rfl rfl rfl (by omega)) rfl ?_; refine yk (yh L (q := 900) rfl rfl rfl rfl rfl rfl b2 rfl s2) rfl ?_; refine ql ?_; refine Z175 ?_; refine Z172 ?_; refine Z12 ?_; refine Z142 ?_
        exact y8 (x := (t, (r, D))) (t + 1, (xorNext r, swp D (I0 + t) (a + o1))) ⟨by dsimp only; omega, by dsimp only; rw [swp_size]; exact hD, by dsimp only; rw [← hst, bp_step a Ln M I0 t r D (o1) ht ho]⟩ (by dsimp only; omega) ⟨rfl, rfl, rfl, rfl, rfl, rfl, rfl, by dsimp only; rw [xorNext_toNat]; rfl, trivial⟩
    · obtain rfl : t = 3 := by omega
      have hst' : D = breakPatterns d a (a + Ln) := hst
      rw [hst']
      refine Z131 ?_; refine Z44 ?_; refine Z150 ?_; refine Z210 ?_; refine Z12 ?_; refine Z63 ?_; refine Z127 ?_; refine Z145 ?_
      exact N_retGhost L 900 (r := GHeld b _ tyU) rfl (fun _ _ h => h) Since.refl rfl rfl
  · have : breakPatterns d a (a + Ln) = d := by unfold breakPatterns; simp only [Nat.add_sub_cancel_left]; rw [if_neg (by omega)]
    rw [this]
    refine Z130 ?_; refine Z174 ?_; refine Z215 ?_; refine Z39 ?_; refine Z183 ?_
    exact N_retGhost L 900 (r := GHeld b _ tyU) rfl (fun _ _ h => h) Since.refl rfl rfl
end Go.V.So
set_option maxRecDepth 20000
namespace Go.V.So
open Go.Proofs Go.RowKit Go.V Go.Sort
theorem _root_.Go.V.Z113 {A B : Prop} (h : B) (t : Wr B → A := by intro h; refine z8 (ok_load1c L (qo rfl (by assumption)) rfl rfl rfl (by assumption)) rfl ?_; exact h.h) : A := t ⟨h⟩
abbrev tyI : TypeId := 3
theorem u_get {d : Array Int} {rest : List Value} {j : Nat} (h : j < d.size) : (uC d ++ rest)[0 + j * 1]? = some (.int .u64 d[j]!) := by
  rw [Nat.zero_add, Nat.mul_one, List.getElem?_append_left (by rw [uC_len]; exact h)]
  exact uC_get h
attribute [local irreducible] V N X VO Par StepOK Has Ret RetL RetO RetG RetX Src
set_option maxRecDepth 20000 in
theorem ord2_ret {d : Array Int} {rest : List Value} {b m cap a e bs k : Nat} (ha : a < m) (he : e < m) (hm : d.size = m) (hm1 : m ≤ 100000) (hk : k ≤ 1000) {w : World} {B : Heap} {C : Nat → Prop} (hB : B.Le (hp w)) (hb : B b = some (.cells (uC d ++ rest).toArray tyU))
    (hr : (GHeld bs [.int .i64 k] tyI).P B w C) (hC : ∀ k, C k → k < w.heap.size ∧ B k = none) :
    RetX Tryz.prog 169 [.slice (some ⟨b, 0, none⟩) m cap, .int .i64 a, .int .i64 e, .pointer (some ⟨bs, 0, none⟩)] w B C (GHeld bs [.int .i64 (order2 lt d a e k).2.2] tyI) (.tuple #[.int .i64 (order2 lt d a e k).1, .int .i64 (order2 lt d a e k).2.1]) := by
  unfold RetX
  refine V_enterG 900 (GHeld bs [.int .i64 k] tyI) Tryz.func169 rfl Tryz.ntmps169 (Nat.le_of_ble_eq_true rfl) hB hr hC ?_
  rw [gheld_res]
  have g1 := u_get (rest := rest) (show a < d.size by omega)
  have g2 := u_get (rest := rest) (show e < d.size by omega)
  have hw : IntKind.i64.wrap ((k : Int) + 1) = ((k + 1 : Nat) : Int) := wrap_i64 (by omega) (by omega)
  unfold order2
  cases hc : lt d[e]! d[a]! with
  | true =>
    refine Z130 ?_; refine Z163 ?_; refine Z82 ?_; refine Z126 ?_; refine z8 (zo L _ rfl rfl rfl rfl rfl rfl rfl (by omega)) rfl ?_; refine Z113 ?_; refine Z126 ?_; refine z8 (zo L _ rfl rfl rfl rfl rfl rfl rfl (by omega)) rfl ?_; refine Z113 ?_; refine z8 (zp L rfl rfl (zk rfl) rfl rfl rfl (fun u H hH _ _ => lessU' hc hH)) rfl ?_; refine Z181 ?_; refine zh ?_; refine Z155 ?_; refine Z56 ?_; refine Z67 ?_; refine Z12 ?_; refine Z56 ?_; refine vo_stepS (yh L (q := 900) rfl rfl rfl rfl rfl rfl rfl rfl rfl) ?_; refine Z137 ?_; refine Z167 ?_; refine Z173 ?_
    exact V_retX L 900 (r := GHeld bs _ tyI) (rs := [.tmp 8, .tmp 9]) rfl (fun _ _ h => h) Since.refl rfl rfl (fun _ => rfl)
  | false =>
    refine Z130 ?_; refine Z163 ?_; refine Z82 ?_; refine Z126 ?_; refine z8 (zo L _ rfl rfl rfl rfl rfl rfl rfl (by omega)) rfl ?_; refine Z113 ?_; refine Z126 ?_; refine z8 (zo L _ rfl rfl rfl rfl rfl rfl rfl (by omega)) rfl ?_; refine Z113 ?_; refine z8 (zp L rfl rfl (zk rfl) rfl rfl rfl (fun u H hH _ _ => lessU' hc hH)) rfl ?_; refine Z153 ?_; refine Z128 ?_; refine Z262 ?_; refine Z173 ?_
    exact V_retX L 900 (r := GHeld bs _ tyI) (rs := [.tmp 8, .tmp 9]) rfl (fun _ _ h => h) Since.refl rfl rfl (fun _ => rfl)
theorem ord2_lt (d : Array Int) {a e m k : Nat} (ha : a < m) (he : e < m) : (order2 lt d a e k).1 < m ∧ (order2 lt d a e k).2.1 < m ∧ (order2 lt d a e k).2.2 ≤ k + 1 := by
  unfold order2
  split
  · exact ⟨he, ha, Nat.le_refl _⟩
  · exact ⟨ha, he, Nat.le_succ _⟩
set_option maxRecDepth 20000 in
theorem med_ret {d : Array Int} {rest : List Value} {b m cap x y z bs k : Nat} (hx : x < m) (hy : y < m) (hz : z < m) (hm : d.size = m) (hm1 : m ≤ 100000) (hk : k ≤ 900) {w : World} {B : Heap} {C : Nat → Prop} (hB : B.Le (hp w)) (hb : B b = some (.cells (uC d ++ rest).toArray tyU))
    (hr : (GHeld bs [.int .i64 k] tyI).P B w C) (hC : ∀ k, C k → k < w.heap.size ∧ B k = none) :
    RetX Tryz.prog 152 [.slice (some ⟨b, 0, none⟩) m cap, .int .i64 x, .int .i64 y, .int .i64 z, .pointer (some ⟨bs, 0, none⟩)] w B C (GHeld bs [.int .i64 (median lt d x y z k).2] tyI) (.int .i64 (median lt d x y z k).1) := by
  unfold RetX
  refine V_enterG 900 (GHeld bs [.int .i64 k] tyI) Tryz.func152 rfl Tryz.ntmps152 (Nat.le_of_ble_eq_true rfl) hB hr hC ?_
  rw [gheld_res]
  unfold median
  dsimp only
  obtain ⟨r1, hr1⟩ : ∃ r, r = order2 lt d x y k := ⟨_, rfl⟩
  rw [← hr1]
  obtain ⟨r2, hr2⟩ : ∃ r, r = order2 lt d r1.2.1 z r1.2.2 := ⟨_, rfl⟩
  rw [← hr2]
  obtain ⟨r3, hr3⟩ : ∃ r, r = order2 lt d r1.1 r2.1 r2.2.2 := ⟨_, rfl⟩
  rw [← hr3]
  obtain ⟨a1, a2, a3⟩ := hr1 ▸ ord2_lt d (k := k) hx hy
  obtain ⟨b1, b2, b3⟩ := hr2 ▸ ord2_lt d (k := r1.2.2) a2 hz
  refine Z206 ?_; refine Z191 ?_; refine qk (yl L 900 (GHeld bs [.int .i64 r1.2.2] tyI) (.tuple #[.int .i64 r1.1, .int .i64 r1.2.1]) (r := GHeld bs [.int .i64 k] tyI) rfl rfl rfl rfl rfl (fun u H C hH hle hr hC => by have h := ord2_ret (rest := rest) (cap := cap) hx hy hm hm1 (k := k) (by omega) hH (hle _ _ hb) hr hC; rw [← hr1] at h; exact h)) ?_; refine Z196 ?_; refine Z31 ?_; refine Z191 ?_; refine qk (yl L 900 (GHeld bs [.int .i64 r2.2.2] tyI) (.tuple #[.int .i64 r2.1, .int .i64 r2.2.1]) (r := GHeld bs [.int .i64 r1.2.2] tyI) rfl rfl rfl rfl rfl (fun u H C hH hle hr hC => by have h := ord2_ret (rest := rest) (cap := cap) a2 hz hm hm1 (k := r1.2.2) (by omega) hH (hle _ _ hb) hr hC; rw [← hr2] at h; exact h)) ?_; refine Z196 ?_; refine Z167 ?_; refine Z123 ?_; refine qk (yl L 900 (GHeld bs [.int .i64 r3.2.2] tyI) (.tuple #[.int .i64 r3.1, .int .i64 r3.2.1]) (r := GHeld bs [.int .i64 r2.2.2] tyI) rfl rfl rfl rfl rfl (fun u H C hH hle hr hC => by have h := ord2_ret (rest := rest) (cap := cap) a1 b1 hm hm1 (k := r2.2.2) (by omega) hH (hle _ _ hb) hr hC; rw [← hr3] at h; exact h)) ?_; refine Z196 ?_; refine Z156 ?_; refine Z122 ?_
  exact V_retX L 900 (r := GHeld bs _ tyI) (rs := [.tmp 10]) rfl (fun _ _ h => h) Since.refl rfl rfl (fun _ => rfl)
theorem med_lt (d : Array Int) {x y z m k : Nat} (hx : x < m) (hy : y < m) (hz : z < m) : (median lt d x y z k).1 < m ∧ (median lt d x y z k).2 ≤ k + 3 := by
  unfold median
  dsimp only
  obtain ⟨a1, a2, a3⟩ := ord2_lt d (k := k) hx hy
  obtain ⟨b1, b2, b3⟩ := ord2_lt d (k := (order2 lt d x y k).2.2) a2 hz
  obtain ⟨c1, c2, c3⟩ := ord2_lt d (k := (order2 lt d (order2 lt d x y k).2.1 z (order2 lt d x y k).2.2).2.2) a1 b1
  exact ⟨c2, by omega⟩
set_option maxRecDepth 20000 in
theorem madj_ret {d : Array Int} {rest : List Value} {b m cap x bs k : Nat} (h1 : 1 ≤ x) (hx : x + 1 < m) (hm : d.size = m) (hm1 : m ≤ 100000) (hk : k ≤ 900) {w : World} {B : Heap} {C : Nat → Prop} (hB : B.Le (hp w)) (hb : B b = some (.cells (uC d ++ rest).toArray tyU))
    (hr : (GHeld bs [.int .i64 k] tyI).P B w C) (hC : ∀ k, C k → k < w.heap.size ∧ B k = none) :
    RetX Tryz.prog 151 [.slice (some ⟨b, 0, none⟩) m cap, .int .i64 x, .pointer (some ⟨bs, 0, none⟩)] w B C (GHeld bs [.int .i64 (medianAdjacent lt d x k).2] tyI) (.int .i64 (medianAdjacent lt d x k).1) := by
  unfold RetX
  refine V_enterG 900 (GHeld bs [.int .i64 k] tyI) Tryz.func151 rfl Tryz.ntmps151 (Nat.le_of_ble_eq_true rfl) hB hr hC ?_
  rw [gheld_res]
  unfold medianAdjacent
  have hw1 : IntKind.i64.wrap ((x : Int) - 1) = ((x - 1 : Nat) : Int) := wrap_i64 (by omega) (by omega) |>.trans (by omega)
  have hw2 : IntKind.i64.wrap ((x : Int) + 1) = ((x + 1 : Nat) : Int) := wrap_i64 (by omega) (by omega)
  refine Z206 ?_; refine Z174 ?_; refine Z235 ?_; refine Z1 ?_; refine qk (yl L 900 (GHeld bs [.int .i64 (median lt d (x - 1) x (x + 1) k).2] tyI) (.int .i64 (median lt d (x - 1) x (x + 1) k).1) (r := GHeld bs [.int .i64 k] tyI) rfl rfl rfl rfl rfl (fun u H C hH hle hr hC => med_ret (rest := rest) (cap := cap) (by omega) (by omega) (by omega) hm hm1 hk hH (hle _ _ hb) hr hC)) ?_; refine Z122 ?_
  exact V_retX L 900 (r := GHeld bs _ tyI) (rs := [.tmp 6]) rfl (fun _ _ h => h) Since.refl rfl rfl (fun _ => rfl)
end Go.V.So
set_option maxRecDepth 20000
namespace Go.V.So
open Go.Proofs Go.RowKit Go.V Go.Sort
theorem _root_.Go.V.Z114 {A B : Prop} (h : B) (t : Wr B → A := by intro h; refine yf (qf L (q := 901) rfl rfl rfl rfl rfl rfl) ?_; exact h.h) : A := t ⟨h⟩
theorem _root_.Go.V.Z237 {A B : Prop} (h : B) (t : Wr B → A := by intro h; refine Z20 ?_; refine Z187 ?_; exact h.h) : A := t ⟨h⟩
theorem _root_.Go.V.Z278 {A B : Prop} (h : B) (t : Wr B → A := by intro h; refine Z210 ?_; refine Z124 ?_; exact h.h) : A := t ⟨h⟩
theorem _root_.Go.V.Z296 {A B : Prop} (h : B) (t : Wr B → A := by intro h; refine Z61 ?_; refine Z123 ?_; exact h.h) : A := t ⟨h⟩
def hintZ : Hint → Int
  | .unknown => 0
  | .increasing => 1
  | .decreasing => 2
attribute [local irreducible] V N X VO Par StepOK Has Ret RetL RetO RetG RetX Src
set_option maxHeartbeats 1000000 in
set_option maxRecDepth 20000 in
theorem piv_ret {d : Array Int} {rest : List Value} {b m cap a e : Nat} (h12 : 12 < e - a) (he : e ≤ m) (hm : d.size = m) (hm1 : m ≤ 100000) {w : World} {B : Heap} (hB : B.Le (hp w)) (hb : B b = some (.cells (uC d ++ rest).toArray tyU)) :
    Ret Tryz.prog 104 [.slice (some ⟨b, 0, none⟩) m cap, .int .i64 a, .int .i64 e] w B (fun v _ => v = .tuple #[.int .i64 (choosePivot lt d a e).1, .int .i64 (hintZ (choosePivot lt d a e).2)]) := by
  obtain ⟨Ln, rfl⟩ : ∃ Ln, e = a + Ln := ⟨e - a, by omega⟩
  rw [Nat.add_sub_cancel_left] at h12
  unfold choosePivot
  rw [Nat.add_sub_cancel_left]
  dsimp only
  obtain ⟨q, hq⟩ : ∃ q, q = Ln / 4 := ⟨_, rfl⟩
  rw [← hq, if_pos (by omega)]
  have hw0 : IntKind.i64.wrap (((a + Ln : Nat) : Int) - (a : Int)) = (Ln : Int) := wrap_i64 (by omega) (by omega) |>.trans (by omega)
  have et : ((Ln : Nat) : Int).tdiv 4 = (q : Int) := by
    rw [Int.tdiv_eq_ediv_of_nonneg (by omega)]
    omega
  have hq1 : IntKind.i64.wrap (((Ln : Nat) : Int).tdiv 4) = (q : Int) := by rw [et]; exact wrap_i64 (by omega) (by omega)
  have m1 : IntKind.i64.wrap ((q : Int) * 1) = ((q * 1 : Nat) : Int) := wrap_i64 (by omega) (by omega) |>.trans (by omega)
  have m2 : IntKind.i64.wrap ((q : Int) * 2) = ((q * 2 : Nat) : Int) := wrap_i64 (by omega) (by omega) |>.trans (by omega)
  have m3 : IntKind.i64.wrap ((q : Int) * 3) = ((q * 3 : Nat) : Int) := wrap_i64 (by omega) (by omega) |>.trans (by omega)
  have p1 : IntKind.i64.wrap ((a : Int) + ((q * 1 : Nat) : Int)) = ((a + q * 1 : Nat) : Int) := wrap_i64 (by omega) (by omega) |>.trans (by omega)
  have p2 : IntKind.i64.wrap ((a : Int) + ((q * 2 : Nat) : Int)) = ((a + q * 2 : Nat) : Int) := wrap_i64 (by omega) (by omega) |>.trans (by omega)
  have p3 : IntKind.i64.wrap ((a : Int) + ((q * 3 : Nat) : Int)) = ((a + q * 3 : Nat) : Int) := wrap_i64 (by omega) (by omega) |>.trans (by omega)
  refine y7 Tryz.func104 rfl Tryz.ntmps104 (Nat.le_of_ble_eq_true rfl) hB ?_
  refine Z307 ?_; refine Z17 ?_; refine Z174 ?_; refine Z124 ?_; refine Z31 ?_; refine Z21 ?_; refine Z137 ?_
  refine V_hold 9 901 rfl fun bs => ?_
  by_cases h50 : Ln ≥ 50
  · rw [if_pos h50]
    obtain ⟨r1, hr1⟩ : ∃ r, r = medianAdjacent lt d (a + q * 1) 0 := ⟨_, rfl⟩
    rw [← hr1]
    obtain ⟨r2, hr2⟩ : ∃ r, r = medianAdjacent lt d (a + q * 2) r1.2 := ⟨_, rfl⟩
    rw [← hr2]
    obtain ⟨r3, hr3⟩ : ∃ r, r = medianAdjacent lt d (a + q * 3) r2.2 := ⟨_, rfl⟩
    rw [← hr3]
    obtain ⟨r4, hr4⟩ : ∃ r, r = median lt d r1.1 r2.1 r3.1 r3.2 := ⟨_, rfl⟩
    rw [← hr4]
    obtain ⟨l1, s1⟩ : r1.1 < m ∧ r1.2 ≤ 0 + 3 := hr1 ▸ med_lt d (by omega) (by omega) (by omega)
    obtain ⟨l2, s2⟩ : r2.1 < m ∧ r2.2 ≤ r1.2 + 3 := hr2 ▸ med_lt d (by omega) (by omega) (by omega)
    obtain ⟨l3, s3⟩ : r3.1 < m ∧ r3.2 ≤ r2.2 + 3 := hr3 ▸ med_lt d (by omega) (by omega) (by omega)
    by_cases z0 : r4.2 = 0
    · rw [if_pos z0]
      refine Z167 ?_; refine Z278 ?_; refine Z262 ?_; refine Z278 ?_; refine Z213 ?_; refine Z210 ?_; refine Z132 ?_; refine Z172 ?_; refine Z214 ?_; refine Z131 ?_; refine Z176 ?_; refine Z30 ?_; refine Z138 ?_; refine Z57 ?_; refine Z123 ?_; refine qk (yl L 901 (GHeld bs [.int .i64 r1.2] tyI) (.int .i64 r1.1) (r := GHeld bs [.int .i64 0] tyI) rfl rfl rfl rfl rfl (fun u H C hH hle hr hC => by have h := madj_ret (rest := rest) (cap := cap) (d := d) (x := a + q * 1) (k := 0) (by omega) (by omega) hm hm1 (by omega) hH (hle _ _ hb) hr hC; rw [← hr1] at h; exact h)) ?_; refine Z124 ?_; refine Z296 ?_; refine qk (yl L 901 (GHeld bs [.int .i64 r2.2] tyI) (.int .i64 r2.1) (r := GHeld bs [.int .i64 r1.2] tyI) rfl rfl rfl rfl rfl (fun u H C hH hle hr hC => by have h := madj_ret (rest := rest) (cap := cap) (d := d) (x := a + q * 2) (k := r1.2) (by omega) (by omega) hm hm1 (by omega) hH (hle _ _ hb) hr hC; rw [← hr2] at h; exact h)) ?_; refine Z122 ?_; refine Z308 ?_; refine qk (yl L 901 (GHeld bs [.int .i64 r3.2] tyI) (.int .i64 r3.1) (r := GHeld bs [.int .i64 r2.2] tyI) rfl rfl rfl rfl rfl (fun u H C hH hle hr hC => by have h := madj_ret (rest := rest) (cap := cap) (d := d) (x := a + q * 3) (k := r2.2) (by omega) (by omega) hm hm1 (by omega) hH (hle _ _ hb) hr hC; rw [← hr3] at h; exact h)) ?_; refine Z122 ?_; refine Z64 ?_; refine Z191 ?_; refine qk (yl L 901 (GHeld bs [.int .i64 r4.2] tyI) (.int .i64 r4.1) (r := GHeld bs [.int .i64 r3.2] tyI) rfl rfl rfl rfl rfl (fun u H C hH hle hr hC => by have h := med_ret (rest := rest) (cap := cap) (d := d) (x := r1.1) (y := r2.1) (z := r3.1) (k := r3.2) (by omega) (by omega) (by omega) hm hm1 (by omega) hH (hle _ _ hb) hr hC; rw [← hr4] at h; exact h)) ?_; refine Z124 ?_; refine Z80 ?_; refine Z114 ?_; refine Z121 ?_; refine Z136 ?_; refine Z69 ?_; refine Z27 ?_; refine Z300 ?_; refine Z88 ?_; refine Z1 ?_; refine Z173 ?_
      refine y9 L (rs := [.tmp 6, .tmp 7]) rfl (fun _ _ h => h) Since.refl fun u H hH hle => ?_
      rfl
    · rw [if_neg z0]
      by_cases z12 : r4.2 = 12
      · rw [if_pos z12]
        refine Z167 ?_; refine Z278 ?_; refine Z262 ?_; refine Z278 ?_; refine Z213 ?_; refine Z210 ?_; refine Z132 ?_; refine Z172 ?_; refine Z214 ?_; refine Z131 ?_; refine Z176 ?_; refine Z30 ?_; refine Z138 ?_; refine Z57 ?_; refine Z123 ?_; refine qk (yl L 901 (GHeld bs [.int .i64 r1.2] tyI) (.int .i64 r1.1) (r := GHeld bs [.int .i64 0] tyI) rfl rfl rfl rfl rfl (fun u H C hH hle hr hC => by have h := madj_ret (rest := rest) (cap := cap) (d := d) (x := a + q * 1) (k := 0) (by omega) (by omega) hm hm1 (by omega) hH (hle _ _ hb) hr hC; rw [← hr1] at h; exact h)) ?_; refine Z124 ?_; refine Z296 ?_; refine qk (yl L 901 (GHeld bs [.int .i64 r2.2] tyI) (.int .i64 r2.1) (r := GHeld bs [.int .i64 r1.2] tyI) rfl rfl rfl rfl rfl (fun u H C hH hle hr hC => by have h := madj_ret (rest := rest) (cap := cap) (d := d) (x := a + q * 2) (k := r1.2) (by omega) (by omega) hm hm1 (by omega) hH (hle _ _ hb) hr hC; rw [← hr2] at h; exact h)) ?_; refine Z122 ?_; refine Z308 ?_; refine qk (yl L 901 (GHeld bs [.int .i64 r3.2] tyI) (.int .i64 r3.1) (r := GHeld bs [.int .i64 r2.2] tyI) rfl rfl rfl rfl rfl (fun u H C hH hle hr hC => by have h := madj_ret (rest := rest) (cap := cap) (d := d) (x := a + q * 3) (k := r2.2) (by omega) (by omega) hm hm1 (by omega) hH (hle _ _ hb) hr hC; rw [← hr3] at h; exact h)) ?_; refine Z122 ?_; refine Z64 ?_; refine Z191 ?_; refine qk (yl L 901 (GHeld bs [.int .i64 r4.2] tyI) (.int .i64 r4.1) (r := GHeld bs [.int .i64 r3.2] tyI) rfl rfl rfl rfl rfl (fun u H C hH hle hr hC => by have h := med_ret (rest := rest) (cap := cap) (d := d) (x := r1.1) (y := r2.1) (z := r3.1) (k := r3.2) (by omega) (by omega) (by omega) hm hm1 (by omega) hH (hle _ _ hb) hr hC; rw [← hr4] at h; exact h)) ?_; refine Z124 ?_; refine Z80 ?_; refine Z114 ?_; refine Z121 ?_; refine Z136 ?_; refine Z69 ?_; refine Z237 ?_; refine Z92 ?_; refine Z27 ?_; refine Z300 ?_; refine Z100 ?_; refine Z1 ?_; refine Z173 ?_
        refine y9 L (rs := [.tmp 6, .tmp 7]) rfl (fun _ _ h => h) Since.refl fun u H hH hle => ?_
        rfl
      · rw [if_neg z12]
        refine Z167 ?_; refine Z278 ?_; refine Z262 ?_; refine Z278 ?_; refine Z213 ?_; refine Z210 ?_; refine Z132 ?_; refine Z172 ?_; refine Z214 ?_; refine Z131 ?_; refine Z176 ?_; refine Z30 ?_; refine Z138 ?_; refine Z57 ?_; refine Z123 ?_; refine qk (yl L 901 (GHeld bs [.int .i64 r1.2] tyI) (.int .i64 r1.1) (r := GHeld bs [.int .i64 0] tyI) rfl rfl rfl rfl rfl (fun u H C hH hle hr hC => by have h := madj_ret (rest := rest) (cap := cap) (d := d) (x := a + q * 1) (k := 0) (by omega) (by omega) hm hm1 (by omega) hH (hle _ _ hb) hr hC; rw [← hr1] at h; exact h)) ?_; refine Z124 ?_; refine Z296 ?_; refine qk (yl L 901 (GHeld bs [.int .i64 r2.2] tyI) (.int .i64 r2.1) (r := GHeld bs [.int .i64 r1.2] tyI) rfl rfl rfl rfl rfl (fun u H C hH hle hr hC => by have h := madj_ret (rest := rest) (cap := cap) (d := d) (x := a + q * 2) (k := r1.2) (by omega) (by omega) hm hm1 (by omega) hH (hle _ _ hb) hr hC; rw [← hr2] at h; exact h)) ?_; refine Z122 ?_; refine Z308 ?_; refine qk (yl L 901 (GHeld bs [.int .i64 r3.2] tyI) (.int .i64 r3.1) (r := GHeld bs [.int .i64 r2.2] tyI) rfl rfl rfl rfl rfl (fun u H C hH hle hr hC => by have h := madj_ret (rest := rest) (cap := cap) (d := d) (x := a + q * 3) (k := r2.2) (by omega) (by omega) hm hm1 (by omega) hH (hle _ _ hb) hr hC; rw [← hr3] at h; exact h)) ?_; refine Z122 ?_; refine Z64 ?_; refine Z191 ?_; refine qk (yl L 901 (GHeld bs [.int .i64 r4.2] tyI) (.int .i64 r4.1) (r := GHeld bs [.int .i64 r3.2] tyI) rfl rfl rfl rfl rfl (fun u H C hH hle hr hC => by have h := med_ret (rest := rest) (cap := cap) (d := d) (x := r1.1) (y := r2.1) (z := r3.1) (k := r3.2) (by omega) (by omega) (by omega) hm hm1 (by omega) hH (hle _ _ hb) hr hC; rw [← hr4] at h; exact h)) ?_; refine Z124 ?_; refine Z80 ?_; refine Z114 ?_; refine Z121 ?_; refine Z136 ?_; refine Z69 ?_; refine Z237 ?_; refine Z92 ?_; refine Z237 ?_; refine Z269 ?_; refine Z173 ?_
        refine y9 L (rs := [.tmp 6, .tmp 7]) rfl (fun _ _ h => h) Since.refl fun u H hH hle => ?_
        rfl
  · rw [if_neg h50]
    obtain ⟨r4, hr4⟩ : ∃ r, r = median lt d (a + q * 1) (a + q * 2) (a + q * 3) 0 := ⟨_, rfl⟩
    rw [← hr4]
    by_cases z0 : r4.2 = 0
    · rw [if_pos z0]
      refine Z167 ?_; refine Z278 ?_; refine Z262 ?_; refine Z278 ?_; refine Z213 ?_; refine Z210 ?_; refine Z132 ?_; refine Z172 ?_; refine Z214 ?_; refine Z131 ?_; refine Z176 ?_; refine Z39 ?_; refine Z127 ?_; refine Z177 ?_; refine Z64 ?_; refine Z191 ?_; refine qk (yl L 901 (GHeld bs [.int .i64 r4.2] tyI) (.int .i64 r4.1) (r := GHeld bs [.int .i64 0] tyI) rfl rfl rfl rfl rfl (fun u H C hH hle hr hC => by have h := med_ret (rest := rest) (cap := cap) (d := d) (x := a + q * 1) (y := a + q * 2) (z := a + q * 3) (k := 0) (by omega) (by omega) (by omega) hm hm1 (by omega) hH (hle _ _ hb) hr hC; rw [← hr4] at h; exact h)) ?_; refine Z124 ?_; refine Z80 ?_; refine Z114 ?_; refine Z121 ?_; refine Z136 ?_; refine Z69 ?_; refine Z27 ?_; refine Z300 ?_; refine Z88 ?_; refine Z1 ?_; refine Z173 ?_
      refine y9 L (rs := [.tmp 6, .tmp 7]) rfl (fun _ _ h => h) Since.refl fun u H hH hle => ?_
      rfl
    · rw [if_neg z0]
      by_cases z12 : r4.2 = 12
      · rw [if_pos z12]
        refine Z167 ?_; refine Z278 ?_; refine Z262 ?_; refine Z278 ?_; refine Z213 ?_; refine Z210 ?_; refine Z132 ?_; refine Z172 ?_; refine Z214 ?_; refine Z131 ?_; refine Z176 ?_; refine Z39 ?_; refine Z127 ?_; refine Z177 ?_; refine Z64 ?_; refine Z191 ?_; refine qk (yl L 901 (GHeld bs [.int .i64 r4.2] tyI) (.int .i64 r4.1) (r := GHeld bs [.int .i64 0] tyI) rfl rfl rfl rfl rfl (fun u H C hH hle hr hC => by have h := med_ret (rest := rest) (cap := cap) (d := d) (x := a + q * 1) (y := a + q * 2) (z := a + q * 3) (k := 0) (by omega) (by omega) (by omega) hm hm1 (by omega) hH (hle _ _ hb) hr hC; rw [← hr4] at h; exact h)) ?_; refine Z124 ?_; refine Z80 ?_; refine Z114 ?_; refine Z121 ?_; refine Z136 ?_; refine Z69 ?_; refine Z237 ?_; refine Z92 ?_; refine Z27 ?_; refine Z300 ?_; refine Z100 ?_; refine Z1 ?_; refine Z173 ?_
        refine y9 L (rs := [.tmp 6, .tmp 7]) rfl (fun _ _ h => h) Since.refl fun u H hH hle => ?_
        rfl
      · rw [if_neg z12]
        refine Z167 ?_; refine Z278 ?_; refine Z262 ?_; refine Z278 ?_; refine Z213 ?_; refine Z210 ?_; refine Z132 ?_; refine Z172 ?_; refine Z214 ?_; refine Z131 ?_; refine Z176 ?_; refine Z39 ?_; refine Z127 ?_; refine Z177 ?_; refine Z64 ?_; refine Z191 ?_; refine qk (yl L 901 (GHeld bs [.int .i64 r4.2] tyI) (.int .i64 r4.1) (r := GHeld bs [.int .i64 0] tyI) rfl rfl rfl rfl rfl (fun u H C hH hle hr hC => by have h := med_ret (rest := rest) (cap := cap) (d := d) (x := a + q * 1) (y := a + q * 2) (z := a + q * 3) (k := 0) (by omega) (by omega) (by omega) hm hm1 (by omega) hH (hle _ _ hb) hr hC; rw [← hr4] at h; exact h)) ?_; refine Z124 ?_; refine Z80 ?_; refine Z114 ?_; refine Z121 ?_; refine Z136 ?_; refine Z69 ?_; refine Z237 ?_; refine Z92 ?_; refine Z237 ?_; refine Z269 ?_; refine Z173 ?_
        refine y9 L (rs := [.tmp 6, .tmp 7]) rfl (fun _ _ h => h) Since.refl fun u H hH hle => ?_
        rfl
end Go.V.So
set_option maxRecDepth 20000
namespace Go.V.So
open Go.Proofs Go.RowKit Go.V Go.Sort
theorem _root_.Go.V.Z77 {A B : Prop} (h : B) (t : Wr B → A := by intro h; refine zy (id := 17) [(200080, [900]), (200084, [900])] mixed (by kernel_rfl) ?_; exact h.h) : A := t ⟨h⟩
theorem _root_.Go.V.Z220 {A B : Prop} (h : B) (t : Wr B → A := by intro h; refine Z9 ?_; refine Z123 ?_; exact h.h) : A := t ⟨h⟩
theorem _root_.Go.V.Z245 {A B : Prop} (h : B) (t : Wr B → A := by intro h; refine Z124 ?_; refine zf (id := 22) ?_; exact h.h) : A := t ⟨h⟩
theorem _root_.Go.V.Z246 {A B : Prop} (h : B) (t : Wr B → A := by intro h; refine zf (id := 23) ?_; refine Z1 ?_; exact h.h) : A := t ⟨h⟩
theorem _root_.Go.V.Z264 {A B : Prop} (h : B) (t : Wr B → A := by intro h; refine Z124 ?_; refine zf (id := 24) ?_; exact h.h) : A := t ⟨h⟩
theorem hintZ_two {h : Hint} : hintZ h = 2 ↔ h = .decreasing := by cases h <;> simp [hintZ]
theorem lend_uC {b : Nat} {cs : List Value} {ty : TypeId} : ∀ v H u C, (HeldR b cs ty).P v H u C → joinH H u C b = some (.cells cs.toArray ty) := fun _ _ _ _ ⟨hb, hC⟩ => (joinH_in ((hC b).2 rfl)).trans hb
attribute [local irreducible] V N X VO Par StepOK Has Ret RetL RetO RetG RetX Src
set_option maxHeartbeats 4000000 in
set_option maxRecDepth 20000 in
theorem pdq_ret : ∀ (N : Nat) {d : Array Int} {rest : List Value} {b m cap a e lim : Nat} (_ : e - a < N) (_ : a ≤ e) (_ : e ≤ m) (_ : d.size = m) (_ : m ≤ 100000) (_ : lim ≤ 1000) (_ : Below lt a e d) {w : World} {B : Heap} {C : Nat → Prop} (_ : B.Le (hp w))
    (_ : (GHeld b (uC d ++ rest) tyU).P B w C) (_ : ∀ k, C k → k < w.heap.size ∧ B k = none),
    RetG Tryz.prog 72 [.slice (some ⟨b, 0, none⟩) m cap, .int .i64 a, .int .i64 e, .int .i64 lim] w B C (GHeld b (uC (pdq lt d a e lim true true) ++ rest) tyU) := by
  intro N
  induction N with
  | zero => intro d rest b m cap a e lim h; omega
  | succ N ih =>
  intro d rest b m cap a e lim hN hab he hm hm1 hlim hBel w B C hB hr hC
  unfold RetG
  refine V_enterG 900 (GHeld b (uC d ++ rest) tyU) Tryz.func72 rfl Tryz.ntmps72 (Nat.le_of_ble_eq_true rfl) hB hr hC ?_
  rw [gheld_res]
  obtain ⟨X, hX⟩ : ∃ X, X = pdq lt d a e lim true true := ⟨_, rfl⟩
  rw [← hX]
  refine Z206 ?_; refine Z203 ?_
  refine V_loop (fun s : ((Nat × Nat) × Nat) × ((Bool × Bool) × Array Int) => [(0, .is (.slice (some ⟨b, 0, none⟩) m cap)), (1, .is (.int .i64 s.1.1.1)), (2, .is (.int .i64 s.1.1.2)), (3, .is (.int .i64 s.1.2)), (8, .is (.bool s.2.1.1)), (9, .is (.bool s.2.1.2)), (900, .own (HeldR b (uC s.2.2 ++ rest) tyU))])
    (fun s => s.1.1.1 ≤ s.1.1.2 ∧ s.1.1.2 ≤ m ∧ s.1.1.2 - s.1.1.1 ≤ e - a ∧ s.1.2 ≤ 1000 ∧ s.2.2.size = m ∧ Below lt s.1.1.1 s.1.1.2 s.2.2 ∧ pdq lt s.2.2 s.1.1.1 s.1.1.2 s.1.2 s.2.1.1 s.2.1.2 = X) (fun s => s.1.1.2 - s.1.1.1) (((a, e), lim), ((true, true), d)) ⟨hab, he, Nat.le_refl _, hlim, hm, hBel, hX.symm⟩ ⟨rfl, rfl, rfl, rfl, rfl, rfl, rfl, trivial⟩ ?_
  rintro ⟨⟨⟨x, y⟩, l⟩, ⟨⟨wb, wp⟩, D⟩⟩ ⟨hxy, hy, hL, hl, hD, hBl, hP⟩
  dsimp only at hxy hy hL hl hD hBl hP ⊢
  clear hX hBel hm
  have hw0 : IntKind.i64.wrap ((y : Int) - (x : Int)) = ((y - x : Nat) : Int) := wrap_i64 (by omega) (by omega) |>.trans (by omega)
  by_cases h12 : y - x ≤ 12
  · rw [pdq_small h12] at hP
    rw [← hP]
    refine Z136 ?_; refine Z31 ?_; refine Z174 ?_; refine Z295 ?_; refine Z66 ?_; refine Z138 ?_; refine Z34 ?_; refine Z150 ?_; refine qk (ok_callG L 900 (GHeld b (uC (insertionSort lt D x y) ++ rest) tyU) (r := GHeld b (uC D ++ rest) tyU) rfl rfl rfl rfl rfl (fun u H C hH _ hr hC => ins_ret hxy (by omega) hD hm1 hH hr hC)) ?_; refine Z121 ?_
    exact V_retGhost L 900 (r := GHeld b _ tyU) rfl (fun _ _ h => h) Since.refl rfl rfl
  · by_cases hl0 : l = 0
    · rw [pdq_heap h12 hl0] at hP
      rw [← hP]
      refine Z136 ?_; refine Z31 ?_; refine Z174 ?_; refine Z295 ?_; refine Z63 ?_; refine Z151 ?_; refine Z166 ?_; refine Z287 ?_; refine Z42 ?_; refine Z150 ?_; refine qk (ok_callG L 900 (GHeld b (uC (heapSort lt D x y) ++ rest) tyU) (r := GHeld b (uC D ++ rest) tyU) rfl rfl rfl rfl rfl (fun u H C hH _ hr hC => heap_ret (by omega) (by omega) hD hm1 hH hr hC)) ?_; refine Z121 ?_
      exact V_retGhost L 900 (r := GHeld b _ tyU) rfl (fun _ _ h => h) Since.refl rfl rfl
    · obtain ⟨s1, B1, hc1, s2, B2, hpv, s3, B3⟩ := rd_facts (lt := lt) (limit := l) (wb := wb) (wp := wp) swo_ltInt partialInsertionSort_holds reverseRange_holds (show x < y by omega) (show y ≤ D.size by omega) hBl
      have hlle : (rd lt D x y l wb wp).lim ≤ 1000 := Nat.le_trans rd_lim_le hl
      have hdone := fun h => pdq_done (lt := lt) (d := D) (wb := wb) (wp := wp) h12 hl0 h
      have heq := fun h1 h2 h3 => pdq_eq (lt := lt) (d := D) (wb := wb) (wp := wp) h12 hl0 h1 h2 h3
      have hleft := fun h1 h2 h3 h4 => pdq_left (lt := lt) (d := D) (wb := wb) (wp := wp) h12 hl0 h1 h2 h3 h4
      have hright := fun h1 h2 h3 h4 => pdq_right (lt := lt) (d := D) (wb := wb) (wp := wp) h12 hl0 h1 h2 h3 h4
      have hrt : wb = true → (rd lt D x y l wb wp).d1 = D ∧ (rd lt D x y l wb wp).lim = l := fun e => by subst e; exact rd_true
      have hrf : wb = false → (rd lt D x y l wb wp).d1 = breakPatterns D x y ∧ (rd lt D x y l wb wp).lim = l - 1 := fun e => by subst e; exact rd_false
      have hrc := rd_c (lt := lt) (d := D) (a := x) (b := y) (limit := l) (wb := wb) (wp := wp)
      have hde := fun h => rd_dec (lt := lt) (d := D) (a := x) (b := y) (limit := l) (wb := wb) (wp := wp) h
      have hno := fun h => rd_not (lt := lt) (d := D) (a := x) (b := y) (limit := l) (wb := wb) (wp := wp) h
      have hpy := fun h => rd_pi_yes (lt := lt) (d := D) (a := x) (b := y) (limit := l) (wb := wb) (wp := wp) h
      have hpn := fun h => rd_pi_no (lt := lt) (d := D) (a := x) (b := y) (limit := l) (wb := wb) (wp := wp) h
      rw [hP] at hdone heq hleft hright
      generalize (rd lt D x y l wb wp) = R at *
      refine Z136 ?_; refine Z31 ?_; refine Z174 ?_; refine Z295 ?_; refine Z63 ?_; refine Z151 ?_; refine Z166 ?_; refine Z312 ?_
      refine V_meetC (fun _ : Unit => [(0, .is (.slice (some ⟨b, 0, none⟩) m cap)), (1, .is (.int .i64 x)), (2, .is (.int .i64 y)), (3, .is (.int .i64 R.lim)), (8, .is (.bool wb)), (9, .is (.bool wp)), (10, .is (.int .i64 (y - x : Nat))), (900, .own (HeldR b (uC R.d1 ++ rest) tyU))]) (fun _ => True) (fun _ => []) ?rest1 ?first1
      case first1 =>
        cases wb with
        | true =>
          obtain ⟨e1, e2⟩ := hrt rfl
          rw [e1, e2]
          refine Z176 ?_; refine Z49 ?_; refine Z183 ?_
          exact N_mids () Since.refl trivial rfl ⟨rfl, rfl, rfl, rfl, rfl, rfl, rfl, rfl, trivial⟩
        | false =>
          obtain ⟨e1, e2⟩ := hrf rfl
          have hw1 : IntKind.i64.wrap ((l : Int) - 1) = ((l - 1 : Nat) : Int) := wrap_i64 (by omega) (by omega) |>.trans (by omega)
          rw [e1, e2]
          refine Z176 ?_; refine Z49 ?_; refine Z138 ?_; refine Z57 ?_; refine Z150 ?_; refine qk (ok_callG L 900 (GHeld b (uC (breakPatterns D x y) ++ rest) tyU) (r := GHeld b (uC D ++ rest) tyU) rfl rfl rfl rfl rfl (fun u H C hH _ hr hC => brk_ret (by omega) (by omega) hD hm1 hH hr hC)) ?_; refine Z121 ?_; refine Z61 ?_; refine Z231 ?_; refine Z142 ?_
          exact N_mids () Since.refl trivial rfl ⟨rfl, rfl, rfl, rfl, rfl, rfl, rfl, rfl, trivial⟩
      intro _ _
      refine zh ?_; refine Z74 ?_; refine Z150 ?_; refine yf (ok_callLendG L 900 (Φ := fun H => H b = some (.cells (uC R.d1 ++ rest).toArray tyU)) (c := .tuple #[.int .i64 R.c.1, .int .i64 (hintZ R.c.2)]) rfl rfl (zk rfl) rfl rfl rfl rfl rfl lend_uC (fun u H hH hle h1 => by rw [hrc]; exact piv_ret (by omega) hy (by omega) hm1 hH h1)) ?_; refine Z288 ?_
      refine V_meetC (fun _ : Unit => [(0, .is (.slice (some ⟨b, 0, none⟩) m cap)), (1, .is (.int .i64 x)), (2, .is (.int .i64 y)), (3, .is (.int .i64 R.lim)), (8, .is (.bool wb)), (9, .is (.bool wp)), (10, .is (.int .i64 (y - x : Nat))), (11, .is (.int .i64 R.pivot)), (12, .is (.int .i64 (hintZ R.hint))), (900, .own (HeldR b (uC R.d2 ++ rest) tyU))]) (fun _ => True) (fun _ => []) ?rest2 ?first2
      case first2 =>
        by_cases hdec : R.c.2 = .decreasing
        · obtain ⟨e1, e2, e3⟩ := hde hdec
          have hz : hintZ R.c.2 = 2 := by rw [hdec]; rfl
          rw [e1, e2, e3]
          have w1 : IntKind.i64.wrap ((y : Int) - 1) = ((y - 1 : Nat) : Int) := wrap_i64 (by omega) (by omega) |>.trans (by omega)
          have w2 : IntKind.i64.wrap ((R.c.1 : Int) - (x : Int)) = ((R.c.1 - x : Nat) : Int) := wrap_i64 (by omega) (by omega) |>.trans (by omega)
          have w3 : IntKind.i64.wrap (((y - 1 : Nat) : Int) - ((R.c.1 - x : Nat) : Int)) = ((y - 1 - (R.c.1 - x) : Nat) : Int) := wrap_i64 (by omega) (by omega) |>.trans (by omega)
          refine Z234 ?_; refine Z287 ?_; refine Z80 ?_; refine Z150 ?_; refine qk (ok_callG L 900 (GHeld b (uC (reverseRange R.d1 x y) ++ rest) tyU) (r := GHeld b (uC R.d1 ++ rest) tyU) rfl rfl rfl rfl rfl (fun u H C hH _ hr hC => rev_ret (by omega) (by omega) (by omega) hm1 hH hr hC)) ?_; refine Z137 ?_; refine Z76 ?_; refine Z231 ?_; refine Z174 ?_; refine Z19 ?_; refine Z122 ?_; refine Z69 ?_; refine Z142 ?_
          exact N_mids () Since.refl trivial rfl ⟨rfl, rfl, rfl, rfl, rfl, rfl, rfl, rfl, rfl, rfl, trivial⟩
        · obtain ⟨e1, e2, e3⟩ := hno hdec
          have hz : hintZ R.c.2 ≠ 2 := fun h => hdec (hintZ_two.1 h)
          rw [e1, e2, e3]
          refine Z234 ?_; refine Z20 ?_; refine Z183 ?_
          exact N_mids () Since.refl trivial rfl ⟨rfl, rfl, rfl, rfl, rfl, rfl, rfl, rfl, rfl, rfl, trivial⟩
      intro _ _
      refine zh (zh (V_meetC (fun _ : Unit => [(0, .is (.slice (some ⟨b, 0, none⟩) m cap)), (1, .is (.int .i64 x)), (2, .is (.int .i64 y)), (3, .is (.int .i64 R.lim)), (8, .is (.bool wb)), (9, .is (.bool wp)), (10, .is (.int .i64 (y - x : Nat))), (11, .is (.int .i64 R.pivot)), (900, .own (HeldR b (uC R.pi.1 ++ rest) tyU))]) (fun _ => R.pi.2 = false) (fun _ => []) ?rest3 ?first3))
      case first3 =>
        cases wb with
        | false =>
          have hpi := hpn rfl
          rw [hpi]
          refine Z88 ?_; refine Z123 ?_; refine Z199 ?_; refine Z171 ?_; refine Z9 ?_; refine Z183 ?_
          exact N_mids () Since.refl rfl rfl ⟨rfl, rfl, rfl, rfl, rfl, rfl, rfl, rfl, rfl, trivial⟩
        | true =>
          cases wp with
          | false =>
            have hpi := hpn rfl
            rw [hpi]
            refine Z88 ?_; refine Z150 ?_; refine Z9 ?_; refine Z171 ?_; refine Z9 ?_; refine Z183 ?_
            exact N_mids () Since.refl rfl rfl ⟨rfl, rfl, rfl, rfl, rfl, rfl, rfl, rfl, rfl, trivial⟩
          | true =>
            by_cases hi : R.hint = .increasing
            · have hz : hintZ R.hint = 1 := by rw [hi]; rfl
              have hpi := hpy (by rw [hi]; rfl)
              cases hb : (partialInsertionSort lt R.d2 x y).2 with
              | true =>
                rw [hdone (by rw [hpi]; exact hb)]
                refine Z88 ?_; refine Z150 ?_; refine Z220 ?_; refine Z27 ?_; refine Z9 ?_; refine Z138 ?_; refine Z92 ?_; refine Z150 ?_; refine qk (yl L 900 (GHeld b (uC R.pi.1 ++ rest) tyU) (.bool true) (r := GHeld b (uC R.d2 ++ rest) tyU) rfl rfl rfl rfl rfl (fun u H C hH hle hr hC => by have h := pins_ret (rest := rest) (cap := cap) (d := R.d2) (a := x) (e := y) (m := m) (by omega) (by omega) (by omega) hm1 hH hr hC; rw [hb, ← hpi] at h; exact h)) ?_; refine Z129 ?_
                exact V_retGhost L 900 (r := GHeld b _ tyU) rfl (fun _ _ h => h) Since.refl rfl rfl
              | false =>
                refine Z88 ?_; refine Z150 ?_; refine Z220 ?_; refine Z27 ?_; refine Z9 ?_; refine Z138 ?_; refine Z92 ?_; refine Z150 ?_; refine qk (yl L 900 (GHeld b (uC R.pi.1 ++ rest) tyU) (.bool false) (r := GHeld b (uC R.d2 ++ rest) tyU) rfl rfl rfl rfl rfl (fun u H C hH hle hr hC => by have h := pins_ret (rest := rest) (cap := cap) (d := R.d2) (a := x) (e := y) (m := m) (by omega) (by omega) (by omega) hm1 hH hr hC; rw [hb, ← hpi] at h; exact h)) ?_; refine Z183 ?_
                exact N_mids () Since.refl (by rw [hpi]; exact hb) rfl ⟨rfl, rfl, rfl, rfl, rfl, rfl, rfl, rfl, rfl, trivial⟩
            · have hz : hintZ R.hint ≠ 1 := fun h => by
                cases hh : R.hint with
                | unknown => rw [hh] at h; cases h
                | increasing => exact hi hh
                | decreasing => rw [hh] at h; cases h
              have hpi := hpn (by simp [hi])
              rw [hpi]
              refine Z88 ?_; refine Z150 ?_; refine Z220 ?_; refine Z20 ?_; refine Z9 ?_; refine Z183 ?_
              exact N_mids () Since.refl rfl rfl ⟨rfl, rfl, rfl, rfl, rfl, rfl, rfl, rfl, rfl, trivial⟩
      intro _ h2
      obtain ⟨_, q2⟩ := u_at (rest := rest) (show R.pivot < R.pi.1.size by omega) (0 + (R.pivot) * 1) rfl
      by_cases hx0 : 0 < x
      · obtain ⟨_, q1⟩ := u_at (rest := rest) (show x - 1 < R.pi.1.size by omega) (0 + (x - 1) * 1) rfl
        have hw3 : IntKind.i64.wrap ((x : Int) - 1) = ((x - 1 : Nat) : Int) := wrap_i64 (by omega) (by omega) |>.trans (by omega)
        cases hc : lt R.pi.1[x - 1]! R.pi.1[R.pivot]! with
        | false =>
          obtain ⟨mid, d4, hx⟩ : ∃ mid d4, partitionEqual lt R.pi.1 x y R.pivot = (mid, d4) := ⟨_, _, rfl⟩
          obtain ⟨g1, g2, g3, g4, _⟩ := round_eq swo_ltInt (partitionEqual_holds lt) hx0 hpv.1 hpv.2 (by omega) B3 hc hx
          have hn := heq h2 (by simp [hx0, hc]) (by rw [hx]; exact ⟨g1, g2⟩)
          rw [hx] at hn
          refine Z131 ?_; refine Z77 ?_; refine Z3 ?_; refine Z78 ?_; refine Z148 ?_; refine Z48 ?_; refine z8 (zo L _ rfl rfl rfl rfl rfl rfl rfl (by omega)) rfl ?_; refine qg (qf L (q := 900) rfl rfl rfl rfl rfl q1) rfl rfl ?_; refine Z126 ?_; refine z8 (zo L _ rfl rfl rfl rfl rfl rfl rfl (by omega)) rfl ?_; refine qg (qf L (q := 900) rfl rfl rfl rfl rfl q2) rfl rfl ?_; refine z8 (zp L rfl rfl (zk rfl) rfl rfl rfl (fun u H hH _ _ => lessU' hc hH)) rfl ?_; refine Z58 ?_; refine Z224 ?_; refine zh ?_; refine Z95 ?_; refine Z191 ?_; refine qk (yl L 900 (GHeld b (uC d4 ++ rest) tyU) (.int .i64 mid) (r := GHeld b (uC R.pi.1 ++ rest) tyU) rfl rfl rfl rfl rfl (fun u H C hH hle hr hC => by have h := peq_ret (rest := rest) (cap := cap) (d := R.pi.1) hpv.1 hpv.2 (by omega) (m := m) (by omega) hm1 hH hr hC; rw [hx] at h; exact h)) ?_; refine Z124 ?_; refine zf (id := 19) ?_; refine Z1 ?_; refine Z122 ?_; refine Z143 ?_; refine yo ?_
          exact y8 (x := (((x, y), l), ((wb, wp), D))) (((mid, y), R.lim), ((wb, wp), d4)) ⟨by dsimp only; omega, hy, by dsimp only; omega, hlle, by dsimp only; omega, g4, hn.symm⟩ (by dsimp only; omega) ⟨rfl, rfl, rfl, rfl, rfl, rfl, rfl, trivial⟩
        | true =>
          have h2b : (decide (x > 0) && !lt R.pi.1[x - 1]! R.pi.1[R.pivot]!) = false := by simp [hc]
          obtain ⟨mid, ap, d4, hx⟩ : ∃ mid ap d4, Go.Sort.partition lt R.pi.1 x y R.pivot = (mid, ap, d4) := ⟨_, _, _, rfl⟩
          obtain ⟨g1, g2, g3, g4, g5, gL, gR⟩ := round_part swo_ltInt (partition_holds lt) hpv.1 hpv.2 (by omega) B3 hx
          have w1 : IntKind.i64.wrap ((mid : Int) - (x : Int)) = ((mid - x : Nat) : Int) := wrap_i64 (by omega) (by omega) |>.trans (by omega)
          have w2 : IntKind.i64.wrap ((y : Int) - (mid : Int)) = ((y - mid : Nat) : Int) := wrap_i64 (by omega) (by omega) |>.trans (by omega)
          have w4 : IntKind.i64.wrap ((mid : Int) + 1) = ((mid + 1 : Nat) : Int) := wrap_i64 (by omega) (by omega)
          have et : ((y - x : Nat) : Int).tdiv 8 = (((y - x) / 8 : Nat) : Int) := by
            rw [Int.tdiv_eq_ediv_of_nonneg (by omega)]
            omega
          have w3 : IntKind.i64.wrap (((y - x : Nat) : Int).tdiv 8) = (((y - x) / 8 : Nat) : Int) := by rw [et]; exact wrap_i64 (by omega) (by omega)
          by_cases hlr : mid - x < y - mid
          · have hn := hleft h2 h2b (by rw [hx]; exact ⟨g1, g2⟩) (by rw [hx]; exact hlr)
            rw [hx] at hn
            dsimp only at hn
            obtain ⟨pL, sL⟩ := pdq_sorts lt swo_ltInt d4 x mid R.lim true true g1 (by omega) g4
            obtain ⟨LL, hLL⟩ : ∃ LL, LL = pdq lt d4 x mid R.lim true true := ⟨_, rfl⟩
            rw [← hLL] at hn pL sL
            obtain ⟨gB, _⟩ := gL LL pL sL
            have hLs : LL.size = d4.size := pL.1
            by_cases h8 : mid - x ≥ (y - x) / 8
            · rw [decide_eq_true h8] at hn
              refine Z131 ?_; refine Z77 ?_; refine Z3 ?_; refine Z78 ?_; refine Z148 ?_; refine Z48 ?_; refine z8 (zo L _ rfl rfl rfl rfl rfl rfl rfl (by omega)) rfl ?_; refine qg (qf L (q := 900) rfl rfl rfl rfl rfl q1) rfl rfl ?_; refine Z126 ?_; refine z8 (zo L _ rfl rfl rfl rfl rfl rfl rfl (by omega)) rfl ?_; refine qg (qf L (q := 900) rfl rfl rfl rfl rfl q2) rfl rfl ?_; refine z8 (zp L rfl rfl (zk rfl) rfl rfl rfl (fun u H hH _ _ => lessU' hc hH)) rfl ?_; refine Z58 ?_; refine Z261 ?_; refine Z81 ?_; refine Z191 ?_; refine qk (yl L 900 (GHeld b (uC d4 ++ rest) tyU) (.tuple #[.int .i64 mid, .bool ap]) (r := GHeld b (uC R.pi.1 ++ rest) tyU) rfl rfl rfl rfl rfl (fun u H C hH hle hr hC => by have h := part_ret (rest := rest) (cap := cap) (d := R.pi.1) hpv.1 hpv.2 (by omega) (m := m) (by omega) hm1 hH hr hC; rw [hx] at h; exact h)) ?_; refine Z196 ?_; refine Z101 ?_; refine Z1 ?_; refine Z245 ?_; refine Z174 ?_; refine Z174 ?_; refine Z154 ?_; refine Z246 ?_; refine Z41 ?_; refine Z264 ?_; refine Z205 ?_; refine Z138 ?_; refine zf (id := 25) ?_; refine Z123 ?_; refine Z30 ?_; refine Z124 ?_; refine zf (id := 26) ?_; refine Z191 ?_; refine qk (ok_callG L 900 (GHeld b (uC LL ++ rest) tyU) (r := GHeld b (uC d4 ++ rest) tyU) rfl rfl rfl rfl rfl (fun u H C hH _ hr hC => by rw [hLL]; exact ih (by omega) g1 (by omega) (by omega) hm1 hlle g4 hH hr hC)) ?_; refine Z121 ?_; refine zf (id := 27) ?_; refine Z243 ?_; refine Z160 ?_
              exact y8 (x := (((x, y), l), ((wb, wp), D))) (((mid + 1, y), R.lim), ((true, ap), LL)) ⟨by dsimp only; omega, hy, by dsimp only; omega, hlle, by dsimp only; omega, gB, hn.symm⟩ (by dsimp only; omega) ⟨rfl, rfl, rfl, rfl, rfl, rfl, rfl, trivial⟩
            · rw [decide_eq_false h8] at hn
              refine Z131 ?_; refine Z77 ?_; refine Z3 ?_; refine Z78 ?_; refine Z148 ?_; refine Z48 ?_; refine z8 (zo L _ rfl rfl rfl rfl rfl rfl rfl (by omega)) rfl ?_; refine qg (qf L (q := 900) rfl rfl rfl rfl rfl q1) rfl rfl ?_; refine Z126 ?_; refine z8 (zo L _ rfl rfl rfl rfl rfl rfl rfl (by omega)) rfl ?_; refine qg (qf L (q := 900) rfl rfl rfl rfl rfl q2) rfl rfl ?_; refine z8 (zp L rfl rfl (zk rfl) rfl rfl rfl (fun u H hH _ _ => lessU' hc hH)) rfl ?_; refine Z58 ?_; refine Z261 ?_; refine Z81 ?_; refine Z191 ?_; refine qk (yl L 900 (GHeld b (uC d4 ++ rest) tyU) (.tuple #[.int .i64 mid, .bool ap]) (r := GHeld b (uC R.pi.1 ++ rest) tyU) rfl rfl rfl rfl rfl (fun u H C hH hle hr hC => by have h := part_ret (rest := rest) (cap := cap) (d := R.pi.1) hpv.1 hpv.2 (by omega) (m := m) (by omega) hm1 hH hr hC; rw [hx] at h; exact h)) ?_; refine Z196 ?_; refine Z101 ?_; refine Z1 ?_; refine Z245 ?_; refine Z174 ?_; refine Z174 ?_; refine Z154 ?_; refine Z246 ?_; refine Z41 ?_; refine Z264 ?_; refine Z205 ?_; refine Z138 ?_; refine zf (id := 25) ?_; refine Z123 ?_; refine Z39 ?_; refine Z124 ?_; refine zf (id := 26) ?_; refine Z191 ?_; refine qk (ok_callG L 900 (GHeld b (uC LL ++ rest) tyU) (r := GHeld b (uC d4 ++ rest) tyU) rfl rfl rfl rfl rfl (fun u H C hH _ hr hC => by rw [hLL]; exact ih (by omega) g1 (by omega) (by omega) hm1 hlle g4 hH hr hC)) ?_; refine Z121 ?_; refine zf (id := 27) ?_; refine Z243 ?_; refine Z160 ?_
              exact y8 (x := (((x, y), l), ((wb, wp), D))) (((mid + 1, y), R.lim), ((false, ap), LL)) ⟨by dsimp only; omega, hy, by dsimp only; omega, hlle, by dsimp only; omega, gB, hn.symm⟩ (by dsimp only; omega) ⟨rfl, rfl, rfl, rfl, rfl, rfl, rfl, trivial⟩
          · have hn := hright h2 h2b (by rw [hx]; exact ⟨g1, g2⟩) (by rw [hx]; exact hlr)
            rw [hx] at hn
            dsimp only at hn
            obtain ⟨pL, sL⟩ := pdq_sorts lt swo_ltInt d4 (mid + 1) y R.lim true true (by omega) (by omega) g5
            obtain ⟨LL, hLL⟩ : ∃ LL, LL = pdq lt d4 (mid + 1) y R.lim true true := ⟨_, rfl⟩
            rw [← hLL] at hn pL sL
            obtain ⟨gB, _⟩ := gR LL pL sL
            have hLs : LL.size = d4.size := pL.1
            by_cases h8 : y - mid ≥ (y - x) / 8
            · rw [decide_eq_true h8] at hn
              refine Z131 ?_; refine Z77 ?_; refine Z3 ?_; refine Z78 ?_; refine Z148 ?_; refine Z48 ?_; refine z8 (zo L _ rfl rfl rfl rfl rfl rfl rfl (by omega)) rfl ?_; refine qg (qf L (q := 900) rfl rfl rfl rfl rfl q1) rfl rfl ?_; refine Z126 ?_; refine z8 (zo L _ rfl rfl rfl rfl rfl rfl rfl (by omega)) rfl ?_; refine qg (qf L (q := 900) rfl rfl rfl rfl rfl q2) rfl rfl ?_; refine z8 (zp L rfl rfl (zk rfl) rfl rfl rfl (fun u H hH _ _ => lessU' hc hH)) rfl ?_; refine Z58 ?_; refine Z261 ?_; refine Z81 ?_; refine Z191 ?_; refine qk (yl L 900 (GHeld b (uC d4 ++ rest) tyU) (.tuple #[.int .i64 mid, .bool ap]) (r := GHeld b (uC R.pi.1 ++ rest) tyU) rfl rfl rfl rfl rfl (fun u H C hH hle hr hC => by have h := part_ret (rest := rest) (cap := cap) (d := R.pi.1) hpv.1 hpv.2 (by omega) (m := m) (by omega) hm1 hH hr hC; rw [hx] at h; exact h)) ?_; refine Z196 ?_; refine Z101 ?_; refine Z1 ?_; refine Z245 ?_; refine Z174 ?_; refine Z174 ?_; refine Z154 ?_; refine Z246 ?_; refine Z41 ?_; refine Z264 ?_; refine Z274 ?_; refine zh ?_; refine zf (id := 28) ?_; refine Z123 ?_; refine Z30 ?_; refine Z124 ?_; refine zf (id := 29) ?_; refine Z235 ?_; refine Z123 ?_; refine qk (ok_callG L 900 (GHeld b (uC LL ++ rest) tyU) (r := GHeld b (uC d4 ++ rest) tyU) rfl rfl rfl rfl rfl (fun u H C hH _ hr hC => by rw [hLL]; exact ih (by omega) (by omega) hy (by omega) hm1 hlle g5 hH hr hC)) ?_; refine Z121 ?_; refine zf (id := 30) ?_; refine Z1 ?_; refine Z160 ?_
              exact y8 (x := (((x, y), l), ((wb, wp), D))) (((x, mid), R.lim), ((true, ap), LL)) ⟨by dsimp only; omega, by dsimp only; omega, by dsimp only; omega, hlle, by dsimp only; omega, gB, hn.symm⟩ (by dsimp only; omega) ⟨rfl, rfl, rfl, rfl, rfl, rfl, rfl, trivial⟩
            · rw [decide_eq_false h8] at hn
              refine Z131 ?_; refine Z77 ?_; refine Z3 ?_; refine Z78 ?_; refine Z148 ?_; refine Z48 ?_; refine z8 (zo L _ rfl rfl rfl rfl rfl rfl rfl (by omega)) rfl ?_; refine qg (qf L (q := 900) rfl rfl rfl rfl rfl q1) rfl rfl ?_; refine Z126 ?_; refine z8 (zo L _ rfl rfl rfl rfl rfl rfl rfl (by omega)) rfl ?_; refine qg (qf L (q := 900) rfl rfl rfl rfl rfl q2) rfl rfl ?_; refine z8 (zp L rfl rfl (zk rfl) rfl rfl rfl (fun u H hH _ _ => lessU' hc hH)) rfl ?_; refine Z58 ?_; refine Z261 ?_; refine Z81 ?_; refine Z191 ?_; refine qk (yl L 900 (GHeld b (uC d4 ++ rest) tyU) (.tuple #[.int .i64 mid, .bool ap]) (r := GHeld b (uC R.pi.1 ++ rest) tyU) rfl rfl rfl rfl rfl (fun u H C hH hle hr hC => by have h := part_ret (rest := rest) (cap := cap) (d := R.pi.1) hpv.1 hpv.2 (by omega) (m := m) (by omega) hm1 hH hr hC; rw [hx] at h; exact h)) ?_; refine Z196 ?_; refine Z101 ?_; refine Z1 ?_; refine Z245 ?_; refine Z174 ?_; refine Z174 ?_; refine Z154 ?_; refine Z246 ?_; refine Z41 ?_; refine Z264 ?_; refine Z274 ?_; refine zh ?_; refine zf (id := 28) ?_; refine Z123 ?_; refine Z39 ?_; refine Z124 ?_; refine zf (id := 29) ?_; refine Z235 ?_; refine Z123 ?_; refine qk (ok_callG L 900 (GHeld b (uC LL ++ rest) tyU) (r := GHeld b (uC d4 ++ rest) tyU) rfl rfl rfl rfl rfl (fun u H C hH _ hr hC => by rw [hLL]; exact ih (by omega) (by omega) hy (by omega) hm1 hlle g5 hH hr hC)) ?_; refine Z121 ?_; refine zf (id := 30) ?_; refine Z1 ?_; refine Z160 ?_
              exact y8 (x := (((x, y), l), ((wb, wp), D))) (((x, mid), R.lim), ((false, ap), LL)) ⟨by dsimp only; omega, by dsimp only; omega, by dsimp only; omega, hlle, by dsimp only; omega, gB, hn.symm⟩ (by dsimp only; omega) ⟨rfl, rfl, rfl, rfl, rfl, rfl, rfl, trivial⟩
      · have h2b : (decide (x > 0) && !lt R.pi.1[x - 1]! R.pi.1[R.pivot]!) = false := by simp [hx0]
        obtain ⟨mid, ap, d4, hx⟩ : ∃ mid ap d4, Go.Sort.partition lt R.pi.1 x y R.pivot = (mid, ap, d4) := ⟨_, _, _, rfl⟩
        obtain ⟨g1, g2, g3, g4, g5, gL, gR⟩ := round_part swo_ltInt (partition_holds lt) hpv.1 hpv.2 (by omega) B3 hx
        have w1 : IntKind.i64.wrap ((mid : Int) - (x : Int)) = ((mid - x : Nat) : Int) := wrap_i64 (by omega) (by omega) |>.trans (by omega)
        have w2 : IntKind.i64.wrap ((y : Int) - (mid : Int)) = ((y - mid : Nat) : Int) := wrap_i64 (by omega) (by omega) |>.trans (by omega)
        have w4 : IntKind.i64.wrap ((mid : Int) + 1) = ((mid + 1 : Nat) : Int) := wrap_i64 (by omega) (by omega)
        have et : ((y - x : Nat) : Int).tdiv 8 = (((y - x) / 8 : Nat) : Int) := by
          rw [Int.tdiv_eq_ediv_of_nonneg (by omega)]
          omega
        have w3 : IntKind.i64.wrap (((y - x : Nat) : Int).tdiv 8) = (((y - x) / 8 : Nat) : Int) := by rw [et]; exact wrap_i64 (by omega) (by omega)
        by_cases hlr : mid - x < y - mid
        · have hn := hleft h2 h2b (by rw [hx]; exact ⟨g1, g2⟩) (by rw [hx]; exact hlr)
          rw [hx] at hn
          dsimp only at hn
          obtain ⟨pL, sL⟩ := pdq_sorts lt swo_ltInt d4 x mid R.lim true true g1 (by omega) g4
          obtain ⟨LL, hLL⟩ : ∃ LL, LL = pdq lt d4 x mid R.lim true true := ⟨_, rfl⟩
          rw [← hLL] at hn pL sL
          obtain ⟨gB, _⟩ := gL LL pL sL
          have hLs : LL.size = d4.size := pL.1
          by_cases h8 : mid - x ≥ (y - x) / 8
          · rw [decide_eq_true h8] at hn
            refine Z131 ?_; refine Z77 ?_; refine Z3 ?_; refine Z83 ?_; refine Z253 ?_; refine Z4 ?_; refine Z261 ?_; refine Z81 ?_; refine Z191 ?_; refine qk (yl L 900 (GHeld b (uC d4 ++ rest) tyU) (.tuple #[.int .i64 mid, .bool ap]) (r := GHeld b (uC R.pi.1 ++ rest) tyU) rfl rfl rfl rfl rfl (fun u H C hH hle hr hC => by have h := part_ret (rest := rest) (cap := cap) (d := R.pi.1) hpv.1 hpv.2 (by omega) (m := m) (by omega) hm1 hH hr hC; rw [hx] at h; exact h)) ?_; refine Z196 ?_; refine Z101 ?_; refine Z1 ?_; refine Z245 ?_; refine Z174 ?_; refine Z174 ?_; refine Z154 ?_; refine Z246 ?_; refine Z41 ?_; refine Z264 ?_; refine Z205 ?_; refine Z138 ?_; refine zf (id := 25) ?_; refine Z123 ?_; refine Z30 ?_; refine Z124 ?_; refine zf (id := 26) ?_; refine Z191 ?_; refine qk (ok_callG L 900 (GHeld b (uC LL ++ rest) tyU) (r := GHeld b (uC d4 ++ rest) tyU) rfl rfl rfl rfl rfl (fun u H C hH _ hr hC => by rw [hLL]; exact ih (by omega) g1 (by omega) (by omega) hm1 hlle g4 hH hr hC)) ?_; refine Z121 ?_; refine zf (id := 27) ?_; refine Z243 ?_; refine Z160 ?_
            exact y8 (x := (((x, y), l), ((wb, wp), D))) (((mid + 1, y), R.lim), ((true, ap), LL)) ⟨by dsimp only; omega, hy, by dsimp only; omega, hlle, by dsimp only; omega, gB, hn.symm⟩ (by dsimp only; omega) ⟨rfl, rfl, rfl, rfl, rfl, rfl, rfl, trivial⟩
          · rw [decide_eq_false h8] at hn
            refine Z131 ?_; refine Z77 ?_; refine Z3 ?_; refine Z83 ?_; refine Z253 ?_; refine Z4 ?_; refine Z261 ?_; refine Z81 ?_; refine Z191 ?_; refine qk (yl L 900 (GHeld b (uC d4 ++ rest) tyU) (.tuple #[.int .i64 mid, .bool ap]) (r := GHeld b (uC R.pi.1 ++ rest) tyU) rfl rfl rfl rfl rfl (fun u H C hH hle hr hC => by have h := part_ret (rest := rest) (cap := cap) (d := R.pi.1) hpv.1 hpv.2 (by omega) (m := m) (by omega) hm1 hH hr hC; rw [hx] at h; exact h)) ?_; refine Z196 ?_; refine Z101 ?_; refine Z1 ?_; refine Z245 ?_; refine Z174 ?_; refine Z174 ?_; refine Z154 ?_; refine Z246 ?_; refine Z41 ?_; refine Z264 ?_; refine Z205 ?_; refine Z138 ?_; refine zf (id := 25) ?_; refine Z123 ?_; refine Z39 ?_; refine Z124 ?_; refine zf (id := 26) ?_; refine Z191 ?_; refine qk (ok_callG L 900 (GHeld b (uC LL ++ rest) tyU) (r := GHeld b (uC d4 ++ rest) tyU) rfl rfl rfl rfl rfl (fun u H C hH _ hr hC => by rw [hLL]; exact ih (by omega) g1 (by omega) (by omega) hm1 hlle g4 hH hr hC)) ?_; refine Z121 ?_; refine zf (id := 27) ?_; refine Z243 ?_; refine Z160 ?_
            exact y8 (x := (((x, y), l), ((wb, wp), D))) (((mid + 1, y), R.lim), ((false, ap), LL)) ⟨by dsimp only; omega, hy, by dsimp only; omega, hlle, by dsimp only; omega, gB, hn.symm⟩ (by dsimp only; omega) ⟨rfl, rfl, rfl, rfl, rfl, rfl, rfl, trivial⟩
        · have hn := hright h2 h2b (by rw [hx]; exact ⟨g1, g2⟩) (by rw [hx]; exact hlr)
          rw [hx] at hn
          dsimp only at hn
          obtain ⟨pL, sL⟩ := pdq_sorts lt swo_ltInt d4 (mid + 1) y R.lim true true (by omega) (by omega) g5
          obtain ⟨LL, hLL⟩ : ∃ LL, LL = pdq lt d4 (mid + 1) y R.lim true true := ⟨_, rfl⟩
          rw [← hLL] at hn pL sL
          obtain ⟨gB, _⟩ := gR LL pL sL
          have hLs : LL.size = d4.size := pL.1
          by_cases h8 : y - mid ≥ (y - x) / 8
          · rw [decide_eq_true h8] at hn
            refine Z131 ?_; refine Z77 ?_; refine Z3 ?_; refine Z83 ?_; refine Z253 ?_; refine Z4 ?_; refine Z261 ?_; refine Z81 ?_; refine Z191 ?_; refine qk (yl L 900 (GHeld b (uC d4 ++ rest) tyU) (.tuple #[.int .i64 mid, .bool ap]) (r := GHeld b (uC R.pi.1 ++ rest) tyU) rfl rfl rfl rfl rfl (fun u H C hH hle hr hC => by have h := part_ret (rest := rest) (cap := cap) (d := R.pi.1) hpv.1 hpv.2 (by omega) (m := m) (by omega) hm1 hH hr hC; rw [hx] at h; exact h)) ?_; refine Z196 ?_; refine Z101 ?_; refine Z1 ?_; refine Z245 ?_; refine Z174 ?_; refine Z174 ?_; refine Z154 ?_; refine Z246 ?_; refine Z41 ?_; refine Z264 ?_; refine Z274 ?_; refine zh ?_; refine zf (id := 28) ?_; refine Z123 ?_; refine Z30 ?_; refine Z124 ?_; refine zf (id := 29) ?_; refine Z235 ?_; refine Z123 ?_; refine qk (ok_callG L 900 (GHeld b (uC LL ++ rest) tyU) (r := GHeld b (uC d4 ++ rest) tyU) rfl rfl rfl rfl rfl (fun u H C hH _ hr hC => by rw [hLL]; exact ih (by omega) (by omega) hy (by omega) hm1 hlle g5 hH hr hC)) ?_; refine Z121 ?_; refine zf (id := 30) ?_; refine Z1 ?_; refine Z160 ?_
            exact y8 (x := (((x, y), l), ((wb, wp), D))) (((x, mid), R.lim), ((true, ap), LL)) ⟨by dsimp only; omega, by dsimp only; omega, by dsimp only; omega, hlle, by dsimp only; omega, gB, hn.symm⟩ (by dsimp only; omega) ⟨rfl, rfl, rfl, rfl, rfl, rfl, rfl, trivial⟩
          · rw [decide_eq_false h8] at hn
            refine Z131 ?_; refine Z77 ?_; refine Z3 ?_; refine Z83 ?_; refine Z253 ?_; refine Z4 ?_; refine Z261 ?_; refine Z81 ?_; refine Z191 ?_; refine qk (yl L 900 (GHeld b (uC d4 ++ rest) tyU) (.tuple #[.int .i64 mid, .bool ap]) (r := GHeld b (uC R.pi.1 ++ rest) tyU) rfl rfl rfl rfl rfl (fun u H C hH hle hr hC => by have h := part_ret (rest := rest) (cap := cap) (d := R.pi.1) hpv.1 hpv.2 (by omega) (m := m) (by omega) hm1 hH hr hC; rw [hx] at h; exact h)) ?_; refine Z196 ?_; refine Z101 ?_; refine Z1 ?_; refine Z245 ?_; refine Z174 ?_; refine Z174 ?_; refine Z154 ?_; refine Z246 ?_; refine Z41 ?_; refine Z264 ?_; refine Z274 ?_; refine zh ?_; refine zf (id := 28) ?_; refine Z123 ?_; refine Z39 ?_; refine Z124 ?_; refine zf (id := 29) ?_; refine Z235 ?_; refine Z123 ?_; refine qk (ok_callG L 900 (GHeld b (uC LL ++ rest) tyU) (r := GHeld b (uC d4 ++ rest) tyU) rfl rfl rfl rfl rfl (fun u H C hH _ hr hC => by rw [hLL]; exact ih (by omega) (by omega) hy (by omega) hm1 hlle g5 hH hr hC)) ?_; refine Z121 ?_; refine zf (id := 30) ?_; refine Z1 ?_; refine Z160 ?_
            exact y8 (x := (((x, y), l), ((wb, wp), D))) (((x, mid), R.lim), ((false, ap), LL)) ⟨by dsimp only; omega, by dsimp only; omega, by dsimp only; omega, hlle, by dsimp only; omega, gB, hn.symm⟩ (by dsimp only; omega) ⟨rfl, rfl, rfl, rfl, rfl, rfl, rfl, trivial⟩
end Go.V.So
set_option maxRecDepth 20000
namespace Go.V.So
open Go.Proofs Go.RowKit Go.V Go.Sort
theorem _root_.Go.V.Z86 {A B : Prop} (h : B) (t : Wr B → A := by intro h; refine z7 (ok_lenL L rfl rfl rfl rfl) rfl ?_; exact h.h) : A := t ⟨h⟩
attribute [local irreducible] V N X VO Par StepOK Has Ret RetL RetO RetG RetX Src
set_option maxRecDepth 20000 in
theorem sortU_ret {d : Array Int} {rest : List Value} {b m cap : Nat} (hm : d.size = m) (hm1 : m ≤ 100000) {w : World} {B : Heap} {C : Nat → Prop} (hB : B.Le (hp w))
    (hr : (GHeld b (uC d ++ rest) tyU).P B w C) (hC : ∀ k, C k → k < w.heap.size ∧ B k = none) :
    RetG Tryz.prog 44 [.slice (some ⟨b, 0, none⟩) m cap] w B C (GHeld b (uC (Go.Sort.sort lt d) ++ rest) tyU) := by
  unfold RetG
  refine V_enterG 900 (GHeld b (uC d ++ rest) tyU) Tryz.func44 rfl Tryz.ntmps44 (Nat.le_of_ble_eq_true rfl) hB hr hC ?_
  rw [gheld_res]
  have hc : IntKind.u64.wrap (m : Int) = (m : Int) := wrap_u64 (by omega) (by omega)
  have hb17 : bitsLen m ≤ 17 := (bitsLen_le_iff m 17).2 (by omega)
  refine Z130 ?_; refine Z1 ?_; refine Z86 ?_; refine Z122 ?_; refine Z17 ?_; refine Z150 ?_; refine z7 (ok_conv rfl rfl rfl cv3_153.1 cv3_153.2 (wrap_u64 (by omega) (by omega))) rfl ?_; refine z7 (zp L rfl rfl (zk rfl) rfl rfl rfl (fun u H hH _ _ => bitslen_ret (by omega) hH)) rfl ?_; refine qk (ok_callG L 900 (GHeld b (uC (Go.Sort.sort lt d) ++ rest) tyU) (r := GHeld b (uC d ++ rest) tyU) rfl rfl rfl rfl rfl (fun u H C hH _ hr hC => by have h := pdq_ret (rest := rest) (cap := cap) (m := m) (d := d) (a := 0) (e := m) (lim := bitsLen m) (m + 1) (by omega) (by omega) (by omega) hm hm1 (by omega) (Or.inl rfl) hH hr hC; unfold Go.Sort.sort; rw [hm]; exact h)) ?_; refine zi ?_
  exact N_retGhost L 900 (r := GHeld b _ tyU) rfl (fun _ _ h => h) Since.refl rfl rfl
end Go.V.So
set_option maxRecDepth 20000
namespace Go.V
open Go.RowKit
section
variable {P : Program} {F : Fr} {B : Heap} {O : Boxes} {n : Nat} {ops : Array Oper} {κ : Kap} {d : Nat} {ty : TypeId} {pos : String} {aft : Array Edge} {g : Option (Nat × Bool)} {a : Act} {u : World} {H : Heap} {fp : Nat → Nat → Prop} {os : List Oper} {Q : Exit → Act → World → Prop} {ex : Exs}
theorem cell_held {b : Nat} {cs : List Value} {t : TypeId} (hb : u.heap[b]? = some (.cells cs.toArray t)) (off j : Nat) : u.cell? ((⟨b, off, none⟩ : Addr).add j) = cs[off + j]? := by
  rw [addr_add, cell_of_heap hb]; simp
theorem drop_take_at {cs news : List Value} {off k j : Nat} {v : Value} (hn : news = (cs.drop off).take k) (hj : news[j]? = some v) : cs[off + j]? = some v := by
  subst hn
  rw [List.getElem?_take] at hj
  split at hj
  · rwa [List.getElem?_drop] at hj
  · cases hj
theorem run_copy_at {t ti e : TypeId} {i : TypeInfo} {b off m c k : Nat} {cur : List Value} {ty0 : TypeId} {ad : Addr} {m' c' : Nat} {news : List Value} (ht : P.underlying t = some (.slice e)) (hi : P.info? e = some i) (hb : u.heap[b]? = some (.cells cur.toArray ty0)) (hl : news.length = k * i.size) (hk : Nat.min m' m = k) (hcl : off + news.length ≤ cur.length)
    (h1 : ∀ v ∈ news, v.oneCell' = true) (hy : ∀ j v, news[j]? = some v → u.cell? (ad.add j) = some v) :
    (Builtin.copy_ #[t, ti] ty #[.slice (some ⟨b, off, none⟩) m c, .slice (some ad) m' c']).run P u = .ok (goInt k) (u.setRow b (cur.take off ++ (news ++ cur.drop (off + news.length))).toArray) := by
  have hf := run_firstCells_some (P := P) u i.size k ad m' c' news hl hy
  have hst := run_storeCells_at (P := P) b ty0 off news 0 cur.toArray u hb (by simpa using hcl) h1
  simp only [Nat.add_zero, List.append_assoc] at hst
  simp [Builtin.copy_, run_underlying ht, Builtin.lenOf, sizeOf, typeInfo, hi, hk, hf, hst]
theorem ok_copyA (L : Tabs P) {q b off m c m' : Nat} {x y : Operand} {t e ti t' : TypeId} {s by_ : Nat} {cur all news cur' : List Value} (k : Nat) (hn : Nat.blt d n = true) (hg : gK ops κ ⟨some d, .call ⟨.builtin .copy, #[x, y], #[t, ti]⟩, ty, pos, aft, g⟩ = some true)
    (hx : evK κ x = some (.slice (some ⟨b, off, none⟩) m c)) (hq : κ q = some (.own (HeldR b cur t'))) (hy : Apd F B O κ y m' all) (ht : L.sl t = some e) (he : elI P e = some (s, by_)) (hm : 0 < m') (hk : Nat.min m' m = k) (hal : k * s ≤ all.length) (hnews : all.take (k * s) = news) (hcl : off + k * s ≤ cur.length) (h1 : news.all plainV = true)
    (hr : cur.take off ++ (news ++ cur.drop (off + k * s)) = cur') :
    StepOK2 P F B n ops O κ ⟨some d, .call ⟨.builtin .copy, #[x, y], #[t, ti]⟩, ty, pos, aft, g⟩ q (.own (HeldR b cur' t')) d (.is (.int .i64 k)) := by
  rintro κ' a u hlk hks ⟨H, fp, hh⟩
  unfold After
  rw [if_pos (wanted_gK hh hlk hg)]
  have en := hh.env hlk
  have hk' : κ' q = some (.own (HeldR b cur t')) := hks.trans hq
  have hxe := en.is_ x _ (by simp [Op.operands, Call.operands]) hx
  obtain ⟨⟨hb, hC⟩, hM⟩ := hh.slot q _ hk'
  obtain ⟨i, z, hi, hz, hs1, hs2, hs3, hs4⟩ := elI_spec he
  subst hs1
  have hnl : news.length = k * i.size := by rw [← hnews, List.length_take, Nat.min_eq_left hal]
  rcases hy _ a u H fp (by simp [Op.operands, Call.operands]) en with ⟨h0, _⟩ | ⟨ad, c', hye, hcy⟩
  · omega
  have hrun0 := run_copy_at (P := P) (ty := ty) (ti := ti) (c := c) (c' := c') (Tabs.sl_spec ht) hi hb hnl hk (by rw [hnl]; exact hcl) (fun v hv => plain_one (List.all_eq_true.1 h1 v hv)) (ad := ad) (fun j v hj => hcy j v (by
    rw [← hnews, List.getElem?_take] at hj
    split at hj
    · exact hj
    · cases hj))
  rw [hnl, hr] at hrun0
  have hrun : (execOp a.eval ⟨some d, .call ⟨.builtin .copy, #[x, y], #[t, ti]⟩, ty, pos, aft, g⟩).run P u = .ok (.value (goInt k)) (u.setRow b cur'.toArray) := by
    simp only [execOp, resolve, invoke, builtin, Sem.run_bind, Sem.run_pure, Result.andThen_ok, List.map_toArray, List.map_cons, List.map_nil, hxe, hye, hrun0]
  rw [hrun]
  simp only [Upon]
  have hbm := hM b ((hC b).2 rfl)
  have h2 := hh.usePut (d := q) (a' := a) (r' := HeldR b cur' t') (C := fun k => k = b) hk' (grow_setRow hh.sub hb ((hC b).2 rfl) hbm.2.1 _) rfl rfl (fun _ _ => rfl) ⟨setRow_heap u b cur.toArray cur'.toArray t' (0, 0) hb, fun _ => Iff.rfl⟩ (fun k hk => by
    subst hk; exact ⟨.inl ((hC k).2 rfl), by rw [setRow_size]; exact hbm.1, hbm.2.1⟩)
  rw [upd_upd] at h2
  exact ⟨H, _, h2.put (k := .is (.int .i64 k)) (zk hn) trivial rfl⟩
theorem ok_copyHH (L : Tabs P) {q b off m c off2 m' c' : Nat} {x y : Operand} {t e ti t' : TypeId} {s by_ : Nat} {cur news cur' : List Value} (k : Nat) (hn : Nat.blt d n = true) (hg : gK ops κ ⟨some d, .call ⟨.builtin .copy, #[x, y], #[t, ti]⟩, ty, pos, aft, g⟩ = some true)
    (hx : evK κ x = some (.slice (some ⟨b, off, none⟩) m c)) (hq : κ q = some (.own (HeldR b cur t'))) (hy : evK κ y = some (.slice (some ⟨b, off2, none⟩) m' c')) (ht : L.sl t = some e) (he : elI P e = some (s, by_)) (hk : Nat.min m' m = k) (hnews : (cur.drop off2).take (k * s) = news) (hnl : news.length = k * s) (hcl : off + k * s ≤ cur.length) (h1 : news.all plainV = true)
    (hr : cur.take off ++ (news ++ cur.drop (off + k * s)) = cur') :
    StepOK2 P F B n ops O κ ⟨some d, .call ⟨.builtin .copy, #[x, y], #[t, ti]⟩, ty, pos, aft, g⟩ q (.own (HeldR b cur' t')) d (.is (.int .i64 k)) := by
  rintro κ' a u hlk hks ⟨H, fp, hh⟩
  unfold After
  rw [if_pos (wanted_gK hh hlk hg)]
  have en := hh.env hlk
  have hk' : κ' q = some (.own (HeldR b cur t')) := hks.trans hq
  have hxe := en.is_ x _ (by simp [Op.operands, Call.operands]) hx
  have hye := en.is_ y _ (by simp [Op.operands, Call.operands]) hy
  obtain ⟨⟨hb, hC⟩, hM⟩ := hh.slot q _ hk'
  obtain ⟨i, z, hi, hz, hs1, hs2, hs3, hs4⟩ := elI_spec he
  subst hs1
  have hrun0 := run_copy_at (P := P) (ty := ty) (ti := ti) (c := c) (c' := c') (Tabs.sl_spec ht) hi hb hnl hk (by rw [hnl]; exact hcl) (fun v hv => plain_one (List.all_eq_true.1 h1 v hv)) (ad := ⟨b, off2, none⟩) (fun j v hj => (cell_held hb off2 j).trans (drop_take_at hnews.symm hj))
  rw [hnl, hr] at hrun0
  have hrun : (execOp a.eval ⟨some d, .call ⟨.builtin .copy, #[x, y], #[t, ti]⟩, ty, pos, aft, g⟩).run P u = .ok (.value (goInt k)) (u.setRow b cur'.toArray) := by
    simp only [execOp, resolve, invoke, builtin, Sem.run_bind, Sem.run_pure, Result.andThen_ok, List.map_toArray, List.map_cons, List.map_nil, hxe, hye, hrun0]
  rw [hrun]
  simp only [Upon]
  have hbm := hM b ((hC b).2 rfl)
  have h2 := hh.usePut (d := q) (a' := a) (r' := HeldR b cur' t') (C := fun k => k = b) hk' (grow_setRow hh.sub hb ((hC b).2 rfl) hbm.2.1 _) rfl rfl (fun _ _ => rfl) ⟨setRow_heap u b cur.toArray cur'.toArray t' (0, 0) hb, fun _ => Iff.rfl⟩ (fun k hk => by
    subst hk; exact ⟨.inl ((hC k).2 rfl), by rw [setRow_size]; exact hbm.1, hbm.2.1⟩)
  rw [upd_upd] at h2
  exact ⟨H, _, h2.put (k := .is (.int .i64 k)) (zk hn) trivial rfl⟩
theorem ok_appendHH (L : Tabs P) {q b nn cap off2 m' c' : Nat} {x y : Operand} {t e : TypeId} {s by_ : Nat} {cur news cur' : List Value} (hn : Nat.blt d n = true) (hg : gK ops κ ⟨some d, .call ⟨.builtin .append, #[x, y], #[t, t]⟩, ty, pos, aft, g⟩ = some true)
    (hx : evK κ x = some (.slice (some ⟨b, 0, none⟩) nn cap)) (hq : κ q = some (.own (HeldR b cur e))) (hy : evK κ y = some (.slice (some ⟨b, off2, none⟩) m' c')) (ht : L.sl t = some e) (he : elI P e = some (s, by_)) (hnews : (cur.drop off2).take (m' * s) = news) (hnl : news.length = m' * s) (hroom : nn + m' ≤ cap) (hcl : nn * s + m' * s ≤ cur.length) (h1 : news.all plainV = true)
    (hr : cur.take (nn * s) ++ (news ++ cur.drop (nn * s + m' * s)) = cur') :
    StepOK2 P F B n ops O κ ⟨some d, .call ⟨.builtin .append, #[x, y], #[t, t]⟩, ty, pos, aft, g⟩ q (.own (HeldR b cur' e)) d (.is (.slice (some ⟨b, 0, none⟩) (nn + m') cap)) := by
  rintro κ' a u hlk hks ⟨H, fp, hh⟩
  unfold After
  rw [if_pos (wanted_gK hh hlk hg)]
  have en := hh.env hlk
  have hk' : κ' q = some (.own (HeldR b cur e)) := hks.trans hq
  have hxe := en.is_ x _ (by simp [Op.operands, Call.operands]) hx
  have hye := en.is_ y _ (by simp [Op.operands, Call.operands]) hy
  obtain ⟨⟨hb, hC⟩, hM⟩ := hh.slot q _ hk'
  obtain ⟨i, z, hi, hz, hs1, hs2, hs3, hs4⟩ := elI_spec he
  subst hs1
  have hrun0 := run_append_room (P := P) u t ty e i (Tabs.sl_spec ht) hi b nn cap cur.toArray hb ⟨b, off2, none⟩ m' c' news hnl (fun j v hj => (cell_held hb off2 j).trans (drop_take_at hnews.symm hj)) (fun v hv => plain_one (List.all_eq_true.1 h1 v hv)) hroom (by rw [hnl]; simpa using hcl)
  rw [hnl] at hrun0
  simp only [List.append_assoc] at hrun0
  rw [hr] at hrun0
  have hrun : (execOp a.eval ⟨some d, .call ⟨.builtin .append, #[x, y], #[t, t]⟩, ty, pos, aft, g⟩).run P u = .ok (.value (.slice (some ⟨b, 0, none⟩) (nn + m') cap)) (u.setRow b cur'.toArray) := by
    simp only [execOp, resolve, invoke, builtin, Sem.run_bind, Sem.run_pure, Result.andThen_ok, List.map_toArray, List.map_cons, List.map_nil, hxe, hye, hrun0]
  rw [hrun]
  simp only [Upon]
  have hbm := hM b ((hC b).2 rfl)
  have h2 := hh.usePut (d := q) (a' := a) (r' := HeldR b cur' e) (C := fun k => k = b) hk' (grow_setRow hh.sub hb ((hC b).2 rfl) hbm.2.1 _) rfl rfl (fun _ _ => rfl) ⟨setRow_heap u b cur.toArray cur'.toArray e (0, 0) hb, fun _ => Iff.rfl⟩ (fun k hk => by
    subst hk; exact ⟨.inl ((hC k).2 rfl), by rw [setRow_size]; exact hbm.1, hbm.2.1⟩)
  rw [upd_upd] at h2
  exact ⟨H, _, h2.put (k := .is _) (zk hn) trivial rfl⟩
theorem ok_appendZ (L : Tabs P) {q b nn cap k : Nat} {x y : Operand} {t ti e t' : TypeId} {s by_ : Nat} {kn : IntKind} {cur xs zs : List Value} {z : Value} (hn : Nat.blt d n = true) (hg : gK ops κ ⟨some d, .call ⟨.builtin .append, #[x, y], #[t, ti]⟩, ty, pos, aft, g⟩ = some true)
    (hx : evK κ x = some (.slice (some ⟨b, 0, none⟩) nn cap)) (hq : κ q = some (.own (HeldR b cur t'))) (hy : evK κ y = some (.int .i64 k)) (ht : L.sl t = some e) (hti : P.underlying ti = some (.int kn)) (he : elI P e = some (s, by_)) (hz : L.zr e = some z) (h0 : 0 < k) (hg2 : cap < nn + k) (hxs : cur.take (nn * s) = xs) (hxl : nn * s ≤ cur.length) (hzs : (Builtin.zeroCells z.cells k).toList = zs)
    (hb : (nn + k) * by_ ≤ 140737488355328) (h63 : nn + k ≤ 4611686018427387904) :
    StepOKR P F B n ops O κ ⟨some d, .call ⟨.builtin .append, #[x, y], #[t, ti]⟩, ty, pos, aft, g⟩ q d (.own (SlR e s (nn + k) (xs ++ zs))) := by
  rintro κ' a u hlk hks ⟨H, fp, hh⟩
  unfold After
  rw [if_pos (wanted_gK hh hlk hg)]
  have en := hh.env hlk
  have hk' : κ' q = some (.own (HeldR b cur t')) := hks.trans hq
  have hxe := en.is_ x _ (by simp [Op.operands, Call.operands]) hx
  have hye := en.is_ y _ (by simp [Op.operands, Call.operands]) hy
  obtain ⟨⟨hbb, hC⟩, hM⟩ := hh.slot q _ hk'
  obtain ⟨i, z', hi, hz', hs1, hs2, hs3, hs4⟩ := elI_spec he
  have hzz : i.zero = some z := by
    have := Tabs.zr_spec hz
    unfold zrI at this
    rw [hi] at this
    exact this
  rw [hz'] at hzz
  obtain rfl := Option.some.inj hzz
  subst hs1
  subst hs2
  have hold : (Builtin.firstCells i.size nn (.slice (some ⟨b, 0, none⟩) nn cap)).run P u.drew = .ok xs.toArray u.drew := run_firstCells_some (P := P) u.drew i.size nn ⟨b, 0, none⟩ nn cap xs (by rw [← hxs, List.length_take, Nat.min_eq_left hxl]) fun j v hj => by
    have hb2 : u.drew.heap[b]? = some (.cells cur.toArray t') := hbb
    rw [cell_held hb2 0 j, Nat.zero_add]
    rw [← hxs, List.getElem?_take] at hj
    split at hj
    · exact hj
    · cases hj
  have hkb : k * i.bytes ≤ (nn + k) * i.bytes := Nat.mul_le_mul_right _ (by omega)
  have hns := growslice_fits hg2 hb
  have hr := Lib.run_append_grow_zeros (P := P) u t ti ty e i z' .i64 kn (Tabs.sl_spec ht) hti hi hz' (some ⟨b, 0, none⟩) nn cap xs hold k h0 hs4 hg2 (by omega) (by omega) hns
  have hrun : (execOp a.eval ⟨some d, .call ⟨.builtin .append, #[x, y], #[t, ti]⟩, ty, pos, aft, g⟩).run P u = .ok (.value (.slice (some ⟨u.heap.size, 0, none⟩) (nn + k) (grownCap u (nn + k) cap e))) (u.drew.alloc (.cells (xs.toArray ++ Builtin.zeroCells z'.cells k ++ Builtin.zeroCells z'.cells (grownCap u (nn + k) cap e - (nn + k))) e)) := by
    simp only [execOp, resolve, invoke, builtin, Sem.run_bind, Sem.run_pure, Result.andThen_ok, List.map_toArray, List.map_cons, List.map_nil, hxe, hye, hr]
  rw [hrun]
  simp only [Upon]
  have hge := grownCap_ge u (nn + k) cap e
  have hmx : nn + k ≤ maxLen := by simp only [maxLen]; omega
  have hxl2 : xs.length = nn * i.size := by rw [← hxs, List.length_take, Nat.min_eq_left hxl]
  have hzl : zs.length = k * i.size := by rw [← hzs, Array.length_toList, size_zeroCells, hs3]
  have hg3 := hh.grow (u' := u.drew.alloc (.cells (xs.toArray ++ Builtin.zeroCells z'.cells k ++ Builtin.zeroCells z'.cells (grownCap u (nn + k) cap e - (nn + k))) e)) (H' := H) ⟨⟨rfl, rfl, rfl, by simp, fun k hk _ => heap_push_lt u.drew _ hk, Nat.le_succ _⟩, fun k v hv => by
    have := hh.sub.size hv
    show (u.drew.alloc _).heap[k]? = some v
    rw [heap_push_lt u.drew _ this]; exact hh.sub k v hv, Heap.Le.refl _, fun _ _ _ => rfl⟩
  refine ⟨H, _, hg3.putR (C := fun k => k = u.heap.size) (by simp [Act.put]) rfl (fun t ht => eval_put_other ht) ⟨by rw [List.length_append, hxl2, hzl, Nat.add_mul], .inr ⟨u.heap.size, _, (Builtin.zeroCells z'.cells (grownCap u (nn + k) cap e - (nn + k))).toList, eval_put_same (by rw [hh.size]; exact zk hn), ?_, hge, grownCap_le_maxLen u (nn + k) cap e hmx, ?_, fun _ => Iff.rfl⟩⟩ (fun k hk => ?_) fun t r' htd ht k hf hk => ?_⟩
  · rw [show u.heap.size = u.drew.heap.size from rfl, heap_alloc_new]
    congr 2
    apply Array.ext'
    simp [← hzs]
  · have hz2 : (Builtin.zeroCells z'.cells (grownCap u (nn + k) cap e - (nn + k))).toList.length = (grownCap u (nn + k) cap e - (nn + k)) * i.size := (Array.length_toList).trans (by rw [size_zeroCells, hs3])
    rw [List.length_append, List.length_append, hz2, hxl2, hzl, ← Nat.add_mul, ← Nat.add_mul]
    congr 1
    omega
  · subst hk
    exact ⟨by simp, none_of_ge hh.sub (Nat.le_refl _), .inl hh.keep.size, fun y hy e => by have := size_of_heap (hh.boxes y hy).1; omega⟩
  · have := ((hh.slot t _ ht).2 k hf).1
    omega
theorem ok_overlaps (L : Tabs P) {q w b off m f len cap : Nat} {y : Operand} {t e t' : TypeId} {ag : Bool} {s : Nat} {cur cs : List Value} {te : TypeId} {fo : Operand} {tR : TypeId} (hn : Nat.blt d n = true) {at_ : Array TypeId} (hg : gK ops κ ⟨some d, .call { callee := .value fo, args := #[.tmp w, y], argTypes := at_ }, ty, pos, aft, g⟩ = some true)
    (hfo : evK κ fo = some (.func (.func f) #[] #[])) (hext : ∀ args u, (callFunc f args).run P u = ((Extern.SlicesOverlaps.overlaps #[t, t] #[tR] args).run P u).andThen fun v w' => .ok (.value v) w')
    (hx : κ w = some (.sat (SlB cs te len))) (hy : evK κ y = some (.slice (some ⟨b, off, none⟩) m cap)) (hq : κ q = some (.own (HeldR b cur t'))) (ht : L.sl t = some e) (hl : L.ld e = some (ag, s)) (hc : 0 < cur.length) :
    StepOKR P F B n ops O κ ⟨some d, .call { callee := .value fo, args := #[.tmp w, y], argTypes := at_ }, ty, pos, aft, g⟩ q d (.is (.bool false)) := by
  rintro κ' a u hlk hks ⟨H, fp, hh⟩
  unfold After
  rw [if_pos (wanted_gK hh hlk hg)]
  have en := hh.env hlk
  have hk' : κ' q = some (.own (HeldR b cur t')) := hks.trans hq
  have hfe : a.eval fo = .func (.func f) #[] #[] := en.is_ fo _ (by simp [Op.operands, Call.operands]) hfo
  have hye := en.is_ y _ (by simp [Op.operands, Call.operands]) hy
  obtain ⟨b2, hxe, hb2⟩ := en.sat_ w _ (by simp [Op.operands, Call.operands]) hx
  obtain ⟨⟨hbb, hC⟩, hM⟩ := hh.slot q _ hk'
  have hbm := hM b ((hC b).2 rfl)
  have hne : b2 ≠ b := fun e => by subst e; rw [hbm.2.1] at hb2; cases hb2
  have hb2' := en.sub _ _ hb2
  have hsz : ∀ w, (Go.sizeOf e).run P w = .ok s w := run_sizeOf (Tabs.ld_spec hl)
  have hr := Lib.run_overlaps_apart (P := P) u t tR e (Tabs.sl_spec ht) s hsz ⟨b2, 0, none⟩ ⟨b, off, none⟩ len len m cap hne te t' cs.length cur.length
    (by simp [World.shape?, hp] at hb2' ⊢; simp [hb2']) (by simp [World.shape?, hbb]) (by omega) (by simp [World.frozen?, hp] at hb2' ⊢; simp [hb2']) (by simp [World.frozen?, hp] at hb2' ⊢; simp [hb2'])
  have hrun : (execOp a.eval ⟨some d, .call { callee := .value fo, args := #[.tmp w, y], argTypes := at_ }, ty, pos, aft, g⟩).run P u = .ok (.value (.bool false)) u := by
    simp only [execOp, resolve, hfe, Deferred.ofValue, Sem.run_bind, Sem.run_pure, Result.andThen_ok, invoke]
    simp [hext, hxe, hye, hr]
  rw [hrun]
  simp only [Upon]
  exact ⟨H, fp, hh.put (k := .is (.bool false)) (zk hn) trivial rfl⟩
theorem ok_sliceNl (L : Tabs P) {x y : Operand} {tt e : TypeId} {s : Nat} {k : IntKind} {ag : Bool} (hn : Nat.blt d n = true) (hg : gK ops κ ⟨some d, .slice tt x (some y) none none, ty, pos, aft, g⟩ = some true)
    (hx : evK κ x = some (.slice none 0 0)) (ht : L.sl tt = some e) (hl : L.ld e = some (ag, s)) {p : Int} (hy : evK κ y = some (.int k p)) (hp : p = (0 : Nat)) :
    StepOK P F B n ops O κ ⟨some d, .slice tt x (some y) none none, ty, pos, aft, g⟩ d (.is (.slice none 0 0)) :=
  ok_pure rfl (zk hn) hg trivial fun a u H fp en => ⟨_, by
    have hu := Tabs.sl_spec ht
    have h1 := en.is_ x _ (by simp [Op.operands]) hx
    have h2 := en.is_ y _ (by simp [Op.operands]) hy
    subst hp
    have hrun : (Instr.sliceBounds true 0 0 (some (a.eval y)) none none).run P u = .ok (0, 0, 0) u := by
      have h4 := fun c w => run_bound (P := P) 0 k 0 c (Nat.le_refl _) w
      simp only [h2, Instr.sliceBounds, Sem.run_bind, h4, Result.andThen_ok, Sem.run_pure]
    simp only [execOp, h1, Instr.sliceAt, Instr.slice, Sem.run_bind, run_underlying hu, Result.andThen_ok, Option.map_none, Option.map_some, hrun, run_sizeOf (Tabs.ld_spec hl)]
    rfl, rfl⟩
theorem ok_slice3 (L : Tabs P) {x y1 y2 y3 : Operand} {tt e : TypeId} {s m b off cap : Nat} {k1 k2 k3 : IntKind} {ag : Bool} (i j l : Nat) {p1 p2 p3 : Int} (hn : Nat.blt d n = true) (hg : gK ops κ ⟨some d, .slice tt x (some y1) (some y2) (some y3), ty, pos, aft, g⟩ = some true)
    (hx : evK κ x = some (.slice (some ⟨b, off, none⟩) m cap)) (ht : L.sl tt = some e) (hl : L.ld e = some (ag, s)) (h1 : evK κ y1 = some (.int k1 p1)) (h2 : evK κ y2 = some (.int k2 p2)) (h3 : evK κ y3 = some (.int k3 p3)) (e1 : p1 = i) (e2 : p2 = j) (e3 : p3 = l)
    (hij : i ≤ j) (hjl : j ≤ l) (hlc : l ≤ cap) :
    StepOK P F B n ops O κ ⟨some d, .slice tt x (some y1) (some y2) (some y3), ty, pos, aft, g⟩ d (.is (.slice (some (if l = i then ⟨b, off, none⟩ else ⟨b, off + i * s, none⟩)) (j - i) (l - i))) :=
  ok_pure rfl (zk hn) hg trivial fun a u H fp en => ⟨_, by
    have hu := Tabs.sl_spec ht
    subst e1 e2 e3
    have q0 := en.is_ x _ (by simp [Op.operands]) hx
    have q1 := en.is_ y1 _ (by simp [Op.operands]) h1
    have q2 := en.is_ y2 _ (by simp [Op.operands]) h2
    have q3 := en.is_ y3 _ (by simp [Op.operands]) h3
    have hrun : (Instr.sliceBounds true m cap (some (a.eval y1)) (some (a.eval y2)) (some (a.eval y3))).run P u = .ok (i, j, l) u := by
      simp [q1, q2, q3, Instr.sliceBounds, run_bound i k1 _ _ hij, run_bound j k2 _ _ hjl, run_bound l k3 _ _ hlc]
    simp only [execOp, q0, Instr.sliceAt, Instr.slice, Sem.run_bind, run_underlying hu, Result.andThen_ok, Option.map_some, hrun, run_sizeOf (Tabs.ld_spec hl), Sem.run_pure]
    congr 3
    split <;> simp [Addr.add], rfl⟩
end
end Go.V
