/- Texts on the way to StoresKnown, part 5: one behind another. -/
import Derived.Test.YtcppaheijljnfaaGreatStoresKnownM4
set_option linter.unusedVariables false
set_option linter.unusedSimpArgs false
set_option maxRecDepth 20000
namespace Go.V.L10
open Go.Proofs Go.RowKit Go.V
theorem _root_.Go.V.Z87 {A B : Prop} (h : B) (t : Wr B → A := by intro h; refine z7 (ok_shr rfl rfl rfl rfl (by omega) (by assumption)) rfl ?_; exact h.h) : A := t ⟨h⟩
abbrev tyPn : TypeId := 137
abbrev tyU6 : TypeId := 49
def pnc (p : Int × Int) : List Value := [.int .u64 p.1, .int .i64 p.2]
theorem pnc_len (p : Int × Int) : (pnc p).length = 2 := rfl
theorem pnc_plain (l : List (Int × Int)) : (l.flatMap pnc).all plainV = true := by
  rw [List.all_eq_true]
  intro v hv
  obtain ⟨x, _, hx⟩ := List.mem_flatMap.1 hv
  simp only [pnc, List.mem_cons, List.mem_nil_iff, or_false] at hx
  rcases hx with rfl | rfl <;> rfl
abbrev PsV (l : List (Int × Int)) : Value → Heap → Prop := SlV tyPn 2 (l.flatMap pnc) l.length false
theorem pn_at {l : List (Int × Int)} {i : Nat} {x : Int × Int} (h : l[i]? = some x) : ((l.flatMap pnc).drop (i * 2)).take 2 = [.int .u64 x.1, .int .i64 x.2] := flatMap_at pnc_len l i x h
abbrev RsV (l : List Int) (fu : Bool) : Value → Heap → Prop := SlV tyU6 1 (l.map (Value.int .u64)) l.length fu
theorem rs_at {l : List Int} {i : Nat} {x : Int} (h : l[i]? = some x) : ((l.map (Value.int .u64)).drop (i * 1)).take 1 = [.int .u64 x] := by
  rw [Nat.mul_one, List.take_one]
  simp [List.head?_drop, h]
attribute [local irreducible] V N X VO Par StepOK Has Ret RetL RetO RetG RetX Src
theorem cmpU_ret (a b : Int) {w : World} {B : Heap} (hB : B.Le (hp w)) : Ret Tryz.prog 130 [.int .u64 a, .int .u64 b] w B (fun v _ => v = .int .i64 (cP a b)) := by
  unfold cP
  refine y7 Tryz.func130 rfl Tryz.ntmps130 (Nat.le_of_ble_eq_true rfl) hB ?_
  by_cases h : a < b
  · rw [if_pos h]
    refine Z251 ?_; refine z7 (zp L rfl rfl (zk rfl) rfl rfl rfl (fun u H hH _ _ => So.isnanU _ hH)) rfl ?_; refine Z208 ?_; refine z7 (zp L rfl rfl (zk rfl) rfl rfl rfl (fun u H hH _ _ => So.isnanU _ hH)) rfl ?_; refine Z295 ?_; refine Z151 ?_; refine Z176 ?_; refine Z151 ?_; refine Z61 ?_; refine Z205 ?_; refine Z138 ?_; refine Z74 ?_; refine Z122 ?_
    refine y9 L (rs := [.tmp 4]) rfl (fun _ _ h => h) Since.refl fun u H hH hle => ?_
    rfl
  · rw [if_neg h]
    by_cases h2 : b < a
    · rw [if_pos h2]
      refine Z251 ?_; refine z7 (zp L rfl rfl (zk rfl) rfl rfl rfl (fun u H hH _ _ => So.isnanU _ hH)) rfl ?_; refine Z208 ?_; refine z7 (zp L rfl rfl (zk rfl) rfl rfl rfl (fun u H hH _ _ => So.isnanU _ hH)) rfl ?_; refine Z295 ?_; refine Z151 ?_; refine Z176 ?_; refine Z151 ?_; refine Z296 ?_; refine Z11 ?_; refine Z151 ?_; refine Z64 ?_; refine Z123 ?_; refine Z37 ?_; refine Z138 ?_; refine Z80 ?_; refine Z122 ?_
      refine y9 L (rs := [.tmp 4]) rfl (fun _ _ h => h) Since.refl fun u H hH hle => ?_
      rfl
    · rw [if_neg h2]
      refine Z251 ?_; refine z7 (zp L rfl rfl (zk rfl) rfl rfl rfl (fun u H hH _ _ => So.isnanU _ hH)) rfl ?_; refine Z208 ?_; refine z7 (zp L rfl rfl (zk rfl) rfl rfl rfl (fun u H hH _ _ => So.isnanU _ hH)) rfl ?_; refine Z295 ?_; refine Z151 ?_; refine Z176 ?_; refine Z151 ?_; refine Z296 ?_; refine Z11 ?_; refine Z151 ?_; refine Z64 ?_; refine Z123 ?_; refine Z29 ?_; refine Z133 ?_; refine Z76 ?_; refine Z122 ?_
      refine y9 L (rs := [.tmp 4]) rfl (fun _ _ h => h) Since.refl fun u H hH hle => ?_
      rfl
theorem find1_ret (a n b : Int) {w : World} {B : Heap} (hB : B.Le (hp w)) : Ret Tryz.prog 129 [.agg #[.int .u64 a, .int .i64 n], .int .u64 b] w B (fun v _ => v = .int .i64 (cP a b)) := by
  refine y7 Tryz.func129 rfl Tryz.ntmps129 (Nat.le_of_ble_eq_true rfl) hB ?_
  refine Z146 ?_; refine Z169 ?_; refine Z186 ?_; refine Z1 ?_; refine z7 (zp L rfl rfl (zk rfl) rfl rfl rfl (fun u H hH _ _ => cmpU_ret _ _ hH)) rfl ?_; refine Z122 ?_
  refine y9 L (rs := [.tmp 4]) rfl (fun _ _ h => h) Since.refl fun u H hH hle => ?_
  rfl
abbrev BSP : Nat := 128
abbrev fvP : Value := .func (.func 129) #[] #[]
set_option maxHeartbeats 2000000 in
theorem bsp_ret {L0 : List Int} {r : Int} (hz : (pinsOf L0).length ≤ 100000) {v : Value} {w : World} {B : Heap} (hB : B.Le (hp w)) (hv : PsV (pinsOf L0) v B) :
    Ret Tryz.prog BSP [v, .int .u64 r, fvP] w B (fun v _ => v = .tuple #[.int .i64 (posS cP r (heldL L0) : Nat), .bool (decide (r ∈ heldL L0))]) := by
  have hs := sst_heldL L0
  obtain ⟨l, hl⟩ : ∃ l, l = heldL L0 := ⟨_, rfl⟩
  obtain ⟨ps, hps⟩ : ∃ ps, ps = pinsOf L0 := ⟨_, rfl⟩
  have hat : ∀ (i : Nat) (x : Int), l[i]? = some x → ps[i]? = some (x, (L0.count x : Int)) := fun i x h => by subst hl hps; exact pinsOf_at h
  have hlen : ps.length = l.length := by subst hl hps; exact pinsOf_length L0
  rw [← hl] at hs ⊢
  rw [← hps] at hv hz
  clear hl hps
  refine y7 Tryz.func128 rfl Tryz.ntmps128 (Nat.le_of_ble_eq_true rfl) hB ?_
  refine V_seen 0 (PsV ps) rfl SlV.mono hv ?_
  refine Z307 ?_; refine Z17 ?_; refine Z139 ?_; refine Z208 ?_; refine Z154 ?_; refine qe ?_
  refine V_loop (fun s : Nat × Nat => [(0, .sat (PsV ps)), (2, .is fvP), (1, .is (.int .u64 r)), (8, .is (.int .i64 ps.length)), (9, .is (.int .i64 s.1)), (10, .is (.int .i64 s.2))])
    (fun s => s.1 ≤ s.2 ∧ s.2 ≤ l.length ∧ (∀ (k : Nat) (x : Int), k < s.1 → l[k]? = some x → cP x r < 0) ∧ ∀ (k : Nat) (x : Int), s.2 ≤ k → l[k]? = some x → ¬ cP x r < 0) (fun s => s.2 - s.1) (0, ps.length) ⟨Nat.zero_le _, Nat.le_of_eq hlen, fun k x h => (by cases h), fun k x h hx => (by rw [List.getElem?_eq_none (by dsimp only at h; omega)] at hx; cases hx)⟩ ⟨rfl, rfl, rfl, rfl, rfl, rfl, trivial⟩ ?_
  rintro ⟨i, j⟩ ⟨hij, hjl, hlo, hhi⟩
  dsimp only at hij hjl hlo hhi ⊢
  by_cases hlt : i < j
  · obtain ⟨h, hh⟩ : ∃ h, h = (i + j) / 2 := ⟨_, rfl⟩
    have hsh : ((i : Int) + (j : Int)).fdiv (2 ^ min (1 : Int).toNat IntKind.u64.bits) = (h : Int) := by
      show ((i : Int) + (j : Int)).fdiv 2 = (h : Int)
      rw [Int.fdiv_eq_ediv_of_nonneg _ (by decide)]
      omega
    obtain ⟨y, hy⟩ := get_some (show h < l.length by omega)
    have hc := pn_at (hat h y hy)
    by_cases hcm : cP y r < 0
    · refine Z194 ?_; refine Z8 ?_; refine Z195 ?_; refine Z262 ?_; refine Z26 ?_; refine z7 (ok_conv rfl rfl rfl cv3_153.1 cv3_153.2 (wrap_u64 (by omega) (by omega))) rfl ?_; refine Z87 ?_; refine z7 (ok_conv rfl rfl rfl cv153_3.1 cv153_3.2 (wrap_i64 (by omega) (by omega))) rfl ?_; refine Z124 ?_; refine Z166 ?_; refine Z7 ?_; refine Z1 ?_; refine z7 (ye L _ rfl rfl rfl rfl rfl rfl rfl (by first | omega | decide) (by assumption)) rfl ?_; refine z7 (yn L (vs := [_, _]) rfl rfl rfl rfl rfl ⟨_, rfl⟩) rfl ?_; refine Z1 ?_; refine z7 (zp L rfl rfl (zk rfl) rfl rfl rfl (fun u H hH _ _ => find1_ret _ _ _ hH)) rfl ?_; refine Z8 ?_; refine Z129 ?_; refine Z172 ?_; refine Z26 ?_; refine Z160 ?_
      exact y8 (x := (i, j)) (h + 1, j) ⟨by dsimp only; omega, hjl, fun k x hk hx => sst_before cP_ord hs hy hx (by dsimp only at hk; omega) hcm, hhi⟩ (by dsimp only; omega) ⟨rfl, rfl, rfl, rfl, rfl, rfl, trivial⟩
    · refine Z194 ?_; refine Z8 ?_; refine Z195 ?_; refine Z262 ?_; refine Z26 ?_; refine z7 (ok_conv rfl rfl rfl cv3_153.1 cv3_153.2 (wrap_u64 (by omega) (by omega))) rfl ?_; refine Z87 ?_; refine z7 (ok_conv rfl rfl rfl cv153_3.1 cv153_3.2 (wrap_i64 (by omega) (by omega))) rfl ?_; refine Z124 ?_; refine Z166 ?_; refine Z7 ?_; refine Z1 ?_; refine z7 (ye L _ rfl rfl rfl rfl rfl rfl rfl (by first | omega | decide) (by assumption)) rfl ?_; refine z7 (yn L (vs := [_, _]) rfl rfl rfl rfl rfl ⟨_, rfl⟩) rfl ?_; refine Z1 ?_; refine z7 (zp L rfl rfl (zk rfl) rfl rfl rfl (fun u H hH _ _ => find1_ret _ _ _ hH)) rfl ?_; refine Z182 ?_; refine Z176 ?_; refine Z160 ?_
      exact y8 (x := (i, j)) (i, h) ⟨by dsimp only; omega, by dsimp only; omega, hlo, fun k x hk hx hcx => hcm (sst_before cP_ord hs hx hy hk hcx)⟩ (by dsimp only; omega) ⟨rfl, rfl, rfl, rfl, rfl, rfl, trivial⟩
  · obtain rfl : i = j := by omega
    rw [posS_at cP_ord hs hlo hhi hjl]
    by_cases hin : i < l.length
    · obtain ⟨y, hy⟩ := get_some hin
      have hc := pn_at (hat i y hy)
      have hm := mem_at cP_ord hs hlo hy hhi
      by_cases hcm : cP y r = 0
      · rw [decide_eq_true (hm.2 hcm)]
        refine Z194 ?_; refine Z232 ?_; refine Z57 ?_; refine Z150 ?_; refine Z8 ?_; refine Z123 ?_; refine Z7 ?_; refine Z1 ?_; refine z7 (ye L _ rfl rfl rfl rfl rfl rfl rfl (by first | omega | decide) (by assumption)) rfl ?_; refine z7 (yn L (vs := [_, _]) rfl rfl rfl rfl rfl ⟨_, rfl⟩) rfl ?_; refine Z1 ?_; refine z7 (zp L rfl rfl (zk rfl) rfl rfl rfl (fun u H hH _ _ => find1_ret _ _ _ hH)) rfl ?_; refine Z27 ?_; refine Z9 ?_; refine Z173 ?_
        refine y9 L (rs := [.tmp 6, .tmp 7]) rfl (fun _ _ h => h) Since.refl fun u H hH hle => ?_
        rfl
      · rw [decide_eq_false fun h => hcm (hm.1 h)]
        refine Z194 ?_; refine Z232 ?_; refine Z57 ?_; refine Z150 ?_; refine Z8 ?_; refine Z123 ?_; refine Z7 ?_; refine Z1 ?_; refine z7 (ye L _ rfl rfl rfl rfl rfl rfl rfl (by first | omega | decide) (by assumption)) rfl ?_; refine z7 (yn L (vs := [_, _]) rfl rfl rfl rfl rfl ⟨_, rfl⟩) rfl ?_; refine Z1 ?_; refine z7 (zp L rfl rfl (zk rfl) rfl rfl rfl (fun u H hH _ _ => find1_ret _ _ _ hH)) rfl ?_; refine Z20 ?_; refine Z9 ?_; refine Z173 ?_
        refine y9 L (rs := [.tmp 6, .tmp 7]) rfl (fun _ _ h => h) Since.refl fun u H hH hle => ?_
        rfl
    · obtain rfl : i = l.length := by omega
      rw [decide_eq_false (not_mem_end cP_ord hlo)]
      refine Z194 ?_; refine Z232 ?_; refine Z57 ?_; refine Z150 ?_; refine Z11 ?_; refine Z267 ?_; refine Z152 ?_; refine Z152 ?_; refine Z9 ?_; refine Z173 ?_
      refine y9 L (rs := [.tmp 6, .tmp 7]) rfl (fun _ _ h => h) Since.refl fun u H hH hle => ?_
      rfl
abbrev pnv (s : Value) (t : Nat) : Value := .agg #[s, .int .i64 t]
set_option maxHeartbeats 1000000 in
theorem find_ret {L0 : List Int} {r : Int} {t : Nat} (hz : L0.length ≤ 100000) {s : Value} {w : World} {B : Heap} (hB : B.Le (hp w)) (hv : PsV (pinsOf L0) s B) :
    Ret Tryz.prog 88 [pnv s t, .int .u64 r] w B (fun v _ => v = .tuple #[.int .i64 (posS cP r (heldL L0) : Nat), .bool (decide (r ∈ heldL L0))]) := by
  have hz2 : (pinsOf L0).length ≤ 100000 := by rw [pinsOf_length]; exact Nat.le_trans (heldL_length _) hz
  obtain ⟨p, c, rfl⟩ := slv_shJ hv
  refine y7 Tryz.func88 rfl Tryz.ntmps88 (Nat.le_of_ble_eq_true rfl) hB ?_
  refine Z146 ?_; refine Z154 ?_; refine Z17 ?_; refine Z186 ?_; refine Z1 ?_; refine z7 (zp L rfl rfl (zk rfl) rfl rfl rfl (fun u H hH hle _ => bsp_ret hz2 hH (hv.le hle))) rfl ?_; refine Z141 ?_; refine Z173 ?_
  refine y9 L (rs := [.tmp 4, .tmp 5]) rfl (fun _ _ h => h) Since.refl fun u H hH hle => ?_
  rfl
theorem held_count {L0 : List Int} {r : Int} (h : r ∈ heldL L0) : (pinsOf L0)[posS cP r (heldL L0)]? = some (r, (L0.count r : Int)) := pinsOf_at (pos_mem cP_ord (sst_heldL L0) h)
set_option maxHeartbeats 1000000 in
theorem count_ret {L0 : List Int} {r : Int} {t : Nat} (hz : L0.length ≤ 100000) {s : Value} {w : World} {B : Heap} (hB : B.Le (hp w)) (hv : PsV (pinsOf L0) s B) :
    Ret Tryz.prog 58 [pnv s t, .int .u64 r] w B (fun v _ => v = .int .i64 (L0.count r : Nat)) := by
  obtain ⟨p, c, rfl⟩ := slv_shJ hv
  refine y7 Tryz.func58 rfl Tryz.ntmps58 (Nat.le_of_ble_eq_true rfl) hB ?_
  by_cases h : r ∈ heldL L0
  · have hf : decide (r ∈ heldL L0) = true := decide_eq_true h
    have hp := held_count h
    have hlt := get_lt hp
    have hc := pn_at hp
    refine Z305 ?_; refine z7 (zt L (vs := [_, _]) (qt rfl) rfl rfl rfl rfl ⟨_, rfl⟩) rfl ?_; refine Z1 ?_; refine z7 (zp L rfl rfl (zk rfl) rfl rfl rfl (fun u H hH hle _ => hf ▸ find_ret (t := t) hz hH (hv.le hle))) rfl ?_; refine Z196 ?_; refine Z155 ?_; refine Z138 ?_; refine Z28 ?_; refine Z36 ?_; refine z7 (StepOK.seeV (qh L (qt rfl) rfl rfl rfl rfl) (by assumption)) rfl ?_; refine Z1 ?_; refine z7 (ye L _ rfl rfl rfl rfl rfl rfl rfl (by first | omega | decide) (by assumption)) rfl ?_; refine z7 (ok_fieldAP L rfl rfl rfl rfl) rfl ?_; refine Z102 ?_; refine Z122 ?_
    refine y9 L (rs := [.tmp 4]) rfl (fun _ _ h => h) Since.refl fun u H hH hle => ?_
    rfl
  · have hf : decide (r ∈ heldL L0) = false := decide_eq_false h
    have hc0 : L0.count r = 0 := List.count_eq_zero.2 fun hm => h (mem_heldL.2 hm)
    rw [hc0]
    refine Z305 ?_; refine z7 (zt L (vs := [_, _]) (qt rfl) rfl rfl rfl rfl ⟨_, rfl⟩) rfl ?_; refine Z1 ?_; refine z7 (zp L rfl rfl (zk rfl) rfl rfl rfl (fun u H hH hle _ => hf ▸ find_ret (t := t) hz hH (hv.le hle))) rfl ?_; refine Z196 ?_; refine Z155 ?_; refine Z133 ?_; refine Z34 ?_; refine Z122 ?_
    refine y9 L (rs := [.tmp 4]) rfl (fun _ _ h => h) Since.refl fun u H hH hle => ?_
    rfl
end Go.V.L10
set_option maxRecDepth 20000
namespace Go.V.L10
open Go.Proofs Go.RowKit Go.V
attribute [local irreducible] V N X VO Par StepOK Has Ret RetL RetO RetG RetX Src
theorem clipR_ret {l : List Int} {fu : Bool} {v : Value} {w : World} {B : Heap} (hB : B.Le (hp w)) (hv : RsV l fu v B) : Ret Tryz.prog 83 [v] w B (RsV l true) := by
  refine y7 Tryz.func83 rfl Tryz.ntmps83 (Nat.le_of_ble_eq_true rfl) hB ?_
  refine V_seen 0 (RsV l fu) rfl SlV.mono hv ?_
  refine Z206 ?_; refine Z7 ?_; refine Z139 ?_; refine Z139 ?_; refine Z104 ?_; refine Z52 ?_; refine Z121 ?_
  refine y9 L (rs := [.tmp 2]) rfl (fun _ _ h => h) Since.refl fun u H hH hle => ?_
  exact fun v hv => hv
theorem rs_snoc {l : List Int} {x : Int} : some (Kn.own (SlR tyU6 1 (l.length + 1) (l.map (Value.int .u64) ++ [.int .u64 x]))) = some (Kn.own (SlR tyU6 1 (l ++ [x]).length ((l ++ [x]).map (Value.int .u64)))) := by
  rw [List.map_append, List.length_append]; rfl
set_option maxHeartbeats 1000000 in
set_option maxRecDepth 10000 in
theorem goes_ret {L0 R : List Int} {t keep : Nat} {fu : Bool} (hz : L0.length ≤ 100000) (hR : R.length ≤ 100000) (hkp : keep ≤ 100000) {s v : Value} {w : World} {B : Heap} (hB : B.Le (hp w)) (hv : PsV (pinsOf L0) s B) (hr : RsV R fu v B) :
    Ret Tryz.prog 52 [pnv s t, v, .int .i64 keep] w B (RsV (goesR L0 R keep) true) := by
  obtain ⟨p, c, rfl⟩ := slv_shJ hv
  obtain ⟨n1, hn1⟩ : ∃ n1, n1 = R.length - keep := ⟨_, rfl⟩
  have hmx : (if (0 : Int) > (keep : Int) then (0 : Int) else (keep : Int)) = (keep : Int) := if_neg (by omega)
  have hmn : (if (R.length : Int) < (keep : Int) then (R.length : Int) else (keep : Int)) = (min R.length keep : Nat) := by split <;> omega
  have hsub : IntKind.i64.wrap ((R.length : Int) - (min R.length keep : Nat)) = (n1 : Int) := wrap_i64 (by omega) (by omega) |>.trans (by omega)
  have hys : ((R.map (Value.int .u64)).drop (0 * 1)).take ((n1 - 0) * 1) = (R.take n1).map (Value.int .u64) := by simp
  obtain ⟨g, hg⟩ : ∃ g, g = R.take n1 := ⟨_, rfl⟩
  have hgl : g.length = n1 := by rw [hg, List.length_take]; omega
  have hgo : goesR L0 R keep = g.filter fun r => decide (L0.count r = 0) := by unfold goesR; rw [hg, hn1]
  rw [← hg] at hys
  rw [hgo]
  clear hg hgo
  refine y7 Tryz.func52 rfl Tryz.ntmps52 (Nat.le_of_ble_eq_true rfl) hB ?_
  refine V_seen 1 (RsV R fu) rfl SlV.mono hr ?_
  refine Z146 ?_; refine Z169 ?_; refine Z132 ?_
  refine V_nilR 7 tyU6 1 rfl ?_
  refine Z31 ?_; refine Z7 ?_; refine Z139 ?_; refine Z1 ?_; refine z7 (ok_max rfl rfl rfl rfl (by assumption)) rfl ?_; refine Z139 ?_; refine z7 (ok_min rfl rfl rfl rfl (by assumption)) rfl ?_; refine Z19 ?_; refine z7 (ok_sliceV L (kl := .i64) (pl := 0) (km := .i64) (pm := 0) 0 _ false rfl rfl rfl rfl rfl rfl ⟨rfl, rfl⟩ (fun h => by cases h) (by omega) (by omega) (by assumption)) rfl ?_; refine Z25 ?_; refine Z266 ?_
  refine V_imp 19 (RsV g false) rfl SlV.mono (fun v H h => by unfold RsV; rw [hgl]; exact h) ?_
  refine V_loop (fun y : Nat × List Int => [(3, .sat (At [.slice p (pinsOf L0).length c, .int .i64 t] 74 0)), (7, .own (SlR tyU6 1 y.2.length (y.2.map (Value.int .u64)))), (19, .sat (RsV g false)), (20, .is (.int .i64 n1)), (21, .is (.int .i64 y.1))])
    (fun y => y.1 ≤ g.length ∧ y.2 = (g.take y.1).filter fun r => decide (L0.count r = 0)) (fun y => g.length - y.1) (0, []) ⟨Nat.zero_le _, rfl⟩ ⟨rfl, rfl, rfl, rfl, rfl, trivial⟩ ?_
  rintro ⟨k, out⟩ ⟨hk, hout⟩
  dsimp only at hk hout ⊢
  have hol : out.length ≤ k := by rw [hout]; exact Nat.le_trans (List.length_filter_le ..) (by rw [List.length_take]; omega)
  by_cases hlt : k < g.length
  · obtain ⟨x, hx⟩ := get_some hlt
    have hc := rs_at hx
    have htk := take_snoc hx
    have hwk : IntKind.i64.wrap ((k : Int) + 1) = ((k + 1 : Nat) : Int) := wrap_i64 (by omega) (by omega)
    by_cases h0 : L0.count x = 0
    · have ho : out ++ [x] = (g.take (k + 1)).filter fun r => decide (L0.count r = 0) := by rw [htk, List.filter_append, ← hout]; simp [h0]
      refine zh ?_; refine Z28 ?_; refine Z193 ?_; refine Z34 ?_; refine z7 (ye L _ rfl rfl rfl rfl rfl rfl rfl (by first | omega | decide) (by assumption)) rfl ?_; refine Z102 ?_; refine Z124 ?_; refine Z44 ?_; refine z7 (zt L (vs := [_, _]) (qt rfl) rfl rfl rfl rfl ⟨_, rfl⟩) rfl ?_; refine Z1 ?_; refine z7 (zp L rfl rfl (zk rfl) rfl rfl rfl (fun u H hH hle _ => count_ret hz hH (hv.le hle))) rfl ?_; refine Z27 ?_; refine Z129 ?_; refine Z42 ?_; refine qk (ok_moveO (.inl rfl) rfl rfl rfl rfl) ?_; refine Z1 ?_; refine Z54 ?_; refine qk (ok_append L rfl rfl rfl (apd_B rfl) rfl el49 rfl rfl (by omega) (by omega)) ?_; refine qk (ok_moveO (.inr rfl) rfl rfl rfl rfl) ?_; refine Z302 ?_; refine Z43 ?_; refine Z12 ?_; refine Z226 ?_
      exact y8 (x := (k, out)) (k + 1, out ++ [x]) ⟨hlt, ho⟩ (by dsimp only; omega) ⟨rfl, rs_snoc, rfl, rfl, rfl, trivial⟩
    · have ho : out = (g.take (k + 1)).filter fun r => decide (L0.count r = 0) := by rw [htk, List.filter_append, ← hout]; simp [h0]
      refine zh ?_; refine Z28 ?_; refine Z193 ?_; refine Z34 ?_; refine z7 (ye L _ rfl rfl rfl rfl rfl rfl rfl (by first | omega | decide) (by assumption)) rfl ?_; refine Z102 ?_; refine Z124 ?_; refine Z44 ?_; refine z7 (zt L (vs := [_, _]) (qt rfl) rfl rfl rfl rfl ⟨_, rfl⟩) rfl ?_; refine Z1 ?_; refine z7 (zp L rfl rfl (zk rfl) rfl rfl rfl (fun u H hH hle _ => count_ret hz hH (hv.le hle))) rfl ?_; refine Z20 ?_; refine Z257 ?_; refine Z43 ?_; refine Z12 ?_; refine Z226 ?_
      exact y8 (x := (k, out)) (k + 1, out) ⟨hlt, ho⟩ (by dsimp only; omega) ⟨rfl, rfl, rfl, rfl, rfl, trivial⟩
  · obtain rfl : k = g.length := by omega
    rw [List.take_length] at hout
    rw [← hout]
    refine V_pubR 7 rfl ?_
    refine zh ?_; refine Z28 ?_; refine Z259 ?_; refine Z57 ?_; refine Z7 ?_; refine z7 (yr (φ := RsV out true) L rfl rfl (zk rfl) rfl rfl rfl SlV.mono (fun u H hH _ _ v1 h1 => clipR_ret hH h1)) rfl ?_; refine Z52 ?_; refine Z121 ?_
    refine y9 L (rs := [.tmp 6]) rfl (fun _ _ h => h) Since.refl fun u H hH hle => ?_
    exact fun v hv => hv
theorem len_ne {α : Type} {a b : List α} (h : a.length ≠ b.length) : a ≠ b := fun e => h (congrArg List.length e)
theorem at_ne {α : Type} {a b : List α} {i : Nat} {x y : α} (hx : a[i]? = some x) (hy : b[i]? = some y) (h : x ≠ y) : a ≠ b := fun e => h (by subst e; rw [hx] at hy; exact Option.some.inj hy)
end Go.V.L10
set_option maxRecDepth 20000
namespace Go.V.L10
open Go.Proofs Go.RowKit Go.V
theorem _root_.Go.V.Z299 {A B : Prop} (h : B) (t : Wr B → A := by intro h; refine Z7 ?_; refine z7 (ok_lenSl L rfl rfl rfl rfl) rfl ?_; exact h.h) : A := t ⟨h⟩
theorem ps_len (l : List (Int × Int)) : (l.flatMap pnc).length = l.length * 2 := flatMap_len pnc_len l
section
variable {A Bq R X Z : List Value} {a b : Nat}
theorem cut_at (hA : A.length = a) (T : List Value) : (A ++ T).take a = A ∧ (A ++ T).drop a = T := by subst hA; simp
theorem mv_in (hA : A.length = a) (hB : Bq.length = b) (_hR : 2 ≤ R.length) :
    ((A ++ (Bq ++ R)).drop a).take b = Bq ∧
    ((A ++ (Bq ++ R)).take (a + 2) ++ (Bq ++ (A ++ (Bq ++ R)).drop (a + 2 + b))) = A ++ ((Bq ++ R).take 2 ++ (Bq ++ R.drop 2)) ∧
    ∀ (W : List Value), W.length = 2 → ((A ++ (W ++ (Bq ++ R.drop 2))).take a ++ (X ++ (A ++ (W ++ (Bq ++ R.drop 2))).drop (a + 2))) = A ++ (X ++ (Bq ++ R.drop 2)) := by
  subst hA hB
  refine ⟨by simp, ?_, fun W hW => ?_⟩
  · have e1 : (A ++ (Bq ++ R)).take (A.length + 2) = A ++ (Bq ++ R).take 2 := by rw [List.take_append, List.take_of_length_le (by omega)]; congr 2; omega
    have e2 : (A ++ (Bq ++ R)).drop (A.length + 2 + Bq.length) = R.drop 2 := by
      rw [← List.append_assoc, List.drop_append, List.drop_eq_nil_of_le (by rw [List.length_append]; omega), List.nil_append]
      congr 1
      rw [List.length_append]; omega
    rw [e1, e2, List.append_assoc]
  · rw [List.take_append, List.take_of_length_le (Nat.le_refl _), Nat.sub_self, List.take_zero, List.append_nil, List.drop_append, List.drop_eq_nil_of_le (by omega), List.nil_append, show A.length + 2 - A.length = 2 by omega, List.drop_append, List.drop_eq_nil_of_le (by omega), List.nil_append, hW, Nat.sub_self, List.drop_zero]
theorem mv_new (hA : A.length = a) (hB : Bq.length = b) (hZ : Z.length = b + 2) (hX : X.length = 2) :
    ((A ++ Z ++ R).take a ++ (X ++ (A ++ Z ++ R).drop (a + 2))) = A ++ (X ++ (Z.drop 2 ++ R)) ∧
    ((A ++ (X ++ (Z.drop 2 ++ R))).take (a + 2) ++ (Bq ++ (A ++ (X ++ (Z.drop 2 ++ R))).drop (a + 2 + b))) = A ++ (X ++ (Bq ++ R)) := by
  subst hA hB
  refine ⟨?_, ?_⟩
  · rw [List.append_assoc, List.take_append, List.take_of_length_le (Nat.le_refl _), Nat.sub_self, List.take_zero, List.append_nil, List.drop_append, List.drop_eq_nil_of_le (by omega), List.nil_append, show A.length + 2 - A.length = 2 by omega, List.drop_append, show 2 - Z.length = 0 by omega, List.drop_zero]
  · have e1 : (A ++ (X ++ (Z.drop 2 ++ R))).take (A.length + 2) = A ++ X := by
      rw [← List.append_assoc, List.take_append, List.take_of_length_le (by rw [List.length_append]; omega), List.length_append, show A.length + 2 - (A.length + X.length) = 0 by omega, List.take_zero, List.append_nil]
    have e2 : (A ++ (X ++ (Z.drop 2 ++ R))).drop (A.length + 2 + Bq.length) = R := by
      rw [← List.append_assoc, ← List.append_assoc, List.drop_append, List.drop_eq_nil_of_le (by rw [List.length_append, List.length_append, List.length_drop]; omega), List.nil_append, List.length_append, List.length_append, List.length_drop, show A.length + 2 + Bq.length - (A.length + X.length + (Z.length - 2)) = 0 by omega, List.drop_zero]
    rw [e1, e2, List.append_assoc]
theorem mv_out (hA : A.length = a) (hB : Bq.length = b) (hX : X.length = 2) :
    ((A ++ (X ++ (Bq ++ R))).drop (a + 2)).take b = Bq ∧
    ((A ++ (X ++ (Bq ++ R))).take a ++ (Bq ++ (A ++ (X ++ (Bq ++ R))).drop (a + b))) = A ++ (Bq ++ ((X ++ (Bq ++ R)).drop b)) ∧
    ∀ (W : List Value), ((A ++ (Bq ++ W)).take (a + b) ++ (Z ++ (A ++ (Bq ++ W)).drop (a + b + 2))) = A ++ Bq ++ (Z ++ W.drop 2) := by
  subst hA hB
  refine ⟨?_, ?_, fun W => ?_⟩
  · rw [List.drop_append, List.drop_eq_nil_of_le (by omega), List.nil_append, show A.length + 2 - A.length = 2 by omega, List.drop_append, List.drop_eq_nil_of_le (by omega), List.nil_append, hX, Nat.sub_self, List.drop_zero]; simp
  · rw [List.take_append, List.take_of_length_le (Nat.le_refl _), Nat.sub_self, List.take_zero, List.append_nil, List.drop_append, List.drop_eq_nil_of_le (by omega), List.nil_append, show A.length + Bq.length - A.length = Bq.length by omega]
  · rw [← List.append_assoc A Bq W, List.take_append, List.take_of_length_le (by rw [List.length_append]; omega), List.length_append, Nat.sub_self, List.take_zero, List.append_nil, List.drop_append, List.drop_eq_nil_of_le (by rw [List.length_append]; omega), List.nil_append, List.length_append, show A.length + Bq.length + 2 - (A.length + Bq.length) = 2 by omega]
end
attribute [local irreducible] V N X VO Par StepOK Has Ret RetL RetO RetT RetG RetX Src
theorem pclone_ret {l : List (Int × Int)} (hz : l.length ≤ 100000) {v : Value} {w : World} {B : Heap} (hB : B.Le (hp w)) (hv : PsV l v B) :
    RetO Tryz.prog 99 [v] w B (SlR tyPn 2 l.length (l.flatMap pnc)) := by
  have hv0 := hv
  have hlen := ps_len l
  have hpl := pnc_plain l
  obtain ⟨p, c, rfl⟩ := slv_shJ hv
  rcases p with _ | b
  · obtain ⟨h0, rfl⟩ : l.length = 0 ∧ c = 0 := slv_none hv
    have hn : l = [] := List.eq_nil_of_length_eq_zero h0
    subst hn
    refine V_enterO Tryz.func99 rfl Tryz.ntmps99 (Nat.le_of_ble_eq_true rfl) hB ?_
    refine Z227 ?_; refine z7 (ok_neql rfl rfl rfl rfl nk72 rfl) rfl ?_; refine Z303 ?_
    refine V_nilR 2 tyPn 2 rfl ?_
    exact V_retO rfl (fun _ _ h => h) Since.refl rfl
  · refine V_enterO Tryz.func99 rfl Tryz.ntmps99 (Nat.le_of_ble_eq_true rfl) hB ?_
    refine Z227 ?_; refine z7 (ok_neql rfl rfl rfl rfl nk72 rfl) rfl ?_; refine Z133 ?_
    refine V_seen 0 (PsV l) rfl SlV.mono hv0 ?_
    refine Z28 ?_; refine z7 (ok_buildSlice0 L rfl rfl rfl rfl rfl) rfl ?_; refine Z7 ?_; refine qk (ok_append L rfl rfl rfl (apd_V rfl) rfl el137 (by assumption) (by assumption) (by omega) (by omega)) ?_; refine qk (ok_moveO (.inr rfl) rfl rfl rfl rfl) ?_; refine Z121 ?_
    rw [Nat.zero_add, List.nil_append]
    exact V_retO rfl (fun _ _ h => h) Since.refl rfl
def insI (l : List (Int × Int)) (i : Nat) (x : Int × Int) : List (Int × Int) := l.take i ++ x :: l.drop i
theorem insI_length {l : List (Int × Int)} {i : Nat} {x : Int × Int} (hi : i ≤ l.length) : (insI l i x).length = l.length + 1 := by
  unfold insI; rw [List.length_append, List.length_cons, List.length_take, List.length_drop]; omega
theorem insI_cells {l : List (Int × Int)} {i : Nat} {x : Int × Int} : (insI l i x).flatMap pnc = (l.take i).flatMap pnc ++ ([.int .u64 x.1, .int .i64 x.2] ++ (l.drop i).flatMap pnc) := by
  unfold insI; rw [List.flatMap_append, List.flatMap_cons]; rfl
theorem ovl_ext (args : Array Value) (u : World) : (callFunc 155 args).run Tryz.prog u = ((Extern.SlicesOverlaps.overlaps #[72, 72] #[4] args).run Tryz.prog u).andThen fun v w' => .ok (.value v) w' :=
  run_callFunc_extern Tryz.func155 (by kernel_rfl) (by kernel_rfl) (by kernel_rfl) (by kernel_rfl) args u
abbrev zPn : Value := .agg #[.int .u64 0, .int .i64 0]
def zPs (m : Nat) : List Value := (Builtin.zeroCells (Value.cells zPn) m).toList
theorem zPs_len (m : Nat) : (zPs m).length = m * 2 := by unfold zPs; rw [Array.length_toList, size_zeroCells]; rfl
set_option maxHeartbeats 4000000 in
set_option maxRecDepth 20000 in
theorem insert_ret {l : List (Int × Int)} {i : Nat} {y : Int × Int} (hi : i ≤ l.length) (hz : l.length ≤ 100000) {x v2 : Value} {w : World} {B : Heap} {C : Nat → Prop} (hB : B.Le (hp w)) (h2 : SlB [Value.int .u64 y.1, Value.int .i64 y.2] tyPn 1 v2 B) (hx : (SlR tyPn 2 l.length (l.flatMap pnc)).P x B w C) (hC : ∀ k, C k → k < w.heap.size ∧ B k = none) :
    RetT Tryz.prog 123 [x, .int .i64 i, v2] w B C (SlR tyPn 2 (l.length + 1) ((insI l i y).flatMap pnc)) := by
  have hpl := pnc_plain l
  unfold RetT
  refine V_enterA 0 (x := x) (SlR tyPn 2 l.length (l.flatMap pnc)) rfl Tryz.func123 rfl Tryz.ntmps123 (Nat.le_of_ble_eq_true rfl) hB hx hC ?_
  refine V_seen 2 (SlB [Value.int .u64 y.1, Value.int .i64 y.2] tyPn 1) rfl SlB.mono h2 ?_
  have hw1 : IntKind.i64.wrap ((l.length : Int) + ((1 : Nat) : Int)) = ((l.length + 1 : Nat) : Int) := wrap_i64 (by omega) (by omega)
  refine V_holdR 0 900 rfl (fun hm hn => ?_) fun b cap rest hl hmc hcm hcl => ?_
  · have h0 : l = [] := List.eq_nil_of_length_eq_zero hm
    subst h0
    obtain rfl : i = 0 := by simpa using hi
    refine Z206 ?_; refine Z123 ?_; refine z7 (ok_sliceNl L rfl rfl rfl rfl rfl rfl rfl) rfl ?_; refine Z137 ?_; refine Z31 ?_; refine Z299 ?_; refine Z295 ?_; refine Z223 ?_; refine Z166 ?_; refine Z86 ?_; refine Z132 ?_; refine Z228 ?_; refine Z287 ?_; refine Z176 ?_; refine Z7 ?_; refine z7 (ok_append0 L rfl rfl rfl (apd_B rfl) rfl el137 rfl rfl (by omega) (by omega)) rfl ?_; refine qk (ok_moveO (.inr rfl) rfl rfl rfl rfl) ?_; refine Z121 ?_
    exact V_retT rfl (fun _ _ h => h) Since.refl rfl
  · by_cases hin : i = l.length
    · subst hin
      have e1 : (insI l l.length y).flatMap pnc = l.flatMap pnc ++ [Value.int .u64 y.1, Value.int .i64 y.2] := by rw [insI_cells, List.take_length, List.drop_length]; simp
      rw [e1]
      refine Z206 ?_; refine Z123 ?_; refine z7 (ok_sliceI L (kh := .i64) (ph := 0) _ _ rfl rfl rfl rfl rfl ⟨rfl, rfl⟩ rfl (by omega) (by omega)) rfl ?_; refine Z137 ?_; refine Z31 ?_; refine Z299 ?_; refine Z295 ?_; refine Z223 ?_; refine Z166 ?_; refine Z86 ?_; refine Z132 ?_; refine Z228 ?_; refine Z287 ?_; refine Z176 ?_; refine Z7 ?_; refine qk (ok_appendH L (q := 900) rfl rfl rfl rfl hl hmc hcm hcl (apd_B rfl) rfl el137 rfl rfl (by omega) (by omega)) ?_; refine qk (ok_moveO (.inr rfl) rfl rfl rfl rfl) ?_; refine Z121 ?_
      exact V_retT rfl (fun _ _ h => h) Since.refl rfl
    · have hil : i < l.length := by omega
      have hA : ((l.take i).flatMap pnc).length = i * 2 := by rw [ps_len, List.length_take, Nat.min_eq_left (by omega)]
      have hBq : ((l.drop i).flatMap pnc).length = (l.length - i) * 2 := by rw [ps_len, List.length_drop]
      have hcur : l.flatMap pnc = (l.take i).flatMap pnc ++ (l.drop i).flatMap pnc := by rw [← List.flatMap_append, List.take_append_drop]
      have hpB := pnc_plain (l.drop i)
      have hwi : IntKind.i64.wrap ((i : Int) + ((1 : Nat) : Int)) = ((i + 1 : Nat) : Int) := wrap_i64 (by omega) (by omega)
      rw [insI_cells]
      generalize hAe : (l.take i).flatMap pnc = A at *
      generalize hBe : (l.drop i).flatMap pnc = Bq at *
      rw [hcur, List.append_assoc] at hcl
      rw [hcur, List.append_assoc]
      rw [List.length_append, List.length_append, hA, hBq] at hcl
      by_cases hg : l.length + 1 ≤ cap
      · have hne1 : ¬ cap = i := by omega
        have hne2 : ¬ cap = i + 1 := by omega
        have hne3 : ¬ cap = 0 := by omega
        have hR : 2 ≤ rest.length := by omega
        obtain ⟨m1, m2, m3⟩ := mv_in (R := rest) (X := [Value.int .u64 y.1, Value.int .i64 y.2]) hA hBq hR
        have m3' := m3 ((Bq ++ rest).take 2) (by rw [List.length_take, List.length_append]; omega)
        have q1 : ((A ++ (Bq ++ rest)).drop (0 + i * 2)).take ((l.length - i) * 2) = Bq := by rw [Nat.zero_add]; exact m1
        have q2 : (A ++ (Bq ++ rest)).take (0 + (i + 1) * 2) ++ (Bq ++ (A ++ (Bq ++ rest)).drop (0 + (i + 1) * 2 + (l.length - i) * 2)) = A ++ ((Bq ++ rest).take 2 ++ (Bq ++ rest.drop 2)) := by rw [Nat.zero_add, Nat.add_mul i 1 2]; exact m2
        have q3 : (A ++ ((Bq ++ rest).take 2 ++ (Bq ++ rest.drop 2))).take (0 + i * 2) ++ ([Value.int .u64 y.1, Value.int .i64 y.2] ++ (A ++ ((Bq ++ rest).take 2 ++ (Bq ++ rest.drop 2))).drop (0 + i * 2 + 1 * 2)) = A ++ ([Value.int .u64 y.1, Value.int .i64 y.2] ++ (Bq ++ rest.drop 2)) := by rw [Nat.zero_add]; exact m3'
        have q4 : 0 + (i + 1) * 2 + (l.length - i) * 2 ≤ (A ++ (Bq ++ rest)).length := by rw [List.length_append, List.length_append]; omega
        have q5 : 0 + i * 2 + 1 * 2 ≤ (A ++ ((Bq ++ rest).take 2 ++ (Bq ++ rest.drop 2))).length := by rw [List.length_append, List.length_append, List.length_append, List.length_take, List.length_append]; omega
        have q8 : 0 < (A ++ (Bq ++ rest)).length := by rw [List.length_append, List.length_append]; omega
        have q6 : Nat.min (l.length + 1 - i) (l.length + 1 - (i + 1)) = l.length - i := by show min _ _ = _; omega
        have q7 : Nat.min 1 (l.length + 1 - i) = 1 := by show min _ _ = _; omega
        refine Z206 ?_; refine Z123 ?_; refine z7 (ok_sliceI L (kh := .i64) (ph := 0) _ _ rfl rfl rfl rfl rfl ⟨rfl, rfl⟩ rfl (by omega) (by omega)) rfl ?_; rw [if_neg hne1]; refine Z137 ?_; refine Z31 ?_; refine Z299 ?_; refine Z295 ?_; refine Z223 ?_; refine Z166 ?_; refine Z86 ?_; refine Z132 ?_; refine Z228 ?_; refine Z312 ?_; refine Z57 ?_; refine Z235 ?_; refine Z1 ?_; refine z7 (ok_capL L rfl rfl rfl rfl) rfl ?_; refine Z29 ?_; refine Z133 ?_; refine Z76 ?_; refine Z150 ?_; refine Z12 ?_; refine z7 (ok_sliceI L (kl := .i64) (pl := 0) 0 (l.length + 1) rfl rfl rfl rfl rfl rfl ⟨rfl, rfl⟩ (by omega) (by omega)) rfl ?_; rw [if_neg hne3, show (0 + 0 * 2 : Nat) = 0 from rfl, Nat.sub_zero, Nat.sub_zero]; refine Z132 ?_
        refine Z69 ?_; refine Z7 ?_; refine Z150 ?_; refine Z12 ?_; refine z7 (ok_sliceI L (kh := .i64) (ph := 0) (i + 1) _ rfl rfl rfl rfl rfl ⟨rfl, rfl⟩ rfl (by omega) (by omega)) rfl ?_; rw [if_neg hne2]; refine yf (ok_overlaps L (q := 900) rfl rfl rfl ovl_ext rfl rfl rfl rfl rfl q8) ?_; refine Z49 ?_; refine Z138 ?_; refine zy (id := 15) [(77, [900])] mixed (by kernel_rfl) ?_; refine Z168 ?_; refine z8 (ok_sliceI L (kh := .i64) (ph := 0) (i + 1) _ rfl rfl rfl rfl rfl ⟨rfl, rfl⟩ rfl (by omega) (by omega)) rfl ?_; rw [if_neg hne2]; refine Z126 ?_; refine z8 (ok_sliceI L (kh := .i64) (ph := 0) i _ rfl rfl rfl rfl rfl ⟨rfl, rfl⟩ rfl (by omega) (by omega)) rfl ?_; rw [if_neg hne1]; refine par_step2 (ok_copyHH L (q := 900) (l.length - i) rfl rfl rfl rfl rfl rfl el137 q6 q1 hBq q4 hpB q2) rfl rfl ?_; refine Z185 ?_; refine Z92 ?_; refine Z123 ?_; refine z7 (ok_sliceI L (kh := .i64) (ph := 0) i _ rfl rfl rfl rfl rfl ⟨rfl, rfl⟩ rfl (by omega) (by omega)) rfl ?_; rw [if_neg hne1]; refine Z7 ?_; refine qk (ok_copyA L (q := 900) 1 rfl rfl rfl rfl (apd_B rfl) rfl el137 (by decide) q7 (Nat.le_refl 2) rfl q5 rfl q3) ?_; refine Z137 ?_; refine Z100 ?_; refine Z1 ?_; refine Z122 ?_
        refine V_releaseR (s := 2) (xs := A ++ ([Value.int .u64 y.1, Value.int .i64 y.2] ++ Bq)) (rest := rest.drop 2) 6 900 (by simp [List.append_assoc]) rfl rfl (by simp only [List.length_append, List.length_cons, List.length_nil]; omega) hg hcm (by simp only [List.length_append, List.length_cons, List.length_nil, List.length_drop]; omega) ?_
        exact V_retT rfl (fun _ _ h => h) Since.refl rfl
      · have hne1 : ¬ cap = i := by omega
        have hne3 : ¬ cap = 0 := by omega
        have hr0 : rest = [] := List.eq_nil_of_length_eq_zero (by omega)
        subst hr0
        have hcap : cap = l.length := by omega
        subst hcap
        rw [List.append_nil]
        have hwk : IntKind.i64.wrap (((l.length + 1 : Nat) : Int) - (i : Int)) = ((l.length + 1 - i : Nat) : Int) := wrap_i64 (by omega) (by omega) |>.trans (by omega)
        have hxs : (A ++ Bq).take (i * 2) = A := (cut_at hA Bq).1
        have hxl : i * 2 ≤ (A ++ Bq).length := by rw [List.length_append]; omega
        have hZ := zPs_len (l.length + 1 - i)
        have hgt : l.length < i + (l.length + 1 - i) := by omega
        refine Z206 ?_; refine Z123 ?_; refine z7 (ok_sliceI L (kh := .i64) (ph := 0) _ _ rfl rfl rfl rfl rfl ⟨rfl, rfl⟩ rfl (by omega) (by omega)) rfl ?_; rw [if_neg hne1]; refine Z137 ?_; refine Z31 ?_; refine Z299 ?_; refine Z295 ?_; refine Z223 ?_; refine Z166 ?_; refine Z86 ?_; refine Z132 ?_; refine Z228 ?_; refine Z312 ?_; refine Z57 ?_; refine Z235 ?_; refine Z1 ?_; refine z7 (ok_capL L rfl rfl rfl rfl) rfl ?_; refine Z37 ?_; refine Z138 ?_; refine Z296 ?_; refine z7 (ok_sliceI L (kl := .i64) (pl := 0) 0 i rfl rfl rfl rfl rfl rfl ⟨rfl, rfl⟩ (by omega) (by omega)) rfl ?_; rw [if_neg hne3, show (0 + 0 * 2 : Nat) = 0 from rfl, Nat.sub_zero, Nat.sub_zero]; refine Z235 ?_; refine Z231 ?_; refine yf (ok_appendZ L (q := 900) (z := zPn) (k := l.length + 1 - i) (kn := .i64) rfl rfl rfl rfl rfl rfl (by kernel_rfl) el137 rfl (by omega) hgt hxs hxl rfl (by omega) (by omega)) ?_; refine qk (ok_moveO (.inr rfl) rfl rfl rfl rfl) ?_; refine Z137 ?_
        rw [show (Builtin.zeroCells (Value.cells zPn) (l.length + 1 - i)).toList = zPs (l.length + 1 - i) from rfl]
        have hlt : i + (l.length + 1 - i) = l.length + 1 := by omega
        rw [hlt]
        refine V_holdR 9 901 rfl (fun hm _ => by omega) fun b2 cap2 rest2 hl2 hmc2 hcm2 hcl2 => ?_
        have hn1 : ¬ cap2 = i := by omega
        have hn2 : ¬ cap2 = i + 1 := by omega
        have hZ2 : (zPs (l.length + 1 - i)).length = (l.length - i) * 2 + 2 := by omega
        obtain ⟨m1, m2⟩ := mv_new (R := rest2) (X := [Value.int .u64 y.1, Value.int .i64 y.2]) hA hBq hZ2 rfl
        have q1 : (A ++ zPs (l.length + 1 - i) ++ rest2).take (0 + i * 2) ++ ([Value.int .u64 y.1, Value.int .i64 y.2] ++ (A ++ zPs (l.length + 1 - i) ++ rest2).drop (0 + i * 2 + 1 * 2)) = A ++ ([Value.int .u64 y.1, Value.int .i64 y.2] ++ ((zPs (l.length + 1 - i)).drop 2 ++ rest2)) := by rw [Nat.zero_add]; exact m1
        have q2 : (A ++ ([Value.int .u64 y.1, Value.int .i64 y.2] ++ ((zPs (l.length + 1 - i)).drop 2 ++ rest2))).take (0 + (i + 1) * 2) ++ (Bq ++ (A ++ ([Value.int .u64 y.1, Value.int .i64 y.2] ++ ((zPs (l.length + 1 - i)).drop 2 ++ rest2))).drop (0 + (i + 1) * 2 + (l.length - i) * 2)) = A ++ ([Value.int .u64 y.1, Value.int .i64 y.2] ++ (Bq ++ rest2)) := by rw [Nat.zero_add, Nat.add_mul i 1 2]; exact m2
        have q3 : 0 + i * 2 + 1 * 2 ≤ (A ++ zPs (l.length + 1 - i) ++ rest2).length := by rw [List.length_append, List.length_append]; omega
        have q4 : 0 + (i + 1) * 2 + (l.length - i) * 2 ≤ (A ++ ([Value.int .u64 y.1, Value.int .i64 y.2] ++ ((zPs (l.length + 1 - i)).drop 2 ++ rest2))).length := by simp only [List.length_append, List.length_cons, List.length_nil, List.length_drop]; omega
        have q5 : Nat.min 1 (l.length + 1 - i) = 1 := by show min _ _ = _; omega
        have q6 : Nat.min (l.length - i) (l.length + 1 - (i + 1)) = l.length - i := by show min _ _ = _; omega
        have q7 : ((A ++ Bq).drop (i * 2)).take ((l.length - i) * 2) = Bq := by rw [(cut_at hA Bq).2, List.take_of_length_le (by omega)]
        have q8 : Bq.take ((l.length - i) * 2) = Bq := List.take_of_length_le (by omega)
        have q9 : (l.length - i) * 2 ≤ Bq.length := by omega
        refine Z308 ?_; refine z7 (ok_sliceI L (kh := .i64) (ph := 0) i _ rfl rfl rfl rfl rfl ⟨rfl, rfl⟩ rfl (by omega) (by omega)) rfl ?_; rw [if_neg hn1]; refine Z7 ?_; refine qk (ok_copyA L (q := 901) 1 rfl rfl rfl rfl (apd_B rfl) rfl el137 (by decide) q5 (Nat.le_refl 2) rfl q3 rfl q1) ?_; refine Z137 ?_
        refine V_releaseR (s := 2) (xs := A ++ Bq) (rest := []) 0 900 (List.append_nil _).symm rfl rfl (by rw [← hcur]; exact hl) (Nat.le_refl _) hcm (by rw [← hcur]; exact hl) ?_
        refine V_pubR 0 rfl ?_
        refine zy (id := 11) [(54, [901])] mixed (by kernel_rfl) ?_; refine Z168 ?_; refine z8 (ok_sliceI L (kh := .i64) (ph := 0) (i + 1) _ rfl rfl rfl rfl rfl ⟨rfl, rfl⟩ rfl (by omega) (by omega)) rfl ?_; rw [if_neg hn2]; refine Z286 ?_; refine z8 (ok_sliceV L (kh := .i64) (ph := 0) (km := .i64) (pm := 0) i l.length false rfl rfl rfl rfl rfl ⟨rfl, rfl⟩ ⟨rfl, rfl⟩ (fun h => by cases h) (by omega) (by omega) q7) rfl ?_; refine par_step2 (ok_copyA L (q := 901) (l.length - i) rfl rfl rfl rfl (apd_V rfl) rfl el137 (by omega) q6 q9 q8 q4 hpB q2) rfl rfl ?_; refine Z185 ?_
        refine V_releaseR (s := 2) (xs := A ++ ([Value.int .u64 y.1, Value.int .i64 y.2] ++ Bq)) (rest := rest2) 9 901 (by simp [List.append_assoc]) rfl rfl (by simp only [List.length_append, List.length_cons, List.length_nil]; omega) hmc2 hcm2 (by simp only [List.length_append, List.length_cons, List.length_nil] at hcl2 ⊢; omega) ?_
        refine Z80 ?_; refine qk (ok_moveO (.inl rfl) rfl rfl rfl rfl) ?_; refine qk (ok_moveO (.inr rfl) rfl rfl rfl rfl) ?_; refine Z121 ?_
        exact V_retT rfl (fun _ _ h => h) Since.refl rfl
theorem del_cells (l : List (Int × Int)) (i : Nat) : (l.eraseIdx i).flatMap pnc = (l.take i).flatMap pnc ++ (l.drop (i + 1)).flatMap pnc := by rw [List.eraseIdx_eq_take_drop_succ, List.flatMap_append]
set_option maxHeartbeats 4000000 in
set_option maxRecDepth 20000 in
theorem delete_ret {l : List (Int × Int)} {i : Nat} (hi : i < l.length) (hz : l.length ≤ 100000) {x : Value} {j : Int} (hj : j = ((i + 1 : Nat) : Int)) {w : World} {B : Heap} {C : Nat → Prop} (hB : B.Le (hp w)) (hx : (SlR tyPn 2 l.length (l.flatMap pnc)).P x B w C) (hC : ∀ k, C k → k < w.heap.size ∧ B k = none) :
    RetT Tryz.prog 100 [x, .int .i64 i, .int .i64 j] w B C (SlR tyPn 2 (l.length - 1) ((l.eraseIdx i).flatMap pnc)) := by
  subst hj
  unfold RetT
  refine V_enterA 0 (x := x) (SlR tyPn 2 l.length (l.flatMap pnc)) rfl Tryz.func100 rfl Tryz.ntmps100 (Nat.le_of_ble_eq_true rfl) hB hx hC ?_
  refine V_holdR 0 900 rfl (fun hm hn => by omega) fun b cap rest hl hmc hcm hcl => ?_
  obtain ⟨y, hy⟩ := get_some hi
  have hA : ((l.take i).flatMap pnc).length = i * 2 := by rw [ps_len, List.length_take, Nat.min_eq_left (by omega)]
  have hBq : ((l.drop (i + 1)).flatMap pnc).length = (l.length - (i + 1)) * 2 := by rw [ps_len, List.length_drop]
  have hcur : l.flatMap pnc = (l.take i).flatMap pnc ++ (pnc y ++ (l.drop (i + 1)).flatMap pnc) := by
    rw [← List.flatMap_cons, ← List.flatMap_append]
    congr 1
    rw [show y :: l.drop (i + 1) = l.drop i by rw [List.drop_eq_getElem_cons hi, at_get hy], List.take_append_drop]
  have hpB := pnc_plain (l.drop (i + 1))
  rw [del_cells]
  generalize hAe : (l.take i).flatMap pnc = A at *
  generalize hBe : (l.drop (i + 1)).flatMap pnc = Bq at *
  rw [hcur, List.append_assoc, List.append_assoc] at hcl
  rw [hcur, List.append_assoc, List.append_assoc]
  obtain ⟨X, hX⟩ : ∃ X, X = pnc y := ⟨_, rfl⟩
  have hXl : X.length = 2 := by rw [hX]; rfl
  rw [← hX] at hcl hcur ⊢
  rw [List.length_append, List.length_append, List.length_append, hA, hBq, hXl] at hcl
  clear hX hAe hBe
  obtain ⟨m1, m2, m3⟩ := mv_out (R := rest) (Z := zPs 1) hA hBq hXl
  have m3' := m3 ((X ++ (Bq ++ rest)).drop ((l.length - (i + 1)) * 2))
  have hw1 : i + (l.length - (i + 1)) = l.length - 1 := by omega
  have hw2 : l.length - (l.length - 1) = 1 := by omega
  have e1 : i * 2 + (l.length - (i + 1)) * 2 = (l.length - 1) * 2 := by omega
  have q2 : (A ++ (X ++ (Bq ++ rest))).take (i * 2) ++ (Bq ++ (A ++ (X ++ (Bq ++ rest))).drop (i * 2 + (l.length - (i + 1)) * 2)) = A ++ (Bq ++ ((X ++ (Bq ++ rest)).drop ((l.length - (i + 1)) * 2))) := m2
  have q3 : (A ++ (Bq ++ ((X ++ (Bq ++ rest)).drop ((l.length - (i + 1)) * 2)))).take (0 + (l.length - 1) * 2) ++ (zPs 1 ++ (A ++ (Bq ++ ((X ++ (Bq ++ rest)).drop ((l.length - (i + 1)) * 2)))).drop (0 + (l.length - 1) * 2 + 1 * 2)) = A ++ Bq ++ (zPs 1 ++ ((X ++ (Bq ++ rest)).drop ((l.length - (i + 1)) * 2)).drop 2) := by rw [Nat.zero_add, ← e1]; exact m3'
  have q4 : i * 2 + (l.length - (i + 1)) * 2 ≤ (A ++ (X ++ (Bq ++ rest))).length := by simp only [List.length_append]; omega
  have q5 : 0 + (l.length - 1) * 2 + 1 * 2 ≤ (A ++ (Bq ++ ((X ++ (Bq ++ rest)).drop ((l.length - (i + 1)) * 2)))).length := by simp only [List.length_append, List.length_drop]; omega
  have hne3 : ¬ cap = 0 := by omega
  have hne4 : ¬ l.length = i := by omega
  have hne5 : ¬ cap = l.length - 1 := by omega
  have fin : (A ++ Bq ++ (zPs 1 ++ ((X ++ (Bq ++ rest)).drop ((l.length - (i + 1)) * 2)).drop 2)).length = cap * 2 := by simp only [List.length_append, List.length_drop, zPs_len]; omega
  by_cases hc : cap = i + 1
  · have hl1 : l.length - (i + 1) = 0 := by omega
    have hB0 : Bq = [] := List.eq_nil_of_length_eq_zero (by omega)
    have q1 : ((A ++ (X ++ (Bq ++ rest))).drop 0).take ((l.length - (i + 1)) * 2) = Bq := by rw [hl1, hB0]; rfl
    refine Z206 ?_; refine Z191 ?_; refine Z86 ?_; refine z7 (ok_slice3 L i (i + 1) l.length rfl rfl rfl rfl rfl rfl rfl rfl rfl rfl rfl (by omega) (by omega) hmc) rfl ?_; refine Z162 ?_; refine Z225 ?_; refine Z223 ?_; refine Z156 ?_; refine Z86 ?_; refine Z124 ?_; refine zy (id := 5) [(26, [900])] mixed (by kernel_rfl) ?_; refine Z126 ?_; refine z8 (ok_sliceI L (kl := .i64) (pl := 0) 0 i rfl rfl rfl rfl rfl rfl ⟨rfl, rfl⟩ (by omega) (by omega)) rfl ?_; rw [if_neg hne3, show (0 + 0 * 2 : Nat) = 0 from rfl, Nat.sub_zero, Nat.sub_zero]; refine Z126 ?_; refine z8 (ok_sliceI L (kh := .i64) (ph := 0) (i + 1) _ rfl rfl rfl rfl rfl ⟨rfl, rfl⟩ rfl (by omega) (by omega)) rfl ?_; rw [if_pos hc]; refine par_step2 (ok_appendHH L (q := 900) rfl rfl rfl rfl rfl rfl el137 q1 hBq (by omega) q4 hpB q2) rfl rfl ?_; rw [hw1]; refine Z260 ?_; refine Z228 ?_; refine Z86 ?_; refine Z1 ?_; refine z7 (ok_sliceI L (l.length - 1) l.length rfl rfl rfl rfl rfl ⟨rfl, rfl⟩ ⟨rfl, rfl⟩ (by omega) (by omega)) rfl ?_; rw [if_neg hne5, hw2]; refine vo_stepS (ok_clearH L (q := 900) rfl rfl rfl rfl el137 rfl rfl (.inr q5) (fun _ => q3) (fun h => by cases h)) ?_; refine Z137 ?_
    refine Z176 ?_; refine Z122 ?_
    refine V_releaseR (s := 2) (xs := A ++ Bq) 6 900 rfl rfl rfl (by rw [List.length_append]; omega) (by omega) hcm fin ?_
    exact V_retT rfl (fun _ _ h => h) Since.refl rfl
  · have q1 : ((A ++ (X ++ (Bq ++ rest))).drop (0 + (i + 1) * 2)).take ((l.length - (i + 1)) * 2) = Bq := by rw [Nat.zero_add, Nat.add_mul]; exact m1
    refine Z206 ?_; refine Z191 ?_; refine Z86 ?_; refine z7 (ok_slice3 L i (i + 1) l.length rfl rfl rfl rfl rfl rfl rfl rfl rfl rfl rfl (by omega) (by omega) hmc) rfl ?_; refine Z162 ?_; refine Z225 ?_; refine Z223 ?_; refine Z156 ?_; refine Z86 ?_; refine Z124 ?_; refine zy (id := 5) [(26, [900])] mixed (by kernel_rfl) ?_; refine Z126 ?_; refine z8 (ok_sliceI L (kl := .i64) (pl := 0) 0 i rfl rfl rfl rfl rfl rfl ⟨rfl, rfl⟩ (by omega) (by omega)) rfl ?_; rw [if_neg hne3, show (0 + 0 * 2 : Nat) = 0 from rfl, Nat.sub_zero, Nat.sub_zero]; refine Z126 ?_; refine z8 (ok_sliceI L (kh := .i64) (ph := 0) (i + 1) _ rfl rfl rfl rfl rfl ⟨rfl, rfl⟩ rfl (by omega) (by omega)) rfl ?_; rw [if_neg hc]; refine par_step2 (ok_appendHH L (q := 900) rfl rfl rfl rfl rfl rfl el137 q1 hBq (by omega) q4 hpB q2) rfl rfl ?_; rw [hw1]; refine Z260 ?_; refine Z228 ?_; refine Z86 ?_; refine Z1 ?_; refine z7 (ok_sliceI L (l.length - 1) l.length rfl rfl rfl rfl rfl ⟨rfl, rfl⟩ ⟨rfl, rfl⟩ (by omega) (by omega)) rfl ?_; rw [if_neg hne5, hw2]; refine vo_stepS (ok_clearH L (q := 900) rfl rfl rfl rfl el137 rfl rfl (.inr q5) (fun _ => q3) (fun h => by cases h)) ?_; refine Z137 ?_
    refine Z176 ?_; refine Z122 ?_
    refine V_releaseR (s := 2) (xs := A ++ Bq) 6 900 rfl rfl rfl (by rw [List.length_append]; omega) (by omega) hcm fin ?_
    exact V_retT rfl (fun _ _ h => h) Since.refl rfl
end Go.V.L10
set_option maxRecDepth 20000
namespace Go.V.L10
open Go.Proofs Go.RowKit Go.V
def PinP (L0 : List Int) (e : Int) : Value → Heap → Prop := fun v H => ∃ s, v = .tuple #[pnv s L0.length, .int .i64 e] ∧ PsV (pinsOf L0) s H
theorem PinP.mono {L0 : List Int} {e : Int} : Kn.mono (.sat (PinP L0 e)) := fun _ _ _ ⟨s, h1, h2⟩ hle => ⟨s, h1, h2.le hle⟩
theorem pn_split {l : List (Int × Int)} {i : Nat} {x : Int × Int} (h : l[i]? = some x) (rest : List Value) : l.flatMap pnc ++ rest = (l.take i).flatMap pnc ++ (pnc x ++ ((l.drop (i + 1)).flatMap pnc ++ rest)) := by
  have hi := get_lt h
  have e : l = l.take i ++ x :: l.drop (i + 1) := by
    rw [show x :: l.drop (i + 1) = l.drop i by rw [List.drop_eq_getElem_cons hi, at_get h], List.take_append_drop]
  conv => lhs; rw [e, List.flatMap_append, List.flatMap_cons]
  simp only [List.append_assoc]
theorem pn_ld {l : List (Int × Int)} {i : Nat} {r c : Int} (h : l[i]? = some (r, c)) (rest : List Value) : ∃ t, (l.flatMap pnc ++ rest).drop (0 + i * 2 + 1) = .int .i64 c :: t := by
  rw [pn_split h rest]
  have hl : ((l.take i).flatMap pnc).length = i * 2 := by rw [ps_len, List.length_take, Nat.min_eq_left (Nat.le_of_lt (get_lt h))]
  refine ⟨(l.drop (i + 1)).flatMap pnc ++ rest, ?_⟩
  rw [List.drop_append, List.drop_eq_nil_of_le (by omega), List.nil_append, show 0 + i * 2 + 1 - ((l.take i).flatMap pnc).length = 1 by omega]
  rfl
theorem pn_set {l : List (Int × Int)} {i : Nat} {r c : Int} (h : l[i]? = some (r, c)) (c' : Int) (rest : List Value) : (l.flatMap pnc ++ rest).take (0 + i * 2 + 1) ++ ([Value.int .i64 c'] ++ (l.flatMap pnc ++ rest).drop (0 + i * 2 + 1 + 1)) = (l.set i (r, c')).flatMap pnc ++ rest := by
  have hi := get_lt h
  have hl : ((l.take i).flatMap pnc).length = i * 2 := by rw [ps_len, List.length_take, Nat.min_eq_left (Nat.le_of_lt hi)]
  have hs : (l.set i (r, c'))[i]? = some (r, c') := by rw [List.getElem?_set_self hi]
  rw [pn_split h rest, pn_split hs rest, List.take_set_of_le (Nat.le_refl _), List.drop_set_of_lt (Nat.lt_succ_self i)]
  generalize (l.take i).flatMap pnc = A at hl ⊢
  generalize (l.drop (i + 1)).flatMap pnc ++ rest = T
  subst_vars
  have e1 : (A ++ (pnc (r, c) ++ T)).take (0 + i * 2 + 1) = A ++ [Value.int .u64 r] := by
    rw [List.take_append, List.take_of_length_le (by omega), show 0 + i * 2 + 1 - A.length = 1 by omega]; rfl
  have e2 : (A ++ (pnc (r, c) ++ T)).drop (0 + i * 2 + 1 + 1) = T := by
    rw [List.drop_append, List.drop_eq_nil_of_le (by omega), List.nil_append, show 0 + i * 2 + 1 + 1 - A.length = 2 by omega]; rfl
  rw [e1, e2]
  simp [pnc]
theorem pn_ble {l : List (Int × Int)} {i : Nat} (h : i < l.length) (rest : List Value) : Nat.ble (0 + i * 2 + 1 + 1) (l.flatMap pnc ++ rest).length = true := Nat.ble_eq_true_of_le (by rw [List.length_append, ps_len]; omega)
theorem insI_at {l : List (Int × Int)} {i : Nat} {x : Int × Int} (hi : i ≤ l.length) : (insI l i x)[i]? = some x := by
  unfold insI; rw [List.getElem?_append_right (by rw [List.length_take]; omega), List.length_take, Nat.min_eq_left hi, Nat.sub_self]; rfl
theorem insI_set {l : List (Int × Int)} {i : Nat} {x y : Int × Int} (hi : i ≤ l.length) : (insI l i x).set i y = insI l i y := by
  unfold insI; rw [List.set_append_right _ _ (by rw [List.length_take]; omega), List.length_take, Nat.min_eq_left hi, Nat.sub_self]; rfl
theorem pos_le {L0 : List Int} (r : Int) : posS cP r (heldL L0) ≤ (pinsOf L0).length := by rw [pinsOf_length]; exact posS_le r _
attribute [local irreducible] V N X VO Par StepOK Has Ret RetL RetO RetT RetG RetX Src
set_option maxHeartbeats 4000000 in
set_option maxRecDepth 20000 in
theorem more_ret {L0 : List Int} {r : Int} (hr : r ≠ 0) (hz : L0.length ≤ 1000) {s : Value} {w : World} {B : Heap} (hB : B.Le (hp w)) (hv : PsV (pinsOf L0) s B) :
    Ret Tryz.prog 82 [pnv s L0.length, .int .u64 r, .int .i64 1] w B (PinP (L0 ++ [r]) 0) := by
  have hz2 : (pinsOf L0).length ≤ 1000 := by rw [pinsOf_length]; exact Nat.le_trans (heldL_length _) hz
  have hcz : L0.count r ≤ 1000 := Nat.le_trans List.count_le_length hz
  have hws : IntKind.i64.wrap (4096 - ((L0.count r : Nat) : Int)) = 4096 - ((L0.count r : Nat) : Int) := wrap_i64 (by omega) (by omega)
  have hwt : IntKind.i64.wrap ((L0.length : Int) + 1) = ((L0 ++ [r]).length : Nat) := by rw [List.length_append]; exact wrap_i64 (by omega) (by omega)
  obtain ⟨p, c, rfl⟩ := slv_shJ hv
  have hpl := pos_le (L0 := L0) r
  by_cases hm : r ∈ heldL L0
  · have hf : decide (r ∈ heldL L0) = true := decide_eq_true hm
    have hp := held_count hm
    have hpi := get_lt hp
    have e1 := pinsOf_snoc_mem (mem_heldL.1 hm)
    have hwc : IntKind.i64.wrap (((L0.count r : Nat) : Int) + 1) = ((L0.count r : Nat) : Int) + 1 := wrap_i64 (by omega) (by omega)
    generalize hat : posS cP r (heldL L0) = at_ at *
    refine y7 Tryz.func82 rfl Tryz.ntmps82 (Nat.le_of_ble_eq_true rfl) hB ?_
    refine Z146 ?_; refine Z21 ?_; refine Z124 ?_; refine Z275 ?_; refine Z11 ?_; refine Z187 ?_; refine Z158 ?_; refine Z237 ?_; refine Z166 ?_; refine Z20 ?_; refine Z164 ?_; refine zx ?_; refine Z284 ?_; refine Z43 ?_; refine z7 (zt L (vs := [_, _]) (qt rfl) rfl rfl rfl rfl ⟨_, rfl⟩) rfl ?_; refine Z1 ?_; refine z7 (zp L rfl rfl (zk rfl) rfl rfl rfl (fun u H hH hle _ => hf ▸ hat ▸ find_ret (L0 := L0) (t := L0.length) (by omega) hH (hv.le hle))) rfl ?_; refine Z288 ?_; refine Z197 ?_; refine z7 (zt L (vs := [_, _]) (qt rfl) rfl rfl rfl rfl ⟨_, rfl⟩) rfl ?_; refine Z1 ?_; refine z7 (zp L rfl rfl (zk rfl) rfl rfl rfl (fun u H hH hle _ => count_ret (by omega) hH (hv.le hle))) rfl ?_; refine Z19 ?_; refine Z29 ?_; refine Z123 ?_; refine Z49 ?_; refine Z267 ?_; refine Z9 ?_; refine Z9 ?_; refine Z133 ?_; refine Z74 ?_; refine Z186 ?_; refine z7 (ok_callO L rfl rfl (zk rfl) rfl rfl rfl (fun u H hH hle _ => pclone_ret (by omega) hH (hv.le hle))) rfl ?_; refine qk (ok_moveO (.inr rfl) rfl rfl rfl rfl) ?_; refine Z162 ?_; refine Z234 ?_; refine Z49 ?_; refine Z133 ?_
    refine V_holdR 10 900 rfl (fun h0 _ => by omega) fun b cap rest hl hmc hcm hcl => ?_
    obtain ⟨tl, hld⟩ := pn_ld hp rest
    have hst := pn_set hp (((L0.count r : Nat) : Int) + 1) rest
    have hbl := pn_ble hpi rest
    refine Z76 ?_; refine Z123 ?_; refine z7 (zo L _ rfl rfl rfl rfl rfl rfl rfl (by omega)) rfl ?_; refine Z35 ?_; refine yf (qf L (q := 900) rfl rfl rfl rfl rfl hld) ?_; refine Z243 ?_; refine z7 (zo L _ rfl rfl rfl rfl rfl rfl rfl (by omega)) rfl ?_; refine Z35 ?_; refine vo_stepS (yh L (q := 900) rfl rfl rfl rfl rfl rfl hbl rfl hst) ?_; refine Z137 ?_
    have hln : (pinsOf (L0 ++ [r])).length = (pinsOf L0).length := by rw [e1, List.length_set]
    rw [← e1]
    refine V_releaseR (s := 2) (xs := (pinsOf (L0 ++ [r])).flatMap pnc) (rest := rest) 10 900 rfl rfl rfl (by rw [ps_len, hln]) hmc hcm (by rw [List.length_append, ps_len, hln, ← ps_len, ← List.length_append]; exact hcl) ?_
    refine V_pubW 10 rfl fun x H hs _ hsw => ?_
    have hsv : PsV (pinsOf (L0 ++ [r])) x H := by unfold PsV; rw [hln]; exact hsw.toV
    obtain ⟨p2, c2, rfl⟩ := slv_shJ hsv
    refine Z219 ?_; refine Z186 ?_; refine Z243 ?_; refine z7 (ym (cs := [_, _]) rfl rfl pl74 rfl rfl) rfl ?_; refine Z217 ?_
    refine y9 L (rs := [.cell 6 74, .tmp 7]) rfl (fun _ _ h => h) hs fun u H hH hle => ?_
    exact ⟨_, y5 rfl, rfl, _, rfl, hsv.le hle⟩
  · have hf : decide (r ∈ heldL L0) = false := decide_eq_false hm
    have e1 := pinsOf_snoc (L := L0) fun h => hm (mem_heldL.2 h)
    generalize hat : posS cP r (heldL L0) = at_ at *
    have e2 : pinsOf (L0 ++ [r]) = (insI (pinsOf L0) at_ (r, 0)).set at_ (r, 1) := by rw [insI_set hpl]; exact e1
    have hp := insI_at (x := (r, (0 : Int))) hpl
    have hpi := get_lt hp
    have hil := insI_length (x := (r, (0 : Int))) hpl
    refine y7 Tryz.func82 rfl Tryz.ntmps82 (Nat.le_of_ble_eq_true rfl) hB ?_
    refine Z146 ?_; refine Z21 ?_; refine Z124 ?_; refine Z275 ?_; refine Z11 ?_; refine Z187 ?_; refine Z158 ?_; refine Z237 ?_; refine Z166 ?_; refine Z20 ?_; refine Z164 ?_; refine zx ?_; refine Z284 ?_; refine Z43 ?_; refine z7 (zt L (vs := [_, _]) (qt rfl) rfl rfl rfl rfl ⟨_, rfl⟩) rfl ?_; refine Z1 ?_; refine z7 (zp L rfl rfl (zk rfl) rfl rfl rfl (fun u H hH hle _ => hf ▸ hat ▸ find_ret (L0 := L0) (t := L0.length) (by omega) hH (hv.le hle))) rfl ?_; refine Z288 ?_; refine Z197 ?_; refine z7 (zt L (vs := [_, _]) (qt rfl) rfl rfl rfl rfl ⟨_, rfl⟩) rfl ?_; refine Z1 ?_; refine z7 (zp L rfl rfl (zk rfl) rfl rfl rfl (fun u H hH hle _ => count_ret (by omega) hH (hv.le hle))) rfl ?_; refine Z19 ?_; refine Z29 ?_; refine Z123 ?_; refine Z49 ?_; refine Z1 ?_; refine Z186 ?_; refine Z86 ?_; refine Z20 ?_; refine Z9 ?_; refine Z9 ?_; refine Z133 ?_; refine Z74 ?_; refine Z186 ?_; refine z7 (ok_callO L rfl rfl (zk rfl) rfl rfl rfl (fun u H hH hle _ => pclone_ret (by omega) hH (hv.le hle))) rfl ?_; refine qk (ok_moveO (.inr rfl) rfl rfl rfl rfl) ?_; refine Z162 ?_; refine Z234 ?_; refine Z49 ?_; refine Z129 ?_; refine Z80 ?_; refine qk (ok_moveO (.inl rfl) rfl rfl rfl rfl) ?_; refine Z123 ?_; refine z7 (ym (cs := [_, _]) rfl rfl pl137 rfl rfl) rfl ?_; refine Z54 ?_; refine qk (ok_callTO L (q := 51) rfl rfl rfl rfl rfl (fun u H C x hH hle hx hC v2 hv2 => insert_ret (y := (r, 0)) hpl (by omega) hH hv2 hx hC)) ?_; refine qk (ok_moveO (.inr rfl) rfl rfl rfl rfl) ?_; refine Z137 ?_
    rw [← hil]
    refine V_holdR 10 900 rfl (fun h0 _ => by omega) fun b cap rest hl hmc hcm hcl => ?_
    obtain ⟨tl, hld⟩ := pn_ld hp rest
    have hst := pn_set hp 1 rest
    have hbl := pn_ble hpi rest
    refine Z76 ?_; refine Z123 ?_; refine z7 (zo L _ rfl rfl rfl rfl rfl rfl rfl (by omega)) rfl ?_; refine Z35 ?_; refine yf (qf L (q := 900) rfl rfl rfl rfl rfl hld) ?_; refine Z1 ?_; refine Z26 ?_; refine z7 (zo L _ rfl rfl rfl rfl rfl rfl rfl (by omega)) rfl ?_; refine Z35 ?_; refine vo_stepS (yh L (q := 900) rfl rfl rfl rfl rfl rfl hbl rfl hst) ?_; refine Z137 ?_
    have hln : (pinsOf (L0 ++ [r])).length = (insI (pinsOf L0) at_ (r, 0)).length := by rw [e2, List.length_set]
    rw [← e2]
    refine V_releaseR (s := 2) (xs := (pinsOf (L0 ++ [r])).flatMap pnc) (rest := rest) 10 900 rfl rfl rfl (by rw [ps_len, hln]) hmc hcm (by rw [List.length_append, ps_len, hln, ← ps_len, ← List.length_append]; exact hcl) ?_
    refine V_pubW 10 rfl fun x H hs _ hsw => ?_
    have hsv : PsV (pinsOf (L0 ++ [r])) x H := by unfold PsV; rw [hln]; exact hsw.toV
    obtain ⟨p2, c2, rfl⟩ := slv_shJ hsv
    refine Z219 ?_; refine Z186 ?_; refine Z243 ?_; refine z7 (ym (cs := [_, _]) rfl rfl pl74 rfl rfl) rfl ?_; refine Z217 ?_
    refine y9 L (rs := [.cell 6 74, .tmp 7]) rfl (fun _ _ h => h) hs fun u H hH hle => ?_
    exact ⟨_, y5 rfl, rfl, _, rfl, hsv.le hle⟩
theorem pin_ret {L0 : List Int} {r : Int} (hr : r ≠ 0) (hz : L0.length ≤ 1000) {s : Value} {w : World} {B : Heap} (hB : B.Le (hp w)) (hv : PsV (pinsOf L0) s B) :
    Ret Tryz.prog 51 [pnv s L0.length, .int .u64 r] w B (PinP (L0 ++ [r]) 0) := by
  obtain ⟨p, c, rfl⟩ := slv_shJ hv
  refine y7 Tryz.func51 rfl Tryz.ntmps51 (Nat.le_of_ble_eq_true rfl) hB ?_
  refine Z146 ?_; refine Z21 ?_; refine Z169 ?_; refine z7 (zt L (vs := [_, _]) (qt rfl) rfl rfl rfl rfl ⟨_, rfl⟩) rfl ?_; refine Z1 ?_; refine z7 (yr L rfl rfl (zk rfl) rfl rfl rfl PinP.mono (fun u H hH hle _ => more_ret hr hz hH (hv.le hle))) rfl ?_; refine vo_opn 8 rfl fun v1 H1 hs1 hp1 => ?_; obtain ⟨s1, rfl, hq1⟩ := hp1; obtain ⟨p1, c1, rfl⟩ := slv_shJ hq1; refine Z141 ?_; refine Z217 ?_
  refine y9 L (rs := [.cell 4 74, .tmp 5]) rfl (fun _ _ h => h) hs1 fun u H hH hle => ?_
  exact ⟨_, y5 rfl, rfl, _, rfl, hq1.le hle⟩
theorem PinP.nil {e : Int} {B : Heap} : PinP [] e (.tuple #[pnv (.slice none 0 0) 0, .int .i64 e]) B := ⟨_, rfl, SlV.nil⟩
set_option maxHeartbeats 4000000 in
set_option maxRecDepth 20000 in
theorem unpin_ret {L0 L1 : List Int} {r : Int} {e : Nat} (hr : unpinR L0 r = (L1, e)) (hz : L0.length ≤ 1000) {s : Value} {w : World} {B : Heap} (hB : B.Le (hp w)) (hv : PsV (pinsOf L0) s B) :
    Ret Tryz.prog 69 [pnv s L0.length, .int .u64 r] w B (PinP L1 e) := by
  have hz2 : (pinsOf L0).length ≤ 1000 := by rw [pinsOf_length]; exact Nat.le_trans (heldL_length _) hz
  have hcz : L0.count r ≤ 1000 := Nat.le_trans List.count_le_length hz
  obtain ⟨p, c, rfl⟩ := slv_shJ hv
  unfold unpinR at hr
  by_cases h0 : L0.count r = 0
  · rw [if_pos h0] at hr
    cases hr
    have hm : r ∉ heldL L0 := fun h => (List.count_eq_zero.1 h0) (mem_heldL.1 h)
    have hf : decide (r ∈ heldL L0) = false := decide_eq_false hm
    refine y7 Tryz.func69 rfl Tryz.ntmps69 (Nat.le_of_ble_eq_true rfl) hB ?_
    refine Z146 ?_; refine Z21 ?_; refine Z169 ?_; refine z7 (zt L (vs := [_, _]) (qt rfl) rfl rfl rfl rfl ⟨_, rfl⟩) rfl ?_; refine Z1 ?_; refine z7 (zp L rfl rfl (zk rfl) rfl rfl rfl (fun u H hH hle _ => hf ▸ find_ret (L0 := L0) (t := L0.length) (by omega) hH (hv.le hle))) rfl ?_; refine Z288 ?_; refine Z155 ?_; refine Z49 ?_; refine Z138 ?_; refine Z28 ?_; refine z7 (ym (cs := [_, _]) rfl rfl pl74 rfl rfl) rfl ?_; refine Z217 ?_
    refine y9 L (rs := [.cell 4 74, .tmp 5]) rfl (fun _ _ h => h) Since.refl fun u H hH hle => ?_
    exact ⟨_, y5 rfl, rfl, PinP.nil⟩
  · rw [if_neg h0] at hr
    cases hr
    have hmem : r ∈ L0 := List.count_pos_iff.1 (by omega)
    have hm : r ∈ heldL L0 := mem_heldL.2 hmem
    have hf : decide (r ∈ heldL L0) = true := decide_eq_true hm
    have hp := held_count hm
    have hpi := get_lt hp
    have hL1 : (L0.erase r).length = L0.length - 1 := by rw [List.length_erase_of_mem hmem]
    have hL0 : 0 < L0.length := List.length_pos_of_mem hmem
    have hwt : IntKind.i64.wrap ((L0.length : Int) - 1) = ((L0.erase r).length : Nat) := by rw [hL1]; exact wrap_i64 (by omega) (by omega) |>.trans (by omega)
    have hwc : IntKind.i64.wrap (((L0.count r : Nat) : Int) - 1) = ((L0.count r : Nat) : Int) - 1 := wrap_i64 (by omega) (by omega)
    have e1 : 1 < L0.count r → pinsOf (L0.erase r) = (pinsOf L0).set (posS cP r (heldL L0)) (r, ((L0.count r : Nat) : Int) - 1) := pinsOf_erase_more
    have e2 : L0.count r = 1 → pinsOf (L0.erase r) = (pinsOf L0).eraseIdx (posS cP r (heldL L0)) := pinsOf_erase_one
    generalize hat : posS cP r (heldL L0) = at_ at *
    have hwi : IntKind.i64.wrap ((at_ : Int) + 1) = ((at_ + 1 : Nat) : Int) := wrap_i64 (by omega) (by omega)
    refine y7 Tryz.func69 rfl Tryz.ntmps69 (Nat.le_of_ble_eq_true rfl) hB ?_
    refine Z146 ?_; refine Z21 ?_; refine Z169 ?_; refine z7 (zt L (vs := [_, _]) (qt rfl) rfl rfl rfl rfl ⟨_, rfl⟩) rfl ?_; refine Z1 ?_; refine z7 (zp L rfl rfl (zk rfl) rfl rfl rfl (fun u H hH hle _ => hf ▸ hat ▸ find_ret (L0 := L0) (t := L0.length) (by omega) hH (hv.le hle))) rfl ?_; refine Z288 ?_; refine Z155 ?_; refine Z49 ?_; refine Z133 ?_; refine Z34 ?_; refine Z186 ?_; refine z7 (ok_callO L rfl rfl (zk rfl) rfl rfl rfl (fun u H hH hle _ => pclone_ret (by omega) hH (hv.le hle))) rfl ?_; refine qk (ok_moveO (.inr rfl) rfl rfl rfl rfl) ?_; refine Z162 ?_
    refine V_holdR 8 900 rfl (fun h0 _ => by omega) fun b cap rest hl hmc hcm hcl => ?_
    obtain ⟨tl, hld⟩ := pn_ld hp rest
    have hst := pn_set hp (((L0.count r : Nat) : Int) - 1) rest
    have hbl := pn_ble hpi rest
    have hp2 : ((pinsOf L0).set at_ (r, ((L0.count r : Nat) : Int) - 1))[at_]? = some (r, ((L0.count r : Nat) : Int) - 1) := by rw [List.getElem?_set_self hpi]
    obtain ⟨tl2, hld2⟩ := pn_ld hp2 rest
    have hsl : ((pinsOf L0).set at_ (r, ((L0.count r : Nat) : Int) - 1)).length = (pinsOf L0).length := List.length_set ..
    have hcl2 : (((pinsOf L0).set at_ (r, ((L0.count r : Nat) : Int) - 1)).flatMap pnc ++ rest).length = cap * 2 := by rw [List.length_append, ps_len, hsl, ← ps_len, ← List.length_append]; exact hcl
    have hers : ((pinsOf L0).set at_ (r, ((L0.count r : Nat) : Int) - 1)).eraseIdx at_ = (pinsOf L0).eraseIdx at_ := by rw [List.eraseIdx_set_eq]
    by_cases h1 : L0.count r = 1
    · have hz0 : ((L0.count r : Nat) : Int) - 1 = 0 := by omega
      refine Z213 ?_; refine z7 (zo L _ rfl rfl rfl rfl rfl rfl rfl (by omega)) rfl ?_; refine Z35 ?_; refine yf (qf L (q := 900) rfl rfl rfl rfl rfl hld) ?_; refine Z19 ?_; refine z7 (zo L _ rfl rfl rfl rfl rfl rfl rfl (by omega)) rfl ?_; refine Z35 ?_; refine vo_stepS (yh L (q := 900) rfl rfl rfl rfl rfl rfl hbl rfl hst) ?_; refine Z137 ?_; refine Z228 ?_; refine z7 (zo L _ rfl rfl rfl rfl rfl rfl rfl (by omega)) rfl ?_; refine Z35 ?_; refine yf (qf L (q := 900) rfl rfl rfl rfl rfl hld2) ?_; refine Z27 ?_; refine Z129 ?_
      refine V_releaseR (s := 2) (xs := ((pinsOf L0).set at_ (r, ((L0.count r : Nat) : Int) - 1)).flatMap pnc) (rest := rest) 8 900 rfl rfl rfl (by rw [ps_len, hsl]) hmc hcm hcl2 ?_
      refine Z43 ?_; refine qk (ok_moveO (.inl rfl) rfl rfl rfl rfl) ?_; refine Z235 ?_; refine qk (ok_callTO L (q := 35) rfl rfl rfl rfl rfl (fun u H C x hH hle hx hC => delete_ret (l := (pinsOf L0).set at_ (r, ((L0.count r : Nat) : Int) - 1)) (by rw [hsl]; exact hpi) (by rw [hsl]; omega) rfl hH (by rw [hsl]; exact hx) hC)) ?_; refine qk (ok_moveO (.inr rfl) rfl rfl rfl rfl) ?_; refine Z137 ?_
      rw [hers, hsl, ← e2 h1]
      refine V_pubW 8 rfl fun x H hs _ hsw => ?_
      have hsv : PsV (pinsOf (L0.erase r)) x H := by
        unfold PsV
        rw [show (pinsOf (L0.erase r)).length = (pinsOf L0).length - 1 by rw [e2 h1, List.length_eraseIdx_of_lt hpi]]
        exact hsw.toV
      obtain ⟨p2, c2, rfl⟩ := slv_shJ hsv
      refine Z197 ?_; refine Z186 ?_; refine Z19 ?_; refine z7 (ym (cs := [_, _]) rfl rfl pl74 rfl rfl) rfl ?_; refine Z217 ?_
      refine y9 L (rs := [.cell 4 74, .tmp 5]) rfl (fun _ _ h => h) hs fun u H hH hle => ?_
      exact ⟨_, y5 rfl, rfl, _, rfl, hsv.le hle⟩
    · have hz0 : ((L0.count r : Nat) : Int) - 1 ≠ 0 := by omega
      refine Z213 ?_; refine z7 (zo L _ rfl rfl rfl rfl rfl rfl rfl (by omega)) rfl ?_; refine Z35 ?_; refine yf (qf L (q := 900) rfl rfl rfl rfl rfl hld) ?_; refine Z19 ?_; refine z7 (zo L _ rfl rfl rfl rfl rfl rfl rfl (by omega)) rfl ?_; refine Z35 ?_; refine vo_stepS (yh L (q := 900) rfl rfl rfl rfl rfl rfl hbl rfl hst) ?_; refine Z137 ?_; refine Z228 ?_; refine z7 (zo L _ rfl rfl rfl rfl rfl rfl rfl (by omega)) rfl ?_; refine Z35 ?_; refine yf (qf L (q := 900) rfl rfl rfl rfl rfl hld2) ?_; refine Z223 ?_
      refine V_releaseR (s := 2) (xs := ((pinsOf L0).set at_ (r, ((L0.count r : Nat) : Int) - 1)).flatMap pnc) (rest := rest) 8 900 rfl rfl rfl (by rw [ps_len, hsl]) hmc hcm hcl2 ?_
      rw [← e1 (by omega)] at hsl ⊢
      refine V_pubW 8 rfl fun x H hs _ hsw => ?_
      have hsv : PsV (pinsOf (L0.erase r)) x H := by unfold PsV; rw [hsl]; exact hsw.toV
      obtain ⟨p2, c2, rfl⟩ := slv_shJ hsv
      refine Z197 ?_; refine Z186 ?_; refine Z19 ?_; refine z7 (ym (cs := [_, _]) rfl rfl pl74 rfl rfl) rfl ?_; refine Z217 ?_
      refine y9 L (rs := [.cell 4 74, .tmp 5]) rfl (fun _ _ h => h) hs fun u H hH hle => ?_
      exact ⟨_, y5 rfl, rfl, _, rfl, hsv.le hle⟩
end Go.V.L10
set_option maxRecDepth 20000
namespace Go.V.L10
open Go.Proofs Go.RowKit Go.V Go.V.L2 Go.V.L8 Go.V.L6
theorem _root_.Go.V.Z238 {A B : Prop} (h : B) (t : Wr B → A := by intro h; refine Z178 ?_; refine Z67 ?_; exact h.h) : A := t ⟨h⟩
abbrev tyS : TypeId := 94
abbrev Ent := List (Int × (List U × Value))
abbrev vcE (p : List U × Value) : Value := p.2
abbrev stc (n m : Nat) (s : Value) (t : Nat) : List Value := [.int .u64 n, .map (some m), s, .int .i64 t]
abbrev StO (b n m : Nat) (s : Value) (t : Nat) (es : Ent) : GR := GBoth (GHeld b (stc n m s t) tyS) (GMap m .u64 vcE es)
theorem sto_res (b n m : Nat) (s : Value) (t : Nat) (es : Ent) : (StO b n m s t es).res = Both2 (HeldR b (stc n m s t) tyS) (MapB m .u64 vcE es) := rfl
def EsV (es : Ent) (H : Heap) : Prop := ∀ e ∈ es, SetV e.2.1 e.2.2 H
theorem EsV.le {es : Ent} {H H' : Heap} (h : EsV es H) (hle : H.Le H') : EsV es H' := fun e he => (h e he).le hle
theorem lend_c {b : Nat} {cs : List Value} {ty : TypeId} : ∀ v H u C, (HeldR b cs ty).P v H u C → joinH H u C b = some (.cells cs.toArray ty) := fun _ _ _ _ ⟨hb, hC⟩ => (joinH_in ((hC b).2 rfl)).trans hb
theorem zr_run {P : Program} (L : Tabs P) {e : TypeId} {z : Value} (hz : L.zr e = some z) (w : World) : (zeroValue e).run P w = .ok z w := by
  have h := Tabs.zr_spec hz
  unfold zrI at h
  split at h
  · rename_i it hit; simp [zeroValue, typeInfo, hit, h]
  · cases h
abbrev tyMs : TypeId := 92
abbrev tySt : TypeId := 45
theorem mpS : Tryz.prog.underlying tyMs = some (.map tyU6 tySt) := by kernel_rfl
theorem kyS : Tryz.prog.underlying tyU6 = some (.int .u64) := by kernel_rfl
theorem zrS (w : World) : (zeroValue tySt).run Tryz.prog w = .ok nilSet w := zr_run L rfl w
attribute [local irreducible] V N X VO Par StepOK Has Ret RetL RetO RetT RetG RetX RetY Src
theorem none_ret {b n : Nat} {rest : List Value} (hn : n ≠ 0) {w : World} {B : Heap} (hb : B b = some (.cells (Value.int .u64 n :: rest).toArray tyS)) (hB : B.Le (hp w)) :
    Ret Tryz.prog 43 [.pointer (some ⟨b, 0, none⟩)] w B (fun v _ => v = .bool false) := by
  refine y7 Tryz.func43 rfl Tryz.ntmps43 (Nat.le_of_ble_eq_true rfl) hB ?_
  refine Z251 ?_; refine z7 (ok_neql rfl rfl rfl rfl nk29 rfl) rfl ?_; refine Z123 ?_; refine Z241 ?_; refine Z20 ?_; refine Z9 ?_; refine Z122 ?_
  refine y9 L (rs := [.tmp 2]) rfl (fun _ _ h => h) Since.refl fun u H hH hle => ?_
  rfl
theorem newest_ret {b n : Nat} {rest : List Value} (hn : n ≠ 0) {w : World} {B : Heap} (hb : B b = some (.cells (Value.int .u64 n :: rest).toArray tyS)) (hB : B.Le (hp w)) :
    Ret Tryz.prog 15 [.pointer (some ⟨b, 0, none⟩)] w B (fun v _ => v = .int .u64 n) := by
  refine y7 Tryz.func15 rfl Tryz.ntmps15 (Nat.le_of_ble_eq_true rfl) hB ?_
  refine Z227 ?_; refine z7 (zp L rfl rfl (zk rfl) rfl rfl rfl (fun u H hH hle _ => none_ret hn (hle _ _ hb) hH)) rfl ?_; refine Z133 ?_; refine Z158 ?_; refine Z241 ?_; refine Z122 ?_
  refine y9 L (rs := [.tmp 2]) rfl (fun _ _ h => h) Since.refl fun u H hH hle => ?_
  rfl
theorem pins_ret {b n m t : Nat} {s : Value} (hs : ∃ p k c, s = .slice p k c) (hn : n ≠ 0) {w : World} {B : Heap} (hb : B b = some (.cells (stc n m s t).toArray tyS)) (hB : B.Le (hp w)) :
    Ret Tryz.prog 25 [.pointer (some ⟨b, 0, none⟩)] w B (fun v _ => v = pnv s t) := by
  obtain ⟨p, k, c, rfl⟩ := hs
  refine y7 Tryz.func25 rfl Tryz.ntmps25 (Nat.le_of_ble_eq_true rfl) hB ?_
  refine Z233 ?_; refine Z162 ?_; refine Z140 ?_; refine z7 (zp L rfl rfl (zk rfl) rfl rfl rfl (fun u H hH hle _ => none_ret hn (hle _ _ hb) hH)) rfl ?_; refine Z133 ?_; refine Z158 ?_; refine Z178 ?_; refine z7 (zt L (vs := [_, _]) (qo rfl (by assumption)) rfl rfl rfl rfl ⟨_, rfl⟩) rfl ?_; refine Z230 ?_
  refine y9 L (rs := [.cell 2 74]) rfl (fun _ _ h => h) Since.refl fun u H hH hle => ?_
  exact ⟨_, y5 rfl, rfl, rfl⟩
set_option maxHeartbeats 1000000 in
theorem stoAt_ret {S : Sto} {b m t : Nat} {s : Value} {es : Ent} {r : Int} (hm : MapOK es S.R) (hn : S.R.length ≠ 0) {w : World} {B : Heap} {C : Nat → Prop} (hes : EsV es B) (hB : B.Le (hp w)) (hr : (StO b S.R.length m s t es).P B w C) (hC : ∀ k, C k → k < w.heap.size ∧ B k = none) :
    RetY Tryz.prog 13 [.pointer (some ⟨b, 0, none⟩), .int .u64 r] w B C (StO b S.R.length m s t es) (WithP (atS S r).1 (atS S r).2) := by
  unfold RetY
  refine V_enterG 900 (StO b S.R.length m s t es) Tryz.func13 rfl Tryz.ntmps13 (Nat.le_of_ble_eq_true rfl) hB hr hC ?_
  rw [sto_res]
  refine V_part 900 901 rfl (gres_any _) ?_
  obtain ⟨k, hk⟩ : ∃ k, k = if r = 0 then (S.R.length : Int) else r := ⟨_, rfl⟩
  have hat : atS S r = match kpt S.R k with | some t => (t, 0) | none => ([], 14) := by rw [hk]; rfl
  have hg := hm.get k
  by_cases hr0 : r = 0
  · rw [if_pos hr0] at hk
    subst hr0
    subst hk
    cases hgk : mget (S.R.length : Int) es with
    | none =>
      rw [hgk] at hg
      rw [hat, ← hg]
      have q1 : (mget (S.R.length : Int) es).elim nilSet vcE = nilSet := by rw [hgk]; rfl
      have q2 : (mget (S.R.length : Int) es).isSome = false := by rw [hgk]; rfl
      refine Z233 ?_; refine Z180 ?_; refine yf (ok_callLendG L 900 (Φ := fun H => H b = some (.cells (stc S.R.length m s t).toArray tyS)) (c := .bool false) rfl rfl (zk rfl) rfl rfl rfl rfl rfl lend_c (fun u H hH hle hb => none_ret hn hb hH)) ?_; refine Z151 ?_; refine Z158 ?_; refine Z27 ?_; refine Z129 ?_; refine Z156 ?_; refine Z238 ?_; refine Z124 ?_; refine Z166 ?_; refine Z238 ?_; refine Z1 ?_; refine yf (ok_lookupB (q := 901) (vc := vcE) (S.R.length : Int) mpS kyS zrS rfl rfl rfl rfl rfl q1 q2) ?_; refine Z147 ?_; refine Z170 ?_; refine Z132 ?_; refine Z172 ?_; refine Z49 ?_; refine Z138 ?_; refine Z43 ?_; refine z7 (ym (cs := [_, _, _, _]) rfl rfl pl45 rfl rfl) rfl ?_; refine Z217 ?_
      refine V_join2 900 901 rfl rfl (gres_any _) ?_
      exact V_retY L 900 (r := StO b S.R.length m s t es) (rs := [.cell 4 45, .tmp 5]) rfl (fun _ _ h => h) Since.refl rfl rfl (fun H hle => ⟨_, y5 rfl, rfl, _, rfl, SetV.nil⟩)
    | some x =>
      obtain ⟨l, sv⟩ := x
      rw [hgk] at hg
      rw [hat, ← hg]
      have hx : SetV l sv B := hes _ (mget_mem hgk)
      obtain ⟨f1, p1, f2, p2, rfl, hpl⟩ := hx.shape
      have q1 : (mget (S.R.length : Int) es).elim nilSet vcE = .agg #[f1, .pointer p1, f2, .pointer p2] := by rw [hgk]; rfl
      have q2 : (mget (S.R.length : Int) es).isSome = true := by rw [hgk]; rfl
      refine Z233 ?_; refine Z180 ?_; refine yf (ok_callLendG L 900 (Φ := fun H => H b = some (.cells (stc S.R.length m s t).toArray tyS)) (c := .bool false) rfl rfl (zk rfl) rfl rfl rfl rfl rfl lend_c (fun u H hH hle hb => none_ret hn hb hH)) ?_; refine Z151 ?_; refine Z158 ?_; refine Z27 ?_; refine Z129 ?_; refine Z156 ?_; refine Z238 ?_; refine Z124 ?_; refine Z166 ?_; refine Z238 ?_; refine Z1 ?_; refine yf (ok_lookupB (q := 901) (vc := vcE) (S.R.length : Int) mpS kyS zrS rfl rfl rfl rfl rfl q1 q2) ?_; refine Z294 ?_; refine Z172 ?_; refine Z49 ?_; refine Z133 ?_; refine Z57 ?_; refine z7 (zt L (vs := [_, _, _, _]) (y5 rfl) rfl rfl rfl rfl ⟨_, rfl⟩) rfl ?_; refine Z51 ?_; refine Z122 ?_
      refine V_join2 900 901 rfl rfl (gres_any _) ?_
      exact V_retY L 900 (r := StO b S.R.length m s t es) (rs := [.cell 4 45, .tmp 5]) rfl (fun _ _ h => h) Since.refl rfl rfl (fun H hle => ⟨_, y5 rfl, rfl, _, rfl, hx.le hle⟩)
  · rw [if_neg hr0] at hk
    subst hk
    cases hgk : mget k es with
    | none =>
      rw [hgk] at hg
      rw [hat, ← hg]
      have q1 : (mget k es).elim nilSet vcE = nilSet := by rw [hgk]; rfl
      have q2 : (mget k es).isSome = false := by rw [hgk]; rfl
      refine Z233 ?_; refine Z180 ?_; refine yf (ok_callLendG L 900 (Φ := fun H => H b = some (.cells (stc S.R.length m s t).toArray tyS)) (c := .bool false) rfl rfl (zk rfl) rfl rfl rfl rfl rfl lend_c (fun u H hH hle hb => none_ret hn hb hH)) ?_; refine Z151 ?_; refine Z158 ?_; refine Z223 ?_; refine Z166 ?_; refine Z238 ?_; refine Z1 ?_; refine yf (ok_lookupB (q := 901) (vc := vcE) k mpS kyS zrS rfl rfl rfl rfl rfl q1 q2) ?_; refine Z147 ?_; refine Z170 ?_; refine Z132 ?_; refine Z172 ?_; refine Z49 ?_; refine Z138 ?_; refine Z43 ?_; refine z7 (ym (cs := [_, _, _, _]) rfl rfl pl45 rfl rfl) rfl ?_; refine Z217 ?_
      refine V_join2 900 901 rfl rfl (gres_any _) ?_
      exact V_retY L 900 (r := StO b S.R.length m s t es) (rs := [.cell 4 45, .tmp 5]) rfl (fun _ _ h => h) Since.refl rfl rfl (fun H hle => ⟨_, y5 rfl, rfl, _, rfl, SetV.nil⟩)
    | some x =>
      obtain ⟨l, sv⟩ := x
      rw [hgk] at hg
      rw [hat, ← hg]
      have hx : SetV l sv B := hes _ (mget_mem hgk)
      obtain ⟨f1, p1, f2, p2, rfl, hpl⟩ := hx.shape
      have q1 : (mget k es).elim nilSet vcE = .agg #[f1, .pointer p1, f2, .pointer p2] := by rw [hgk]; rfl
      have q2 : (mget k es).isSome = true := by rw [hgk]; rfl
      refine Z233 ?_; refine Z180 ?_; refine yf (ok_callLendG L 900 (Φ := fun H => H b = some (.cells (stc S.R.length m s t).toArray tyS)) (c := .bool false) rfl rfl (zk rfl) rfl rfl rfl rfl rfl lend_c (fun u H hH hle hb => none_ret hn hb hH)) ?_; refine Z151 ?_; refine Z158 ?_; refine Z223 ?_; refine Z166 ?_; refine Z238 ?_; refine Z1 ?_; refine yf (ok_lookupB (q := 901) (vc := vcE) k mpS kyS zrS rfl rfl rfl rfl rfl q1 q2) ?_; refine Z294 ?_; refine Z172 ?_; refine Z49 ?_; refine Z133 ?_; refine Z57 ?_; refine z7 (zt L (vs := [_, _, _, _]) (y5 rfl) rfl rfl rfl rfl ⟨_, rfl⟩) rfl ?_; refine Z51 ?_; refine Z122 ?_
      refine V_join2 900 901 rfl rfl (gres_any _) ?_
      exact V_retY L 900 (r := StO b S.R.length m s t es) (rs := [.cell 4 45, .tmp 5]) rfl (fun _ _ h => h) Since.refl rfl rfl (fun H hle => ⟨_, y5 rfl, rfl, _, rfl, hx.le hle⟩)
end Go.V.L10
set_option maxRecDepth 20000
namespace Go.V
open Go.RowKit
def SlX (e : TypeId) (s cap n : Nat) (xs : List Value) : Res where
  P x _ u C := xs.length = n * s ∧ ∃ b rest, x = .slice (some ⟨b, 0, none⟩) n cap ∧ u.heap[b]? = some (.cells (xs ++ rest).toArray e) ∧ n ≤ cap ∧ cap ≤ maxLen ∧ (xs ++ rest).length = cap * s ∧ ∀ k, C k ↔ k = b
  st := fun ⟨hl, b, rest, h1, h2, h3, h4, h5, h6⟩ _ _ _ hk => ⟨hl, b, rest, h1, (hk b ((h6 b).2 rfl)).trans h2, h3, h4, h5, h6⟩
section
variable {P : Program} {F : Fr} {B : Heap} {O : Boxes} {n : Nat} {ops : Array Oper} {κ : Kap} {d : Nat} {ty : TypeId} {pos : String} {aft : Array Edge} {g : Option (Nat × Bool)} {Q : Exit → Act → World → Prop}
theorem ok_make0X (L : Tabs P) {t e : TypeId} {x y : Operand} {kl kc : IntKind} {s by_ : Nat} (c : Nat) {p : Int} (hn : Nat.blt d n = true) (hg : gK ops κ ⟨some d, .makeSlice t x y, ty, pos, aft, g⟩ = some true) (ht : L.sl t = some e) (he : elI P e = some (s, by_))
    (hx : evK κ x = some (.int kl 0)) (hy : evK κ y = some (.int kc p)) (hp : p = c) (hb : by_ * c ≤ 281474976710656) (hc : c ≤ maxLen) : StepOK P F B n ops O κ ⟨some d, .makeSlice t x y, ty, pos, aft, g⟩ d (.own (SlX e s c 0 [])) := by
  rintro κ' a u hl ⟨H, fp, hh⟩
  unfold After
  rw [if_pos (wanted_gK hh hl hg)]
  have en := hh.env hl
  obtain ⟨i, z, hi, hz, hs1, hs2, hs3, hs4⟩ := elI_spec he
  have h1 := en.is_ x _ (by simp [Op.operands]) hx
  have h2 := en.is_ y _ (by simp [Op.operands]) hy
  subst hp
  have hb' : (i.bytes : Int) * (c : Int) ≤ 281474976710656 := by
    have h : ((by_ * c : Nat) : Int) ≤ 281474976710656 := by omega
    rw [hs2]; rwa [Int.natCast_mul] at h
  have h63 : (c : Int) ≤ 9223372036854775807 := by simp [maxLen] at hc; omega
  have hr := run_make (P := P) u t e i z (Tabs.sl_spec ht) hi hz kl kc 0 c (Int.le_refl _) (by omega) hb' h63
  simp only [Int.toNat_zero, Int.toNat_natCast] at hr
  have hrun : (execOp a.eval ⟨some d, .makeSlice t x y, ty, pos, aft, g⟩).run P u = .ok (.value (.slice (some ⟨u.heap.size, 0, none⟩) 0 c)) (u.alloc (.cells (madeCells z.cells (c * i.size)) e)) := by
    simp only [execOp, h1, h2, Sem.run_bind, hr, Result.andThen_ok]; rfl
  rw [hrun]
  simp only [Upon]
  have hg2 := hh.grow (Grow.hid hh.sub (.cells (madeCells z.cells (c * i.size)) e))
  refine ⟨H, _, hg2.putR (C := fun k => k = u.heap.size) (by simp [Act.put]) rfl (fun t ht => eval_put_other ht) ⟨by simp, u.heap.size, (madeCells z.cells (c * i.size)).toList, eval_put_same (by rw [hh.size]; exact zk hn), by rw [heap_push_same]; simp, Nat.zero_le _, hc, by simp [size_madeCells, hs1], fun _ => Iff.rfl⟩ (fun k hk => ?_) fun t r' _ ht k hf hk => ?_⟩
  · subst hk
    exact ⟨size_of_heap (heap_push_same u _), none_of_ge hh.sub (Nat.le_refl _), .inl hh.keep.size, fun y hy e => by have := size_of_heap (hh.boxes y hy).1; omega⟩
  · have := ((hh.slot t _ ht).2 k hf).1
    omega
theorem V_holdX2 (t q : Nat) {e : TypeId} {s cap m : Nat} {xs : List Value} {c : Code} (hk : κ t = some (.own (SlX e s cap m xs)))
    (h : ∀ b rest, xs.length = m * s → m ≤ cap → cap ≤ maxLen → (xs ++ rest).length = cap * s → V P F B n O (upd (upd (upd κ t nilK) q (.own (HeldR b (xs ++ rest) e))) t (.is (.slice (some ⟨b, 0, none⟩) m cap))) c Q) : V P F B n O κ c Q := fun a u hh => by
  obtain ⟨H, fp, hh⟩ := hh
  obtain ⟨⟨hl, b, rest, hv, hb, h3, h4, h5, hC⟩, hM⟩ := hh.slot t _ hk
  have h2 := hh.usePut (d := q) (a' := a) (r' := HeldR b (xs ++ rest) e) (C := fp t) hk ⟨Keep.refl _ _, hh.sub, Heap.Le.refl _, fun _ _ _ => rfl⟩ rfl rfl (fun _ _ => rfl) ⟨hb, hC⟩ fun k hk => ⟨.inl hk, (hM k hk).1, (hM k hk).2.1⟩
  have h3' := h2.name t
  rw [hv] at h3'
  exact h b rest hl h3 h4 h5 a u ⟨H, _, h3'⟩
theorem ok_appendHI (L : Tabs P) {q b nn cap m : Nat} {x y : Operand} {t e : TypeId} {s by_ : Nat} {cur news cur' : List Value} (hn : Nat.blt d n = true) (hg : gK ops κ ⟨some d, .call ⟨.builtin .append, #[x, y], #[t, t]⟩, ty, pos, aft, g⟩ = some true)
    (hx : evK κ x = some (.slice (some ⟨b, 0, none⟩) nn cap)) (hq : κ q = some (.own (HeldR b cur e))) (hy : Apd F B O κ y m news) (ht : L.sl t = some e) (he : elI P e = some (s, by_)) (hm : 0 < m) (hnl : news.length = m * s) (hroom : nn + m ≤ cap) (hcl : nn * s + m * s ≤ cur.length) (h1 : news.all plainV = true)
    (hr : cur.take (nn * s) ++ (news ++ cur.drop (nn * s + m * s)) = cur') :
    StepOK2 P F B n ops O κ ⟨some d, .call ⟨.builtin .append, #[x, y], #[t, t]⟩, ty, pos, aft, g⟩ q (.own (HeldR b cur' e)) d (.is (.slice (some ⟨b, 0, none⟩) (nn + m) cap)) := by
  rintro κ' a u hlk hks ⟨H, fp, hh⟩
  unfold After
  rw [if_pos (wanted_gK hh hlk hg)]
  have en := hh.env hlk
  have hk' : κ' q = some (.own (HeldR b cur e)) := hks.trans hq
  have hxe := en.is_ x _ (by simp [Op.operands, Call.operands]) hx
  obtain ⟨⟨hb, hC⟩, hM⟩ := hh.slot q _ hk'
  obtain ⟨i, z, hi, hz, hs1, hs2, hs3, hs4⟩ := elI_spec he
  subst hs1
  rcases hy _ a u H fp (by simp [Op.operands, Call.operands]) en with ⟨h0, _⟩ | ⟨ad, c', hye, hcy⟩
  · omega
  have hrun0 := run_append_room (P := P) u t ty e i (Tabs.sl_spec ht) hi b nn cap cur.toArray hb ad m c' news hnl hcy (fun v hv => plain_one (List.all_eq_true.1 h1 v hv)) hroom (by rw [hnl]; simpa using hcl)
  rw [hnl] at hrun0
  simp only [List.append_assoc] at hrun0
  rw [hr] at hrun0
  have hrun : (execOp a.eval ⟨some d, .call ⟨.builtin .append, #[x, y], #[t, t]⟩, ty, pos, aft, g⟩).run P u = .ok (.value (.slice (some ⟨b, 0, none⟩) (nn + m) cap)) (u.setRow b cur'.toArray) := by
    simp only [execOp, resolve, invoke, builtin, Sem.run_bind, Sem.run_pure, Result.andThen_ok, List.map_toArray, List.map_cons, List.map_nil, hxe, hye, hrun0]
  rw [hrun]
  simp only [Upon]
  have hbm := hM b ((hC b).2 rfl)
  have h2 := hh.usePut (d := q) (a' := a) (r' := HeldR b cur' e) (C := fun k => k = b) hk' (grow_setRow hh.sub hb ((hC b).2 rfl) hbm.2.1 _) rfl rfl (fun _ _ => rfl) ⟨setRow_heap u b cur.toArray cur'.toArray e (0, 0) hb, fun _ => Iff.rfl⟩ (fun k hk => by
    subst hk; exact ⟨.inl ((hC k).2 rfl), by rw [setRow_size]; exact hbm.1, hbm.2.1⟩)
  rw [upd_upd] at h2
  exact ⟨H, _, h2.put (k := .is _) (zk hn) trivial rfl⟩
end
end Go.V
set_option maxRecDepth 20000
namespace Go.V.L10
open Go.Proofs Go.RowKit Go.V Go.V.L2 Go.V.L8 Go.V.L6
theorem srt_kept {R : List (Option (List U))} {es : Ent} (hm : MapOK es R) {out : List Int} (hp : out.Perm (es.map Prod.fst)) : (Go.Sort.sort So.lt out.toArray).toList = keptL R := by
  have h1 : (Go.Sort.sort So.lt out.toArray).toList = out.mergeSort (fun x y => decide (x ≤ y)) := Go.Sort.sortInt out
  rw [h1]
  have hperm := List.mergeSort_perm out (fun x y => decide (x ≤ y))
  have hnd : (out.mergeSort (fun x y => decide (x ≤ y))).Nodup := (hperm.trans hp).nodup_iff.2 hm.nd
  have hs : (out.mergeSort (fun x y => decide (x ≤ y))).Pairwise fun a b => decide (a ≤ b) = true := List.pairwise_mergeSort (le := fun x y : Int => decide (x ≤ y)) (fun a b c h1 h2 => by simp at h1 h2 ⊢; omega) (fun a b => by simp; omega) out
  refine sst_ext cP_ord ?_ (sst_keptL R) fun z => ?_
  · refine (List.Pairwise.and hs hnd).imp ?_
    rintro a b ⟨h2, h3⟩
    have h4 : a ≤ b := by simpa using h2
    have h5 : a ≠ b := h3
    exact cP_lt.2 (by omega)
  · rw [(hperm.trans hp).mem_iff, hm.mem]
theorem erase_perm {α : Type} : ∀ {l : List α} {j : Nat} {x : α}, l[j]? = some x → (x :: l.eraseIdx j).Perm l
  | [], _, _, h => by cases h
  | y :: l, 0, x, h => by cases h; exact List.Perm.refl _
  | y :: l, j + 1, x, h => by
    have := erase_perm (l := l) (j := j) (x := x) (by simpa using h)
    exact (List.Perm.swap y x _).trans (this.cons y)
theorem left_perm {left : Ent} {j : Nat} {p : Int × (List U × Value)} (h : left[j]? = some p) (out : List Int) : (out ++ [p.1] ++ (left.eraseIdx j).map Prod.fst).Perm (out ++ left.map Prod.fst) := by
  have h1 : (p :: left.eraseIdx j).Perm left := erase_perm h
  rw [List.append_assoc]
  refine List.Perm.append_left out ?_
  simpa using h1.map Prod.fst
attribute [local irreducible] V N X VO Par StepOK Has Ret RetL RetO RetT RetG RetX RetY Src
abbrev KeptR (R : List (Option (List U))) : Res := SlE tyU6 1 (keptL R).length ((keptL R).map (Value.int .u64))
set_option maxHeartbeats 2000000 in
set_option maxRecDepth 10000 in
theorem kept_ret {R : List (Option (List U))} {b m t : Nat} {s : Value} {es : Ent} (hm : MapOK es R) (hn : R.length ≠ 0) (hz : es.length ≤ 100000) {w : World} {B : Heap} {C : Nat → Prop} (hB : B.Le (hp w)) (hr : (StO b R.length m s t es).P B w C) (hC : ∀ k, C k → k < w.heap.size ∧ B k = none) :
    RetT Tryz.prog 12 [.pointer (some ⟨b, 0, none⟩)] w B C (Both2 (KeptR R) (StO b R.length m s t es).res) := by
  have hlen := hm.len
  rw [show KeptR R = SlE tyU6 1 es.length ((keptL R).map (Value.int .u64)) by rw [hlen]]
  unfold RetT
  refine V_enterG 900 (StO b R.length m s t es) Tryz.func12 rfl Tryz.ntmps12 (Nat.le_of_ble_eq_true rfl) hB hr hC ?_
  rw [sto_res]
  refine V_part 900 901 rfl (gres_any _) ?_
  refine Z227 ?_; refine yf (ok_callLendG L 900 (Φ := fun H => H b = some (.cells (stc R.length m s t).toArray tyS)) (c := .bool false) rfl rfl (zk rfl) rfl rfl rfl rfl rfl lend_c (fun u H hH hle hb => none_ret hn hb hH)) ?_; refine Z133 ?_; refine Z158 ?_; refine Z238 ?_; refine yf (ok_lenB (q := 901) (vc := vcE) mpS rfl rfl rfl rfl rfl) ?_; refine z7 (ok_make0X L es.length rfl rfl rfl el49 rfl rfl rfl (by omega) (by unfold maxLen; omega)) rfl ?_; refine qk (ok_moveO (.inr rfl) rfl rfl rfl rfl) ?_; refine Z162 ?_
  refine V_holdX2 3 902 rfl fun b3 rest0 _ _ hcm hcl0 => ?_
  refine Z156 ?_; refine Z238 ?_; refine qk (ok_rangeM (q := 901) (vc := vcE) mpS rfl rfl rfl rfl) ?_; refine Z239 ?_
  refine V_loop (fun T : (List Int × List Value) × Ent => [(3, .is (.slice (some ⟨b3, 0, none⟩) T.1.1.length es.length)), (17, .own (RngM m .u64 vcE es T.2)), (900, .own (HeldR b (stc R.length m s t) tyS)), (902, .own (HeldR b3 (T.1.1.map (Value.int .u64) ++ T.1.2) tyU6))])
    (fun T => (T.1.1 ++ T.2.map Prod.fst).Perm (es.map Prod.fst) ∧ (T.1.1.map (Value.int .u64) ++ T.1.2).length = es.length * 1) (fun T => T.2.length) (([], rest0), es) ⟨List.Perm.refl _, hcl0⟩ ⟨rfl, rfl, rfl, rfl, trivial⟩ ?_
  rintro ⟨⟨out, rest⟩, left⟩ ⟨hp, hcl⟩
  dsimp only at hp hcl ⊢
  have hpl := hp.length_eq
  rw [List.length_append, List.length_map, List.length_map] at hpl
  by_cases hl : left = []
  · subst hl
    rw [List.map_nil, List.append_nil] at hp
    have hol : out.length = es.length := by simpa using hpl
    have hr0 : rest = [] := List.eq_nil_of_length_eq_zero (by rw [List.length_append, List.length_map] at hcl; omega)
    subst hr0
    rw [hol]
    have hsk := srt_kept hm hp
    refine zh ?_; refine Z44 ?_; refine z7 (ok_nextMe rfl rfl rfl rfl rfl) rfl ?_; refine Z6 ?_; refine Z249 ?_
    refine V_endM 17 901 rfl ?_
    refine Z197 ?_; refine qk (ok_callG L 902 (GHeld b3 ((keptL R).map (Value.int .u64) ++ []) So.tyU) (r := GHeld b3 (out.map (Value.int .u64) ++ []) So.tyU) rfl rfl rfl rfl rfl (fun u H C hH _ hr hC => by have h := So.sortU_ret (d := out.toArray) (rest := []) (b := b3) (m := es.length) (cap := es.length) (by simpa using hol) hz hH hr hC; unfold uC at h; rw [hsk] at h; exact h)) ?_; refine Z137 ?_
    rw [gheld_res, show (keptL R).map (Value.int .u64) ++ [] = (keptL R).map (Value.int .u64) from List.append_nil _]
    refine V_relE (s := 1) 3 902 rfl rfl (by rw [List.length_map, hlen, Nat.mul_one]) (by unfold maxLen; omega) ?_
    refine Z61 ?_; refine qk (ok_moveO (.inl rfl) rfl rfl rfl rfl) ?_; refine qk (ok_moveO (.inr rfl) rfl rfl rfl rfl) ?_; refine Z121 ?_
    refine V_join2 900 901 rfl rfl (gres_any _) ?_
    refine V_join2 2 900 rfl rfl (gres_any (StO b R.length m s t es)) ?_
    exact V_retT rfl (fun _ _ h => h) Since.refl rfl
  · have hll : 0 < left.length := List.length_pos_iff.2 hl
    have hroom : out.length + 1 ≤ es.length := by omega
    have hrl : 0 < rest.length := by rw [List.length_append, List.length_map] at hcl; omega
    have hcl2 : out.length * 1 + 1 * 1 ≤ (out.map (Value.int .u64) ++ rest).length := by rw [hcl]; omega
    have hrr : ∀ k : Int, (out.map (Value.int .u64) ++ rest).take (out.length * 1) ++ ([Value.int .u64 k] ++ (out.map (Value.int .u64) ++ rest).drop (out.length * 1 + 1 * 1)) = (out ++ [k]).map (Value.int .u64) ++ rest.drop 1 := fun k => by
      have e1 : (out.map (Value.int .u64)).length = out.length * 1 := by simp
      rw [← e1, List.take_append, List.take_of_length_le (Nat.le_refl _), Nat.sub_self, List.take_zero, List.append_nil, List.drop_append, List.drop_eq_nil_of_le (by omega), List.nil_append, show (out.map (Value.int .u64)).length + 1 * 1 - (out.map (Value.int .u64)).length = 1 by omega]
      simp
    refine zh ?_; refine Z44 ?_; refine vo_nextC rfl rfl hl rfl rfl rfl (fun j p hjp => ?_); refine Z6 ?_; refine Z188 ?_; refine Z190 ?_; refine Z42 ?_; refine z7 (ok_entryM rfl rfl rfl) rfl ?_; refine Z6 ?_; refine Z122 ?_; refine Z43 ?_; refine Z123 ?_; refine Z54 ?_; refine qk (ok_appendHI L (q := 902) rfl rfl rfl rfl (apd_B rfl) rfl el49 (by omega) rfl hroom hcl2 rfl (hrr _)) ?_; refine Z160 ?_
    refine N_turnO 17 (RngM m .u64 vcE es (left.eraseIdx j)) rfl rngC_M ?_
    exact y8 (x := ((out, rest), left)) ((out ++ [p.1], rest.drop 1), left.eraseIdx j) ⟨(left_perm hjp out).trans hp, by
      dsimp only
      rw [List.length_append, List.length_map, List.length_append, List.length_drop]
      rw [List.length_append, List.length_map] at hcl
      simp only [List.length_cons, List.length_nil]
      omega⟩ (by dsimp only; rw [List.length_eraseIdx_of_lt (get_lt hjp)]; omega) ⟨by rw [List.length_append]; rfl, rfl, rfl, rfl, trivial⟩
end Go.V.L10
set_option maxRecDepth 20000
namespace Go.V
open Go.RowKit
section
variable {P : Program} {F : Fr} {B : Heap} {O : Boxes} {n : Nat} {ops : Array Oper} {κ : Kap} {d : Nat} {ty : TypeId} {pos : String} {aft : Array Edge} {g : Option (Nat × Bool)} {Q : Exit → Act → World → Prop}
theorem upd_back {κ : Kap} {q : Nat} {k : Kn} (h : κ q = some k) : upd κ q k = κ := by
  funext t
  by_cases e : t = q
  · subst e; rw [upd_same]; exact h.symm
  · rw [upd_other _ _ e]
theorem ok_callYR (L : Tabs P) (q : Nat) (φ : Value → Heap → Prop) {r : GR} {f : Nat} {args : Array Operand} {at_ : Array TypeId} {cap : List Value} {fo : Operand}
    (hn : Nat.blt d n = true) (hg : gK ops κ ⟨some d, .call { callee := .value fo, args := args, argTypes := at_ }, ty, pos, aft, g⟩ = some true)
    (hf : evK κ fo = some (.func (.func f) #[] cap.toArray)) (hfn : L.fn f = some ()) (hq : κ q = some (.own r.res)) (hm : Kn.mono (.sat φ))
    (h : ∀ u H C, H.Le (hp u) → B.Le H → r.P H u C → (∀ k, C k → k < u.heap.size ∧ H k = none) → Args κ H args.toList [] (fun vs => RetY P f (vs ++ cap) u H C r φ)) :
    StepOKR P F B n ops O κ ⟨some d, .call { callee := .value fo, args := args, argTypes := at_ }, ty, pos, aft, g⟩ q d (.sat φ) := by
  rintro κ' a u hlk hks ⟨H, fp, hh⟩
  unfold After
  rw [if_pos (wanted_gK hh hlk hg)]
  have hk' : κ' q = some (.own r.res) := hks.trans hq
  obtain ⟨hown, hM⟩ := hh.slot q _ hk'
  have e2 := hh.env hlk
  have hfe : a.eval fo = .func (.func f) #[] cap.toArray := e2.is_ fo _ (by simp [Op.operands, Call.operands]) hf
  have hc := Args.use e2 args.toList [] (fun x hx => by simp [Op.operands, Call.operands] at hx ⊢; exact .inr hx) (h u H (fp q) hh.sub hh.base hown fun k hk => ⟨(hM k hk).1, (hM k hk).2.1⟩)
  simp only [List.reverse_nil, List.nil_append] at hc
  rw [run_call L rfl hfe hfn]
  simp only [Upon]
  refine Calls.mono hc fun e' u' hp => ?_
  obtain ⟨x, rfl, H', g', hx, C', hv, hC'⟩ := hp
  have h2 := hh.usePut (d := q) (a' := a) (r' := r.res) hk' g' rfl rfl (fun _ _ => rfl) hv hC'
  rw [upd_upd, upd_back hk'] at h2
  exact ⟨x, rfl, H', _, h2.put (k := .sat φ) (zk hn) hm hx⟩
theorem ok_callXR (L : Tabs P) (q : Nat) (v : Value) {r : GR} {f : Nat} {args : Array Operand} {at_ : Array TypeId} {cap : List Value} {fo : Operand}
    (hn : Nat.blt d n = true) (hg : gK ops κ ⟨some d, .call { callee := .value fo, args := args, argTypes := at_ }, ty, pos, aft, g⟩ = some true)
    (hf : evK κ fo = some (.func (.func f) #[] cap.toArray)) (hfn : L.fn f = some ()) (hq : κ q = some (.own r.res))
    (h : ∀ u H C, H.Le (hp u) → B.Le H → r.P H u C → (∀ k, C k → k < u.heap.size ∧ H k = none) → Args κ H args.toList [] (fun vs => RetY P f (vs ++ cap) u H C r (fun x _ => x = v))) :
    StepOKR P F B n ops O κ ⟨some d, .call { callee := .value fo, args := args, argTypes := at_ }, ty, pos, aft, g⟩ q d (.is v) := by
  rintro κ' a u hlk hks ⟨H, fp, hh⟩
  unfold After
  rw [if_pos (wanted_gK hh hlk hg)]
  have hk' : κ' q = some (.own r.res) := hks.trans hq
  obtain ⟨hown, hM⟩ := hh.slot q _ hk'
  have e2 := hh.env hlk
  have hfe : a.eval fo = .func (.func f) #[] cap.toArray := e2.is_ fo _ (by simp [Op.operands, Call.operands]) hf
  have hc := Args.use e2 args.toList [] (fun x hx => by simp [Op.operands, Call.operands] at hx ⊢; exact .inr hx) (h u H (fp q) hh.sub hh.base hown fun k hk => ⟨(hM k hk).1, (hM k hk).2.1⟩)
  simp only [List.reverse_nil, List.nil_append] at hc
  rw [run_call L rfl hfe hfn]
  simp only [Upon]
  refine Calls.mono hc fun e' u' hp => ?_
  obtain ⟨x, rfl, H', g', hx, C', hv, hC'⟩ := hp
  have h2 := hh.usePut (d := q) (a' := a) (r' := r.res) hk' g' rfl rfl (fun _ _ => rfl) hv hC'
  rw [upd_upd, upd_back hk'] at h2
  exact ⟨x, rfl, H', _, h2.put (k := .is v) (zk hn) trivial hx⟩
theorem ok_loadGA (L : Tabs P) {x : Operand} {q b : Nat} {t t' : TypeId} {s off : Nat} {cs vs : List Value} {r : Res} (hx : evK κ x = some (.pointer (some ⟨b, off, none⟩))) (hq : κ q = some (.own r)) (hcell : ∀ v H u C, r.P v H u C → u.heap[b]? = some (.cells cs.toArray t')) (hn : Nat.blt d n = true) (hg : gK ops κ ⟨some d, .load t x, ty, pos, aft, g⟩ = some true)
    (hl : L.ld t = some (true, s)) (hlen : vs.length = s) (hc : ∃ r, cs.drop off = vs ++ r) : StepOKR P F B n ops O κ ⟨some d, .load t x, ty, pos, aft, g⟩ q d (.is (.agg vs.toArray)) := by
  rintro κ' a u hlk hqk ⟨H, fp, hh⟩
  unfold After
  rw [if_pos (wanted_gK hh hlk hg)]
  have e := hh.env hlk
  have h1 := e.is_ x _ (by simp [Op.operands]) hx
  obtain ⟨hown, hM⟩ := hh.slot q _ (hqk.trans hq)
  have h2 := hcell _ _ _ _ hown
  obtain ⟨r, hc⟩ := hc
  have hrun : (execOp a.eval ⟨some d, .load t x, ty, pos, aft, g⟩).run P u = .ok (.value (.agg vs.toArray)) u := by
    simp only [execOp, h1, Instr.loadAt, Instr.sureAddr, Sem.run_bind, Sem.run_pure, Result.andThen_ok]
    rw [run_loadVar_agg (Tabs.ld_spec hl) u _ vs hlen (fun j v hj => by
      have h3 : cs[off + j]? = some v := by
        have := congrArg (·[j]?) hc
        simp only [List.getElem?_drop] at this
        rw [this, List.getElem?_append_left (by
          rcases Nat.lt_or_ge j vs.length with h | h
          · exact h
          · rw [List.getElem?_eq_none h] at hj; cases hj)]
        exact hj
      show u.cell? (Addr.add ⟨b, off, none⟩ j) = some v
      have : Addr.add ⟨b, off, none⟩ j = ⟨b, off + j, none⟩ := by simp [Addr.add]
      rw [this, cell_of_heap h2]; simpa using h3)]
    rfl
  rw [hrun]
  simp only [Upon]
  exact ⟨H, fp, hh.put (k := .is (.agg vs.toArray)) (zk hn) trivial rfl⟩
theorem both_cell {b : Nat} {cs : List Value} {ty : TypeId} {r2 : Res} : ∀ v H u C, (Both2 (HeldR b cs ty) r2).P v H u C → u.heap[b]? = some (.cells cs.toArray ty) := fun _ _ _ _ ⟨_, _, h, _⟩ => h.1
theorem lend_both {b : Nat} {cs : List Value} {ty : TypeId} {r2 : Res} : ∀ v H u C, (Both2 (HeldR b cs ty) r2).P v H u C → joinH H u C b = some (.cells cs.toArray ty) := fun _ _ _ _ ⟨_, _, ⟨hb, hC⟩, _, h3, _⟩ => (joinH_in ((h3 b).2 (.inl ((hC b).2 rfl)))).trans hb
end
theorem RetT.pubY {P : Program} {f : FuncId} {args : List Value} {w : World} {B : Heap} {C : Nat → Prop} {r : GR} {r1 : Res} {φ : Value → Heap → Prop} (h : RetT P f args w B C (Both2 r1 r.res)) (hl : Lend r1 φ) : RetY P f args w B C r φ :=
  Calls.mono h fun _ u ⟨v, he, H, g, C', ⟨C1, C2, h1, h2, h3, h4⟩, h5⟩ => by
    have hs := joinH_sub (u := u) (C := C1) g.sub
    have hle := joinH_le (u := u) fun k hk => (h5 k ((h3 k).2 (.inl hk))).2.2
    refine ⟨v, he, joinH H u C1, ⟨g.keep, hs, fun k x hx => hle _ _ (g.le _ _ hx), fun k hk hn => (joinH_out fun hc => ?_).trans (g.fresh k hk hn)⟩, hl _ _ _ _ h1, C2, r.st h2 hle hs (On.refl u) (fun _ _ => rfl), fun k hk => ⟨(h5 k ((h3 k).2 (.inr hk))).1, (h5 k ((h3 k).2 (.inr hk))).2.1, (joinH_out fun hc => h4 k hc hk).trans (h5 k ((h3 k).2 (.inr hk))).2.2⟩⟩
    rcases (h5 k ((h3 k).2 (.inl hc))).1 with h6 | h6
    · exact hn h6
    · omega
theorem RetY.ex {P : Program} {f : FuncId} {args : List Value} {w : World} {B : Heap} {C : Nat → Prop} {X : Type} {r : X → GR} {φ : X → Heap → Prop} {hφ : MonoX φ} {ψ : Value → Heap → Prop} (hr : (GEx r φ hφ).P B w C) (h : ∀ x, φ x B → (r x).P B w C → RetY P f args w B C (r x) ψ) : RetY P f args w B C (GEx r φ hφ) ψ := by
  obtain ⟨x, h1, h2⟩ := hr
  exact RetL.mono (h x h1 h2) fun v H u hg ⟨h3, C', h4, h5⟩ => ⟨h3, C', ⟨x, hφ _ _ _ h1 hg.le, h4⟩, h5⟩
end Go.V
set_option maxRecDepth 20000
namespace Go.V
open Go.Proofs Go.RowKit
section
variable {α β : Type} [DecidableEq α] [DecidableEq β] {k : α → β} {c : β → β → Int}
def Eqv (k : α → β) (S S' : List α) : Prop := ∀ t, S'.filter (fun x => decide (k x = t)) = S.filter (fun x => decide (k x = t))
def Srt (k : α → β) (c : β → β → Int) (l : List α) : Prop := l.Pairwise fun x y => ¬ c (k y) (k x) < 0
def Stb (k : α → β) (c : β → β → Int) (S S' : List α) : Prop := Srt k c S' ∧ Eqv k S S'
omit [DecidableEq α] in
theorem Eqv.refl (S : List α) : Eqv k S S := fun _ => rfl
omit [DecidableEq α] in
theorem Eqv.trans {A B C : List α} (h1 : Eqv k A B) (h2 : Eqv k B C) : Eqv k A C := fun t => (h2 t).trans (h1 t)
omit [DecidableEq α] in
theorem Eqv.app {A A' B B' : List α} (h1 : Eqv k A A') (h2 : Eqv k B B') : Eqv k (A ++ B) (A' ++ B') := fun t => by rw [List.filter_append, List.filter_append, h1 t, h2 t]
omit [DecidableEq α] in
theorem Eqv.swap {A B : List α} (h : ∀ a ∈ A, ∀ b ∈ B, k a ≠ k b) : Eqv k (A ++ B) (B ++ A) := fun t => by
  rw [List.filter_append, List.filter_append]
  by_cases ha : ∃ a ∈ A, k a = t
  · obtain ⟨a, ha, rfl⟩ := ha
    have : B.filter (fun x => decide (k x = k a)) = [] := List.filter_eq_nil_iff.2 fun b hb e => h a ha b hb (by simpa using e : k b = k a).symm
    rw [this, List.append_nil, List.nil_append]
  · have : A.filter (fun x => decide (k x = t)) = [] := List.filter_eq_nil_iff.2 fun a h1 e => ha ⟨a, h1, by simpa using e⟩
    rw [this, List.append_nil, List.nil_append]
theorem Eqv.count {S S' : List α} (h : Eqv k S S') (x : α) : S'.count x = S.count x := by
  have e : ∀ l : List α, (l.filter fun y => decide (k y = k x)).count x = l.count x := fun l => List.count_filter (by simp)
  rw [← e S', ← e S, h (k x)]
theorem Eqv.perm {S S' : List α} (h : Eqv k S S') : S'.Perm S := List.perm_iff_count.2 fun x => h.count x
theorem Eqv.length {S S' : List α} (h : Eqv k S S') : S'.length = S.length := h.perm.length_eq
theorem Eqv.mem {S S' : List α} (h : Eqv k S S') {x : α} : x ∈ S' ↔ x ∈ S := h.perm.mem_iff
omit [DecidableEq α] [DecidableEq β] in
theorem srt_app {A B : List α} : Srt k c (A ++ B) ↔ Srt k c A ∧ Srt k c B ∧ ∀ a ∈ A, ∀ b ∈ B, ¬ c (k b) (k a) < 0 := List.pairwise_append
omit [DecidableEq α] [DecidableEq β] in
theorem lt_key (ho : Ord3 c) {a b : β} (h : c a b < 0) : b ≠ a := fun e => by subst e; exact ho.irr _ h
omit [DecidableEq α] in
theorem stb_ins (ho : Ord3 c) {A B : List α} {x : α} (hs : Srt k c (A ++ B)) (ha : ∀ a ∈ A, ¬ c (k x) (k a) < 0) (hb : ∀ b ∈ B, c (k x) (k b) < 0) : Stb k c (A ++ B ++ [x]) (A ++ x :: B) := by
  obtain ⟨s1, s2, s3⟩ := srt_app.1 hs
  refine ⟨srt_app.2 ⟨s1, List.pairwise_cons.2 ⟨fun b h => ho.asym (hb b h), s2⟩, fun a h b hm => ?_⟩, ?_⟩
  · rcases List.mem_cons.1 hm with rfl | hm
    · exact ha a h
    · exact s3 a h b hm
  · rw [List.append_assoc]
    exact (Eqv.refl A).app (Eqv.swap (A := B) (B := [x]) fun b h y hy => by
      simp at hy; subst hy
      exact lt_key ho (hb b h))
omit [DecidableEq α] in
theorem stb_fst (ho : Ord3 c) {A B : List α} {x : α} (hs : Srt k c (A ++ B)) (ha : ∀ a ∈ A, c (k a) (k x) < 0) (hb : ∀ b ∈ B, ¬ c (k b) (k x) < 0) : Stb k c (x :: (A ++ B)) (A ++ x :: B) := by
  obtain ⟨s1, s2, s3⟩ := srt_app.1 hs
  refine ⟨srt_app.2 ⟨s1, List.pairwise_cons.2 ⟨hb, s2⟩, fun a h b hm => ?_⟩, ?_⟩
  · rcases List.mem_cons.1 hm with rfl | hm
    · exact ho.asym (ha a h)
    · exact s3 a h b hm
  · have e : A ++ x :: B = A ++ [x] ++ B := by simp
    have e2 : x :: (A ++ B) = [x] ++ A ++ B := by simp
    rw [e, e2]
    exact (Eqv.swap (A := [x]) (B := A) fun y hy a h => by
      simp at hy; subst hy
      exact lt_key ho (ha a h)).app (Eqv.refl B)
theorem stb_join (ho : Ord3 c) {A1 A2 B1 B2 S1 S2 : List α} (hA : Srt k c (A1 ++ A2)) (hB : Srt k c (B1 ++ B2)) (h12 : ∀ a ∈ A2, ∀ b ∈ B1, c (k b) (k a) < 0) (h21 : ∀ a ∈ A1, ∀ b ∈ B2, ¬ c (k b) (k a) < 0)
    (h1 : Stb k c (A1 ++ B1) S1) (h2 : Stb k c (A2 ++ B2) S2) : Stb k c (A1 ++ A2 ++ (B1 ++ B2)) (S1 ++ S2) := by
  obtain ⟨a1, a2, a3⟩ := srt_app.1 hA
  obtain ⟨b1, b2, b3⟩ := srt_app.1 hB
  refine ⟨srt_app.2 ⟨h1.1, h2.1, fun x hx y hy => ?_⟩, ?_⟩
  · rcases List.mem_append.1 (h1.2.mem.1 hx) with hx | hx <;> rcases List.mem_append.1 (h2.2.mem.1 hy) with hy | hy
    · exact a3 x hx y hy
    · exact h21 x hx y hy
    · exact ho.asym (h12 y hy x hx)
    · exact b3 x hx y hy
  · refine Eqv.trans ?_ (h1.2.app h2.2)
    have e1 : A1 ++ A2 ++ (B1 ++ B2) = A1 ++ (A2 ++ B1) ++ B2 := by simp
    have e2 : A1 ++ B1 ++ (A2 ++ B2) = A1 ++ (B1 ++ A2) ++ B2 := by simp
    rw [e1, e2]
    exact ((Eqv.refl A1).app (Eqv.swap fun a ha b hb => lt_key ho (h12 a ha b hb))).app (Eqv.refl B2)
omit [DecidableEq α] [DecidableEq β] in
theorem srt_le (ho : Ord3 c) {l : List α} (h : Srt k c l) {i j : Nat} {x y : α} (hi : l[i]? = some x) (hj : l[j]? = some y) (hij : i ≤ j) : ¬ c (k y) (k x) < 0 := by
  rcases Nat.lt_or_ge i j with h1 | h1
  · obtain ⟨hi', rfl⟩ := List.getElem?_eq_some_iff.1 hi
    obtain ⟨hj', rfl⟩ := List.getElem?_eq_some_iff.1 hj
    exact List.pairwise_iff_getElem.1 h i j hi' hj' h1
  · have : i = j := by omega
    subst this
    rw [hi] at hj; cases hj
    exact ho.irr _
end
end Go.V
set_option maxRecDepth 20000
namespace Go.V
open Go.Proofs Go.RowKit
section
variable {α β : Type} [DecidableEq α] [DecidableEq β] {k : α → β} {c : β → β → Int}
theorem srt_uniq (ho : Ord3 c) : ∀ {S S' : List α}, Srt k c S → Srt k c S' → Eqv k S S' → S' = S
  | [], S', _, _, h => List.eq_nil_of_length_eq_zero (by rw [h.length]; rfl)
  | x :: r, [], _, _, h => by have := h.length; simp at this
  | x :: r, y :: r', h1, h2, h => by
    have hxy : k x = k y := by
      have hx : x ∈ y :: r' := h.mem.2 (List.mem_cons_self ..)
      have hy : y ∈ x :: r := h.mem.1 (List.mem_cons_self ..)
      have e1 : ¬ c (k x) (k y) < 0 := by
        rcases List.mem_cons.1 hx with e | hx
        · rw [e]; exact ho.irr _
        · exact (List.pairwise_cons.1 h2).1 x hx
      have e2 : ¬ c (k y) (k x) < 0 := by
        rcases List.mem_cons.1 hy with e | hy
        · rw [e]; exact ho.irr _
        · exact (List.pairwise_cons.1 h1).1 y hy
      have := ho.anti (k x) (k y)
      exact ho.eq _ _ (by omega)
    have hf := h (k x)
    rw [List.filter_cons_of_pos (by simp [hxy]), List.filter_cons_of_pos (by simp)] at hf
    have hxe : y = x := (List.cons.inj hf).1
    subst hxe
    have ht : Eqv k r r' := fun t => by
      have := h t
      by_cases e : k y = t
      · rw [List.filter_cons_of_pos (by simpa using e), List.filter_cons_of_pos (by simpa using e)] at this
        exact (List.cons.inj this).2
      · rwa [List.filter_cons_of_neg (by simpa using e), List.filter_cons_of_neg (by simpa using e)] at this
    rw [srt_uniq ho (List.pairwise_cons.1 h1).2 (List.pairwise_cons.1 h2).2 ht]
omit [DecidableEq α] in
theorem Eqv.symm {A B : List α} (h : Eqv k A B) : Eqv k B A := fun t => (h t).symm
theorem stb_uniq (ho : Ord3 c) {l S S' : List α} (h : Stb k c l S) (h' : Stb k c l S') : S' = S := srt_uniq ho h.1 h'.1 (h.2.symm.trans h'.2)
def insK (k : α → β) (c : β → β → Int) (x : α) : List α → List α
  | [] => [x]
  | y :: l => if c (k x) (k y) < 0 then x :: y :: l else y :: insK k c x l
omit [DecidableEq α] [DecidableEq β] in
theorem insK_split (ho : Ord3 c) {x : α} : ∀ {S : List α}, Srt k c S → ∃ A B, S = A ++ B ∧ insK k c x S = A ++ x :: B ∧ (∀ a ∈ A, ¬ c (k x) (k a) < 0) ∧ ∀ b ∈ B, c (k x) (k b) < 0
  | [], _ => ⟨[], [], rfl, rfl, fun a h => (by cases h), fun a h => (by cases h)⟩
  | y :: l, h => by
    obtain ⟨h1, h2⟩ := List.pairwise_cons.1 h
    by_cases hxy : c (k x) (k y) < 0
    · refine ⟨[], y :: l, rfl, if_pos hxy, fun a h => (by cases h), fun b hb => ?_⟩
      rcases List.mem_cons.1 hb with rfl | hb
      · exact hxy
      · have h3 := h1 b hb
        have := ho.anti (k b) (k y)
        by_cases h4 : c (k y) (k b) < 0
        · exact ho.tr hxy h4
        · rw [← ho.eq (k y) (k b) (by omega)]; exact hxy
    · obtain ⟨A, B, e1, e2, e3, e4⟩ := insK_split ho (x := x) h2
      refine ⟨y :: A, B, by rw [e1]; rfl, ?_, fun a ha => ?_, e4⟩
      · rw [insK, if_neg hxy, e2]; rfl
      · rcases List.mem_cons.1 ha with rfl | ha
        · exact hxy
        · exact e3 a ha
def stbL (k : α → β) (c : β → β → Int) (l : List α) : List α := l.foldl (fun S x => insK k c x S) []
omit [DecidableEq α] [DecidableEq β] in
theorem srt_nil : Srt k c [] := List.Pairwise.nil
omit [DecidableEq α] in
theorem stb_step (ho : Ord3 c) {l S : List α} {x : α} (h : Stb k c l S) : Stb k c (l ++ [x]) (insK k c x S) := by
  obtain ⟨A, B, e1, e2, e3, e4⟩ := insK_split ho (x := x) h.1
  have h1 := h.1
  rw [e1] at h1
  have h2 := stb_ins ho h1 e3 e4
  rw [e2]
  rw [← e1] at h2
  exact ⟨h2.1, (h.2.app (Eqv.refl [x])).trans h2.2⟩
omit [DecidableEq α] in
theorem stbL_stb (ho : Ord3 c) (l : List α) : Stb k c l (stbL k c l) := by
  suffices ∀ (r l S : List α), Stb k c l S → Stb k c (l ++ r) (r.foldl (fun S x => insK k c x S) S) by
    have := this l [] [] ⟨srt_nil, Eqv.refl _⟩
    exact this
  intro r
  induction r with
  | nil => intro l S h; rw [List.append_nil]; exact h
  | cons x r ih =>
    intro l S h
    have := ih (l ++ [x]) (insK k c x S) (stb_step ho h)
    rw [List.append_assoc] at this
    exact this
theorem stb_of (ho : Ord3 c) {l S : List α} (h : Stb k c l S) : S = stbL k c l := stb_uniq ho (stbL_stb ho l) h
theorem stbL_len (ho : Ord3 c) (l : List α) : (stbL k c l).length = l.length := (stbL_stb (k := k) ho l).2.length
omit [DecidableEq α] [DecidableEq β] in
theorem stbL_nil : stbL k c [] = [] := rfl
theorem stbL_srt (ho : Ord3 c) {l : List α} (h : Srt k c l) : stbL k c l = l := (stb_of ho ⟨h, Eqv.refl l⟩).symm
theorem stbL_app (ho : Ord3 c) (X Y : List α) : stbL k c (stbL k c X ++ stbL k c Y) = stbL k c (X ++ Y) :=
  stb_of ho ⟨(stbL_stb ho _).1, (((stbL_stb ho X).2.app (stbL_stb ho Y).2)).trans (stbL_stb ho _).2⟩
theorem ins_end (ho : Ord3 c) {X A B : List α} {x : α} (h : A ++ B = stbL k c X) (hb : ∀ b ∈ B, c (k x) (k b) < 0) (ha : ∀ y, A.getLast? = some y → ¬ c (k x) (k y) < 0) : A ++ x :: B = stbL k c (X ++ [x]) := by
  have hs := (stbL_stb (k := k) ho X).1
  rw [← h] at hs
  have hA : ∀ a ∈ A, ¬ c (k x) (k a) < 0 := fun a ham => by
    rcases List.eq_nil_or_concat A with e | ⟨A', y, rfl⟩
    · subst e; cases ham
    · have h1 := ha y (by simp)
      simp only [List.concat_eq_append, List.mem_append, List.mem_singleton] at ham
      rcases ham with ham | rfl
      · have h2 := (srt_app.1 hs).1
        simp only [List.concat_eq_append] at h2
        have h3 := (srt_app.1 h2).2.2 a ham y (by simp)
        have e1 := ho.anti (k y) (k a)
        intro h4
        refine h1 ?_
        by_cases h5 : c (k a) (k y) < 0
        · exact ho.tr h4 h5
        · rw [← ho.eq (k a) (k y) (by omega)]; exact h4
      · exact h1
  have h1 := stb_ins ho hs hA hb
  rw [h] at h1
  exact stb_of ho ⟨h1.1, ((stbL_stb (k := k) ho X).2.app (Eqv.refl [x])).trans h1.2⟩
def chS (k : α → β) (c : β → β → Int) (n : Nat) : Nat → List α → List α
  | 0, _ => []
  | f + 1, l => if l = [] then [] else stbL k c (l.take n) ++ chS k c n f (l.drop n)
omit [DecidableEq α] [DecidableEq β] in
theorem chS_nil (n f : Nat) : chS k c n f [] = [] := by cases f <;> simp [chS]
omit [DecidableEq α] [DecidableEq β] in
theorem chS_fuel {n : Nat} (hn : 0 < n) : ∀ {f g : Nat} {l : List α}, l.length ≤ f → l.length ≤ g → chS k c n f l = chS k c n g l
  | 0, g, l, hf, _ => by obtain rfl : l = [] := List.eq_nil_of_length_eq_zero (by omega); rw [chS_nil, chS_nil]
  | f + 1, 0, l, _, hg => by obtain rfl : l = [] := List.eq_nil_of_length_eq_zero (by omega); rw [chS_nil, chS_nil]
  | f + 1, g + 1, l, hf, hg => by
    by_cases h : l = []
    · subst h; rw [chS_nil, chS_nil]
    · rw [chS, chS, if_neg h, if_neg h]
      have : 0 < l.length := List.length_pos_iff.2 h
      rw [chS_fuel hn (f := f) (g := g) (by rw [List.length_drop]; omega) (by rw [List.length_drop]; omega)]
def chL (k : α → β) (c : β → β → Int) (n : Nat) (l : List α) : List α := chS k c n l.length l
omit [DecidableEq α] [DecidableEq β] in
theorem chL_step {n : Nat} (hn : 0 < n) (l : List α) : chL k c n l = stbL k c (l.take n) ++ chL k c n (l.drop n) := by
  unfold chL
  by_cases h : l = []
  · subst h; simp [chS_nil, stbL_nil]
  · have : 0 < l.length := List.length_pos_iff.2 h
    obtain ⟨m, hm⟩ : ∃ m, l.length = m + 1 := ⟨l.length - 1, by omega⟩
    rw [hm, chS, if_neg h, chS_fuel hn (f := m) (g := (l.drop n).length) (by rw [List.length_drop]; omega) (Nat.le_refl _)]
omit [DecidableEq α] [DecidableEq β] in
theorem chL_nil (n : Nat) : chL k c n [] = [] := chS_nil _ _
omit [DecidableEq α] [DecidableEq β] in
theorem chL_one {n : Nat} (hn : 0 < n) {l : List α} (h : l.length ≤ n) : chL k c n l = stbL k c l := by
  rw [chL_step hn, List.take_of_length_le h, List.drop_eq_nil_of_le h, chL_nil, List.append_nil]
theorem chL_len (ho : Ord3 c) {n : Nat} (hn : 0 < n) : ∀ (m : Nat) {l : List α}, l.length ≤ m → (chL k c n l).length = l.length
  | 0, l, h => by obtain rfl : l = [] := List.eq_nil_of_length_eq_zero (by omega); rw [chL_nil]
  | m + 1, l, h => by
    by_cases h0 : l = []
    · subst h0; rw [chL_nil]
    · have : 0 < l.length := List.length_pos_iff.2 h0
      rw [chL_step hn, List.length_append, stbL_len ho, chL_len ho hn m (by rw [List.length_drop]; omega), ← List.length_append, List.take_append_drop]
end
end Go.V
set_option maxRecDepth 20000
namespace Go.V.L8
open Go.Proofs Go.RowKit Go.V Go.V.L2 Go.V.L3 Go.V.L6
theorem cs_len (l : List CH) : (l.flatMap ccs).length = l.length * 7 := flatMap_len ccs_len l
theorem cs_plain (l : List CH) : (l.flatMap ccs).all plainV = true := by
  induction l with
  | nil => rfl
  | cons x l ih => rw [List.flatMap_cons, List.all_append, ih]; rfl
abbrev ch7 (c : CH) : List Value := [.string c.1.1.1.1, .string c.1.1.1.2, .string c.1.1.2, .string c.1.2.1.1, .string c.1.2.1.2, .string c.1.2.2, .bool c.2]
theorem heldC_at {l : List CH} {rest : List Value} {i : Nat} {t : CH} (h : l[i]? = some t) (off : Nat) (ho : off = i * 7) : ∃ r, (l.flatMap ccs ++ rest).drop off = ch7 t ++ r := by
  subst ho
  have h1 : ((l.flatMap ccs).drop (i * 7)).take 7 = ch7 t := ks_at h
  have h2 := get_lt h
  refine ⟨((l.flatMap ccs).drop (i * 7)).drop 7 ++ rest, ?_⟩
  rw [List.drop_append_of_le_length (by rw [cs_len]; exact Nat.mul_le_mul_right _ (by omega)), ← List.append_assoc]
  congr 1
  rw [← h1, List.take_append_drop]
theorem heldC_set {ls : List CH} {rest : List Value} {k : Nat} {z : CH} (h : k < ls.length) (off : Nat) (ho : off = k * 7) : (ls.flatMap ccs ++ rest).take off ++ (ch7 z ++ (ls.flatMap ccs ++ rest).drop (off + 7)) = (ls.set k z).flatMap ccs ++ rest := by
  subst ho
  have e1 : ls = ls.take k ++ (ls[k] :: ls.drop (k + 1)) := by rw [List.getElem_cons_drop, List.take_append_drop]
  have hk : (ls.take k).length = k := by rw [List.length_take]; omega
  have e2 : ls.set k z = ls.take k ++ (z :: ls.drop (k + 1)) := by
    conv => lhs; rw [e1]
    rw [List.set_append_right _ _ (by omega), hk, Nat.sub_self]; rfl
  rw [e2]
  generalize ls.take k = A at e1 hk
  generalize ls.drop (k + 1) = D at e1
  generalize ls[k] = y at e1
  subst e1
  have hA : (A.flatMap ccs).length = k * 7 := by rw [cs_len, hk]
  simp only [List.flatMap_append, List.flatMap_cons, List.append_assoc]
  rw [List.take_left' hA, show k * 7 + 7 = (A.flatMap ccs).length + 7 by omega, ← List.drop_drop, List.drop_left, show (ccs y ++ (D.flatMap ccs ++ rest)).drop 7 = D.flatMap ccs ++ rest from List.drop_left' rfl]
  rfl
theorem heldC_ble {ls : List CH} {rest : List Value} {k : Nat} (h : k < ls.length) (off : Nat) (ho : off = k * 7) : Nat.ble (off + 7) (ls.flatMap ccs ++ rest).length = true := Nat.ble_eq_true_of_le (by rw [List.length_append, cs_len]; omega)
section
variable {α : Type} {A M D : List α} {x y : α}
theorem two_get1 {i : Nat} (h : A.length = i) : (A ++ x :: (M ++ y :: D))[i]? = some x := by subst h; simp
theorem two_get2 {j : Nat} (h : A.length + 1 + M.length = j) : (A ++ x :: (M ++ y :: D))[j]? = some y := by
  subst h
  have e : A ++ x :: (M ++ y :: D) = (A ++ x :: M) ++ y :: D := by simp
  rw [e, List.getElem?_append_right (by simp; omega)]
  simp; rw [show A.length + 1 + M.length - (A.length + (M.length + 1)) = 0 by omega]; rfl
theorem two_set {i j : Nat} (hi : A.length = i) (hj : A.length + 1 + M.length = j) : ((A ++ x :: (M ++ y :: D)).set i y).set j x = A ++ y :: (M ++ x :: D) := by
  subst hi hj
  have e : (A ++ x :: (M ++ y :: D)).set A.length y = (A ++ y :: M) ++ y :: D := by simp
  rw [e, List.set_append_right _ _ (by simp; omega)]
  simp; rw [show A.length + 1 + M.length - (A.length + (M.length + 1)) = 0 by omega]; rfl
theorem two_set' {i j : Nat} (hi : A.length = i) (hj : A.length + 1 + M.length = j) : ((A ++ x :: (M ++ y :: D)).set j x).set i y = A ++ y :: (M ++ x :: D) := by
  rw [List.set_comm _ _ (by omega)]; exact two_set hi hj
end
attribute [local irreducible] V N X VO Par StepOK Has Ret RetL RetO RetT Src
theorem swr_ret {P X Q Y R : List CH} {rest : List Value} {b m cap a e n : Nat} (ha : P.length = a) (he : a + X.length + Q.length = e) (hx : X.length = n) (hy : Y.length = n) (hm : (P ++ (X ++ (Q ++ (Y ++ R)))).length = m) (hm1 : m ≤ 100000) (fv : Value) {w : World} {B : Heap} {C : Nat → Prop} (hB : B.Le (hp w))
    (hr : (GHeld b ((P ++ (X ++ (Q ++ (Y ++ R)))).flatMap ccs ++ rest) tyC).P B w C) (hC : ∀ k, C k → k < w.heap.size ∧ B k = none) :
    RetG Tryz.prog 186 [.slice (some ⟨b, 0, none⟩) m cap, .int .i64 a, .int .i64 e, .int .i64 n, fv] w B C (GHeld b ((P ++ (Y ++ (Q ++ (X ++ R)))).flatMap ccs ++ rest) tyC) := by
  unfold RetG
  refine V_enterG 900 (GHeld b ((P ++ (X ++ (Q ++ (Y ++ R)))).flatMap ccs ++ rest) tyC) Tryz.func186 rfl Tryz.ntmps186 (Nat.le_of_ble_eq_true rfl) hB hr hC ?_
  rw [gheld_res]
  simp only [List.length_append] at hm
  refine Z130 ?_; refine Z203 ?_
  refine V_loop (fun i : Nat => [(0, .is (.slice (some ⟨b, 0, none⟩) m cap)), (1, .is (.int .i64 a)), (2, .is (.int .i64 e)), (3, .is (.int .i64 n)), (10, .is (.int .i64 i)), (900, .own (HeldR b ((P ++ (Y.take i ++ (X.drop i ++ (Q ++ (X.take i ++ (Y.drop i ++ R)))))).flatMap ccs ++ rest) tyC))]) (fun i => i ≤ n) (fun i => n - i) 0 (Nat.zero_le _) ⟨rfl, rfl, rfl, rfl, rfl, by simp only [List.take_zero, List.drop_zero, List.nil_append]; rfl, trivial⟩ ?_
  rintro i hi
  by_cases hlt : i < n
  · obtain ⟨x, hxi⟩ := get_some (l := X) (show i < X.length by omega)
    obtain ⟨y, hyi⟩ := get_some (l := Y) (show i < Y.length by omega)
    have e0 : P ++ (Y.take i ++ (X.drop i ++ (Q ++ (X.take i ++ (Y.drop i ++ R))))) = (P ++ Y.take i) ++ x :: ((X.drop (i + 1) ++ (Q ++ X.take i)) ++ y :: (Y.drop (i + 1) ++ R)) := by
      rw [drop_g hxi, drop_g hyi]; simp
    have e1 : P ++ (Y.take (i + 1) ++ (X.drop (i + 1) ++ (Q ++ (X.take (i + 1) ++ (Y.drop (i + 1) ++ R))))) = (P ++ Y.take i) ++ y :: ((X.drop (i + 1) ++ (Q ++ X.take i)) ++ x :: (Y.drop (i + 1) ++ R)) := by
      rw [List.take_add_one, List.take_add_one, hxi, hyi]; simp
    have l1 : (P ++ Y.take i).length = a + i := by rw [List.length_append, List.length_take]; omega
    have l2 : (P ++ Y.take i).length + 1 + (X.drop (i + 1) ++ (Q ++ X.take i)).length = e + i := by rw [l1, List.length_append, List.length_append, List.length_drop, List.length_take]; omega
    have g1 := two_get1 (x := x) (y := y) (M := X.drop (i + 1) ++ (Q ++ X.take i)) (D := Y.drop (i + 1) ++ R) l1
    have g2 := two_get2 (x := x) (y := y) (D := Y.drop (i + 1) ++ R) l2
    have g3 := two_set (x := x) (y := y) (D := Y.drop (i + 1) ++ R) l1 l2
    rw [e0]
    have hlen : ((P ++ Y.take i) ++ x :: ((X.drop (i + 1) ++ (Q ++ X.take i)) ++ y :: (Y.drop (i + 1) ++ R))).length = m := by rw [← e0]; simp only [List.length_append, List.length_take, List.length_drop]; omega
    generalize (P ++ Y.take i) ++ x :: ((X.drop (i + 1) ++ (Q ++ X.take i)) ++ y :: (Y.drop (i + 1) ++ R)) = K at *
    have h1 := get_lt g1
    have h2 := get_lt g2
    have q1 := heldC_at (rest := rest) g1 (0 + (a + i) * 7) (by omega)
    have q2 := heldC_at (rest := rest) g2 (0 + (e + i) * 7) (by omega)
    have s1 := heldC_set (rest := rest) (z := y) h1 (0 + (a + i) * 7) (by omega)
    have b1 := heldC_ble (rest := rest) h1 (0 + (a + i) * 7) (by omega)
    have h3 : e + i < (K.set (a + i) y).length := by rw [List.length_set]; exact h2
    have s2 := heldC_set (rest := rest) (z := x) h3 (0 + (e + i) * 7) (by omega)
    have b2 := heldC_ble (rest := rest) h3 (0 + (e + i) * 7) (by omega)
    rw [g3, ← e1] at s2
    have a1 : IntKind.i64.wrap ((a : Int) + (i : Int)) = ((a + i : Nat) : Int) := wrap_i64 (by omega) (by omega)
    have a2 : IntKind.i64.wrap ((e : Int) + (i : Int)) = ((e + i : Nat) : Int) := wrap_i64 (by omega) (by omega)
    refine Z131 ?_; refine Z17 ?_; refine Z205 ?_; refine Z306 ?_; refine zy (id := 3) [(200029, [900]), (200035, [900]), (100036, [900]), (100037, [900])] mixed (by kernel_rfl) ?_; refine Z168 ?_; refine Z168 ?_; refine Z168 ?_; refine z8 (zo L _ rfl rfl rfl rfl rfl rfl rfl (by omega)) rfl ?_; refine qg (ok_loadHA L (q := 900) (vs := [_, _, _, _, _, _, _]) rfl rfl rfl rfl rfl rfl q2) rfl rfl ?_; refine Z168 ?_; refine z8 (zo L _ rfl rfl rfl rfl rfl rfl rfl (by omega)) rfl ?_; refine qg (ok_loadHA L (q := 900) (vs := [_, _, _, _, _, _, _]) rfl rfl rfl rfl rfl rfl q1) rfl rfl ?_; refine z8 (zo L _ rfl rfl rfl rfl rfl rfl rfl (by omega)) rfl ?_; refine yk (yh L (q := 900) rfl rfl rfl rfl rfl rfl b1 rfl s1) rfl ?_; refine z8 (zo L _ rfl rfl rfl rfl rfl rfl rfl (by omega)) rfl ?_; refine yk (yh L (q := 900) rfl rfl rfl rfl rfl rfl b2 rfl s2) rfl ?_; refine ql ?_; refine Z175 ?_; refine Z155 ?_; refine Z250 ?_
    exact y8 (x := i) (i + 1) (by omega) (by omega) ⟨rfl, rfl, rfl, rfl, rfl, rfl, trivial⟩
  · obtain rfl : i = n := by omega
    have t1 : X.take i = X := List.take_of_length_le (by omega)
    have t2 : Y.take i = Y := List.take_of_length_le (by omega)
    have t3 : X.drop i = [] := List.drop_eq_nil_of_le (by omega)
    have t4 : Y.drop i = [] := List.drop_eq_nil_of_le (by omega)
    rw [t1, t2, t3, t4]
    simp only [List.nil_append]
    refine Z131 ?_; refine Z17 ?_; refine Z274 ?_; refine Z145 ?_
    exact N_retGhost L 900 (r := GHeld b _ tyC) rfl (fun _ _ h => h) Since.refl rfl rfl
end Go.V.L8
set_option maxRecDepth 20000
namespace Go.V.L8
open Go.Proofs Go.RowKit Go.V Go.V.L2 Go.V.L3 Go.V.L6
theorem _root_.Go.V.Z281 {A B : Prop} (h : B) (t : Wr B → A := by intro h; refine Z131 ?_; refine zy (id := 4) [(200026, [900]), (200031, [900])] mixed (by kernel_rfl) ?_; exact h.h) : A := t ⟨h⟩
def stC (l : List CH) : List CH := stbL (fun c => c.1) cmpT l
theorem stC_len (l : List CH) : (stC l).length = l.length := stbL_len cmpT_ord l
attribute [local irreducible] V N X VO Par StepOK Has Ret RetL RetO RetT RetG Src
set_option maxHeartbeats 1000000 in
set_option maxRecDepth 20000 in
theorem rot_ret {P X Y R : List CH} {rest : List Value} {b m cap a mm e : Nat} (ha : P.length = a) (hmm : a + X.length = mm) (he : mm + Y.length = e) (hx : 0 < X.length) (hy : 0 < Y.length) (hm : (P ++ (X ++ (Y ++ R))).length = m) (hm1 : m ≤ 100000) (fv : Value) {w : World} {B : Heap} {C : Nat → Prop} (hB : B.Le (hp w))
    (hr : (GHeld b ((P ++ (X ++ (Y ++ R))).flatMap ccs ++ rest) tyC).P B w C) (hC : ∀ k, C k → k < w.heap.size ∧ B k = none) :
    RetG Tryz.prog 183 [.slice (some ⟨b, 0, none⟩) m cap, .int .i64 a, .int .i64 mm, .int .i64 e, fv] w B C (GHeld b ((P ++ (Y ++ (X ++ R))).flatMap ccs ++ rest) tyC) := by
  unfold RetG
  refine V_enterG 900 (GHeld b ((P ++ (X ++ (Y ++ R))).flatMap ccs ++ rest) tyC) Tryz.func183 rfl Tryz.ntmps183 (Nat.le_of_ble_eq_true rfl) hB hr hC ?_
  rw [gheld_res]
  simp only [List.length_append] at hm
  have s1 : IntKind.i64.wrap ((mm : Int) - (a : Int)) = (X.length : Int) := wrap_i64 (by omega) (by omega) |>.trans (by omega)
  have s2 : IntKind.i64.wrap ((e : Int) - (mm : Int)) = (Y.length : Int) := wrap_i64 (by omega) (by omega) |>.trans (by omega)
  refine Z130 ?_; refine Z174 ?_; refine Z169 ?_; refine Z174 ?_; refine Z124 ?_; refine qe ?_
  refine V_loop (fun s : (List CH × List CH) × (List CH × List CH) => [(0, .is (.slice (some ⟨b, 0, none⟩) m cap)), (2, .is (.int .i64 mm)), (4, .is fv), (10, .is (.int .i64 s.1.2.length)), (11, .is (.int .i64 s.2.1.length)), (900, .own (HeldR b ((P ++ (s.1.1 ++ (s.1.2 ++ (s.2.1 ++ (s.2.2 ++ R))))).flatMap ccs ++ rest) tyC))])
    (fun s => a + s.1.1.length + s.1.2.length = mm ∧ mm + s.2.1.length + s.2.2.length = e ∧ 0 < s.1.2.length ∧ 0 < s.2.1.length ∧ s.1.1 ++ (s.2.1 ++ (s.1.2 ++ s.2.2)) = Y ++ X) (fun s => s.1.2.length + s.2.1.length) (([], X), (Y, [])) ⟨hmm, he, hx, hy, by simp⟩ ⟨rfl, rfl, rfl, rfl, rfl, rfl, trivial⟩ ?_
  rintro ⟨⟨D1, X1⟩, ⟨Y1, D2⟩⟩ ⟨h1, h2, h3, h4, h5⟩
  dsimp only at h1 h2 h3 h4 h5 ⊢
  have hs1 : IntKind.i64.wrap ((mm : Int) - (X1.length : Int)) = ((mm - X1.length : Nat) : Int) := wrap_i64 (by omega) (by omega) |>.trans (by omega)
  by_cases heq : X1.length = Y1.length
  · have e0 : P ++ (D1 ++ (X1 ++ (Y1 ++ (D2 ++ R)))) = (P ++ D1) ++ (X1 ++ ([] ++ (Y1 ++ (D2 ++ R)))) := by simp
    have e1 : (P ++ D1) ++ (Y1 ++ ([] ++ (X1 ++ (D2 ++ R)))) = P ++ (Y ++ (X ++ R)) := by
      have : Y ++ (X ++ R) = D1 ++ (Y1 ++ (X1 ++ D2)) ++ R := by rw [h5]; simp
      rw [this]; simp
    have hlen : ((P ++ D1) ++ (X1 ++ ([] ++ (Y1 ++ (D2 ++ R))))).length = m := by simp only [List.length_append, List.length_nil]; omega
    rw [e0]
    refine Z131 ?_; refine Z225 ?_; refine Z22 ?_; refine Z127 ?_; refine Z145 ?_; refine zj ?_; refine Z57 ?_; refine Z150 ?_; refine Z19 ?_; refine Z150 ?_; refine qk (ok_callG L 900 (GHeld b (((P ++ D1) ++ (Y1 ++ ([] ++ (X1 ++ (D2 ++ R))))).flatMap ccs ++ rest) tyC) (r := GHeld b (((P ++ D1) ++ (X1 ++ ([] ++ (Y1 ++ (D2 ++ R))))).flatMap ccs ++ rest) tyC) rfl rfl rfl rfl rfl (fun u H C hH _ hr hC => (by have h := swr_ret (cap := cap) (a := mm - X1.length) (e := mm) (n := X1.length) (by rw [List.length_append]; omega) (by simp only [List.length_nil]; omega) rfl heq.symm hlen hm1 fv hH hr hC; exact h))) ?_; refine zi ?_
    rw [e1]
    exact N_retGhost L 900 (r := GHeld b _ tyC) rfl (fun _ _ h => h) Since.refl rfl rfl
  · by_cases hgt : Y1.length < X1.length
    · have hs2 : IntKind.i64.wrap ((X1.length : Int) - (Y1.length : Int)) = ((X1.drop Y1.length).length : Int) := wrap_i64 (by omega) (by omega) |>.trans (by rw [List.length_drop]; omega)
      have lt : (X1.take Y1.length).length = Y1.length := by rw [List.length_take]; omega
      have e0 : P ++ (D1 ++ (X1 ++ (Y1 ++ (D2 ++ R)))) = (P ++ D1) ++ (X1.take Y1.length ++ (X1.drop Y1.length ++ (Y1 ++ (D2 ++ R)))) := by
        conv => lhs; rw [← List.take_append_drop Y1.length X1]
        simp only [List.append_assoc]
      have e1 : (P ++ D1) ++ (Y1 ++ (X1.drop Y1.length ++ (X1.take Y1.length ++ (D2 ++ R)))) = P ++ ((D1 ++ Y1) ++ (X1.drop Y1.length ++ (X1.take Y1.length ++ (D2 ++ R)))) := by simp
      have hlen : ((P ++ D1) ++ (X1.take Y1.length ++ (X1.drop Y1.length ++ (Y1 ++ (D2 ++ R))))).length = m := by rw [← e0]; simp only [List.length_append]; omega
      have hld : (X1.drop Y1.length).length = X1.length - Y1.length := List.length_drop
      rw [e0]
      refine Z131 ?_; refine Z225 ?_; refine Z46 ?_; refine Z195 ?_; refine Z167 ?_; refine Z37 ?_; refine Z138 ?_; refine Z34 ?_; refine Z150 ?_; refine Z19 ?_; refine Z150 ?_; refine qk (ok_callG L 900 (GHeld b (((P ++ D1) ++ (Y1 ++ (X1.drop Y1.length ++ (X1.take Y1.length ++ (D2 ++ R))))).flatMap ccs ++ rest) tyC) (r := GHeld b (((P ++ D1) ++ (X1.take Y1.length ++ (X1.drop Y1.length ++ (Y1 ++ (D2 ++ R))))).flatMap ccs ++ rest) tyC) rfl rfl rfl rfl rfl (fun u H C hH _ hr hC => (by have h := swr_ret (cap := cap) (a := mm - X1.length) (e := mm) (n := Y1.length) (by rw [List.length_append]; omega) (by omega) lt rfl hlen hm1 fv hH hr hC; exact h))) ?_; refine Z121 ?_; refine Z44 ?_; refine Z174 ?_; refine Z160 ?_
      rw [e1]
      exact y8 (x := ((D1, X1), (Y1, D2))) ((D1 ++ Y1, X1.drop Y1.length), (X1.take Y1.length, D2)) ⟨by dsimp only; rw [List.length_append]; omega, by dsimp only; omega, by dsimp only; omega, by dsimp only; omega, by
        dsimp only
        rw [← h5]
        conv => rhs; rw [← List.take_append_drop Y1.length X1]
        simp only [List.append_assoc]⟩ (by dsimp only; omega) ⟨rfl, rfl, rfl, rfl, by dsimp only; rw [lt]; rfl, rfl, trivial⟩
    · have hs2 : IntKind.i64.wrap ((Y1.length : Int) - (X1.length : Int)) = ((Y1.take (Y1.length - X1.length)).length : Int) := wrap_i64 (by omega) (by omega) |>.trans (by rw [List.length_take]; omega)
      have hs3 : IntKind.i64.wrap ((mm : Int) + (Y1.length : Int)) = ((mm + Y1.length : Nat) : Int) := wrap_i64 (by omega) (by omega)
      have hs4 : IntKind.i64.wrap (((mm + Y1.length : Nat) : Int) - (X1.length : Int)) = ((mm + Y1.length - X1.length : Nat) : Int) := wrap_i64 (by omega) (by omega) |>.trans (by omega)
      have lt : (Y1.take (Y1.length - X1.length)).length = Y1.length - X1.length := by rw [List.length_take]; omega
      have ld : (Y1.drop (Y1.length - X1.length)).length = X1.length := by rw [List.length_drop]; omega
      have e0 : P ++ (D1 ++ (X1 ++ (Y1 ++ (D2 ++ R)))) = (P ++ D1) ++ (X1 ++ (Y1.take (Y1.length - X1.length) ++ (Y1.drop (Y1.length - X1.length) ++ (D2 ++ R)))) := by
        conv => lhs; rw [← List.take_append_drop (Y1.length - X1.length) Y1]
        simp only [List.append_assoc]
      have e1 : (P ++ D1) ++ (Y1.drop (Y1.length - X1.length) ++ (Y1.take (Y1.length - X1.length) ++ (X1 ++ (D2 ++ R)))) = P ++ (D1 ++ (Y1.drop (Y1.length - X1.length) ++ (Y1.take (Y1.length - X1.length) ++ ((X1 ++ D2) ++ R)))) := by simp
      have hlen : ((P ++ D1) ++ (X1 ++ (Y1.take (Y1.length - X1.length) ++ (Y1.drop (Y1.length - X1.length) ++ (D2 ++ R))))).length = m := by rw [← e0]; simp only [List.length_append]; omega
      rw [e0]
      refine Z131 ?_; refine Z225 ?_; refine Z46 ?_; refine Z195 ?_; refine Z167 ?_; refine Z29 ?_; refine Z127 ?_; refine Z301 ?_; refine Z150 ?_; refine Z19 ?_; refine Z235 ?_; refine Z231 ?_; refine Z123 ?_; refine qk (ok_callG L 900 (GHeld b (((P ++ D1) ++ (Y1.drop (Y1.length - X1.length) ++ (Y1.take (Y1.length - X1.length) ++ (X1 ++ (D2 ++ R))))).flatMap ccs ++ rest) tyC) (r := GHeld b (((P ++ D1) ++ (X1 ++ (Y1.take (Y1.length - X1.length) ++ (Y1.drop (Y1.length - X1.length) ++ (D2 ++ R))))).flatMap ccs ++ rest) tyC) rfl rfl rfl rfl rfl (fun u H C hH _ hr hC => (by have h := swr_ret (cap := cap) (a := mm - X1.length) (e := mm + Y1.length - X1.length) (n := X1.length) (by rw [List.length_append]; omega) (by omega) rfl ld hlen hm1 fv hH hr hC; exact h))) ?_; refine Z121 ?_; refine Z43 ?_; refine Z174 ?_; refine Z160 ?_
      rw [e1]
      exact y8 (x := ((D1, X1), (Y1, D2))) ((D1, Y1.drop (Y1.length - X1.length)), (Y1.take (Y1.length - X1.length), X1 ++ D2)) ⟨by dsimp only; omega, by dsimp only; rw [List.length_append]; omega, by dsimp only; omega, by dsimp only; omega, by
        dsimp only
        rw [← h5]
        conv => rhs; rw [← List.take_append_drop (Y1.length - X1.length) Y1]
        simp only [List.append_assoc]⟩ (by dsimp only; omega) ⟨rfl, rfl, rfl, by dsimp only; rw [ld]; rfl, rfl, rfl, trivial⟩
abbrev ORD : Nat := 134
abbrev ordV : Value := .func (.func ORD) #[] #[]
theorem ordC_ret {x y : CH} {w : World} {B : Heap} (hB : B.Le (hp w)) : Ret Tryz.prog ORD ([chv x.1 x.2, chv y.1 y.2] ++ []) w B (fun r _ => r = .int .i64 (cmpT x.1 y.1)) := by
  refine y7 Tryz.func134 rfl Tryz.ntmps134 (Nat.le_of_ble_eq_true rfl) hB ?_
  refine Z189 ?_; refine Z169 ?_; refine Z36 ?_; refine z7 (zt L (vs := [_, _, _, _, _, _]) (qt rfl) rfl rfl rfl rfl ⟨_, rfl⟩) rfl ?_; refine Z36 ?_; refine z7 (zt L (vs := [_, _, _, _, _, _]) (qt rfl) rfl rfl rfl rfl ⟨_, rfl⟩) rfl ?_; refine z7 (zp L rfl rfl (zk rfl) rfl rfl rfl (fun u H hH _ _ => tcmp_ret (a := x.1) (b := y.1) hH)) rfl ?_; refine Z122 ?_
  refine y9 L (rs := [.tmp 4]) rfl (fun _ _ h => h) Since.refl fun u H hH hle => ?_
  rfl
set_option maxHeartbeats 1000000 in
set_option maxRecDepth 20000 in
theorem ins_ret {P X R : List CH} {rest : List Value} {b m cap a e : Nat} (ha : P.length = a) (he : a + X.length = e) (hm : (P ++ (X ++ R)).length = m) (hm1 : m ≤ 100000) {w : World} {B : Heap} {C : Nat → Prop} (hB : B.Le (hp w))
    (hr : (GHeld b ((P ++ (X ++ R)).flatMap ccs ++ rest) tyC).P B w C) (hC : ∀ k, C k → k < w.heap.size ∧ B k = none) :
    RetG Tryz.prog 173 [.slice (some ⟨b, 0, none⟩) m cap, .int .i64 a, .int .i64 e, ordV] w B C (GHeld b ((P ++ (stC X ++ R)).flatMap ccs ++ rest) tyC) := by
  unfold RetG
  refine V_enterG 900 (GHeld b ((P ++ (X ++ R)).flatMap ccs ++ rest) tyC) Tryz.func173 rfl Tryz.ntmps173 (Nat.le_of_ble_eq_true rfl) hB hr hC ?_
  rw [gheld_res]
  simp only [List.length_append] at hm
  have hst1 : stC (X.take 1) = X.take 1 := by rcases X with _ | ⟨x, X⟩ <;> rfl
  refine Z130 ?_; refine Z1 ?_; refine Z26 ?_; refine Z203 ?_
  refine V_loop (fun s : Nat => [(0, .is (.slice (some ⟨b, 0, none⟩) m cap)), (1, .is (.int .i64 a)), (2, .is (.int .i64 e)), (3, .is ordV), (8, .is (.int .i64 (a + s : Nat))), (900, .own (HeldR b ((P ++ (stC (X.take s) ++ (X.drop s ++ R))).flatMap ccs ++ rest) tyC))]) (fun s => 1 ≤ s ∧ s ≤ max X.length 1) (fun s => X.length - s) 1 ⟨Nat.le_refl _, by omega⟩ ⟨rfl, rfl, rfl, rfl, rfl, by rw [hst1, ← List.append_assoc (X.take 1), List.take_append_drop]; rfl, trivial⟩ ?_
  rintro s ⟨hs1, hs2⟩
  by_cases hlt : s < X.length
  · obtain ⟨x, hx⟩ := get_some hlt
    have hsl : (stC (X.take s)).length = s := by rw [stC_len, List.length_take]; omega
    refine Z131 ?_; refine Z17 ?_; refine Z205 ?_; refine Z268 ?_; refine Z158 ?_; refine Z203 ?_
    refine V_loop (fun t : List CH × List CH => [(0, .is (.slice (some ⟨b, 0, none⟩) m cap)), (1, .is (.int .i64 a)), (2, .is (.int .i64 e)), (3, .is ordV), (8, .is (.int .i64 (a + s : Nat))), (9, .is (.int .i64 (a + t.1.length : Nat))), (900, .own (HeldR b ((P ++ (t.1 ++ (x :: (t.2 ++ (X.drop (s + 1) ++ R))))).flatMap ccs ++ rest) tyC))])
      (fun t => t.1 ++ t.2 = stC (X.take s) ∧ ∀ z ∈ t.2, cmpT x.1 z.1 < 0) (fun t => t.1.length) (stC (X.take s), []) ⟨List.append_nil _, fun z hz => (by cases hz)⟩ ⟨rfl, rfl, rfl, rfl, rfl, by dsimp only; rw [hsl]; rfl, by dsimp only; rw [drop_g hx]; rfl, trivial⟩ ?_
    rintro ⟨A, D⟩ ⟨hAD, hD⟩
    dsimp only at hAD hD ⊢
    have hAl : A.length + D.length = s := by rw [← List.length_append, hAD, hsl]
    have hfin : (∀ y, A.getLast? = some y → ¬ cmpT x.1 y.1 < 0) → P ++ (A ++ (x :: (D ++ (X.drop (s + 1) ++ R)))) = P ++ (stC (X.take (s + 1)) ++ (X.drop (s + 1) ++ R)) := fun h => by
      have := ins_end (k := fun c : CH => c.1) cmpT_ord (x := x) hAD hD h
      rw [List.take_add_one, hx]
      unfold stC
      show _ = P ++ (stbL (fun c : CH => c.1) cmpT (X.take s ++ [x]) ++ _)
      rw [← this]; simp
    rcases List.eq_nil_or_concat A with hA | ⟨A', y, hA⟩
    · subst hA
      rw [hfin (fun y hy => by simp at hy), List.length_nil, Nat.add_zero]
      refine Z281 ?_; refine Z126 ?_; refine Z83 ?_; refine Z209 ?_; refine Z159 ?_; refine Z218 ?_; refine Z175 ?_; refine Z155 ?_; refine Z250 ?_
      exact y8 (x := s) (s + 1) ⟨by omega, by omega⟩ (by omega) ⟨rfl, rfl, rfl, rfl, rfl, rfl, trivial⟩
    · rw [List.concat_eq_append] at hA
      subst hA
      have hl9 : (A' ++ [y]).length = A'.length + 1 := by rw [List.length_append, List.length_singleton]
      rw [hl9] at hAl
      have e0 : P ++ ((A' ++ [y]) ++ (x :: (D ++ (X.drop (s + 1) ++ R)))) = (P ++ A') ++ y :: ([] ++ x :: (D ++ (X.drop (s + 1) ++ R))) := by simp
      have l1 : (P ++ A').length = a + A'.length := by rw [List.length_append, ha]
      have l2 : (P ++ A').length + 1 + ([] : List CH).length = a + (A' ++ [y]).length := by rw [l1, hl9]; rfl
      have g1 := two_get1 (x := y) (y := x) (M := []) (D := D ++ (X.drop (s + 1) ++ R)) l1
      have g2 := two_get2 (x := y) (y := x) (D := D ++ (X.drop (s + 1) ++ R)) l2
      have g3 := two_set' (x := y) (y := x) (D := D ++ (X.drop (s + 1) ++ R)) l1 l2
      have e1 : (P ++ A') ++ x :: ([] ++ y :: (D ++ (X.drop (s + 1) ++ R))) = P ++ (A' ++ (x :: ((y :: D) ++ (X.drop (s + 1) ++ R)))) := by simp
      have hlen : ((P ++ A') ++ y :: ([] ++ x :: (D ++ (X.drop (s + 1) ++ R)))).length = m := by rw [← e0]; simp only [List.length_append, List.length_cons, List.length_nil, List.length_drop]; omega
      have hw1 : IntKind.i64.wrap (((a + (A' ++ [y]).length : Nat) : Int) - 1) = ((a + A'.length : Nat) : Int) := wrap_i64 (by omega) (by omega) |>.trans (by omega)
      by_cases hc : cmpT x.1 y.1 < 0
      · rw [e0]
        rw [e1] at g3
        generalize (P ++ A') ++ y :: ([] ++ x :: (D ++ (X.drop (s + 1) ++ R))) = K at *
        have h1 := get_lt g1
        have h2 := get_lt g2
        have q1 := heldC_at (rest := rest) g1 (0 + (a + A'.length) * 7) (by omega)
        have q2 := heldC_at (rest := rest) g2 (0 + (a + (A' ++ [y]).length) * 7) (by omega)
        have s1 := heldC_set (rest := rest) (z := y) h2 (0 + (a + (A' ++ [y]).length) * 7) (by omega)
        have b1 := heldC_ble (rest := rest) h2 (0 + (a + (A' ++ [y]).length) * 7) (by omega)
        have h3 : a + A'.length < (K.set (a + (A' ++ [y]).length) y).length := by rw [List.length_set]; exact h1
        have s2 := heldC_set (rest := rest) (z := x) h3 (0 + (a + A'.length) * 7) (by omega)
        have b2 := heldC_ble (rest := rest) h3 (0 + (a + A'.length) * 7) (by omega)
        rw [g3] at s2
        refine Z281 ?_; refine Z126 ?_; refine Z78 ?_; refine Z244 ?_; refine z8 (zo L _ rfl rfl rfl rfl rfl rfl rfl (by omega)) rfl ?_; refine qg (ok_loadHA L (q := 900) (vs := [_, _, _, _, _, _, _]) rfl rfl rfl rfl rfl rfl q2) rfl rfl ?_; refine Z202 ?_; refine z8 (zo L _ rfl rfl rfl rfl rfl rfl rfl (by omega)) rfl ?_; refine qg (ok_loadHA L (q := 900) (vs := [_, _, _, _, _, _, _]) rfl rfl rfl rfl rfl rfl q1) rfl rfl ?_; refine z8 (zp L rfl rfl (zk rfl) rfl rfl rfl (fun u H hH _ _ => ordC_ret hH)) rfl ?_; refine Z70 ?_; refine Z224 ?_; refine Z247 ?_; refine zy (id := 6) [(200046, [900]), (200050, [900]), (100051, [900]), (100052, [900])] mixed (by kernel_rfl) ?_; refine Z126 ?_; refine Z202 ?_; refine Z202 ?_; refine z8 (zo L _ rfl rfl rfl rfl rfl rfl rfl (by omega)) rfl ?_; refine qg (ok_loadHA L (q := 900) (vs := [_, _, _, _, _, _, _]) rfl rfl rfl rfl rfl rfl q1) rfl rfl ?_; refine Z126 ?_; refine z8 (zo L _ rfl rfl rfl rfl rfl rfl rfl (by omega)) rfl ?_; refine qg (ok_loadHA L (q := 900) (vs := [_, _, _, _, _, _, _]) rfl rfl rfl rfl rfl rfl q2) rfl rfl ?_; refine z8 (zo L _ rfl rfl rfl rfl rfl rfl rfl (by omega)) rfl ?_; refine yk (yh L (q := 900) rfl rfl rfl rfl rfl rfl b1 rfl s1) rfl ?_; refine z8 (zo L _ rfl rfl rfl rfl rfl rfl rfl (by omega)) rfl ?_; refine yk (yh L (q := 900) rfl rfl rfl rfl rfl rfl b2 rfl s2) rfl ?_; refine ql ?_; refine Z175 ?_; refine Z166 ?_; refine Z19 ?_; refine Z142 ?_
        exact y8 (x := (A' ++ [y], D)) (A', y :: D) ⟨by rw [← hAD]; simp, fun z hz => by
          rcases List.mem_cons.1 hz with rfl | hz
          · exact hc
          · exact hD z hz⟩ (by dsimp only; omega) ⟨rfl, rfl, rfl, rfl, rfl, rfl, rfl, trivial⟩
      · have hf := hfin (fun z hz => by rw [List.getLast?_append] at hz; simp at hz; subst hz; exact hc)
        rw [e0]
        rw [e0] at hf
        have q1 := heldC_at (rest := rest) g1 (0 + (a + A'.length) * 7) (by omega)
        have q2 := heldC_at (rest := rest) g2 (0 + (a + (A' ++ [y]).length) * 7) (by omega)
        rw [hf] at q1 q2 ⊢
        refine Z281 ?_; refine Z126 ?_; refine Z78 ?_; refine Z244 ?_; refine z8 (zo L _ rfl rfl rfl rfl rfl rfl rfl (by omega)) rfl ?_; refine qg (ok_loadHA L (q := 900) (vs := [_, _, _, _, _, _, _]) rfl rfl rfl rfl rfl rfl q2) rfl rfl ?_; refine Z202 ?_; refine z8 (zo L _ rfl rfl rfl rfl rfl rfl rfl (by omega)) rfl ?_; refine qg (ok_loadHA L (q := 900) (vs := [_, _, _, _, _, _, _]) rfl rfl rfl rfl rfl rfl q1) rfl rfl ?_; refine z8 (zp L rfl rfl (zk rfl) rfl rfl rfl (fun u H hH _ _ => ordC_ret hH)) rfl ?_; refine Z89 ?_; refine Z218 ?_; refine Z175 ?_; refine Z155 ?_; refine Z250 ?_
        exact y8 (x := s) (s + 1) ⟨by omega, by omega⟩ (by omega) ⟨rfl, rfl, rfl, rfl, rfl, rfl, trivial⟩
  · have hX : P ++ (stC (X.take s) ++ (X.drop s ++ R)) = P ++ (stC X ++ R) := by
      rw [List.take_of_length_le (by omega), List.drop_eq_nil_of_le (by omega), List.nil_append]
    rw [hX]
    refine Z131 ?_; refine Z17 ?_; refine Z274 ?_; refine Z145 ?_
    exact N_retGhost L 900 (r := GHeld b _ tyC) rfl (fun _ _ h => h) Since.refl rfl rfl
end Go.V.L8
set_option maxRecDepth 20000
namespace Go.V
open Go.Proofs Go.RowKit
section
variable {α β : Type} [DecidableEq α] [DecidableEq β] {k : α → β} {c : β → β → Int}
omit [DecidableEq β] in
theorem le_lt (ho : Ord3 c) {z y x : β} (h1 : ¬ c y z < 0) (h2 : c y x < 0) : c z x < 0 := by
  by_cases h3 : c z y < 0
  · exact ho.tr h3 h2
  · have := ho.anti y z
    rw [ho.eq z y (by omega)]; exact h2
omit [DecidableEq β] in
theorem lt_le (ho : Ord3 c) {x y z : β} (h1 : c y x < 0) (h2 : ¬ c z x < 0) : c y z < 0 := by
  by_cases h3 : c x z < 0
  · exact ho.tr h1 h3
  · have := ho.anti x z
    rw [ho.eq z x (by omega)]; exact h1
structure SymI (k : α → β) (c : β → β → Int) (X Y : List α) (a mid lo hi s r : Nat) : Prop where
  ls : lo ≤ s
  sr : s ≤ r
  rh : r ≤ hi
  bef : ∀ i x y, lo ≤ i → i < s → X[i - a]? = some x → Y[mid - 1 - i]? = some y → ¬ c (k y) (k x) < 0
  aft : ∀ i x y, r ≤ i → i < hi → X[i - a]? = some x → Y[mid - 1 - i]? = some y → c (k y) (k x) < 0
structure SymB (X Y : List α) (a mm e mid lo hi : Nat) : Prop where
  lx : a + X.length = mm
  ly : mm + Y.length = e
  al : a ≤ lo
  nl : mid + mm ≤ lo + e
  hm : hi ≤ mid
  hx : hi ≤ mm
  lo_ : lo = a ∨ mid + mm = lo + e
  hi_ : hi = mm ∨ hi = mid
omit [DecidableEq α] [DecidableEq β] in
theorem SymI.start {X Y : List α} {a mid lo hi : Nat} (h : lo ≤ hi) : SymI k c X Y a mid lo hi lo hi := ⟨Nat.le_refl _, h, Nat.le_refl _, fun i x y h1 h2 => by omega, fun i x y h1 h2 => by omega⟩
omit [DecidableEq α] [DecidableEq β] in
theorem SymI.up (ho : Ord3 c) {X Y : List α} (hX : Srt k c X) (hY : Srt k c Y) {a mm e mid lo hi s r i : Nat} {x y : α} (hb : SymB X Y a mm e mid lo hi) (h : SymI k c X Y a mid lo hi s r) (h1 : s ≤ i) (h2 : i < r) (hx : X[i - a]? = some x) (hy : Y[mid - 1 - i]? = some y) (hc : ¬ c (k y) (k x) < 0) : SymI k c X Y a mid lo hi (i + 1) r := by
  obtain ⟨b1, b2, b3, b4, b5, b6, _, _⟩ := hb
  obtain ⟨i1, i2, i3, i4, i5⟩ := h
  refine ⟨by omega, by omega, i3, fun j x' y' hj hji hx' hy' hlt => hc ?_, i5⟩
  have e1 := srt_le ho hX hx' hx (by omega)
  have e2 := srt_le ho hY hy hy' (by omega)
  exact le_lt ho e2 (lt_le ho hlt e1)
omit [DecidableEq α] [DecidableEq β] in
theorem SymI.down (ho : Ord3 c) {X Y : List α} (hX : Srt k c X) (hY : Srt k c Y) {a mm e mid lo hi s r i : Nat} {x y : α} (hb : SymB X Y a mm e mid lo hi) (h : SymI k c X Y a mid lo hi s r) (h1 : s ≤ i) (h2 : i < r) (hx : X[i - a]? = some x) (hy : Y[mid - 1 - i]? = some y) (hc : c (k y) (k x) < 0) : SymI k c X Y a mid lo hi s i := by
  obtain ⟨b1, b2, b3, b4, b5, b6, _, _⟩ := hb
  obtain ⟨i1, i2, i3, i4, i5⟩ := h
  refine ⟨by omega, by omega, by omega, i4, fun j x' y' hj hji hx' hy' => ?_⟩
  have e1 := srt_le ho hX hx hx' (by omega)
  have e2 := srt_le ho hY hy' hy (by omega)
  exact le_lt ho e2 (lt_le ho hc e1)
theorem sym_join (ho : Ord3 c) {X Y : List α} (hX : Srt k c X) (hY : Srt k c Y) {a mm e mid lo hi s : Nat} (hb : SymB X Y a mm e mid lo hi) (h : SymI k c X Y a mid lo hi s s) :
    stbL k c (X.take (s - a) ++ Y.take (mid - s)) ++ stbL k c (X.drop (s - a) ++ Y.drop (mid - s)) = stbL k c (X ++ Y) := by
  obtain ⟨b1, b2, b3, b4, b5, b6, b7, b8⟩ := hb
  obtain ⟨i1, i2, i3, i4, i5⟩ := h
  have hXt : X.take (s - a) ++ X.drop (s - a) = X := List.take_append_drop _ _
  have hYt : Y.take (mid - s) ++ Y.drop (mid - s) = Y := List.take_append_drop _ _
  have h12 : ∀ x ∈ X.drop (s - a), ∀ y ∈ Y.take (mid - s), c (k y) (k x) < 0 := fun x hx y hy => by
    obtain ⟨i, hi⟩ := List.getElem?_of_mem hx
    obtain ⟨j, hj⟩ := List.getElem?_of_mem hy
    have hjl := get_lt hj
    rw [List.length_take] at hjl
    rw [List.getElem?_drop] at hi
    rw [List.getElem?_take_of_lt (by omega)] at hj
    have hil := get_lt hi
    obtain ⟨x0, hx0⟩ := get_some (l := X) (i := s - a) (by omega)
    obtain ⟨y0, hy0⟩ := get_some (l := Y) (i := mid - 1 - s) (by omega)
    have h0 := i5 s x0 y0 (Nat.le_refl _) (by omega) hx0 hy0
    exact le_lt ho (srt_le ho hY hj hy0 (by omega)) (lt_le ho h0 (srt_le ho hX hx0 hi (by omega)))
  have h21 : ∀ x ∈ X.take (s - a), ∀ y ∈ Y.drop (mid - s), ¬ c (k y) (k x) < 0 := fun x hx y hy hlt => by
    obtain ⟨i, hi⟩ := List.getElem?_of_mem hx
    obtain ⟨j, hj⟩ := List.getElem?_of_mem hy
    have hil := get_lt hi
    rw [List.length_take] at hil
    rw [List.getElem?_drop] at hj
    rw [List.getElem?_take_of_lt (by omega)] at hi
    have hjl := get_lt hj
    obtain ⟨x1, hx1⟩ := get_some (l := X) (i := s - 1 - a) (by omega)
    obtain ⟨y1, hy1⟩ := get_some (l := Y) (i := mid - s) (by omega)
    have h0 := i4 (s - 1) x1 y1 (by omega) (by omega) hx1 (by rw [show mid - 1 - (s - 1) = mid - s by omega]; exact hy1)
    exact h0 (le_lt ho (srt_le ho hY hy1 hj (by omega)) (lt_le ho hlt (srt_le ho hX hi hx1 (by omega))))
  have := stb_join ho (by rw [hXt]; exact hX) (by rw [hYt]; exact hY) h12 h21 (stbL_stb ho _) (stbL_stb ho _)
  rw [hXt, hYt] at this
  exact stb_of ho this
theorem one_fst (ho : Ord3 c) {x : α} {Y : List α} (hY : Srt k c Y) {i : Nat} (h1 : ∀ j z, j < i → Y[j]? = some z → c (k z) (k x) < 0) (h2 : ∀ j z, i ≤ j → Y[j]? = some z → ¬ c (k z) (k x) < 0) :
    Y.take i ++ x :: Y.drop i = stbL k c ([x] ++ Y) := by
  have hY' : Srt k c (Y.take i ++ Y.drop i) := by rw [List.take_append_drop]; exact hY
  have := stb_fst ho (x := x) hY' (fun z hz => by
    obtain ⟨j, hj⟩ := List.getElem?_of_mem hz
    have hjl := get_lt hj
    rw [List.length_take] at hjl
    rw [List.getElem?_take_of_lt (by omega)] at hj
    exact h1 j z (by omega) hj) (fun z hz => by
    obtain ⟨j, hj⟩ := List.getElem?_of_mem hz
    rw [List.getElem?_drop] at hj
    exact h2 _ z (by omega) hj)
  rw [List.take_append_drop] at this
  exact stb_of ho this
theorem one_lst (ho : Ord3 c) {x : α} {X : List α} (hX : Srt k c X) {i : Nat} (h1 : ∀ j z, j < i → X[j]? = some z → ¬ c (k x) (k z) < 0) (h2 : ∀ j z, i ≤ j → X[j]? = some z → c (k x) (k z) < 0) :
    X.take i ++ x :: X.drop i = stbL k c (X ++ [x]) := by
  have hX' : Srt k c (X.take i ++ X.drop i) := by rw [List.take_append_drop]; exact hX
  have := stb_ins ho (x := x) hX' (fun z hz => by
    obtain ⟨j, hj⟩ := List.getElem?_of_mem hz
    have hjl := get_lt hj
    rw [List.length_take] at hjl
    rw [List.getElem?_take_of_lt (by omega)] at hj
    exact h1 j z (by omega) hj) (fun z hz => by
    obtain ⟨j, hj⟩ := List.getElem?_of_mem hz
    rw [List.getElem?_drop] at hj
    exact h2 _ z (by omega) hj)
  rw [List.take_append_drop] at this
  exact stb_of ho this
end
end Go.V
set_option maxRecDepth 20000
namespace Go.V.L8
open Go.Proofs Go.RowKit Go.V Go.V.L2 Go.V.L3 Go.V.L6
theorem get_X {P X D : List CH} {a : Nat} (ha : P.length = a) {j : Nat} {x : CH} (h : X[j]? = some x) (i : Nat) (hi : i = a + j) : (P ++ (X ++ D))[i]? = some x := by
  subst hi ha
  have := get_lt h
  rw [List.getElem?_append_right (by omega), show P.length + j - P.length = j by omega, List.getElem?_append_left this]; exact h
theorem get_Y {P X Y D : List CH} {a mm : Nat} (ha : P.length = a) (hx : a + X.length = mm) {j : Nat} {y : CH} (h : Y[j]? = some y) (i : Nat) (hi : i = mm + j) : (P ++ (X ++ (Y ++ D)))[i]? = some y := by
  have e : P ++ (X ++ (Y ++ D)) = (P ++ X) ++ (Y ++ D) := by simp
  rw [e]
  exact get_X (by rw [List.length_append]; omega) h i hi
abbrev SrtC (l : List CH) : Prop := Srt (fun c : CH => c.1) cmpT l
theorem half_sum (i j : Nat) : ((i : Int) + (j : Int)).fdiv (2 ^ min (1 : Int).toNat IntKind.u64.bits) = ((i + j) / 2 : Nat) := by
  show ((i : Int) + (j : Int)).fdiv 2 = _
  rw [Int.fdiv_eq_ediv_of_nonneg _ (by decide)]
  omega
attribute [local irreducible] V N X VO Par StepOK Has Ret RetL RetO RetT RetG Src
abbrev SYM : Nat := 174
set_option maxHeartbeats 4000000 in
set_option maxRecDepth 20000 in
theorem sym_one {P Y R : List CH} {x : CH} {rest : List Value} {b m cap a mm e : Nat} (ha : P.length = a) (hmm : a + 1 = mm) (he : mm + Y.length = e) (hY : SrtC Y) (hm : (P ++ ([x] ++ (Y ++ R))).length = m) (hm1 : m ≤ 100000) {w : World} {B : Heap} {C : Nat → Prop} (hB : B.Le (hp w))
    (hr : (GHeld b ((P ++ ([x] ++ (Y ++ R))).flatMap ccs ++ rest) tyC).P B w C) (hC : ∀ k, C k → k < w.heap.size ∧ B k = none) :
    RetG Tryz.prog SYM [.slice (some ⟨b, 0, none⟩) m cap, .int .i64 a, .int .i64 mm, .int .i64 e, ordV] w B C (GHeld b ((P ++ (stC ([x] ++ Y) ++ R)).flatMap ccs ++ rest) tyC) := by
  unfold RetG
  refine V_enterG 900 (GHeld b ((P ++ ([x] ++ (Y ++ R))).flatMap ccs ++ rest) tyC) Tryz.func174 rfl Tryz.ntmps174 (Nat.le_of_ble_eq_true rfl) hB hr hC ?_
  rw [gheld_res]
  have hm' := hm
  simp only [List.length_append, List.length_singleton] at hm'
  refine zh ?_; refine Z130 ?_; refine Z123 ?_; refine Z65 ?_; refine Z287 ?_; refine Z140 ?_; refine Z208 ?_; refine Z124 ?_; refine qe ?_
  refine V_loop (fun s : Nat × Nat => [(0, .is (.slice (some ⟨b, 0, none⟩) m cap)), (1, .is (.int .i64 a)), (4, .is ordV), (10, .is (.int .i64 s.1)), (11, .is (.int .i64 s.2)), (900, .own (HeldR b ((P ++ ([x] ++ (Y ++ R))).flatMap ccs ++ rest) tyC))])
    (fun s => mm ≤ s.1 ∧ s.1 ≤ s.2 ∧ s.2 ≤ e ∧ (∀ (j : Nat) (z : CH), j < s.1 - mm → Y[j]? = some z → cmpT z.1 x.1 < 0) ∧ ∀ (j : Nat) (z : CH), s.2 - mm ≤ j → Y[j]? = some z → ¬ cmpT z.1 x.1 < 0) (fun s => s.2 - s.1) (mm, e)
    ⟨Nat.le_refl _, by dsimp only; omega, Nat.le_refl _, fun j z h => (by dsimp only at h; omega), fun j z h hz => (by have := get_lt hz; dsimp only at h; omega)⟩ ⟨rfl, rfl, rfl, rfl, rfl, rfl, trivial⟩ ?_
  rintro ⟨i, j⟩ ⟨h1, h2, h3, h4, h5⟩
  dsimp only at h1 h2 h3 h4 h5 ⊢
  by_cases hlt : i < j
  · have hsh := half_sum i j
    obtain ⟨h, hh⟩ : ∃ h, (i + j) / 2 = h := ⟨_, rfl⟩
    rw [hh] at hsh
    obtain ⟨y, hy⟩ := get_some (l := Y) (show h - mm < Y.length by omega)
    have q1 := heldC_at (rest := rest) (get_Y (X := [x]) (D := R) (mm := mm) ha hmm hy h (by omega)) (0 + h * 7) (by omega)
    have q2 := heldC_at (rest := rest) (get_X (X := [x]) (D := Y ++ R) ha (j := 0) rfl a (by omega)) (0 + a * 7) (by omega)
    by_cases hc : cmpT y.1 x.1 < 0
    · refine Z194 ?_; refine Z8 ?_; refine Z195 ?_; refine Z262 ?_; refine Z26 ?_; refine z7 (ok_conv rfl rfl rfl cv3_153.1 cv3_153.2 (wrap_u64 (by omega) (by omega))) rfl ?_; refine Z87 ?_; refine z7 (ok_conv rfl rfl rfl cv153_3.1 cv153_3.2 (wrap_i64 (by omega) (by omega))) rfl ?_; refine Z124 ?_; refine zy (id := 5) [(200044, [900]), (200048, [900])] mixed (by kernel_rfl) ?_; refine Z148 ?_; refine z8 (zo L _ rfl rfl rfl rfl rfl rfl rfl (by omega)) rfl ?_; refine qg (ok_loadHA L (q := 900) (vs := [_, _, _, _, _, _, _]) rfl rfl rfl rfl rfl rfl q1) rfl rfl ?_; refine Z126 ?_; refine z8 (zo L _ rfl rfl rfl rfl rfl rfl rfl (by omega)) rfl ?_; refine qg (ok_loadHA L (q := 900) (vs := [_, _, _, _, _, _, _]) rfl rfl rfl rfl rfl rfl q2) rfl rfl ?_; refine z8 (zp L rfl rfl (zk rfl) rfl rfl rfl (fun u H hH _ _ => ordC_ret hH)) rfl ?_; refine Z70 ?_; refine Z181 ?_; refine Z172 ?_; refine Z26 ?_; refine Z160 ?_
      exact y8 (x := (i, j)) (h + 1, j) ⟨by dsimp only; omega, by dsimp only; omega, h3, fun k z hk hz => by
        dsimp only at hk
        exact le_lt cmpT_ord (srt_le cmpT_ord hY hz hy (by omega)) hc, h5⟩ (by dsimp only; omega) ⟨rfl, rfl, rfl, rfl, rfl, rfl, trivial⟩
    · refine Z194 ?_; refine Z8 ?_; refine Z195 ?_; refine Z262 ?_; refine Z26 ?_; refine z7 (ok_conv rfl rfl rfl cv3_153.1 cv3_153.2 (wrap_u64 (by omega) (by omega))) rfl ?_; refine Z87 ?_; refine z7 (ok_conv rfl rfl rfl cv153_3.1 cv153_3.2 (wrap_i64 (by omega) (by omega))) rfl ?_; refine Z124 ?_; refine zy (id := 5) [(200044, [900]), (200048, [900])] mixed (by kernel_rfl) ?_; refine Z148 ?_; refine z8 (zo L _ rfl rfl rfl rfl rfl rfl rfl (by omega)) rfl ?_; refine qg (ok_loadHA L (q := 900) (vs := [_, _, _, _, _, _, _]) rfl rfl rfl rfl rfl rfl q1) rfl rfl ?_; refine Z126 ?_; refine z8 (zo L _ rfl rfl rfl rfl rfl rfl rfl (by omega)) rfl ?_; refine qg (ok_loadHA L (q := 900) (vs := [_, _, _, _, _, _, _]) rfl rfl rfl rfl rfl rfl q2) rfl rfl ?_; refine z8 (zp L rfl rfl (zk rfl) rfl rfl rfl (fun u H hH _ _ => ordC_ret hH)) rfl ?_; refine Z89 ?_; refine Z153 ?_; refine Z176 ?_; refine Z160 ?_
      exact y8 (x := (i, j)) (i, h) ⟨h1, by dsimp only; omega, by dsimp only; omega, h4, fun k z hk hz hcx => by
        dsimp only at hk
        exact hc (le_lt cmpT_ord (srt_le cmpT_ord hY hy hz (by omega)) hcx)⟩ (by dsimp only; omega) ⟨rfl, rfl, rfl, rfl, rfl, rfl, trivial⟩
  · obtain rfl : i = j := by omega
    have hfin := one_fst (k := fun c : CH => c.1) cmpT_ord hY h4 h5
    have hal : (Y.take (i - mm)).length = i - mm := by rw [List.length_take]; omega
    have hYl : (Y.take (i - mm)).length + (Y.drop (i - mm)).length = Y.length := by rw [← List.length_append, List.take_append_drop]
    have e0 : P ++ ([x] ++ (Y ++ R)) = P ++ ([] ++ (x :: (Y.take (i - mm) ++ (Y.drop (i - mm) ++ R)))) := by
      rw [← List.append_assoc (Y.take _), List.take_append_drop]; rfl
    rw [e0]
    have e9 : P ++ (Y.take (i - mm) ++ (x :: (Y.drop (i - mm) ++ R))) = P ++ (stC ([x] ++ Y) ++ R) := by
      unfold stC
      rw [← hfin]; simp
    generalize Y.take (i - mm) = A at *
    generalize Y.drop (i - mm) = D at *
    clear hfin h4 h5 e0
    refine Z194 ?_; refine Z232 ?_; refine zh ?_; refine Z197 ?_; refine Z203 ?_
    refine V_loop (fun t : Nat => [(0, .is (.slice (some ⟨b, 0, none⟩) m cap)), (10, .is (.int .i64 i)), (13, .is (.int .i64 (a + t : Nat))), (900, .own (HeldR b ((P ++ (A.take t ++ (x :: (A.drop t ++ (D ++ R))))).flatMap ccs ++ rest) tyC))]) (fun t => t ≤ A.length) (fun t => A.length - t) 0 (Nat.zero_le _) ⟨rfl, rfl, rfl, rfl, trivial⟩ ?_
    rintro t ht
    by_cases htl : t < A.length
    · obtain ⟨z, hz⟩ := get_some htl
      have e0 : P ++ (A.take t ++ (x :: (A.drop t ++ (D ++ R)))) = (P ++ A.take t) ++ x :: ([] ++ z :: (A.drop (t + 1) ++ (D ++ R))) := by rw [drop_g hz]; simp
      have e1 : (P ++ A.take t) ++ z :: ([] ++ x :: (A.drop (t + 1) ++ (D ++ R))) = P ++ (A.take (t + 1) ++ (x :: (A.drop (t + 1) ++ (D ++ R)))) := by rw [List.take_add_one, hz]; simp
      have l1 : (P ++ A.take t).length = a + t := by rw [List.length_append, List.length_take]; omega
      have l2 : (P ++ A.take t).length + 1 + ([] : List CH).length = a + t + 1 := by rw [l1]; rfl
      have g1 := two_get1 (x := x) (y := z) (M := []) (D := A.drop (t + 1) ++ (D ++ R)) l1
      have g2 := two_get2 (x := x) (y := z) (D := A.drop (t + 1) ++ (D ++ R)) l2
      have g3 := two_set (x := x) (y := z) (D := A.drop (t + 1) ++ (D ++ R)) l1 l2
      rw [e0]
      rw [e1] at g3
      generalize (P ++ A.take t) ++ x :: ([] ++ z :: (A.drop (t + 1) ++ (D ++ R))) = K at *
      have k1 := get_lt g1
      have k2 := get_lt g2
      have hKl : a + t + 1 < m := by
        have : a + 1 + A.length + D.length ≤ m := by omega
        omega
      have q1 := heldC_at (rest := rest) g1 (0 + (a + t) * 7) (by omega)
      have q2 := heldC_at (rest := rest) g2 (0 + (a + t + 1) * 7) (by omega)
      have s1 := heldC_set (rest := rest) (z := z) k1 (0 + (a + t) * 7) (by omega)
      have b1 := heldC_ble (rest := rest) k1 (0 + (a + t) * 7) (by omega)
      have k3 : a + t + 1 < (K.set (a + t) z).length := by rw [List.length_set]; exact k2
      have s2 := heldC_set (rest := rest) (z := x) k3 (0 + (a + t + 1) * 7) (by omega)
      have b2 := heldC_ble (rest := rest) k3 (0 + (a + t + 1) * 7) (by omega)
      rw [g3] at s2
      have a1 : IntKind.i64.wrap (((a + t : Nat) : Int) + 1) = ((a + t + 1 : Nat) : Int) := wrap_i64 (by omega) (by omega)
      refine Z131 ?_; refine Z296 ?_; refine Z65 ?_; refine Z8 ?_; refine Z306 ?_; refine zy (id := 11) [(200070, [900]), (200074, [900]), (100075, [900]), (100076, [900])] mixed (by kernel_rfl) ?_; refine Z244 ?_; refine Z23 ?_; refine Z126 ?_; refine Z23 ?_; refine z8 (zo L _ rfl rfl rfl rfl rfl rfl rfl (by omega)) rfl ?_; refine qg (ok_loadHA L (q := 900) (vs := [_, _, _, _, _, _, _]) rfl rfl rfl rfl rfl rfl q2) rfl rfl ?_; refine Z126 ?_; refine z8 (zo L _ rfl rfl rfl rfl rfl rfl rfl (by omega)) rfl ?_; refine qg (ok_loadHA L (q := 900) (vs := [_, _, _, _, _, _, _]) rfl rfl rfl rfl rfl rfl q1) rfl rfl ?_; refine z8 (zo L _ rfl rfl rfl rfl rfl rfl rfl (by omega)) rfl ?_; refine yk (yh L (q := 900) rfl rfl rfl rfl rfl rfl b1 rfl s1) rfl ?_; refine z8 (zo L _ rfl rfl rfl rfl rfl rfl rfl (by omega)) rfl ?_; refine yk (yh L (q := 900) rfl rfl rfl rfl rfl rfl b2 rfl s2) rfl ?_; refine ql ?_; refine Z175 ?_; refine Z74 ?_; refine Z243 ?_; refine Z142 ?_
      exact y8 (x := t) (t + 1) (by omega) (by omega) ⟨rfl, rfl, rfl, rfl, trivial⟩
    · have hA : P ++ (A.take t ++ (x :: (A.drop t ++ (D ++ R)))) = P ++ (stC ([x] ++ Y) ++ R) := by
        rw [List.take_of_length_le (by omega), List.drop_eq_nil_of_le (by omega), List.nil_append, e9]
      rw [hA]
      refine Z131 ?_; refine Z296 ?_; refine Z65 ?_; refine Z182 ?_; refine Z145 ?_; refine zj ?_
      exact V_retGhost L 900 (r := GHeld b _ tyC) rfl (fun _ _ h => h) Since.refl rfl rfl
set_option maxHeartbeats 4000000 in
set_option maxRecDepth 20000 in
theorem sym_lst {P X R : List CH} {y : CH} {rest : List Value} {b m cap a mm e : Nat} (ha : P.length = a) (hmm : a + X.length = mm) (hx1 : ¬ X.length = 1) (he : mm + 1 = e) (hX : SrtC X) (hm : (P ++ (X ++ ([y] ++ R))).length = m) (hm1 : m ≤ 100000) {w : World} {B : Heap} {C : Nat → Prop} (hB : B.Le (hp w))
    (hr : (GHeld b ((P ++ (X ++ ([y] ++ R))).flatMap ccs ++ rest) tyC).P B w C) (hC : ∀ k, C k → k < w.heap.size ∧ B k = none) :
    RetG Tryz.prog SYM [.slice (some ⟨b, 0, none⟩) m cap, .int .i64 a, .int .i64 mm, .int .i64 e, ordV] w B C (GHeld b ((P ++ (stC (X ++ [y]) ++ R)).flatMap ccs ++ rest) tyC) := by
  unfold RetG
  refine V_enterG 900 (GHeld b ((P ++ (X ++ ([y] ++ R))).flatMap ccs ++ rest) tyC) Tryz.func174 rfl Tryz.ntmps174 (Nat.le_of_ble_eq_true rfl) hB hr hC ?_
  rw [gheld_res]
  have hm' := hm
  simp only [List.length_append, List.length_singleton] at hm'
  refine zh ?_; refine Z130 ?_; refine Z123 ?_; refine Z65 ?_; refine Z312 ?_; refine Z80 ?_; refine Z123 ?_; refine Z65 ?_; refine Z287 ?_; refine Z269 ?_; refine Z124 ?_; refine Z219 ?_; refine Z124 ?_; refine qe ?_
  refine V_loop (fun s : Nat × Nat => [(0, .is (.slice (some ⟨b, 0, none⟩) m cap)), (2, .is (.int .i64 mm)), (4, .is ordV), (14, .is (.int .i64 s.1)), (15, .is (.int .i64 s.2)), (900, .own (HeldR b ((P ++ (X ++ ([y] ++ R))).flatMap ccs ++ rest) tyC))])
    (fun s => a ≤ s.1 ∧ s.1 ≤ s.2 ∧ s.2 ≤ mm ∧ (∀ (j : Nat) (z : CH), j < s.1 - a → X[j]? = some z → ¬ cmpT y.1 z.1 < 0) ∧ ∀ (j : Nat) (z : CH), s.2 - a ≤ j → X[j]? = some z → cmpT y.1 z.1 < 0) (fun s => s.2 - s.1) (a, mm)
    ⟨Nat.le_refl _, by dsimp only; omega, Nat.le_refl _, fun j z h => (by dsimp only at h; omega), fun j z h hz => (by have := get_lt hz; dsimp only at h; omega)⟩ ⟨rfl, rfl, rfl, rfl, rfl, rfl, trivial⟩ ?_
  rintro ⟨i, j⟩ ⟨h1, h2, h3, h4, h5⟩
  dsimp only at h1 h2 h3 h4 h5 ⊢
  by_cases hlt : i < j
  · have hsh := half_sum i j
    obtain ⟨h, hh⟩ : ∃ h, (i + j) / 2 = h := ⟨_, rfl⟩
    rw [hh] at hsh
    obtain ⟨x, hx⟩ := get_some (l := X) (show h - a < X.length by omega)
    have q1 := heldC_at (rest := rest) (get_Y (Y := [y]) (D := R) ha hmm (j := 0) rfl mm (by omega)) (0 + mm * 7) (by omega)
    have q2 := heldC_at (rest := rest) (get_X (D := [y] ++ R) ha hx h (by omega)) (0 + h * 7) (by omega)
    by_cases hc : cmpT y.1 x.1 < 0
    · refine Z131 ?_; refine Z88 ?_; refine Z205 ?_; refine Z195 ?_; refine Z92 ?_; refine Z123 ?_; refine Z26 ?_; refine z7 (ok_conv rfl rfl rfl cv3_153.1 cv3_153.2 (wrap_u64 (by omega) (by omega))) rfl ?_; refine Z87 ?_; refine z7 (ok_conv rfl rfl rfl cv153_3.1 cv153_3.2 (wrap_i64 (by omega) (by omega))) rfl ?_; refine Z124 ?_; refine zy (id := 17) [(200096, [900]), (200100, [900])] mixed (by kernel_rfl) ?_; refine Z148 ?_; refine z8 (zo L _ rfl rfl rfl rfl rfl rfl rfl (by omega)) rfl ?_; refine qg (ok_loadHA L (q := 900) (vs := [_, _, _, _, _, _, _]) rfl rfl rfl rfl rfl rfl q1) rfl rfl ?_; refine Z126 ?_; refine z8 (zo L _ rfl rfl rfl rfl rfl rfl rfl (by omega)) rfl ?_; refine qg (ok_loadHA L (q := 900) (vs := [_, _, _, _, _, _, _]) rfl rfl rfl rfl rfl rfl q2) rfl rfl ?_; refine z8 (zp L rfl rfl (zk rfl) rfl rfl rfl (fun u H hH _ _ => ordC_ret hH)) rfl ?_; refine Z70 ?_; refine Z58 ?_; refine Z153 ?_; refine zf (id := 19) ?_; refine Z1 ?_; refine Z160 ?_
      exact y8 (x := (i, j)) (i, h) ⟨h1, by dsimp only; omega, by dsimp only; omega, h4, fun k z hk hz => by
        dsimp only at hk
        exact lt_le cmpT_ord hc (srt_le cmpT_ord hX hx hz (by omega))⟩ (by dsimp only; omega) ⟨rfl, rfl, rfl, rfl, rfl, rfl, trivial⟩
    · refine Z131 ?_; refine Z88 ?_; refine Z205 ?_; refine Z195 ?_; refine Z92 ?_; refine Z123 ?_; refine Z26 ?_; refine z7 (ok_conv rfl rfl rfl cv3_153.1 cv3_153.2 (wrap_u64 (by omega) (by omega))) rfl ?_; refine Z87 ?_; refine z7 (ok_conv rfl rfl rfl cv153_3.1 cv153_3.2 (wrap_i64 (by omega) (by omega))) rfl ?_; refine Z124 ?_; refine zy (id := 17) [(200096, [900]), (200100, [900])] mixed (by kernel_rfl) ?_; refine Z148 ?_; refine z8 (zo L _ rfl rfl rfl rfl rfl rfl rfl (by omega)) rfl ?_; refine qg (ok_loadHA L (q := 900) (vs := [_, _, _, _, _, _, _]) rfl rfl rfl rfl rfl rfl q1) rfl rfl ?_; refine Z126 ?_; refine z8 (zo L _ rfl rfl rfl rfl rfl rfl rfl (by omega)) rfl ?_; refine qg (ok_loadHA L (q := 900) (vs := [_, _, _, _, _, _, _]) rfl rfl rfl rfl rfl rfl q2) rfl rfl ?_; refine z8 (zp L rfl rfl (zk rfl) rfl rfl rfl (fun u H hH _ _ => ordC_ret hH)) rfl ?_; refine Z89 ?_; refine Z58 ?_; refine Z181 ?_; refine Z236 ?_; refine Z26 ?_; refine Z160 ?_
      exact y8 (x := (i, j)) (h + 1, j) ⟨by dsimp only; omega, by dsimp only; omega, h3, fun k z hk hz hcx => by
        dsimp only at hk
        exact hc (lt_le cmpT_ord hcx (srt_le cmpT_ord hX hz hx (by omega))), h5⟩ (by dsimp only; omega) ⟨rfl, rfl, rfl, rfl, rfl, rfl, trivial⟩
  · obtain rfl : i = j := by omega
    have hfin := one_lst (k := fun c : CH => c.1) cmpT_ord hX h4 h5
    have hal : (X.take (i - a)).length = i - a := by rw [List.length_take]; omega
    have hXl : (X.take (i - a)).length + (X.drop (i - a)).length = X.length := by rw [← List.length_append, List.take_append_drop]
    have e0 : P ++ (X ++ ([y] ++ R)) = P ++ (X.take (i - a) ++ (X.drop (i - a) ++ (y :: ([] ++ R)))) := by
      rw [← List.append_assoc (X.take _), List.take_append_drop]; rfl
    rw [e0]
    have e9 : P ++ (X.take (i - a) ++ (y :: (X.drop (i - a) ++ R))) = P ++ (stC (X ++ [y]) ++ R) := by
      unfold stC
      rw [← hfin]; simp
    generalize X.take (i - a) = A at *
    generalize X.drop (i - a) = D at *
    clear hfin h4 h5 e0
    have hk0 : mm = i + D.length := by omega
    refine Z131 ?_; refine Z88 ?_; refine Z123 ?_; refine Z232 ?_; refine zh ?_; refine Z81 ?_; refine Z1 ?_; refine Z203 ?_
    refine V_loop (fun t : Nat => [(0, .is (.slice (some ⟨b, 0, none⟩) m cap)), (14, .is (.int .i64 i)), (17, .is (.int .i64 (i + t : Nat))), (900, .own (HeldR b ((P ++ (A ++ (D.take t ++ (y :: (D.drop t ++ R))))).flatMap ccs ++ rest) tyC))]) (fun t => t ≤ D.length) (fun t => t) D.length (Nat.le_refl _) ⟨rfl, rfl, by rw [← hk0]; rfl, by rw [List.take_length, List.drop_length]; rfl, trivial⟩ ?_
    rintro t ht
    rcases t with _ | t
    · rw [List.take_zero, List.drop_zero, List.nil_append, e9, Nat.add_zero]
      refine Z131 ?_; refine Z101 ?_; refine Z123 ?_; refine Z29 ?_; refine Z127 ?_; refine Z145 ?_; refine zj ?_
      exact V_retGhost L 900 (r := GHeld b _ tyC) rfl (fun _ _ h => h) Since.refl rfl rfl
    · obtain ⟨z, hz⟩ := get_some (l := D) (show t < D.length by omega)
      have e0 : P ++ (A ++ (D.take (t + 1) ++ (y :: (D.drop (t + 1) ++ R)))) = (P ++ (A ++ D.take t)) ++ z :: ([] ++ y :: (D.drop (t + 1) ++ R)) := by rw [List.take_add_one, hz]; simp
      have e1 : (P ++ (A ++ D.take t)) ++ y :: ([] ++ z :: (D.drop (t + 1) ++ R)) = P ++ (A ++ (D.take t ++ (y :: (D.drop t ++ R)))) := by rw [drop_g hz]; simp
      have l1 : (P ++ (A ++ D.take t)).length = i + t := by rw [List.length_append, List.length_append, List.length_take]; omega
      have l2 : (P ++ (A ++ D.take t)).length + 1 + ([] : List CH).length = i + (t + 1) := by rw [l1]; rfl
      have g1 := two_get1 (x := z) (y := y) (M := []) (D := D.drop (t + 1) ++ R) l1
      have g2 := two_get2 (x := z) (y := y) (D := D.drop (t + 1) ++ R) l2
      have g3 := two_set' (x := z) (y := y) (D := D.drop (t + 1) ++ R) l1 l2
      rw [e0]
      rw [e1] at g3
      generalize (P ++ (A ++ D.take t)) ++ z :: ([] ++ y :: (D.drop (t + 1) ++ R)) = K at *
      have k1 := get_lt g1
      have k2 := get_lt g2
      have hKl : i + (t + 1) < m := by omega
      have q1 := heldC_at (rest := rest) g1 (0 + (i + t) * 7) (by omega)
      have q2 := heldC_at (rest := rest) g2 (0 + (i + (t + 1)) * 7) (by omega)
      have s1 := heldC_set (rest := rest) (z := z) k2 (0 + (i + (t + 1)) * 7) (by omega)
      have b1 := heldC_ble (rest := rest) k2 (0 + (i + (t + 1)) * 7) (by omega)
      have k3 : i + t < (K.set (i + (t + 1)) z).length := by rw [List.length_set]; exact k1
      have s2 := heldC_set (rest := rest) (z := y) k3 (0 + (i + t) * 7) (by omega)
      have b2 := heldC_ble (rest := rest) k3 (0 + (i + t) * 7) (by omega)
      rw [g3] at s2
      have a1 : IntKind.i64.wrap (((i + (t + 1) : Nat) : Int) - 1) = ((i + t : Nat) : Int) := wrap_i64 (by omega) (by omega) |>.trans (by omega)
      refine Z131 ?_; refine Z101 ?_; refine Z123 ?_; refine Z37 ?_; refine Z306 ?_; refine zy (id := 23) [(200122, [900]), (200126, [900]), (100127, [900]), (100128, [900])] mixed (by kernel_rfl) ?_; refine Z126 ?_; refine Z202 ?_; refine Z202 ?_; refine z8 (zo L _ rfl rfl rfl rfl rfl rfl rfl (by omega)) rfl ?_; refine qg (ok_loadHA L (q := 900) (vs := [_, _, _, _, _, _, _]) rfl rfl rfl rfl rfl rfl q1) rfl rfl ?_; refine Z126 ?_; refine z8 (zo L _ rfl rfl rfl rfl rfl rfl rfl (by omega)) rfl ?_; refine qg (ok_loadHA L (q := 900) (vs := [_, _, _, _, _, _, _]) rfl rfl rfl rfl rfl rfl q2) rfl rfl ?_; refine z8 (zo L _ rfl rfl rfl rfl rfl rfl rfl (by omega)) rfl ?_; refine yk (yh L (q := 900) rfl rfl rfl rfl rfl rfl b1 rfl s1) rfl ?_; refine z8 (zo L _ rfl rfl rfl rfl rfl rfl rfl (by omega)) rfl ?_; refine yk (yh L (q := 900) rfl rfl rfl rfl rfl rfl b2 rfl s2) rfl ?_; refine ql ?_; refine Z175 ?_; refine zf (id := 22) ?_; refine Z231 ?_; refine Z142 ?_
      exact y8 (x := t + 1) t (by omega) (by omega) ⟨rfl, rfl, rfl, rfl, trivial⟩
end Go.V.L8
set_option maxRecDepth 20000
namespace Go.V.L8
open Go.Proofs Go.RowKit Go.V Go.V.L2 Go.V.L3 Go.V.L6
theorem len_one {l : List CH} (h : l.length = 1) : ∃ x, l = [x] := by
  rcases l with _ | ⟨x, _ | ⟨y, l⟩⟩
  · simp at h
  · exact ⟨x, rfl⟩
  · simp at h
theorem stC_srt {l : List CH} (h : SrtC l) : stC l = l := stbL_srt cmpT_ord h
attribute [local irreducible] V N X VO Par StepOK Has Ret RetL RetO RetT RetG Src
set_option maxHeartbeats 8000000 in
set_option maxRecDepth 20000 in
theorem sym_ret (N0 : Nat) : ∀ {P X Y R : List CH} {rest : List Value} {b m cap a mm e : Nat}, X.length + Y.length ≤ N0 → P.length = a → a + X.length = mm → mm + Y.length = e → 0 < X.length → 0 < Y.length → SrtC X → SrtC Y → (P ++ (X ++ (Y ++ R))).length = m → m ≤ 100000 → ∀ {w : World} {B : Heap} {C : Nat → Prop}, B.Le (hp w) →
    (GHeld b ((P ++ (X ++ (Y ++ R))).flatMap ccs ++ rest) tyC).P B w C → (∀ k, C k → k < w.heap.size ∧ B k = none) →
    RetG Tryz.prog SYM [.slice (some ⟨b, 0, none⟩) m cap, .int .i64 a, .int .i64 mm, .int .i64 e, ordV] w B C (GHeld b ((P ++ (stC (X ++ Y) ++ R)).flatMap ccs ++ rest) tyC) := by
  induction N0 with
  | zero => intro P X Y R rest b m cap a mm e h1 h2 h3 h4 h5; omega
  | succ N0 ih =>
  intro P X Y R rest b m cap a mm e hN ha hmm he hx hy hX hY hm hm1 w B C hB hr hC
  by_cases hx1 : X.length = 1
  · obtain ⟨x, rfl⟩ := len_one hx1
    exact sym_one ha (by simpa using hmm) he hY hm hm1 hB hr hC
  by_cases hy1 : Y.length = 1
  · obtain ⟨y, rfl⟩ := len_one hy1
    exact sym_lst ha hmm hx1 (by simpa using he) hX hm hm1 hB hr hC
  unfold RetG
  refine V_enterG 900 (GHeld b ((P ++ (X ++ (Y ++ R))).flatMap ccs ++ rest) tyC) Tryz.func174 rfl Tryz.ntmps174 (Nat.le_of_ble_eq_true rfl) hB hr hC ?_
  rw [gheld_res]
  have hm' := hm
  simp only [List.length_append] at hm'
  have hsh := half_sum a e
  obtain ⟨mid, hmid⟩ : ∃ mid, (a + e) / 2 = mid := ⟨_, rfl⟩
  rw [hmid] at hsh
  have hnn : IntKind.i64.wrap ((mid : Int) + (mm : Int)) = ((mid + mm : Nat) : Int) := wrap_i64 (by omega) (by omega)
  refine zh ?_; refine Z130 ?_; refine Z123 ?_; refine Z65 ?_; refine Z312 ?_; refine Z80 ?_; refine Z123 ?_; refine Z65 ?_; refine Z223 ?_; refine zf (id := 24) ?_; refine Z123 ?_; refine Z26 ?_; refine z7 (ok_conv rfl rfl rfl cv3_153.1 cv3_153.2 (wrap_u64 (by omega) (by omega))) rfl ?_; refine Z87 ?_; refine z7 (ok_conv rfl rfl rfl cv153_3.1 cv153_3.2 (wrap_i64 (by omega) (by omega))) rfl ?_; refine Z124 ?_; refine zf (id := 25) ?_; refine Z235 ?_; refine Z124 ?_; refine zf (id := 26) ?_; refine Z163 ?_
  refine V_meetC (fun s : Nat × Nat => [(0, .is (.slice (some ⟨b, 0, none⟩) m cap)), (1, .is (.int .i64 a)), (2, .is (.int .i64 mm)), (3, .is (.int .i64 e)), (4, .is ordV), (18, .is (.int .i64 mid)), (19, .is (.int .i64 (mid + mm : Nat))), (20, .is (.int .i64 s.1)), (21, .is (.int .i64 s.2)), (900, .own (HeldR b ((P ++ (X ++ (Y ++ R))).flatMap ccs ++ rest) tyC))]) (fun s => SymB X Y a mm e mid s.1 s.2 ∧ s.1 ≤ s.2) (fun _ => []) ?rest ?first
  case first =>
    by_cases hgt : mid < mm
    · have hs : IntKind.i64.wrap (((mid + mm : Nat) : Int) - (e : Int)) = ((mid + mm - e : Nat) : Int) := wrap_i64 (by omega) (by omega) |>.trans (by omega)
      refine zf (id := 27) ?_; refine Z123 ?_; refine Z37 ?_; refine Z138 ?_; refine zf (id := 28) ?_; refine Z174 ?_; refine Z122 ?_; refine zf (id := 29) ?_; refine Z1 ?_; refine Z142 ?_
      exact N_mids (mid + mm - e, mid) Since.refl ⟨⟨hmm, he, by dsimp only; omega, by dsimp only; omega, Nat.le_refl _, by dsimp only; omega, .inr (by dsimp only; omega), .inr rfl⟩, by dsimp only; omega⟩ rfl ⟨rfl, rfl, rfl, rfl, rfl, rfl, rfl, rfl, rfl, rfl, trivial⟩
    · refine zf (id := 27) ?_; refine Z123 ?_; refine Z29 ?_; refine Z127 ?_; refine zh ?_; refine zf (id := 30) ?_; refine Z1 ?_; refine Z122 ?_; refine zf (id := 31) ?_; refine Z1 ?_; refine Z142 ?_
      exact N_mids (a, mm) Since.refl ⟨⟨hmm, he, Nat.le_refl _, by dsimp only; omega, by dsimp only; omega, Nat.le_refl _, .inl rfl, .inl rfl⟩, by dsimp only; omega⟩ rfl ⟨rfl, rfl, rfl, rfl, rfl, rfl, rfl, rfl, rfl, rfl, trivial⟩
  case rest =>
  rintro ⟨lo, hi⟩ ⟨hb, hlh⟩
  dsimp only at hb hlh ⊢
  have hp : IntKind.i64.wrap (((mid + mm : Nat) : Int) - 1) = ((mid + mm - 1 : Nat) : Int) := wrap_i64 (by omega) (by omega) |>.trans (by omega)
  refine zh ?_; refine zf (id := 32) ?_; refine Z231 ?_; refine Z124 ?_; refine qe ?_
  refine V_loop (fun s : Nat × Nat => [(0, .is (.slice (some ⟨b, 0, none⟩) m cap)), (1, .is (.int .i64 a)), (2, .is (.int .i64 mm)), (3, .is (.int .i64 e)), (4, .is ordV), (18, .is (.int .i64 mid)), (19, .is (.int .i64 (mid + mm : Nat))), (20, .is (.int .i64 s.1)), (21, .is (.int .i64 s.2)), (22, .is (.int .i64 (mid + mm - 1 : Nat))), (900, .own (HeldR b ((P ++ (X ++ (Y ++ R))).flatMap ccs ++ rest) tyC))])
    (fun s => SymI (fun c : CH => c.1) cmpT X Y a mid lo hi s.1 s.2) (fun s => s.2 - s.1) (lo, hi) (SymI.start hlh) ⟨rfl, rfl, rfl, rfl, rfl, rfl, rfl, rfl, rfl, rfl, rfl, trivial⟩ ?_
  rintro ⟨i, j⟩ hI
  dsimp only at hI ⊢
  have hI' := hI
  have hb' := hb
  obtain ⟨b1, b2, b3, b4, b5, b6, _, _⟩ := hb'
  obtain ⟨i1, i2, i3, _, _⟩ := hI'
  by_cases hlt : i < j
  · have hsc := half_sum i j
    obtain ⟨c, hc⟩ : ∃ c, (i + j) / 2 = c := ⟨_, rfl⟩
    rw [hc] at hsc
    obtain ⟨x, hxc⟩ := get_some (l := X) (show c - a < X.length by omega)
    obtain ⟨y, hyc⟩ := get_some (l := Y) (show mid - 1 - c < Y.length by omega)
    have q1 := heldC_at (rest := rest) (get_Y (D := R) ha hmm hyc (mid + mm - 1 - c) (by omega)) (0 + (mid + mm - 1 - c) * 7) (by omega)
    have q2 := heldC_at (rest := rest) (get_X (D := Y ++ R) ha hxc c (by omega)) (0 + c * 7) (by omega)
    have hpc : IntKind.i64.wrap (((mid + mm - 1 : Nat) : Int) - (c : Int)) = ((mid + mm - 1 - c : Nat) : Int) := wrap_i64 (by omega) (by omega) |>.trans (by omega)
    by_cases hcm : cmpT y.1 x.1 < 0
    · refine Z131 ?_; refine zf (id := 33) ?_; refine Z205 ?_; refine Z195 ?_; refine zf (id := 34) ?_; refine Z123 ?_; refine Z26 ?_; refine z7 (ok_conv rfl rfl rfl cv3_153.1 cv3_153.2 (wrap_u64 (by omega) (by omega))) rfl ?_; refine Z87 ?_; refine z7 (ok_conv rfl rfl rfl cv153_3.1 cv153_3.2 (wrap_i64 (by omega) (by omega))) rfl ?_; refine Z124 ?_; refine zy (id := 35) [(200164, [900]), (200168, [900])] mixed (by kernel_rfl) ?_; refine Z126 ?_; refine Z202 ?_; refine z8 (zo L _ rfl rfl rfl rfl rfl rfl rfl (by omega)) rfl ?_; refine qg (ok_loadHA L (q := 900) (vs := [_, _, _, _, _, _, _]) rfl rfl rfl rfl rfl rfl q1) rfl rfl ?_; refine Z126 ?_; refine z8 (zo L _ rfl rfl rfl rfl rfl rfl rfl (by omega)) rfl ?_; refine qg (ok_loadHA L (q := 900) (vs := [_, _, _, _, _, _, _]) rfl rfl rfl rfl rfl rfl q2) rfl rfl ?_; refine z8 (zp L rfl rfl (zk rfl) rfl rfl rfl (fun u H hH _ _ => ordC_ret hH)) rfl ?_; refine Z70 ?_; refine Z58 ?_; refine Z153 ?_; refine zf (id := 37) ?_; refine Z1 ?_; refine Z160 ?_
      exact y8 (x := (i, j)) (i, c) (hI.down cmpT_ord hX hY hb (by omega) (by omega) hxc hyc hcm) (by dsimp only; omega) ⟨rfl, rfl, rfl, rfl, rfl, rfl, rfl, rfl, rfl, rfl, rfl, trivial⟩
    · refine Z131 ?_; refine zf (id := 33) ?_; refine Z205 ?_; refine Z195 ?_; refine zf (id := 34) ?_; refine Z123 ?_; refine Z26 ?_; refine z7 (ok_conv rfl rfl rfl cv3_153.1 cv3_153.2 (wrap_u64 (by omega) (by omega))) rfl ?_; refine Z87 ?_; refine z7 (ok_conv rfl rfl rfl cv153_3.1 cv153_3.2 (wrap_i64 (by omega) (by omega))) rfl ?_; refine Z124 ?_; refine zy (id := 35) [(200164, [900]), (200168, [900])] mixed (by kernel_rfl) ?_; refine Z126 ?_; refine Z202 ?_; refine z8 (zo L _ rfl rfl rfl rfl rfl rfl rfl (by omega)) rfl ?_; refine qg (ok_loadHA L (q := 900) (vs := [_, _, _, _, _, _, _]) rfl rfl rfl rfl rfl rfl q1) rfl rfl ?_; refine Z126 ?_; refine z8 (zo L _ rfl rfl rfl rfl rfl rfl rfl (by omega)) rfl ?_; refine qg (ok_loadHA L (q := 900) (vs := [_, _, _, _, _, _, _]) rfl rfl rfl rfl rfl rfl q2) rfl rfl ?_; refine z8 (zp L rfl rfl (zk rfl) rfl rfl rfl (fun u H hH _ _ => ordC_ret hH)) rfl ?_; refine Z89 ?_; refine Z58 ?_; refine Z181 ?_; refine zf (id := 36) ?_; refine Z1 ?_; refine Z26 ?_; refine Z160 ?_
      exact y8 (x := (i, j)) (c + 1, j) (hI.up cmpT_ord hX hY hb (by omega) (by omega) hxc hyc hcm) (by dsimp only; omega) ⟨rfl, rfl, rfl, rfl, rfl, rfl, rfl, rfl, rfl, rfl, rfl, trivial⟩
  · obtain rfl : i = j := by omega
    have hj := sym_join cmpT_ord hX hY hb hI
    have hen : IntKind.i64.wrap (((mid + mm : Nat) : Int) - (i : Int)) = ((mid + mm - i : Nat) : Int) := wrap_i64 (by omega) (by omega) |>.trans (by omega)
    refine Z131 ?_; refine zf (id := 33) ?_; refine Z123 ?_; refine Z232 ?_; refine zf (id := 38) ?_; refine Z174 ?_; refine Z132 ?_
    have eX : X.take (i - a) ++ X.drop (i - a) = X := List.take_append_drop _ _
    have eY : Y.take (mid - i) ++ Y.drop (mid - i) = Y := List.take_append_drop _ _
    have lA1 : (X.take (i - a)).length = i - a := by rw [List.length_take]; omega
    have lA2 : (X.drop (i - a)).length = mm - i := by rw [List.length_drop]; omega
    have lB1 : (Y.take (mid - i)).length = mid - i := by rw [List.length_take]; omega
    have lB2 : (Y.drop (mid - i)).length = e - (mid + mm - i) := by rw [List.length_drop]; omega
    generalize X.take (i - a) = A1 at *
    generalize X.drop (i - a) = A2 at *
    generalize Y.take (mid - i) = B1 at *
    generalize Y.drop (mid - i) = B2 at *
    change stC (A1 ++ B1) ++ stC (A2 ++ B2) = stC (X ++ Y) at hj
    rw [← hj]
    subst eX eY
    obtain ⟨sA1, sA2, _⟩ := srt_app.1 hX
    obtain ⟨sB1, sB2, _⟩ := srt_app.1 hY
    clear hI hb hj hX hY
    obtain ⟨en, hend⟩ : ∃ en, mid + mm - i = en := ⟨_, rfl⟩
    rw [hend] at lB2 ⊢
    have e0 : P ++ ((A1 ++ A2) ++ ((B1 ++ B2) ++ R)) = (P ++ A1) ++ (A2 ++ (B1 ++ (B2 ++ R))) := by simp
    have e1 : (P ++ A1) ++ (B1 ++ (A2 ++ (B2 ++ R))) = P ++ (A1 ++ (B1 ++ (A2 ++ (B2 ++ R)))) := by simp
    have hlen1 : ((P ++ A1) ++ (A2 ++ (B1 ++ (B2 ++ R)))).length = m := by rw [← e0]; exact hm
    have hlen2 : (P ++ (A1 ++ (B1 ++ (A2 ++ (B2 ++ R))))).length = m := by simp only [List.length_append] at hm' ⊢; omega
    have hl3 := stC_len (A1 ++ B1)
    rw [List.length_append] at hl3
    have e3 : P ++ (stC (A1 ++ B1) ++ (A2 ++ (B2 ++ R))) = (P ++ stC (A1 ++ B1)) ++ (A2 ++ (B2 ++ R)) := by simp
    have hlen3 : ((P ++ stC (A1 ++ B1)) ++ (A2 ++ (B2 ++ R))).length = m := by simp only [List.length_append] at hm' ⊢; omega
    have e4 : (P ++ stC (A1 ++ B1)) ++ (stC (A2 ++ B2) ++ R) = P ++ ((stC (A1 ++ B1) ++ stC (A2 ++ B2)) ++ R) := by simp
    simp only [List.length_append] at hm' hmm he hN
    refine V_meetC (fun _ : Unit => [(0, .is (.slice (some ⟨b, 0, none⟩) m cap)), (1, .is (.int .i64 a)), (3, .is (.int .i64 e)), (4, .is ordV), (18, .is (.int .i64 mid)), (20, .is (.int .i64 i)), (24, .is (.int .i64 en)), (900, .own (HeldR b ((P ++ (A1 ++ (B1 ++ (A2 ++ (B2 ++ R))))).flatMap ccs ++ rest) tyC))]) (fun _ => True) (fun _ => []) ?rest1 ?first1
    case first1 =>
      rw [e0]
      by_cases h1 : i < mm
      · by_cases h2 : mm < en
        · refine zf (id := 39) ?_; refine Z205 ?_; refine Z150 ?_; refine Z8 ?_; refine Z9 ?_; refine Z129 ?_; refine zf (id := 40) ?_; refine Z123 ?_; refine Z150 ?_; refine qk (ok_callG L 900 (GHeld b (((P ++ A1) ++ (B1 ++ (A2 ++ (B2 ++ R)))).flatMap ccs ++ rest) tyC) (r := GHeld b (((P ++ A1) ++ (A2 ++ (B1 ++ (B2 ++ R)))).flatMap ccs ++ rest) tyC) rfl rfl rfl rfl rfl (fun u H C hH _ hr hC => (by have h := rot_ret (cap := cap) (a := i) (mm := mm) (e := en) (by rw [List.length_append]; omega) (by omega) (by omega) (by omega) (by omega) hlen1 hm1 ordV hH hr hC; exact h))) ?_; refine zi ?_
          rw [e1]
          exact N_mids () Since.refl trivial rfl ⟨rfl, rfl, rfl, rfl, rfl, rfl, rfl, rfl, trivial⟩
        · have hB1 : B1 = [] := List.eq_nil_of_length_eq_zero (by omega)
          subst hB1
          have e9 : (P ++ A1) ++ (A2 ++ ([] ++ (B2 ++ R))) = P ++ (A1 ++ ([] ++ (A2 ++ (B2 ++ R)))) := by simp
          rw [e9]
          refine zf (id := 39) ?_; refine Z205 ?_; refine Z150 ?_; refine Z11 ?_; refine Z9 ?_; refine Z183 ?_
          exact N_mids () Since.refl trivial rfl ⟨rfl, rfl, rfl, rfl, rfl, rfl, rfl, rfl, trivial⟩
      · have hA2 : A2 = [] := List.eq_nil_of_length_eq_zero (by omega)
        subst hA2
        have e9 : (P ++ A1) ++ ([] ++ (B1 ++ (B2 ++ R))) = P ++ (A1 ++ (B1 ++ ([] ++ (B2 ++ R)))) := by simp
        rw [e9]
        refine zf (id := 39) ?_; refine Z123 ?_; refine Z11 ?_; refine Z212 ?_; refine Z183 ?_
        exact N_mids () Since.refl trivial rfl ⟨rfl, rfl, rfl, rfl, rfl, rfl, rfl, rfl, trivial⟩
    case rest1 =>
    rintro _ _
    refine Z131 ?_
    refine V_meetC (fun _ : Unit => [(0, .is (.slice (some ⟨b, 0, none⟩) m cap)), (3, .is (.int .i64 e)), (4, .is ordV), (18, .is (.int .i64 mid)), (24, .is (.int .i64 en)), (900, .own (HeldR b (((P ++ stC (A1 ++ B1)) ++ (A2 ++ (B2 ++ R))).flatMap ccs ++ rest) tyC))]) (fun _ => True) (fun _ => []) ?rest2 ?first2
    case first2 =>
      rw [← e3]
      by_cases h1 : a < i
      · by_cases h2 : i < mid
        · refine zf (id := 41) ?_; refine Z205 ?_; refine Z150 ?_; refine Z8 ?_; refine Z9 ?_; refine Z129 ?_; refine zf (id := 42) ?_; refine Z123 ?_; refine Z150 ?_; refine qk (ok_callG L 900 (GHeld b ((P ++ (stC (A1 ++ B1) ++ (A2 ++ (B2 ++ R)))).flatMap ccs ++ rest) tyC) (r := GHeld b ((P ++ (A1 ++ (B1 ++ (A2 ++ (B2 ++ R))))).flatMap ccs ++ rest) tyC) rfl rfl rfl rfl rfl (fun u H C hH _ hr hC => (by have h := ih (cap := cap) (a := a) (mm := i) (e := mid) (by omega) ha (by omega) (by omega) (by omega) (by omega) sA1 sB1 hlen2 hm1 hH hr hC; exact h))) ?_; refine zi ?_
          exact N_mids () Since.refl trivial rfl ⟨rfl, rfl, rfl, rfl, rfl, rfl, trivial⟩
        · have hB1 : B1 = [] := List.eq_nil_of_length_eq_zero (by omega)
          subst hB1
          have e9 : P ++ (A1 ++ ([] ++ (A2 ++ (B2 ++ R)))) = P ++ (stC (A1 ++ []) ++ (A2 ++ (B2 ++ R))) := by rw [List.append_nil, stC_srt sA1]; rfl
          rw [e9]
          refine zf (id := 41) ?_; refine Z205 ?_; refine Z150 ?_; refine Z11 ?_; refine Z9 ?_; refine Z183 ?_
          exact N_mids () Since.refl trivial rfl ⟨rfl, rfl, rfl, rfl, rfl, rfl, trivial⟩
      · have hA1 : A1 = [] := List.eq_nil_of_length_eq_zero (by omega)
        subst hA1
        have e9 : P ++ ([] ++ (B1 ++ (A2 ++ (B2 ++ R)))) = P ++ (stC ([] ++ B1) ++ (A2 ++ (B2 ++ R))) := by rw [List.nil_append, List.nil_append, stC_srt sB1]
        rw [e9]
        refine zf (id := 41) ?_; refine Z123 ?_; refine Z11 ?_; refine Z212 ?_; refine Z183 ?_
        exact N_mids () Since.refl trivial rfl ⟨rfl, rfl, rfl, rfl, rfl, rfl, trivial⟩
    case rest2 =>
    rintro _ _
    by_cases h1 : mid < en
    · by_cases h2 : en < e
      · refine zh ?_; refine zf (id := 43) ?_; refine Z205 ?_; refine Z150 ?_; refine Z8 ?_; refine Z9 ?_; refine Z129 ?_; refine zf (id := 44) ?_; refine Z123 ?_; refine Z150 ?_; refine qk (ok_callG L 900 (GHeld b (((P ++ stC (A1 ++ B1)) ++ (stC (A2 ++ B2) ++ R)).flatMap ccs ++ rest) tyC) (r := GHeld b (((P ++ stC (A1 ++ B1)) ++ (A2 ++ (B2 ++ R))).flatMap ccs ++ rest) tyC) rfl rfl rfl rfl rfl (fun u H C hH _ hr hC => (by have h := ih (cap := cap) (a := mid) (mm := en) (e := e) (by omega) (by rw [List.length_append]; omega) (by omega) (by omega) (by omega) (by omega) sA2 sB2 hlen3 hm1 hH hr hC; exact h))) ?_; refine zi ?_
        rw [e4]
        exact N_retGhost L 900 (r := GHeld b _ tyC) rfl (fun _ _ h => h) Since.refl rfl rfl
      · have hB2 : B2 = [] := List.eq_nil_of_length_eq_zero (by omega)
        subst hB2
        have e9 : (P ++ stC (A1 ++ B1)) ++ (A2 ++ ([] ++ R)) = P ++ ((stC (A1 ++ B1) ++ stC (A2 ++ [])) ++ R) := by rw [List.append_nil, stC_srt sA2]; simp
        rw [e9]
        refine zh ?_; refine zf (id := 43) ?_; refine Z205 ?_; refine Z150 ?_; refine Z11 ?_; refine Z9 ?_; refine Z183 ?_
        exact N_retGhost L 900 (r := GHeld b _ tyC) rfl (fun _ _ h => h) Since.refl rfl rfl
    · have hA2 : A2 = [] := List.eq_nil_of_length_eq_zero (by omega)
      subst hA2
      have e9 : (P ++ stC (A1 ++ B1)) ++ ([] ++ (B2 ++ R)) = P ++ ((stC (A1 ++ B1) ++ stC ([] ++ B2)) ++ R) := by rw [List.nil_append, List.nil_append, stC_srt sB2]; simp
      rw [e9]
      refine zh ?_; refine zf (id := 43) ?_; refine Z123 ?_; refine Z11 ?_; refine Z212 ?_; refine Z183 ?_
      exact N_retGhost L 900 (r := GHeld b _ tyC) rfl (fun _ _ h => h) Since.refl rfl rfl
end Go.V.L8
set_option maxRecDepth 20000
namespace Go.V.L8
open Go.Proofs Go.RowKit Go.V Go.V.L2 Go.V.L3 Go.V.L6
abbrev chC (n : Nat) (l : List CH) : List CH := chL (fun c : CH => c.1) cmpT n l
theorem chC_step {n : Nat} (hn : 0 < n) (l : List CH) : chC n l = stC (l.take n) ++ chC n (l.drop n) := chL_step hn l
theorem chC_one {n : Nat} (hn : 0 < n) {l : List CH} (h : l.length ≤ n) : chC n l = stC l := chL_one hn h
theorem chC_len {n : Nat} (hn : 0 < n) (l : List CH) : (chC n l).length = l.length := chL_len cmpT_ord hn l.length (Nat.le_refl _)
theorem stC_app (X Y : List CH) : stC (stC X ++ stC Y) = stC (X ++ Y) := stbL_app cmpT_ord X Y
theorem srtC_stC (X : List CH) : SrtC (stC X) := (stbL_stb cmpT_ord X).1
attribute [local irreducible] V N X VO Par StepOK Has Ret RetL RetO RetT RetG Src
set_option maxHeartbeats 8000000 in
set_option maxRecDepth 20000 in
theorem stab_ret {l : List CH} {rest : List Value} {b m cap : Nat} (hm : l.length = m) (hm1 : m ≤ 100000) {w : World} {B : Heap} {C : Nat → Prop} (hB : B.Le (hp w))
    (hr : (GHeld b (l.flatMap ccs ++ rest) tyC).P B w C) (hC : ∀ k, C k → k < w.heap.size ∧ B k = none) :
    RetG Tryz.prog 160 [.slice (some ⟨b, 0, none⟩) m cap, .int .i64 m, ordV] w B C (GHeld b ((stC l).flatMap ccs ++ rest) tyC) := by
  unfold RetG
  refine V_enterG 900 (GHeld b (l.flatMap ccs ++ rest) tyC) Tryz.func160 rfl Tryz.ntmps160 (Nat.le_of_ble_eq_true rfl) hB hr hC ?_
  rw [gheld_res]
  refine Z251 ?_; refine Z154 ?_; refine qe ?_
  refine V_loop (fun s : Nat × List CH => [(0, .is (.slice (some ⟨b, 0, none⟩) m cap)), (1, .is (.int .i64 m)), (2, .is ordV), (6, .is (.int .i64 20)), (7, .is (.int .i64 s.1)), (8, .is (.int .i64 (s.1 + 20 : Nat))), (900, .own (HeldR b ((s.2 ++ l.drop s.1).flatMap ccs ++ rest) tyC))])
    (fun s => s.2.length = s.1 ∧ s.1 ≤ m ∧ s.2 ++ chC 20 (l.drop s.1) = chC 20 l) (fun s => m - s.1) (0, []) ⟨rfl, Nat.zero_le _, rfl⟩ ⟨rfl, rfl, rfl, rfl, rfl, rfl, rfl, trivial⟩ ?_
  rintro ⟨a, S1⟩ ⟨h1, h2, h3⟩
  dsimp only at h1 h2 h3 ⊢
  have hdl : (l.drop a).length = m - a := by rw [List.length_drop, hm]
  by_cases hlt : a + 20 ≤ m
  · have e0 : S1 ++ l.drop a = S1 ++ ((l.drop a).take 20 ++ (l.drop a).drop 20) := by rw [List.take_append_drop]
    have e1 : S1 ++ (stC ((l.drop a).take 20) ++ (l.drop a).drop 20) = (S1 ++ stC ((l.drop a).take 20)) ++ l.drop (a + 20) := by rw [List.drop_drop, List.append_assoc]
    have hlen : (S1 ++ ((l.drop a).take 20 ++ (l.drop a).drop 20)).length = m := by rw [← e0, List.length_append]; omega
    have ltk : ((l.drop a).take 20).length = 20 := by rw [List.length_take]; omega
    have a1 : IntKind.i64.wrap (((a + 20 : Nat) : Int) + 20) = ((a + 20 + 20 : Nat) : Int) := wrap_i64 (by omega) (by omega)
    rw [e0]
    refine Z131 ?_; refine Z225 ?_; refine Z66 ?_; refine Z195 ?_; refine Z167 ?_; refine Z123 ?_; refine qk (ok_callG L 900 (GHeld b ((S1 ++ (stC ((l.drop a).take 20) ++ (l.drop a).drop 20)).flatMap ccs ++ rest) tyC) (r := GHeld b ((S1 ++ ((l.drop a).take 20 ++ (l.drop a).drop 20)).flatMap ccs ++ rest) tyC) rfl rfl rfl rfl rfl (fun u H C hH _ hr hC => (by have h := ins_ret (cap := cap) (a := a) (e := a + 20) h1 (by omega) hlen hm1 hH hr hC; exact h))) ?_; refine Z137 ?_; refine Z156 ?_; refine Z122 ?_; refine Z213 ?_; refine Z12 ?_; refine Z160 ?_
    rw [e1]
    exact y8 (x := (a, S1)) (a + 20, S1 ++ stC ((l.drop a).take 20)) ⟨by dsimp only; rw [List.length_append, stC_len]; omega, hlt, by
      dsimp only
      rw [← h3, chC_step (by omega) (l.drop a), List.drop_drop, List.append_assoc]⟩ (by dsimp only; omega) ⟨rfl, rfl, rfl, rfl, rfl, rfl, rfl, trivial⟩
  · have e0 : S1 ++ l.drop a = S1 ++ (l.drop a ++ []) := by rw [List.append_nil]
    have e1 : S1 ++ (stC (l.drop a) ++ []) = chC 20 l := by rw [List.append_nil, ← h3, chC_one (by omega) (by omega)]
    have hlen : (S1 ++ (l.drop a ++ [])).length = m := by rw [← e0, List.length_append]; omega
    rw [e0]
    refine Z131 ?_; refine Z225 ?_; refine Z63 ?_; refine Z252 ?_; refine Z42 ?_; refine Z191 ?_; refine qk (ok_callG L 900 (GHeld b ((S1 ++ (stC (l.drop a) ++ [])).flatMap ccs ++ rest) tyC) (r := GHeld b ((S1 ++ (l.drop a ++ [])).flatMap ccs ++ rest) tyC) rfl rfl rfl rfl rfl (fun u H C hH _ hr hC => (by have h := ins_ret (cap := cap) (a := a) (e := m) h1 (by omega) hlen hm1 hH hr hC; exact h))) ?_; refine Z239 ?_
    rw [e1]
    clear e0 e1 hlen hlt hdl h1 h2 h3
    refine V_loop (fun s : Nat => [(0, .is (.slice (some ⟨b, 0, none⟩) m cap)), (1, .is (.int .i64 m)), (2, .is ordV), (6, .is (.int .i64 s)), (900, .own (HeldR b ((chC s l).flatMap ccs ++ rest) tyC))]) (fun s => 0 < s ∧ s ≤ 20 + 2 * m) (fun s => m - s) 20 ⟨by omega, by omega⟩ ⟨rfl, rfl, rfl, rfl, rfl, trivial⟩ ?_
    rintro s ⟨hs0, hs1⟩
    by_cases hsm : s < m
    · refine Z313 ?_; refine Z205 ?_; refine Z195 ?_; refine Z197 ?_; refine Z38 ?_; refine Z154 ?_; refine qe ?_
      refine V_loop (fun t : Nat × List CH => [(0, .is (.slice (some ⟨b, 0, none⟩) m cap)), (1, .is (.int .i64 m)), (2, .is ordV), (6, .is (.int .i64 s)), (7, .is (.int .i64 t.1)), (8, .is (.int .i64 (t.1 + 2 * s : Nat))), (900, .own (HeldR b ((t.2 ++ chC s (l.drop t.1)).flatMap ccs ++ rest) tyC))])
        (fun t => t.2.length = t.1 ∧ t.1 ≤ m ∧ t.2 ++ chC (2 * s) (l.drop t.1) = chC (2 * s) l) (fun t => m - t.1) (0, []) ⟨rfl, Nat.zero_le _, rfl⟩ ⟨rfl, rfl, rfl, rfl, rfl, by dsimp only; rw [Nat.zero_add]; rfl, rfl, trivial⟩ ?_
      rintro ⟨a, S1⟩ ⟨h1, h2, h3⟩
      dsimp only at h1 h2 h3 ⊢
      have hdl : (l.drop a).length = m - a := by rw [List.length_drop, hm]
      have hcs := chC_step hs0 (l.drop a)
      by_cases hlt : a + 2 * s ≤ m
      · have hcs2 := chC_step hs0 ((l.drop a).drop s)
        have e0 : S1 ++ chC s (l.drop a) = S1 ++ (stC ((l.drop a).take s) ++ (stC (((l.drop a).drop s).take s) ++ chC s (l.drop (a + 2 * s)))) := by
          rw [hcs, hcs2, List.drop_drop, List.drop_drop, show a + s + s = a + 2 * s by omega]
        have ht2 : (l.drop a).take (2 * s) = (l.drop a).take s ++ ((l.drop a).drop s).take s := by rw [show 2 * s = s + s by omega, List.take_add]
        have e1 : S1 ++ (stC (stC ((l.drop a).take s) ++ stC (((l.drop a).drop s).take s)) ++ chC s (l.drop (a + 2 * s))) = (S1 ++ stC ((l.drop a).take (2 * s))) ++ chC s (l.drop (a + 2 * s)) := by rw [stC_app, ← ht2, List.append_assoc]
        have l1 : (stC ((l.drop a).take s)).length = s := by rw [stC_len, List.length_take]; omega
        have l2 : (stC (((l.drop a).drop s).take s)).length = s := by rw [stC_len, List.length_take, List.length_drop]; omega
        have l3 : (chC s (l.drop (a + 2 * s))).length = m - (a + 2 * s) := by rw [chC_len hs0, List.length_drop, hm]
        have hlen : (S1 ++ (stC ((l.drop a).take s) ++ (stC (((l.drop a).drop s).take s) ++ chC s (l.drop (a + 2 * s))))).length = m := by simp only [List.length_append]; omega
        have a1 : IntKind.i64.wrap ((a : Int) + (s : Int)) = ((a + s : Nat) : Int) := wrap_i64 (by omega) (by omega)
        have a2 : IntKind.i64.wrap (((a + 2 * s : Nat) : Int) + 2 * (s : Int)) = ((a + 2 * s + 2 * s : Nat) : Int) := wrap_i64 (by omega) (by omega)
        rw [e0]
        refine Z131 ?_; refine Z296 ?_; refine Z66 ?_; refine Z195 ?_; refine Z74 ?_; refine Z191 ?_; refine Z12 ?_; refine Z123 ?_; refine qk (ok_callG L 900 (GHeld b ((S1 ++ (stC (stC ((l.drop a).take s) ++ stC (((l.drop a).drop s).take s)) ++ chC s (l.drop (a + 2 * s)))).flatMap ccs ++ rest) tyC) (r := GHeld b ((S1 ++ (stC ((l.drop a).take s) ++ (stC (((l.drop a).drop s).take s) ++ chC s (l.drop (a + 2 * s))))).flatMap ccs ++ rest) tyC) rfl rfl rfl rfl rfl (fun u H C hH _ hr hC => (by have h := sym_ret _ (cap := cap) (a := a) (mm := a + s) (e := a + 2 * s) (Nat.le_refl _) h1 (by omega) (by omega) (by omega) (by omega) (srtC_stC _) (srtC_stC _) hlen hm1 hH hr hC; exact h))) ?_; refine Z137 ?_; refine Z234 ?_; refine Z122 ?_; refine Z80 ?_; refine Z123 ?_; refine Z184 ?_; refine Z160 ?_
        rw [e1]
        exact y8 (x := (a, S1)) (a + 2 * s, S1 ++ stC ((l.drop a).take (2 * s))) ⟨by dsimp only; rw [List.length_append, stC_len, List.length_take]; omega, hlt, by
          dsimp only
          rw [← h3, chC_step (by omega) (l.drop a), List.drop_drop, List.append_assoc]⟩ (by dsimp only; omega) ⟨rfl, rfl, rfl, rfl, rfl, rfl, rfl, trivial⟩
      · have a1 : IntKind.i64.wrap ((a : Int) + (s : Int)) = ((a + s : Nat) : Int) := wrap_i64 (by omega) (by omega)
        have a2 : IntKind.i64.wrap ((s : Int) * 2) = ((2 * s : Nat) : Int) := wrap_i64 (by omega) (by omega) |>.trans (by omega)
        by_cases hlm : a + s < m
        · have e0 : S1 ++ chC s (l.drop a) = S1 ++ (stC ((l.drop a).take s) ++ (stC ((l.drop a).drop s) ++ [])) := by
            rw [hcs, chC_one hs0 (l := (l.drop a).drop s) (by rw [List.length_drop]; omega), List.append_nil]
          have e1 : S1 ++ (stC (stC ((l.drop a).take s) ++ stC ((l.drop a).drop s)) ++ []) = chC (2 * s) l := by
            rw [stC_app, List.take_append_drop, List.append_nil, ← h3, chC_one (n := 2 * s) (by omega) (by omega)]
          have l1 : (stC ((l.drop a).take s)).length = s := by rw [stC_len, List.length_take]; omega
          have l2 : (stC ((l.drop a).drop s)).length = m - a - s := by rw [stC_len, List.length_drop]; omega
          have hlen : (S1 ++ (stC ((l.drop a).take s) ++ (stC ((l.drop a).drop s) ++ []))).length = m := by simp only [List.length_append, List.length_nil]; omega
          rw [e0]
          refine Z131 ?_; refine Z296 ?_; refine Z63 ?_; refine Z252 ?_; refine zh ?_; refine Z76 ?_; refine Z235 ?_; refine Z124 ?_; refine Z69 ?_; refine Z205 ?_; refine Z129 ?_; refine Z88 ?_; refine Z123 ?_; refine Z150 ?_; refine qk (ok_callG L 900 (GHeld b ((S1 ++ (stC (stC ((l.drop a).take s) ++ stC ((l.drop a).drop s)) ++ [])).flatMap ccs ++ rest) tyC) (r := GHeld b ((S1 ++ (stC ((l.drop a).take s) ++ (stC ((l.drop a).drop s) ++ []))).flatMap ccs ++ rest) tyC) rfl rfl rfl rfl rfl (fun u H C hH _ hr hC => (by have h := sym_ret _ (cap := cap) (a := a) (mm := a + s) (e := m) (Nat.le_refl _) h1 (by omega) (by omega) (by omega) (by omega) (srtC_stC _) (srtC_stC _) hlen hm1 hH hr hC; exact h))) ?_; refine Z121 ?_; refine Z92 ?_; refine Z1 ?_; refine z7 (ok_mul rfl rfl rfl rfl a2) rfl ?_; refine Z160 ?_
          rw [e1]
          exact y8 (x := s) (2 * s) ⟨by omega, by omega⟩ (by omega) ⟨rfl, rfl, rfl, rfl, rfl, trivial⟩
        · have e1 : S1 ++ chC s (l.drop a) = chC (2 * s) l := by
            rw [← h3, chC_one hs0 (by omega), chC_one (n := 2 * s) (by omega) (by omega)]
          rw [e1]
          refine Z131 ?_; refine Z296 ?_; refine Z63 ?_; refine Z252 ?_; refine zh ?_; refine Z76 ?_; refine Z235 ?_; refine Z124 ?_; refine Z69 ?_; refine Z274 ?_; refine Z177 ?_; refine Z92 ?_; refine Z1 ?_; refine z7 (ok_mul rfl rfl rfl rfl a2) rfl ?_; refine Z160 ?_
          exact y8 (x := s) (2 * s) ⟨by omega, by omega⟩ (by omega) ⟨rfl, rfl, rfl, rfl, rfl, trivial⟩
    · rw [chC_one hs0 (by omega)]
      refine Z313 ?_; refine Z274 ?_; refine Z145 ?_
      exact N_retGhost L 900 (r := GHeld b _ tyC) rfl (fun _ _ h => h) Since.refl rfl rfl
abbrev SSF : Nat := 135
set_option maxHeartbeats 1000000 in
set_option maxRecDepth 20000 in
theorem sortS_ret {l : List CH} {rest : List Value} {b m cap : Nat} (hm : l.length = m) (hm1 : m ≤ 100000) {w : World} {B : Heap} {C : Nat → Prop} (hB : B.Le (hp w))
    (hr : (GHeld b (l.flatMap ccs ++ rest) tyC).P B w C) (hC : ∀ k, C k → k < w.heap.size ∧ B k = none) :
    RetG Tryz.prog SSF [.slice (some ⟨b, 0, none⟩) m cap, ordV] w B C (GHeld b ((stC l).flatMap ccs ++ rest) tyC) := by
  unfold RetG
  refine V_enterG 900 (GHeld b (l.flatMap ccs ++ rest) tyC) Tryz.func135 rfl Tryz.ntmps135 (Nat.le_of_ble_eq_true rfl) hB hr hC ?_
  rw [gheld_res]
  refine Z16 ?_; refine Z123 ?_; refine Z86 ?_; refine Z1 ?_; refine qk (ok_callG L 900 (GHeld b ((stC l).flatMap ccs ++ rest) tyC) (r := GHeld b (l.flatMap ccs ++ rest) tyC) rfl rfl rfl rfl rfl (fun u H C hH _ hr hC => (by have h := stab_ret (cap := cap) hm hm1 hH hr hC; exact h))) ?_; refine zi ?_
  exact N_retGhost L 900 (r := GHeld b _ tyC) rfl (fun _ _ h => h) Since.refl rfl rfl
set_option maxRecDepth 20000 in
theorem ins0_ret {w : World} {B : Heap} (hB : B.Le (hp w)) : Ret Tryz.prog 173 [.slice none 0 0, .int .i64 0, .int .i64 0, ordV] w B (fun _ _ => True) := by
  refine y7 Tryz.func173 rfl Tryz.ntmps173 (Nat.le_of_ble_eq_true rfl) hB ?_
  refine Z130 ?_; refine Z1 ?_; refine Z26 ?_; refine Z203 ?_
  refine V_loop (fun _ : Nat => [(2, .is (.int .i64 0)), (8, .is (.int .i64 1))]) (fun _ => True) (fun s => s) 0 trivial ⟨rfl, rfl, trivial⟩ ?_
  rintro s _
  refine Z131 ?_; refine Z17 ?_; refine Z274 ?_; refine Z145 ?_
  exact N_ret0 L rfl (fun _ _ h => h) Since.refl
set_option maxRecDepth 20000 in
theorem stab0_ret {w : World} {B : Heap} (hB : B.Le (hp w)) : Ret Tryz.prog 160 [.slice none 0 0, .int .i64 0, ordV] w B (fun _ _ => True) := by
  refine y7 Tryz.func160 rfl Tryz.ntmps160 (Nat.le_of_ble_eq_true rfl) hB ?_
  refine Z251 ?_; refine Z154 ?_; refine qe ?_
  refine V_loop (fun _ : Nat => [(0, .is (.slice none 0 0)), (1, .is (.int .i64 0)), (2, .is ordV), (6, .is (.int .i64 20)), (7, .is (.int .i64 0)), (8, .is (.int .i64 20))]) (fun _ => True) (fun s => s) 0 trivial ⟨rfl, rfl, rfl, rfl, rfl, rfl, trivial⟩ ?_
  rintro s _
  refine Z131 ?_; refine Z225 ?_; refine Z63 ?_; refine Z252 ?_; refine Z42 ?_; refine Z191 ?_; refine z7 (yr (φ := fun _ _ => True) L rfl rfl (zk rfl) rfl rfl rfl (fun _ _ _ _ _ => trivial) (fun u H hH _ _ => ins0_ret hH)) rfl ?_; refine Z239 ?_
  refine V_loop (fun _ : Nat => [(1, .is (.int .i64 0)), (6, .is (.int .i64 20))]) (fun _ => True) (fun s => s) 0 trivial ⟨rfl, rfl, trivial⟩ ?_
  rintro s _
  refine Z313 ?_; refine Z274 ?_; refine Z145 ?_
  exact N_ret0 L rfl (fun _ _ h => h) Since.refl
set_option maxRecDepth 20000 in
theorem sortS0_ret {w : World} {B : Heap} (hB : B.Le (hp w)) : Ret Tryz.prog SSF [.slice none 0 0, ordV] w B (fun _ _ => True) := by
  refine y7 Tryz.func135 rfl Tryz.ntmps135 (Nat.le_of_ble_eq_true rfl) hB ?_
  refine Z16 ?_; refine Z123 ?_; refine Z86 ?_; refine Z1 ?_; refine z7 (yr (φ := fun _ _ => True) L rfl rfl (zk rfl) rfl rfl rfl (fun _ _ _ _ _ => trivial) (fun u H hH _ _ => stab0_ret hH)) rfl ?_; refine zi ?_
  exact N_ret0 L rfl (fun _ _ h => h) Since.refl
end Go.V.L8
set_option maxRecDepth 20000
namespace Go.V.L8
open Go.Proofs Go.RowKit Go.V Go.V.L2 Go.V.L3 Go.V.L6
abbrev zC : CH := ((n3, n3), false)
def lastF (l : List CH) (t : U) (z : CH) : CH := l.foldl (fun a c => if c.1 = t then c else a) z
def lastK (l : List CH) (t : U) : Option CH := (l.filter fun c => decide (c.1 = t)).getLast?
theorem lastK_cons (c : CH) (l : List CH) (t : U) : lastK (c :: l) t = (lastK l t).or (if c.1 = t then some c else none) := by
  unfold lastK
  by_cases h : c.1 = t
  · rw [if_pos h, List.filter_cons_of_pos (by simpa using h), List.getLast?_cons]
    cases (l.filter fun c => decide (c.1 = t)).getLast? <;> rfl
  · rw [if_neg h, List.filter_cons_of_neg (by simpa using h)]
    cases (l.filter fun c => decide (c.1 = t)).getLast? <;> rfl
theorem lastK_key {l : List CH} {t : U} {c : CH} (h : lastK l t = some c) : c.1 = t ∧ c ∈ l := by
  have := List.mem_of_getLast? h
  rw [List.mem_filter] at this
  exact ⟨by simpa using this.2, this.1⟩
theorem lastK_none {l : List CH} {t : U} : lastK l t = none ↔ ∀ c ∈ l, c.1 ≠ t := by
  unfold lastK
  rw [List.getLast?_eq_none_iff, List.filter_eq_nil_iff]
  simp
theorem lastF_eq (l : List CH) (t : U) (z : CH) : lastF l t z = (lastK l t).getD z := by
  induction l generalizing z with
  | nil => rfl
  | cons c r ih =>
    have : lastF (c :: r) t z = lastF r t (if c.1 = t then c else z) := rfl
    rw [this, ih, lastK_cons]
    cases lastK r t with
    | some d => rfl
    | none => by_cases h : c.1 = t <;> simp [h]
theorem lastF_key {l : List CH} {t : U} {z : CH} (h : ∃ c ∈ l, c.1 = t) : lastK l t = some (lastF l t z) := by
  rw [lastF_eq]
  cases hk : lastK l t with
  | some d => rfl
  | none => obtain ⟨c, hc, he⟩ := h; exact absurd he (lastK_none.1 hk c hc)
def normL (l : List CH) : List CH := (sortT (l.map (·.1))).map fun t => lastF l t zC
theorem sortT_mem {l : List U} {t : U} : t ∈ sortT l ↔ t ∈ l := by unfold sortT; rw [mem_sortS]; simp
theorem sortT_sst (l : List U) : Sst cmpT (sortT l) := sst_sortS cmpT_ord Sst.nil
theorem normL_mem {l : List CH} {c : CH} : c ∈ normL l ↔ lastK l c.1 = some c := by
  unfold normL
  rw [List.mem_map]
  constructor
  · rintro ⟨t, ht, rfl⟩
    rw [sortT_mem, List.mem_map] at ht
    have := lastF_key (z := zC) ht
    rw [(lastK_key this).1]
    exact this
  · intro h
    have hm := lastK_key h
    exact ⟨c.1, sortT_mem.2 (List.mem_map.2 ⟨c, hm.2, rfl⟩), by rw [lastF_eq, h]; rfl⟩
theorem normL_keys (l : List CH) : (normL l).map (·.1) = sortT (l.map (·.1)) := by
  unfold normL
  rw [List.map_map]
  conv => rhs; rw [← List.map_id (sortT (l.map (·.1)))]
  refine List.map_congr_left fun t ht => ?_
  rw [sortT_mem, List.mem_map] at ht
  exact (lastK_key (lastF_key (z := zC) ht)).1
def NrmC (l : List CH) : Prop := Sst cmpT (l.map (·.1))
theorem normL_nrm (l : List CH) : NrmC (normL l) := by unfold NrmC; rw [normL_keys]; exact sortT_sst _
theorem nrm_pair {l : List CH} (h : NrmC l) : l.Pairwise fun a b => a.1 ≠ b.1 := by
  unfold NrmC Sst at h
  rw [List.pairwise_map] at h
  exact h.imp fun h1 => cmpT_ord.ne h1
theorem nrm_ext {l m : List CH} (hl : NrmC l) (hm : NrmC m) (h : ∀ c, c ∈ l ↔ c ∈ m) : l = m := by
  have hk : l.map (·.1) = m.map (·.1) := sst_ext cmpT_ord hl hm fun t => by
    rw [List.mem_map, List.mem_map]
    exact ⟨fun ⟨c, hc, e⟩ => ⟨c, (h c).1 hc, e⟩, fun ⟨c, hc, e⟩ => ⟨c, (h c).2 hc, e⟩⟩
  have uni : ∀ {l : List CH}, NrmC l → ∀ a ∈ l, ∀ b ∈ l, a.1 = b.1 → a = b := fun {l} hn a ha b hb e => by
    by_cases hab : a = b
    · exact hab
    · exfalso
      obtain ⟨i, hi⟩ := List.getElem?_of_mem ha
      obtain ⟨j, hj⟩ := List.getElem?_of_mem hb
      obtain ⟨hi', rfl⟩ := List.getElem?_eq_some_iff.1 hi
      obtain ⟨hj', rfl⟩ := List.getElem?_eq_some_iff.1 hj
      have hp := List.pairwise_iff_getElem.1 (nrm_pair hn)
      rcases Nat.lt_trichotomy i j with h | h | h
      · exact hp i j hi' hj' h e
      · subst h; exact hab rfl
      · exact hp j i hj' hi' h e.symm
  have hlen : l.length = m.length := by rw [← List.length_map (f := (·.1)), hk, List.length_map]
  refine List.ext_getElem hlen fun i h1 h2 => ?_
  have e : l[i].1 = m[i].1 := by
    have := congrArg (·[i]?) hk
    simp only [List.getElem?_map, List.getElem?_eq_getElem h1, List.getElem?_eq_getElem h2, Option.map_some, Option.some.injEq] at this
    exact this
  exact uni hm _ ((h _).1 (List.getElem_mem h1)) _ (List.getElem_mem h2) e
def keepL : List CH → List CH
  | [] => []
  | [c] => [c]
  | c :: d :: r => if cmpT c.1 d.1 = 0 then keepL (d :: r) else c :: keepL (d :: r)
theorem keepL_step {l : List CH} {i : Nat} {c : CH} (h : l[i]? = some c) : keepL (l.drop i) = (match l[i + 1]? with | none => [c] | some d => if cmpT c.1 d.1 = 0 then [] else [c]) ++ keepL (l.drop (i + 1)) := by
  have h1 : l.drop i = c :: l.drop (i + 1) := drop_g h
  rw [h1]
  cases h2 : l[i + 1]? with
  | none =>
    have : l.drop (i + 1) = [] := List.drop_eq_nil_of_le (by simpa using h2)
    rw [this]; rfl
  | some d =>
    have h3 : l.drop (i + 1) = d :: l.drop (i + 1 + 1) := drop_g h2
    rw [h3]
    show (if cmpT c.1 d.1 = 0 then _ else _) = (if cmpT c.1 d.1 = 0 then _ else _) ++ _
    split <;> rfl
theorem keepL_spec : ∀ {S : List CH}, Srt (·.1) cmpT S → (∀ c ∈ keepL S, lastK S c.1 = some c) ∧ (∀ x ∈ S, ∃ c ∈ keepL S, c.1 = x.1) ∧ NrmC (keepL S)
  | [], _ => ⟨fun c hc => (by cases hc), fun c hc => (by cases hc), Sst.nil⟩
  | [c], _ => by
    have e : keepL [c] = [c] := rfl
    rw [e]
    refine ⟨fun d hd => ?_, fun x hx => ⟨x, hx, rfl⟩, List.pairwise_singleton _ _⟩
    rw [List.mem_singleton] at hd; subst hd
    rw [lastK_cons, if_pos rfl]; rfl
  | c :: d :: r, h => by
    obtain ⟨h1, h2⟩ := List.pairwise_cons.1 h
    obtain ⟨g1, g2, g3⟩ := keepL_spec (S := d :: r) h2
    have e : keepL (c :: d :: r) = if cmpT c.1 d.1 = 0 then keepL (d :: r) else c :: keepL (d :: r) := rfl
    by_cases h0 : cmpT c.1 d.1 = 0
    · rw [e, if_pos h0]
      have hcd := cmpT_ord.eq _ _ h0
      refine ⟨fun x hx => by rw [lastK_cons, g1 x hx]; rfl, fun x hx => ?_, g3⟩
      rcases List.mem_cons.1 hx with rfl | hx
      · obtain ⟨y, hy, e⟩ := g2 d (List.mem_cons_self ..)
        exact ⟨y, hy, e.trans hcd.symm⟩
      · exact g2 x hx
    · rw [e, if_neg h0]
      have hlt : ∀ y ∈ d :: r, cmpT c.1 y.1 < 0 := fun y hy => by
        have hcd : cmpT c.1 d.1 < 0 := by
          have h3 := h1 d (List.mem_cons_self ..)
          have := cmpT_ord.anti c.1 d.1
          dsimp only at h3
          omega
        rcases List.mem_cons.1 hy with rfl | hy
        · exact hcd
        · have h3 := (List.pairwise_cons.1 h2).1 y hy
          dsimp only at h3
          by_cases h5 : cmpT d.1 y.1 < 0
          · exact cmpT_ord.tr hcd h5
          · have h6 : cmpT d.1 y.1 = 0 := by have := cmpT_ord.anti d.1 y.1; omega
            rw [← cmpT_ord.eq _ _ h6]; exact hcd
      refine ⟨fun x hx => ?_, fun x hx => ?_, ?_⟩
      · rcases List.mem_cons.1 hx with rfl | hx
        · rw [lastK_cons, if_pos rfl, lastK_none.2 fun y hy e => cmpT_ord.irr x.1 (by rw [← e] ; exact absurd (hlt y hy) (by rw [e]; exact cmpT_ord.irr _))]; rfl
        · rw [lastK_cons, g1 x hx]; rfl
      · rcases List.mem_cons.1 hx with rfl | hx
        · exact ⟨x, List.mem_cons_self .., rfl⟩
        · obtain ⟨y, hy, e⟩ := g2 x hx
          exact ⟨y, List.mem_cons_of_mem _ hy, e⟩
      · unfold NrmC
        rw [List.map_cons]
        refine List.pairwise_cons.2 ⟨fun t ht => ?_, g3⟩
        obtain ⟨y, hy, rfl⟩ := List.mem_map.1 ht
        exact hlt y (lastK_key (g1 y hy)).2
theorem keep_norm {l S : List CH} (h : Stb (·.1) cmpT l S) : keepL S = normL l := by
  obtain ⟨g1, g2, g3⟩ := keepL_spec h.1
  have hK : ∀ t, lastK S t = lastK l t := fun t => by unfold lastK; rw [h.2 t]
  refine nrm_ext g3 (normL_nrm l) fun c => ?_
  rw [normL_mem]
  constructor
  · exact fun hc => by rw [← hK]; exact g1 c hc
  · intro hc
    rw [← hK] at hc
    obtain ⟨d, hd, e⟩ := g2 c (lastK_key hc).2
    have := g1 d hd
    rw [e, hc] at this
    cases this; exact hd
end Go.V.L8
set_option maxRecDepth 20000
namespace Go.V.L8
open Go.Proofs Go.RowKit Go.V Go.V.L2 Go.V.L3 Go.V.L6
theorem keep_stC (l : List CH) : keepL (stC l) = normL l := keep_norm (stbL_stb cmpT_ord l)
theorem keepL_len : ∀ (l : List CH), (keepL l).length ≤ l.length
  | [] => Nat.le_refl _
  | [c] => Nat.le_refl _
  | c :: d :: r => by
    show (if cmpT c.1 d.1 = 0 then keepL (d :: r) else c :: keepL (d :: r)).length ≤ _
    have := keepL_len (d :: r)
    split
    · simp only [List.length_cons] at this ⊢; omega
    · simp only [List.length_cons] at this ⊢; omega
attribute [local irreducible] V N X VO Par StepOK Has Ret RetL RetO RetT RetG Src
set_option maxHeartbeats 1000000 in
theorem cloneC_ret {l : List CH} {fu : Bool} (hz : l.length ≤ 100000) {v : Value} {w : World} {B : Heap} (hB : B.Le (hp w)) (hv : KS tyC l fu v B) :
    RetO Tryz.prog 133 [v] w B (SlR tyC 7 l.length (l.flatMap ccs)) := by
  have hv0 := hv
  have hlen := cs_len l
  have hpl := cs_plain l
  obtain ⟨p, c, rfl⟩ := slv_shJ hv
  rcases p with _ | b
  · obtain ⟨h0, rfl⟩ : l.length = 0 ∧ c = 0 := slv_none hv
    have hn : l = [] := List.eq_nil_of_length_eq_zero h0
    subst hn
    refine V_enterO Tryz.func133 rfl Tryz.ntmps133 (Nat.le_of_ble_eq_true rfl) hB ?_
    refine Z227 ?_; refine z7 (ok_neql rfl rfl rfl rfl nk79 rfl) rfl ?_; refine Z303 ?_
    refine V_nilR 2 tyC 7 rfl ?_
    exact V_retO rfl (fun _ _ h => h) Since.refl rfl
  · refine V_enterO Tryz.func133 rfl Tryz.ntmps133 (Nat.le_of_ble_eq_true rfl) hB ?_
    refine Z227 ?_; refine z7 (ok_neql rfl rfl rfl rfl nk79 rfl) rfl ?_; refine Z133 ?_
    refine V_seen 0 (KS tyC l fu) rfl SlV.mono hv0 ?_
    refine Z28 ?_; refine z7 (ok_buildSlice0 L rfl rfl rfl rfl rfl) rfl ?_; refine Z7 ?_; refine qk (ok_append L rfl rfl rfl (apd_V rfl) rfl el120 (by assumption) (by assumption) (by omega) (by omega)) ?_; refine qk (ok_moveO (.inr rfl) rfl rfl rfl rfl) ?_; refine Z121 ?_
    rw [Nat.zero_add, List.nil_append]
    exact V_retO rfl (fun _ _ h => h) Since.refl rfl
set_option maxHeartbeats 8000000 in
set_option maxRecDepth 20000 in
theorem dnormal_ret {l m : List CH} {fu : Bool} (hm : normL l = m) (hz : l.length ≤ 50000) {v : Value} {w : World} {B : Heap} (hB : B.Le (hp w)) (hv : KS tyC l fu v B) :
    Ret Tryz.prog 90 [v] w B (KS tyC m true) := by
  subst hm
  have hsl := stC_len l
  refine y7 Tryz.func90 rfl Tryz.ntmps90 (Nat.le_of_ble_eq_true rfl) hB ?_
  refine V_seen 0 (KS tyC l fu) rfl SlV.mono hv ?_
  refine Z206 ?_; refine Z7 ?_; refine z7 (ok_callO L rfl rfl (zk rfl) rfl rfl rfl (fun u H hH _ _ v1 hv1 => cloneC_ret (by omega) hH hv1)) rfl ?_; refine qk (ok_moveO (.inr rfl) rfl rfl rfl rfl) ?_; refine Z137 ?_; refine Z31 ?_; refine Z124 ?_
  refine V_holdR 3 900 rfl (fun h0 hn => ?_) fun b cap rest hl hmc hcm hcl => ?_
  · have hl0 : l = [] := List.eq_nil_of_length_eq_zero h0
    subst hl0
    refine Z167 ?_; refine z7 (yr (φ := fun _ _ => True) L rfl rfl (zk rfl) rfl rfl rfl (fun _ _ _ _ _ => trivial) (fun u H hH _ _ => sortS0_ret hH)) rfl ?_; refine Z137 ?_
    refine V_seen 3 (KS tyC [] false) rfl SlV.mono SlV.nil ?_
    refine Z34 ?_; refine Z7 ?_; refine z7 (ok_sliceV L (kl := .i64) (pl := 0) 0 0 true rfl rfl rfl rfl rfl rfl ⟨rfl, rfl⟩ ⟨rfl, rfl⟩ (by decide) (by decide) rfl) rfl ?_; refine Z52 ?_; refine Z162 ?_; refine Z44 ?_; refine Z304 ?_
    refine V_loop (fun _ : Nat => [(5, .sat (KS tyC [] true)), (15, .sat (KS tyC [] false)), (16, .is (.int .i64 0)), (17, .is (.int .i64 0))]) (fun _ => True) (fun s => s) 0 trivial ⟨rfl, rfl, rfl, rfl, trivial⟩ ?_
    rintro s _
    refine Z301 ?_; refine Z259 ?_; refine Z64 ?_; refine Z7 ?_; refine Z139 ?_; refine Z139 ?_; refine Z104 ?_; refine Z52 ?_; refine Z121 ?_
    refine y9 L (rs := [.tmp 2]) rfl (fun _ _ h => h) Since.refl fun u H hH hle => ?_
    exact fun v hv => hv
  · refine Z167 ?_; refine qk (ok_callG L 900 (GHeld b ((stC l).flatMap ccs ++ rest) tyC) (r := GHeld b (l.flatMap ccs ++ rest) tyC) rfl rfl rfl rfl rfl (fun u H C hH _ hr hC => (by have h := sortS_ret (cap := cap) rfl (by omega) hH hr hC; exact h))) ?_; refine Z137 ?_
    refine V_releaseR (xs := (stC l).flatMap ccs) (rest := rest) (s := 7) 3 900 rfl rfl rfl (by rw [cs_len, hsl]) hmc hcm (by
      rw [List.length_append] at hcl ⊢
      rw [cs_len] at hcl ⊢
      rw [hsl]; exact hcl) ?_
    rw [← hsl]
    have hkn := keep_stC l
    have hkl := keepL_len (stC l)
    rw [← hkn]
    generalize stC l = S at *
    refine V_pubR 3 rfl ?_
    refine Z34 ?_; refine Z7 ?_; refine z7 (ok_sliceV L (kl := .i64) (pl := 0) 0 0 true rfl rfl rfl rfl rfl rfl ⟨rfl, rfl⟩ ⟨rfl, rfl⟩ (by omega) (by omega) rfl) rfl ?_; refine Z52 ?_; refine Z162 ?_; refine Z44 ?_; refine Z304 ?_
    refine V_imp 5 (SlV tyC 7 [] 0 true) rfl SlV.mono (fun v H h => h) ?_
    refine V_toG 5 rfl ?_
    refine V_loop (fun i : Nat × List CH => [(3, .sat (KS tyC S false)), (4, .is ordV), (5, .own (SlG tyC 7 i.2.length (i.2.flatMap ccs))), (15, .sat (KS tyC S false)), (16, .is (.int .i64 S.length)), (17, .is (.int .i64 i.1))]) (fun i => i.1 ≤ S.length ∧ i.2.length ≤ i.1 ∧ i.2 ++ keepL (S.drop i.1) = keepL S) (fun i => S.length - i.1) (0, []) ⟨Nat.zero_le _, Nat.le_refl _, rfl⟩ ⟨rfl, rfl, rfl, rfl, rfl, rfl, trivial⟩ ?_
    rintro ⟨i, kp⟩ ⟨h1, h2, h3⟩
    dsimp only at h1 h2 h3 ⊢
    by_cases hlt : i < S.length
    · obtain ⟨c, hc0⟩ := get_some hlt
      have hc := ks_at hc0
      have hst := keepL_step hc0
      have a1 : IntKind.i64.wrap ((i : Int) + 1) = ((i + 1 : Nat) : Int) := wrap_i64 (by omega) (by omega)
      by_cases hlast : i + 1 < S.length
      · obtain ⟨d, hd0⟩ := get_some hlast
        have hd := ks_at hd0
        rw [hd0] at hst
        dsimp only at hst
        by_cases heq : cmpT c.1 d.1 = 0
        · rw [if_pos heq, List.nil_append] at hst
          refine Z301 ?_; refine Z193 ?_; refine Z176 ?_; refine z7 (ye L _ rfl rfl rfl rfl rfl rfl rfl (by first | omega | decide) (by assumption)) rfl ?_; refine z7 (yn L (vs := [_, _, _, _, _, _, _]) rfl rfl rfl rfl rfl ⟨_, rfl⟩) rfl ?_; refine Z21 ?_; refine Z2 ?_; refine Z13 ?_; refine Z137 ?_; refine Z79 ?_; refine Z3 ?_; refine Z23 ?_; refine Z62 ?_; refine z8 (yc L rfl rfl rfl rfl) rfl ?_; refine z8 (ya rfl rfl rfl rfl (decide_eq_false (by omega))) rfl ?_; refine Z126 ?_; refine z8 (zt L (vs := [_, _, _, _, _, _, _]) (y5 rfl) rfl rfl rfl rfl ⟨_, rfl⟩) rfl ?_; refine Z286 ?_; refine Z23 ?_; refine z8 (ye L _ rfl rfl rfl rfl rfl rfl rfl (by first | omega | decide) (by assumption)) rfl ?_; refine z8 (yn L (vs := [_, _, _, _, _, _, _]) rfl rfl rfl rfl rfl ⟨_, rfl⟩) rfl ?_; refine z8 (zp L rfl rfl (zk rfl) rfl rfl rfl (fun u H hH _ _ => ordC_ret hH)) rfl ?_; refine z8 (yi rfl rfl rfl rfl (decide_eq_false (by omega))) rfl ?_; refine Z179 ?_; refine zx ?_; refine Z175 ?_; refine Z74 ?_; refine Z12 ?_; refine Z226 ?_
          exact y8 (x := (i, kp)) (i + 1, kp) ⟨hlt, by dsimp only; omega, by dsimp only; rw [← hst]; exact h3⟩ (by dsimp only; omega) ⟨rfl, rfl, rfl, rfl, rfl, rfl, trivial⟩
        · rw [if_neg heq] at hst
          refine Z301 ?_; refine Z193 ?_; refine Z176 ?_; refine z7 (ye L _ rfl rfl rfl rfl rfl rfl rfl (by first | omega | decide) (by assumption)) rfl ?_; refine z7 (yn L (vs := [_, _, _, _, _, _, _]) rfl rfl rfl rfl rfl ⟨_, rfl⟩) rfl ?_; refine Z21 ?_; refine Z2 ?_; refine Z13 ?_; refine Z137 ?_; refine Z79 ?_; refine Z3 ?_; refine Z23 ?_; refine Z62 ?_; refine z8 (yc L rfl rfl rfl rfl) rfl ?_; refine z8 (ya rfl rfl rfl rfl (decide_eq_false (by omega))) rfl ?_; refine Z126 ?_; refine z8 (zt L (vs := [_, _, _, _, _, _, _]) (y5 rfl) rfl rfl rfl rfl ⟨_, rfl⟩) rfl ?_; refine Z286 ?_; refine Z23 ?_; refine z8 (ye L _ rfl rfl rfl rfl rfl rfl rfl (by first | omega | decide) (by assumption)) rfl ?_; refine z8 (yn L (vs := [_, _, _, _, _, _, _]) rfl rfl rfl rfl rfl ⟨_, rfl⟩) rfl ?_; refine z8 (zp L rfl rfl (zk rfl) rfl rfl rfl (fun u H hH _ _ => ordC_ret hH)) rfl ?_; refine z8 (yi rfl rfl rfl rfl (decide_eq_true (by omega))) rfl ?_; refine Z224 ?_; refine Z61 ?_; refine qk (ok_moveO (.inl rfl) rfl rfl rfl rfl) ?_; refine z7 (zt L (vs := [_, _, _, _, _, _, _]) (y5 rfl) rfl rfl rfl rfl ⟨_, rfl⟩) rfl ?_; refine Z54 ?_; refine qk (ok_appendG L (by decide) rfl rfl rfl (apd_B rfl) rfl el120 rfl rfl (by omega) (by omega)) ?_; refine qk (ok_moveO (.inr rfl) rfl rfl rfl rfl) ?_; refine Z302 ?_; refine Z74 ?_; refine Z12 ?_; refine Z226 ?_
          exact y8 (x := (i, kp)) (i + 1, kp ++ [c]) ⟨hlt, by dsimp only; rw [List.length_append, List.length_singleton]; omega, by dsimp only; rw [List.append_assoc, ← hst]; exact h3⟩ (by dsimp only; omega) ⟨rfl, rfl, by dsimp only; rw [List.flatMap_append, List.length_append]; rfl, rfl, rfl, rfl, trivial⟩
      · have hend : i + 1 = S.length := by omega
        rw [List.getElem?_eq_none (by omega)] at hst
        dsimp only at hst
        refine Z301 ?_; refine Z193 ?_; refine Z176 ?_; refine z7 (ye L _ rfl rfl rfl rfl rfl rfl rfl (by first | omega | decide) (by assumption)) rfl ?_; refine z7 (yn L (vs := [_, _, _, _, _, _, _]) rfl rfl rfl rfl rfl ⟨_, rfl⟩) rfl ?_; refine Z21 ?_; refine Z2 ?_; refine Z13 ?_; refine Z137 ?_; refine Z79 ?_; refine Z3 ?_; refine Z23 ?_; refine Z62 ?_; refine z8 (yc L rfl rfl rfl rfl) rfl ?_; refine z8 (ya rfl rfl rfl rfl (decide_eq_true (by omega))) rfl ?_; refine Z209 ?_; refine Z4 ?_; refine Z224 ?_; refine Z61 ?_; refine qk (ok_moveO (.inl rfl) rfl rfl rfl rfl) ?_; refine z7 (zt L (vs := [_, _, _, _, _, _, _]) (y5 rfl) rfl rfl rfl rfl ⟨_, rfl⟩) rfl ?_; refine Z54 ?_; refine qk (ok_appendG L (by decide) rfl rfl rfl (apd_B rfl) rfl el120 rfl rfl (by omega) (by omega)) ?_; refine qk (ok_moveO (.inr rfl) rfl rfl rfl rfl) ?_; refine Z302 ?_; refine Z74 ?_; refine Z12 ?_; refine Z226 ?_
        exact y8 (x := (i, kp)) (i + 1, kp ++ [c]) ⟨hlt, by dsimp only; rw [List.length_append, List.length_singleton]; omega, by dsimp only; rw [List.append_assoc, ← hst]; exact h3⟩ (by dsimp only; omega) ⟨rfl, rfl, by dsimp only; rw [List.flatMap_append, List.length_append]; rfl, rfl, rfl, rfl, trivial⟩
    · rw [List.drop_eq_nil_of_le (by omega), show keepL [] = [] from rfl, List.append_nil] at h3
      subst h3
      refine V_pubG 5 rfl ?_
      refine Z301 ?_; refine Z259 ?_; refine Z64 ?_; refine Z7 ?_; refine Z139 ?_; refine Z139 ?_; refine Z104 ?_; refine Z52 ?_; refine Z121 ?_
      refine y9 L (rs := [.tmp 2]) rfl (fun _ _ h => h) Since.refl fun u H hH hle => ?_
      exact fun v hv => hv
end Go.V.L8
