/- FlightsCounts returns true for every input, and leaves it as it was: no condition. -/
import Derived.Test.YtfihdmobfmkclaaFlightsCountsM5
import Derived.ProofKit
import Derived.HandedShaped
import Derived.OpenShut
import Derived.Carry
import Derived.Deep.Slices
import Derived.SizedLaws
import Derived.Test.YtfihdmobfmkclaaRows
set_option linter.unusedVariables false
set_option linter.unusedSimpArgs false
namespace Go.V.So
open Go.Proofs Go.RowKit Go.V Go.Sort
attribute [local irreducible] V N X VO Par StepOK Has Ret RetL RetO RetG RetX Src
set_option maxRecDepth 20000 in
theorem sortU_ret {d : Array Int} {rest : List Value} {b m cap : Nat} (hm : d.size = m) (hm1 : m ≤ 100000) {w : World} {B : Heap} {C : Nat → Prop} (hB : B.Le (hp w))
    (hr : (GHeld b (uC d ++ rest) tyU).P B w C) (hC : ∀ k, C k → k < w.heap.size ∧ B k = none) :
    RetG Try.prog 58 [.slice (some ⟨b, 0, none⟩) m cap] w B C (GHeld b (uC (Go.Sort.sort lt d) ++ rest) tyU) := by
  unfold RetG
  refine V_enterG 900 (GHeld b (uC d ++ rest) tyU) Try.func58 rfl Try.ntmps58 (Nat.le_of_ble_eq_true rfl) hB hr hC ?_
  rw [gheld_res]
  have hc : IntKind.u64.wrap (m : Int) = (m : Int) := wrap_u64 (by omega) (by omega)
  have hb17 : bitsLen m ≤ 17 := (bitsLen_le_iff m 17).2 (by omega)
  refine zf ?_; refine zd (id := 0) ?_; refine za (zb rfl rfl rfl) rfl ?_; refine za (ok_lenL L rfl rfl rfl rfl) rfl ?_; refine za (ze rfl rfl rfl) rfl ?_; refine zg ?_; refine zh ?_; refine zd (id := 1) ?_; refine za (zb rfl rfl rfl) rfl ?_; refine za (zb rfl rfl rfl) rfl ?_; refine za (zb rfl rfl rfl) rfl ?_; refine za (ok_conv rfl rfl rfl cv3_148.1 cv3_148.2 (wrap_u64 (by omega) (by omega))) rfl ?_; refine za (zq L rfl rfl (zi rfl) rfl rfl rfl (fun u H hH _ _ => bitslen_ret (by omega) hH)) rfl ?_; refine qd (ok_callG L 900 (GHeld b (uC (Go.Sort.sort lt d) ++ rest) tyU) (r := GHeld b (uC d ++ rest) tyU) rfl rfl rfl rfl rfl (fun u H C hH _ hr hC => by have h := pdq_ret (rest := rest) (cap := cap) (m := m) (d := d) (a := 0) (e := m) (lim := bitsLen m) (m + 1) (by omega) (by omega) (by omega) hm hm1 (by omega) (Or.inl rfl) hH hr hC; unfold Go.Sort.sort; rw [hm]; exact h)) ?_; refine zg ?_
  exact N_retGhost L 900 (r := GHeld b _ tyU) rfl (fun _ _ h => h) Since.refl rfl rfl
set_option maxRecDepth 20000 in
theorem insN_ret {w : World} {B : Heap} (hB : B.Le (hp w)) : Ret Try.prog 89 [.slice none 0 0, .int .i64 0, .int .i64 0] w B (fun _ _ => True) := by
  refine y6 Try.func89 rfl Try.ntmps89 (Nat.le_of_ble_eq_true rfl) hB ?_
  refine zf ?_; refine zd (id := 0) ?_; refine za (zb rfl rfl rfl) rfl ?_; refine za (q9 rfl rfl rfl rfl (wrap_i64 (by omega) (by omega))) rfl ?_; refine za (ze rfl rfl rfl) rfl ?_; refine zg ?_; refine zh ?_; refine zz ?_
  refine yd (fun _ : Nat => [(2, .is (.int .i64 0)), (6, .is (.int .i64 1))]) (fun _ => True) (fun s => s) 0 trivial ⟨rfl, rfl, trivial⟩ ?_
  rintro s _
  refine zf ?_; refine zf ?_; refine zd (id := 1) ?_; refine za (zb rfl rfl rfl) rfl ?_; refine za (zb rfl rfl rfl) rfl ?_; refine za (zw rfl rfl rfl rfl (decide_eq_false (by omega))) rfl ?_; refine zg ?_; refine zh ?_; refine zo rfl ?_; refine y3 ?_; refine qe ?_; refine qe ?_; refine y2 ?_
  exact N_ret0 L rfl (fun _ _ h => h) Since.refl
set_option maxRecDepth 20000 in
theorem pdqN_ret {w : World} {B : Heap} (hB : B.Le (hp w)) : Ret Try.prog 78 [.slice none 0 0, .int .i64 0, .int .i64 0, .int .i64 0] w B (fun _ _ => True) := by
  refine y6 Try.func78 rfl Try.ntmps78 (Nat.le_of_ble_eq_true rfl) hB ?_
  refine zf ?_; refine zd (id := 0) ?_; refine za (ze rfl rfl rfl) rfl ?_; refine zg ?_; refine zh ?_; refine zf ?_; refine zd (id := 1) ?_; refine za (ze rfl rfl rfl) rfl ?_; refine zg ?_; refine zh ?_; refine zz ?_
  refine yd (fun _ : Nat => [(0, .is (.slice none 0 0)), (1, .is (.int .i64 0)), (2, .is (.int .i64 0))]) (fun _ => True) (fun s => s) 0 trivial ⟨rfl, rfl, rfl, trivial⟩ ?_
  rintro s _
  refine zz ?_; refine zf ?_; refine zd (id := 2) ?_; refine za (zb rfl rfl rfl) rfl ?_; refine za (zb rfl rfl rfl) rfl ?_; refine za (qs rfl rfl rfl rfl (wrap_i64 (by omega) (by omega))) rfl ?_; refine za (ze rfl rfl rfl) rfl ?_; refine zg ?_; refine zh ?_; refine zf ?_; refine zf ?_; refine zd (id := 3) ?_; refine za (zb rfl rfl rfl) rfl ?_; refine za (ok_leq rfl rfl rfl rfl (decide_eq_true (by omega))) rfl ?_; refine zg ?_; refine zh ?_; refine zx rfl ?_; refine zf ?_; refine zd (id := 4) ?_; refine za (zb rfl rfl rfl) rfl ?_; refine za (zb rfl rfl rfl) rfl ?_; refine za (zb rfl rfl rfl) rfl ?_; refine za (ok_call (φ := fun _ _ => True) L rfl rfl (zi rfl) rfl rfl rfl (fun _ _ _ _ _ => trivial) (fun u H hH _ _ => insN_ret hH)) rfl ?_; refine zg ?_; refine zh ?_
  refine qh L (rs := []) rfl (fun _ _ h => h) Since.refl fun u H hH hle => ?_
  trivial
set_option maxRecDepth 20000 in
theorem sortN_ret {w : World} {B : Heap} (hB : B.Le (hp w)) : Ret Try.prog 58 [.slice none 0 0] w B (fun _ _ => True) := by
  have hc : IntKind.u64.wrap 0 = 0 := by decide
  refine y6 Try.func58 rfl Try.ntmps58 (Nat.le_of_ble_eq_true rfl) hB ?_
  refine zf ?_; refine zd (id := 0) ?_; refine za (zb rfl rfl rfl) rfl ?_; refine za (ok_lenL L rfl rfl rfl rfl) rfl ?_; refine za (ze rfl rfl rfl) rfl ?_; refine zg ?_; refine zh ?_; refine zd (id := 1) ?_; refine za (zb rfl rfl rfl) rfl ?_; refine za (zb rfl rfl rfl) rfl ?_; refine za (zb rfl rfl rfl) rfl ?_; refine za (ok_conv rfl rfl rfl cv3_148.1 cv3_148.2 (wrap_u64 (by omega) (by omega))) rfl ?_; refine za (zq (r := .int .i64 0) L rfl rfl (zi rfl) rfl rfl rfl (fun u H hH _ _ => bitslen_ret (n := 0) (by omega) hH)) rfl ?_; refine za (ok_call (φ := fun _ _ => True) L rfl rfl (zi rfl) rfl rfl rfl (fun _ _ _ _ _ => trivial) (fun u H hH _ _ => pdqN_ret hH)) rfl ?_; refine zg ?_
  exact N_ret0 L rfl (fun _ _ h => h) Since.refl
end Go.V.So
namespace Go.V.L39
open Go.Proofs Go.RowKit Go.V
def cntR (v : Int) (l : List It) : Nat := l.countP fun x => decide (x.rv = v)
def revsF (acc : List Int) (l : List It) : List Int := l.foldl (fun acc x => if x.rv ∈ acc then acc else acc ++ [x.rv]) acc
def revs (l : List It) : List Int := revsF [] l
theorem revs_snoc (l : List It) (x : It) : revs (l ++ [x]) = if x.rv ∈ revs l then revs l else revs l ++ [x.rv] := by
  unfold revs revsF
  rw [List.foldl_append]
  rfl
theorem cntR_snoc (v : Int) (l : List It) (x : It) : cntR v (l ++ [x]) = cntR v l + if x.rv = v then 1 else 0 := by
  unfold cntR
  rw [List.countP_append, List.countP_cons, List.countP_nil, Nat.zero_add]
  by_cases h : x.rv = v
  · rw [if_pos h, if_pos (decide_eq_true h)]
  · rw [if_neg h, if_neg (by simpa using h)]
theorem mem_revs (l : List It) : ∀ v, v ∈ revs l ↔ 0 < cntR v l := by
  suffices ∀ (m : List It) (l : List It), (∀ v, v ∈ revs l ↔ 0 < cntR v l) → ∀ v, v ∈ revs (l ++ m) ↔ 0 < cntR v (l ++ m) by
    simpa using this l [] (fun v => by simp [revs, revsF, cntR])
  intro m
  induction m with
  | nil => intro l h; simpa using h
  | cons x m ih =>
    intro l h
    have := ih (l ++ [x]) fun v => by
      rw [revs_snoc, cntR_snoc]
      by_cases hx : x.rv ∈ revs l
      · rw [if_pos hx, h]
        have h2 := (h x.rv).1 hx
        by_cases hv : x.rv = v
        · subst hv; rw [if_pos rfl]; omega
        · rw [if_neg hv]; omega
      · rw [if_neg hx, List.mem_append, List.mem_singleton, h]
        by_cases hv : x.rv = v
        · subst hv; rw [if_pos rfl]; simp
        · rw [if_neg hv]
          constructor
          · rintro (h3 | h3)
            · omega
            · exact absurd h3.symm hv
          · intro h3; exact .inl (by omega)
    simpa using this
theorem revs_len (l : List It) : (revs l).length ≤ l.length := by
  suffices ∀ (m : List It) (acc : List Int), (revsF acc m).length ≤ acc.length + m.length by simpa [revs] using this l []
  intro m
  induction m with
  | nil => intro acc; exact Nat.le_refl _
  | cons x m ih =>
    intro acc
    refine Nat.le_trans (ih _) ?_
    dsimp only
    split <;> simp <;> omega
def SeenR (l : List It) (a : List (Int × Int)) : Prop := ∀ v, mget v a = if cntR v l = 0 then none else some (cntR v l : Int)
theorem seenr_nil : SeenR [] [] := fun _ => rfl
theorem seenr_get {l : List It} {a : List (Int × Int)} (h : SeenR l a) (v : Int) : (mget v a).elim (.int .i64 0) (Value.int .i64) = .int .i64 (cntR v l) := by
  rw [h]
  split
  · rename_i h1; rw [h1]; rfl
  · rfl
theorem seenr_put {l : List It} {a : List (Int × Int)} (h : SeenR l a) (x : It) : SeenR (l ++ [x]) (mput x.rv (cntR x.rv l + 1 : Nat) a) := fun v => by
  rw [mget_put, h, cntR_snoc]
  by_cases hv : v = x.rv
  · subst hv; rw [if_pos rfl, if_pos rfl, if_neg (by omega)]
  · rw [if_neg hv, show (if x.rv = v then 1 else 0) = 0 from if_neg (fun e => hv e.symm), Nat.add_zero]
def srtR (l : List It) : List Int := (Go.Sort.sort So.lt (revs l).toArray).toList
def pins (l : List It) : List (Int × Nat) := (srtR l).map fun v => (v, cntR v l)
def pnc (p : Int × Nat) : List Value := [.int .u64 p.1, .int .i64 (p.2 : Int)]
theorem pnc_len (p : Int × Nat) : (pnc p).length = 2 := rfl
theorem pnc_plain (l : List (Int × Nat)) : (l.flatMap pnc).all plainV = true := by
  rw [List.all_eq_true]
  intro v hv
  obtain ⟨x, _, hx⟩ := List.mem_flatMap.1 hv
  simp only [pnc, List.mem_cons, List.mem_nil_iff, or_false] at hx
  rcases hx with rfl | rfl <;> rfl
theorem allI_take {l : List Fl} {i : Nat} {f : Fl} (h : l[i]? = some f) : allI (l.take (i + 1)) = allI (l.take i) ++ f.is := by rw [take_snoc h]; simp [allI]
def PinsP (ps : List (Int × Nat)) (e : Int) : Value → Heap → Prop := fun v H => ∃ sv, v = .tuple #[sv, .int .i64 e] ∧ SlV tyP 2 (ps.flatMap pnc) ps.length true sv H
theorem PinsP.mono {l : List (Int × Nat)} {e : Int} : Kn.mono (.sat (PinsP l e)) := fun _ _ _ ⟨sv, h1, h2⟩ hle => ⟨sv, h1, h2.le hle⟩
theorem u64_und : Try.prog.underlying 31 = some (.int .u64) := by kernel_rfl
theorem mpu_und : Try.prog.underlying 123 = some (.map 31 3) := by kernel_rfl
theorem mpi_zero (w : World) : (zeroValue 3).run Try.prog w = .ok (.int .i64 0) w := Try.zeroValue3 w
theorem rev_snoc {κ : Kap} {s : Nat} {r : List Int} {x : Int} (h : κ s = some (.own (SlR So.tyU 1 (r.length + 1) (r.map (Value.int .u64) ++ [.int .u64 x])))) : κ s = some (.own (SlR So.tyU 1 (r ++ [x]).length ((r ++ [x]).map (Value.int .u64)))) := by
  rw [h, List.map_append, List.length_append]; rfl
theorem pin_snoc {κ : Kap} {s : Nat} {r : List (Int × Nat)} {x : Int} {c : Nat} (h : κ s = some (.own (SlR tyP 2 (r.length + 1) (r.flatMap pnc ++ [.int .u64 x, .int .i64 (c : Int)])))) : κ s = some (.own (SlR tyP 2 (r ++ [(x, c)]).length ((r ++ [(x, c)]).flatMap pnc))) := by
  rw [h, List.flatMap_append, List.length_append]; rfl
theorem rv_plain (l : List Int) : (l.map (Value.int .u64)).all plainV = true := by
  rw [List.all_eq_true]
  intro v hv
  obtain ⟨x, _, rfl⟩ := List.mem_map.1 hv
  rfl
theorem rv_at {l : List Int} {i : Nat} {x : Int} (h : l[i]? = some x) : ((l.map (Value.int .u64)).drop (i * 1)).take 1 = [.int .u64 x] := by
  rw [Nat.mul_one, List.drop_eq_getElem_cons (by rw [List.length_map]; exact get_lt h), List.take_succ_cons, List.take_zero, List.getElem_map]
  congr 2
  have hi := get_lt h
  rw [List.getElem?_eq_getElem hi] at h
  exact Option.some.inj h
attribute [local irreducible] V N X VO Par StepOK Has Ret RetL RetO RetT RetG RetX Src
theorem ownP1_ret {xs : List Value} {n : Nat} {fa : Bool} {a v : Value} {w : World} {B : Heap} (ha : SlV tyP 2 xs n fa a B) (px : xs.all plainV = true) (hl : n ≤ 50000) (hB : B.Le (hp w)) (hv : SlB [a] 70 1 v B) :
    Ret Try.prog 59 [v] w B (SlN B tyP 2 xs n true) := by
  have h := ownP_ret (lsts1 ha px) (by simp) (by simpa [nXs] using hl) hB hv
  have e1 : nXs [(xs, n)] = n := by simp [nXs]
  have e2 : cXs [(xs, n)] = xs := by simp [cXs]
  rw [e1, e2] at h
  exact h.toN hB
theorem sortR_ret {l : List Int} {rest : List Value} {b m cap : Nat} (hm : l.length = m) (hm1 : m ≤ 100000) {w : World} {B : Heap} {C : Nat → Prop} (hB : B.Le (hp w)) (hr : (GHeld b (l.map (Value.int .u64) ++ rest) So.tyU).P B w C) (hC : ∀ k, C k → k < w.heap.size ∧ B k = none) :
    RetG Try.prog 58 [.slice (some ⟨b, 0, none⟩) m cap] w B C (GHeld b ((Go.Sort.sort So.lt l.toArray).toList.map (Value.int .u64) ++ rest) So.tyU) :=
  So.sortU_ret (d := l.toArray) (rest := rest) hm hm1 hB hr hC
theorem srt_len (l : List It) : (srtR l).length = (revs l).length := by
  have := (Go.Sort.sort_sorts So.lt Go.Sort.swo_ltInt (revs l).toArray).1.1
  unfold srtR
  rw [Array.length_toList, this, List.size_toArray]
set_option maxHeartbeats 4000000 in
set_option maxRecDepth 20000 in
theorem pins_ret {t : Tb} {zs : List (Fl × Value)} (hz : zs.map Prod.fst = t.fl) {fu fi : Bool} {s : Value} {w : World} {B : Heap} (hs : FsB zs fu fi s B) (hZ : ∀ f ∈ t.fl, QuZ f.q) (hn : itsN t.fl ≤ 4611686018427387904) (hB : B.Le (hp w)) :
    Ret Try.prog 28 [tbv t.nx s] w B (PinsP (if chkE t = 0 then pins (allI t.fl) else []) (chkE t)) := by
  have hsl := hs.sl
  have hlen := fls_len hz
  have hzl := hs.ln
  obtain ⟨e, hc⟩ : ∃ e, chkE t = e := ⟨_, rfl⟩
  rw [hc]
  refine y6 Try.func28 rfl Try.ntmps28 (Nat.le_of_ble_eq_true rfl) hB ?_
  by_cases h0 : e = 0
  · subst h0
    have h1024 := chk_its hc
    rw [if_pos rfl]
    refine zf ?_; refine zd (id := 0) ?_; refine za (qz rfl rfl rfl rfl) rfl ?_; refine za (ze rfl rfl rfl) rfl ?_; refine za (ze rfl rfl rfl) rfl ?_; refine zg ?_; refine zh ?_; refine zf ?_; refine zf ?_; refine zd (id := 1) ?_; refine za (zu L (vs := [_, _]) (zn rfl) rfl rfl rfl rfl ⟨_, rfl⟩) rfl ?_; refine za (zq L rfl rfl (zi rfl) rfl rfl rfl (fun u H hH hle _ => check_ret hz (hs.le hle) hZ hn hc hH)) rfl ?_; refine za (ze rfl rfl rfl) rfl ?_; refine zg ?_; refine zh ?_; refine zf ?_; refine zd (id := 2) ?_; refine za (zb rfl rfl rfl) rfl ?_; refine za (ql rfl rfl rfl rfl (decide_eq_false (by omega))) rfl ?_; refine zg ?_; refine zh ?_; refine zo rfl ?_; refine zt ?_; refine zh ?_; refine zf ?_; refine zd (id := 4) ?_; refine za (ok_makeMapI (Y := Int) .u64 (Value.int .i64) rfl rfl) rfl ?_; refine qd (ya (.inr rfl) rfl rfl rfl rfl) ?_; refine zg ?_; refine zh ?_; refine zf ?_
    refine V_holdMi 5 900 rfl fun b => ?_
    refine zd (id := 5) ?_; refine za (ze rfl rfl rfl) rfl ?_; refine zg ?_; refine zh ?_; refine zf ?_; refine zf ?_; refine zd (id := 6) ?_; refine za (zk L rfl rfl rfl rfl) rfl ?_; refine za (StepOK.seeV (zl L (zn rfl) rfl rfl rfl rfl) (by assumption)) rfl ?_; refine za (y0 L rfl rfl rfl rfl) rfl ?_; refine za (zb rfl rfl rfl) rfl ?_; refine zg ?_; refine zh ?_; refine zz ?_
    refine V_nilR 6 So.tyU 1 rfl ?_
    refine yd (fun x : Nat × List (Int × Int) => [(5, .is (.map (some b))), (6, .own (SlR So.tyU 1 (revs (allI (t.fl.take x.1))).length ((revs (allI (t.fl.take x.1))).map (Value.int .u64)))), (21, .sat (SlV tyF 14 (zs.flatMap flc) zs.length fu)), (22, .is (.int .i64 zs.length)), (23, .is (.int .i64 x.1)), (900, .own (MapHi b .u64 (Value.int .i64) x.2))]) (fun x => x.1 ≤ zs.length ∧ SeenR (allI (t.fl.take x.1)) x.2) (fun x => zs.length - x.1) (0, []) ⟨Nat.zero_le _, seenr_nil⟩ ⟨rfl, rfl, rfl, rfl, rfl, rfl, trivial⟩ ?_
    rintro ⟨i, a⟩ ⟨hi, hsn⟩
    dsimp only at hi hsn ⊢
    by_cases hlt : i < zs.length
    · obtain ⟨f, pp, c, hzi, hli, hzv, hil, hc14⟩ := hs.at hz hlt
      have hat := allI_take hli
      have hfl : f.is.length ≤ itsN t.fl := is_le (fls_mem hli)
      have hal : (allI (t.fl.take i)).length + f.is.length ≤ itsN t.fl := by
        have h1 := itsN_take hli
        have h2 := itsN_le t.fl (i + 1)
        rw [itsN_allI]; omega
      generalize allI (t.fl.take i) = pre at *
      refine zf ?_; refine zd (id := 7) ?_; refine za (zw rfl rfl rfl rfl (decide_eq_true (by omega))) rfl ?_; refine zg ?_; refine zh ?_; refine zf ?_; refine zx rfl ?_; refine zt ?_; refine zh ?_; refine zf ?_; refine zz ?_; refine zf ?_; refine zd (id := 8) ?_; refine za (qb L _ rfl rfl rfl rfl rfl rfl rfl (by first | omega | decide) (by assumption)) rfl ?_; refine za (ok_loadPA L (vs := [_, _, _, _, _, _, _, _, _, _, _, _, _, _]) rfl rfl rfl rfl rfl ⟨_, rfl⟩) rfl ?_; refine za (qt L rfl rfl rfl rfl) rfl ?_; refine za (qq L rfl rfl rfl rfl rfl rfl rfl rfl) rfl ?_; refine zg ?_; refine zh ?_; refine zf ?_
      refine V_pub 8 rfl ?_
      refine zd (id := 9) ?_; refine za (zk L rfl rfl rfl rfl) rfl ?_; refine za (StepOK.seeV (zl L (zn rfl) rfl rfl rfl rfl) (by assumption)) rfl ?_; refine za (y0 L rfl rfl rfl rfl) rfl ?_; refine za (zb rfl rfl rfl) rfl ?_; refine zg ?_; refine zh ?_; refine zz ?_
      refine yd (fun y : Nat × List (Int × Int) => [(5, .is (.map (some b))), (6, .own (SlR So.tyU 1 (revs (pre ++ f.is.take y.1)).length ((revs (pre ++ f.is.take y.1)).map (Value.int .u64)))), (21, .sat (SlV tyF 14 (zs.flatMap flc) zs.length fu)), (22, .is (.int .i64 zs.length)), (23, .is (.int .i64 i)), (28, .sat (IsV f.is fi)), (29, .is (.int .i64 f.is.length)), (30, .is (.int .i64 y.1)), (900, .own (MapHi b .u64 (Value.int .i64) y.2))]) (fun y => y.1 ≤ f.is.length ∧ SeenR (pre ++ f.is.take y.1) y.2) (fun y => f.is.length - y.1) (0, a) ⟨Nat.zero_le _, by simpa using hsn⟩ ⟨rfl, by rw [List.take_zero, List.append_nil]; rfl, rfl, rfl, rfl, rfl, rfl, rfl, rfl, trivial⟩ ?_
      rintro ⟨k, a2⟩ ⟨hk, hsk⟩
      dsimp only at hk hsk ⊢
      by_cases hkl : k < f.is.length
      · obtain ⟨x, hx⟩ := get_some hkl
        have hc := it_at hx
        have hst : pre ++ f.is.take (k + 1) = (pre ++ f.is.take k) ++ [x] := by rw [take_snoc hx, List.append_assoc]
        have hrl := revs_len (pre ++ f.is.take k)
        have hmr := mem_revs (pre ++ f.is.take k) x.rv
        have hcl : cntR x.rv (pre ++ f.is.take k) ≤ (pre ++ f.is.take k).length := List.countP_le_length
        have hpl2 : (pre ++ f.is.take k).length ≤ itsN t.fl := by rw [List.length_append, List.length_take]; omega
        have hgr := seenr_get hsk x.rv
        have hpt := seenr_put hsk x
        have hrs := revs_snoc (pre ++ f.is.take k) x
        rw [← hst] at hpt hrs
        have hpln := rv_plain (revs (pre ++ f.is.take k))
        have hrl2 : ((revs (pre ++ f.is.take k)).map (Value.int .u64)).length = (revs (pre ++ f.is.take k)).length * 1 := by rw [List.length_map, Nat.mul_one]
        have had : IntKind.i64.wrap ((cntR x.rv (pre ++ f.is.take k) : Int) + 1) = ((cntR x.rv (pre ++ f.is.take k) + 1 : Nat) : Int) := wrap_i64 (by omega) (by omega) |>.trans (by omega)
        by_cases h0 : cntR x.rv (pre ++ f.is.take k) = 0
        · rw [if_neg (fun h => by have := hmr.1 h; omega)] at hrs
          refine zf ?_; refine zd (id := 10) ?_; refine za (zw rfl rfl rfl rfl (decide_eq_true (by omega))) rfl ?_; refine zg ?_; refine zh ?_; refine zf ?_; refine zx rfl ?_; refine zt ?_; refine zh ?_; refine zf ?_; refine zz ?_; refine zf ?_; refine zd (id := 11) ?_; refine za (qb L _ rfl rfl rfl rfl rfl rfl rfl (by first | omega | decide) (by assumption)) rfl ?_; refine za (ok_loadPA L (vs := [_, _, _, _, _]) rfl rfl rfl rfl rfl ⟨_, rfl⟩) rfl ?_; refine za (qt L rfl rfl rfl rfl) rfl ?_; refine za (qq L rfl rfl rfl rfl rfl rfl rfl rfl) rfl ?_; refine zg ?_; refine zh ?_; refine zf ?_; refine zf ?_
          refine V_pub 10 rfl ?_
          refine zd (id := 12) ?_; refine za (zb rfl rfl rfl) rfl ?_; refine za (zk L rfl rfl rfl rfl) rfl ?_; refine za (zl L (zn rfl) rfl rfl rfl rfl) rfl ?_; refine vo_stepR (ok_lookupI (q := 900) x.rv mpu_und u64_und mpi_zero rfl rfl rfl rfl rfl hgr) ?_; refine za (qf rfl rfl rfl rfl (decide_eq_true (by omega))) rfl ?_; refine zg ?_; refine zh ?_; refine zx rfl ?_; refine zd (id := 13) ?_; refine qd (ya (.inl rfl) rfl rfl rfl rfl) ?_; refine za (zk L rfl rfl rfl rfl) rfl ?_; refine za (zl L (zn rfl) rfl rfl rfl rfl) rfl ?_; refine za (y7 L rfl rfl rfl rfl rfl rfl rfl rfl rfl) rfl ?_; refine qd (ok_append L rfl rfl rfl (apd_B rfl) rfl el31 rfl rfl (by omega) (by omega)) ?_; refine qd (ya (.inr rfl) rfl rfl rfl rfl) ?_; refine zg ?_; refine zh ?_; refine zd (id := 14) ?_; refine za (zb rfl rfl rfl) rfl ?_; refine za (zk L rfl rfl rfl rfl) rfl ?_; refine za (zl L (zn rfl) rfl rfl rfl rfl) rfl ?_; refine vo_stepR (ok_lookupI (q := 900) x.rv mpu_und u64_und mpi_zero rfl rfl rfl rfl rfl hgr) ?_; refine za (q9 rfl rfl rfl rfl (by assumption)) rfl ?_; refine vo_stepS (ok_mapUpdI (q := 900) x.rv ((cntR x.rv (pre ++ f.is.take k) + 1 : Nat) : Int) mpu_und u64_und rfl rfl rfl rfl rfl rfl rfl) ?_; refine zg ?_; refine qo ?_; refine zh ?_; refine zd (id := 15) ?_; refine za (q9 rfl rfl rfl rfl (wrap_i64 (by omega) (by omega))) rfl ?_; refine za (zb rfl rfl rfl) rfl ?_; refine zg ?_
          exact qp (x := (k, a2)) (k + 1, mput x.rv ((cntR x.rv (pre ++ f.is.take k) + 1 : Nat) : Int) a2) ⟨hkl, hpt⟩ (by dsimp only; omega) ⟨rfl, by rw [hrs]; exact rev_snoc rfl, rfl, rfl, rfl, rfl, rfl, rfl, rfl, trivial⟩
        · rw [if_pos (hmr.2 (by omega))] at hrs
          refine zf ?_; refine zd (id := 10) ?_; refine za (zw rfl rfl rfl rfl (decide_eq_true (by omega))) rfl ?_; refine zg ?_; refine zh ?_; refine zf ?_; refine zx rfl ?_; refine zt ?_; refine zh ?_; refine zf ?_; refine zz ?_; refine zf ?_; refine zd (id := 11) ?_; refine za (qb L _ rfl rfl rfl rfl rfl rfl rfl (by first | omega | decide) (by assumption)) rfl ?_; refine za (ok_loadPA L (vs := [_, _, _, _, _]) rfl rfl rfl rfl rfl ⟨_, rfl⟩) rfl ?_; refine za (qt L rfl rfl rfl rfl) rfl ?_; refine za (qq L rfl rfl rfl rfl rfl rfl rfl rfl) rfl ?_; refine zg ?_; refine zh ?_; refine zf ?_; refine zf ?_
          refine V_pub 10 rfl ?_
          refine zd (id := 12) ?_; refine za (zb rfl rfl rfl) rfl ?_; refine za (zk L rfl rfl rfl rfl) rfl ?_; refine za (zl L (zn rfl) rfl rfl rfl rfl) rfl ?_; refine vo_stepR (ok_lookupI (q := 900) x.rv mpu_und u64_und mpi_zero rfl rfl rfl rfl rfl hgr) ?_; refine za (qf rfl rfl rfl rfl (decide_eq_false (by omega))) rfl ?_; refine zg ?_; refine zh ?_; refine zo rfl ?_; refine zt ?_; refine zh ?_; refine zd (id := 14) ?_; refine za (zb rfl rfl rfl) rfl ?_; refine za (zk L rfl rfl rfl rfl) rfl ?_; refine za (zl L (zn rfl) rfl rfl rfl rfl) rfl ?_; refine vo_stepR (ok_lookupI (q := 900) x.rv mpu_und u64_und mpi_zero rfl rfl rfl rfl rfl hgr) ?_; refine za (q9 rfl rfl rfl rfl (by assumption)) rfl ?_; refine vo_stepS (ok_mapUpdI (q := 900) x.rv ((cntR x.rv (pre ++ f.is.take k) + 1 : Nat) : Int) mpu_und u64_und rfl rfl rfl rfl rfl rfl rfl) ?_; refine zg ?_; refine qo ?_; refine zh ?_; refine zd (id := 15) ?_; refine za (q9 rfl rfl rfl rfl (wrap_i64 (by omega) (by omega))) rfl ?_; refine za (zb rfl rfl rfl) rfl ?_; refine zg ?_
          exact qp (x := (k, a2)) (k + 1, mput x.rv ((cntR x.rv (pre ++ f.is.take k) + 1 : Nat) : Int) a2) ⟨hkl, hpt⟩ (by dsimp only; omega) ⟨rfl, by rw [hrs]; rfl, rfl, rfl, rfl, rfl, rfl, rfl, rfl, trivial⟩
      · obtain rfl : k = f.is.length := by omega
        rw [List.take_length] at hsk ⊢
        refine zf ?_; refine zd (id := 10) ?_; refine za (zw rfl rfl rfl rfl (decide_eq_false (by omega))) rfl ?_; refine zg ?_; refine zh ?_; refine zf ?_; refine zo rfl ?_; refine y3 ?_; refine qe ?_; refine qe ?_; refine y2 ?_; refine qo ?_; refine zh ?_; refine zd (id := 16) ?_; refine za (q9 rfl rfl rfl rfl (wrap_i64 (by omega) (by omega))) rfl ?_; refine za (zb rfl rfl rfl) rfl ?_; refine zg ?_
        exact qp (x := (i, a)) (i + 1, a2) ⟨hlt, by dsimp only; rw [hat]; exact hsk⟩ (by dsimp only; omega) ⟨rfl, by rw [hat]; rfl, rfl, rfl, rfl, rfl, trivial⟩
    · obtain rfl : i = zs.length := by omega
      rw [hlen, List.take_length] at hsn ⊢
      have hal : (allI t.fl).length ≤ 1024 := by rw [itsN_allI]; exact h1024
      have hrl := revs_len (allI t.fl)
      have hsl2 := srt_len (allI t.fl)
      refine zf ?_; refine zd (id := 7) ?_; refine za (zw rfl rfl rfl rfl (decide_eq_false (by omega))) rfl ?_; refine zg ?_; refine zh ?_; refine zf ?_; refine zo rfl ?_; refine y3 ?_; refine qe ?_; refine qe ?_; refine y2 ?_; refine zh ?_; refine zf ?_
      refine V_holdR 6 901 rfl (fun hm0 _ => ?_) fun br cap rest hrl2 hmc hcm hcl => ?_
      · have hp0 : pins (allI t.fl) = [] := by
          unfold pins
          rw [List.eq_nil_of_length_eq_zero (hsl2.trans hm0)]; rfl
        rw [hp0]
        refine zd (id := 17) ?_; refine za (zb rfl rfl rfl) rfl ?_; refine za (ok_call (φ := fun _ _ => True) L rfl rfl (zi rfl) rfl rfl rfl (fun _ _ _ _ _ => trivial) (fun u H hH _ _ => So.sortN_ret hH)) rfl ?_; refine zg ?_; refine zh ?_; refine zf ?_; refine zd (id := 18) ?_; refine za (ze rfl rfl rfl) rfl ?_; refine zg ?_; refine zh ?_; refine zf ?_; refine zf ?_; refine zd (id := 19) ?_; refine za (zb rfl rfl rfl) rfl ?_; refine za (ok_lenL L rfl rfl rfl rfl) rfl ?_; refine za (zb rfl rfl rfl) rfl ?_; refine zg ?_; refine zh ?_; refine zz ?_
        refine yd (fun _ : Nat => [(11, .is (.slice none 0 0)), (54, .is (.int .i64 0)), (55, .is (.int .i64 0))]) (fun _ => True) (fun _ => 0) 0 trivial ⟨rfl, rfl, rfl, trivial⟩ ?_
        rintro _ _
        refine V_nilR 11 tyP 2 rfl ?_
        refine V_pubR 11 rfl ?_
        refine zf ?_; refine zd (id := 20) ?_; refine za (zw rfl rfl rfl rfl (decide_eq_false (by omega))) rfl ?_; refine zg ?_; refine zh ?_; refine zf ?_; refine zo rfl ?_; refine y3 ?_; refine qe ?_; refine qe ?_; refine y2 ?_; refine zh ?_; refine zf ?_; refine zd (id := 24) ?_; refine za (q0 rfl rfl rfl) rfl ?_; refine za (ok_buildSliceS L (OneL tyP 2 [] 0 70) rfl rfl rfl rfl rfl rfl rfl OneL.mono (fun H hle v hv => by obtain ⟨p', c', rfl⟩ := slv_sh hv; exact ⟨rfl, fun v2 H2 hle2 h2 => ⟨_, _, h2, hv.le hle2⟩⟩)) rfl ?_; refine za (ok_call (φ := SlV tyP 2 [] 0 true) L rfl rfl (zi rfl) rfl rfl rfl SlV.mono (fun u H hH hle _ v hv => by obtain ⟨sl, fa, h1, h2⟩ := hv; exact Ret.mono (ownP1_ret h2 rfl (by omega) hH h1) fun v H' _ h => h.1)) rfl ?_; refine za (ok_assigns' rfl rfl rfl) rfl ?_; refine za (ze rfl rfl rfl) rfl ?_; refine zg ?_; refine zh ?_
        refine qh L (rs := [.tmp 2, .tmp 3]) rfl (fun _ _ h => h) Since.refl fun u H hH hle => ?_
        exact fun v hv => ⟨_, rfl, hv⟩
      · refine zd (id := 17) ?_; refine za (zb rfl rfl rfl) rfl ?_; refine qd (ok_callG L 901 (GHeld br ((srtR (allI t.fl)).map (Value.int .u64) ++ rest) So.tyU) (r := GHeld br ((revs (allI t.fl)).map (Value.int .u64) ++ rest) So.tyU) rfl rfl rfl rfl rfl (fun u H C hH _ hr hC => sortR_ret rfl (by omega) hH hr hC)) ?_; refine zg ?_; refine zh ?_; refine zf ?_
        refine V_pubH 901 rfl fun H6 s6 hnb hb6 => ?_
        have hsv : SlV So.tyU 1 ((srtR (allI t.fl)).map (Value.int .u64)) (revs (allI t.fl)).length false (.slice (some ⟨br, 0, none⟩) (revs (allI t.fl)).length cap) H6 := ⟨by rw [List.length_map, hsl2, Nat.mul_one], .inr ⟨br, 0, cap, _, _, (0, 0), rfl, hb6, by show (((srtR (allI t.fl)).map (Value.int .u64) ++ rest).drop 0).take ((srtR (allI t.fl)).map (Value.int .u64)).length = _; rw [List.drop_zero, List.take_left], hmc, fun h => by cases h⟩⟩
        refine V_seen 6 (SlV So.tyU 1 ((srtR (allI t.fl)).map (Value.int .u64)) (revs (allI t.fl)).length false) rfl SlV.mono hsv ?_
        refine zd (id := 18) ?_; refine za (ze rfl rfl rfl) rfl ?_; refine zg ?_; refine zh ?_; refine zf ?_; refine zf ?_
        refine V_nilR 11 tyP 2 rfl ?_
        refine zd (id := 19) ?_; refine za (q0 rfl rfl rfl) rfl ?_; refine za (y0 L rfl rfl rfl rfl) rfl ?_; refine za (zb rfl rfl rfl) rfl ?_; refine zg ?_; refine zh ?_; refine zz ?_
        obtain ⟨m, hm⟩ : ∃ m, m = (revs (allI t.fl)).length := ⟨_, rfl⟩
        rw [← hm] at hsl2 hrl ⊢
        refine yd (fun i : Nat => [(5, .is (.map (some b))), (11, .own (SlR tyP 2 ((pins (allI t.fl)).take i).length (((pins (allI t.fl)).take i).flatMap pnc))), (53, .sat (SlV So.tyU 1 ((srtR (allI t.fl)).map (Value.int .u64)) m false)), (54, .is (.int .i64 m)), (55, .is (.int .i64 i)), (900, .own (MapHi b .u64 (Value.int .i64) a))]) (fun i => i ≤ m) (fun i => m - i) 0 (Nat.zero_le _) ⟨rfl, rfl, rfl, rfl, rfl, rfl, trivial⟩ ?_
        rintro i hi
        have hpl : (pins (allI t.fl)).length = m := by unfold pins; rw [List.length_map]; exact hsl2
        have hti : ((pins (allI t.fl)).take i).length = i := by rw [List.length_take]; omega
        by_cases hlt : i < m
        · obtain ⟨x, hx⟩ := get_some (show i < (srtR (allI t.fl)).length by omega)
          have hc := rv_at hx
          have hgr := seenr_get hsn x
          have hpx : (pins (allI t.fl))[i]? = some (x, cntR x (allI t.fl)) := by unfold pins; rw [List.getElem?_map, hx]; rfl
          have hts := take_snoc hpx
          have hpp := pnc_plain ((pins (allI t.fl)).take i)
          have hfl2 := flatMap_len pnc_len ((pins (allI t.fl)).take i)
          refine zf ?_; refine zd (id := 20) ?_; refine za (zw rfl rfl rfl rfl (decide_eq_true (by omega))) rfl ?_; refine zg ?_; refine zh ?_; refine zf ?_; refine zx rfl ?_; refine zt ?_; refine zh ?_; refine zf ?_; refine zz ?_; refine zf ?_; refine zd (id := 21) ?_; refine za (qb L _ rfl rfl rfl rfl rfl rfl rfl (by first | omega | decide) (by assumption)) rfl ?_; refine za (qn L rfl rfl rfl rfl rfl) rfl ?_; refine za (ze rfl rfl rfl) rfl ?_; refine zg ?_; refine zh ?_; refine zd (id := 22) ?_; refine qd (ya (.inl rfl) rfl rfl rfl rfl) ?_; refine za (zb rfl rfl rfl) rfl ?_; refine za (zb rfl rfl rfl) rfl ?_; refine za (zb rfl rfl rfl) rfl ?_; refine vo_stepR (ok_lookupI (q := 900) x mpu_und u64_und mpi_zero rfl rfl rfl rfl rfl hgr) ?_; refine za (yb (cs := [_, _]) rfl rfl pl74 rfl rfl) rfl ?_; refine za (y7 L rfl rfl rfl rfl rfl rfl rfl rfl rfl) rfl ?_; refine qd (ok_append L rfl rfl rfl (apd_B rfl) rfl el74 rfl rfl (by omega) (by omega)) ?_; refine qd (ya (.inr rfl) rfl rfl rfl rfl) ?_; refine zg ?_; refine qo ?_; refine zh ?_; refine zd (id := 23) ?_; refine za (q9 rfl rfl rfl rfl (wrap_i64 (by omega) (by omega))) rfl ?_; refine za (zb rfl rfl rfl) rfl ?_; refine zg ?_
          exact N_roundS (x := i) (i + 1) Since.refl hlt (by omega) ⟨rfl, by rw [hts]; exact pin_snoc rfl, rfl, rfl, rfl, rfl, trivial⟩
        · obtain rfl : i = m := by omega
          rw [List.take_of_length_le (by omega)]
          have hpp := pnc_plain (pins (allI t.fl))
          refine V_pubR 11 rfl ?_
          refine zf ?_; refine zd (id := 20) ?_; refine za (zw rfl rfl rfl rfl (decide_eq_false (by omega))) rfl ?_; refine zg ?_; refine zh ?_; refine zf ?_; refine zo rfl ?_; refine y3 ?_; refine qe ?_; refine qe ?_; refine y2 ?_; refine zh ?_; refine zf ?_; refine zd (id := 24) ?_; refine za (q0 rfl rfl rfl) rfl ?_; refine za (ok_buildSliceS L (OneL tyP 2 ((pins (allI t.fl)).flatMap pnc) (pins (allI t.fl)).length 70) rfl rfl rfl rfl rfl rfl rfl OneL.mono (fun H hle v hv => by obtain ⟨p', c', rfl⟩ := slv_sh hv; exact ⟨rfl, fun v2 H2 hle2 h2 => ⟨_, _, h2, hv.le hle2⟩⟩)) rfl ?_; refine za (ok_call (φ := SlV tyP 2 ((pins (allI t.fl)).flatMap pnc) (pins (allI t.fl)).length true) L rfl rfl (zi rfl) rfl rfl rfl SlV.mono (fun u H hH hle _ v hv => by obtain ⟨sl, fa, h1, h2⟩ := hv; exact Ret.mono (ownP1_ret h2 hpp (by omega) hH h1) fun v H' _ h => h.1)) rfl ?_; refine za (ok_assigns' rfl rfl rfl) rfl ?_; refine za (ze rfl rfl rfl) rfl ?_; refine zg ?_; refine zh ?_
          refine qh L (rs := [.tmp 2, .tmp 3]) rfl (fun _ _ h => h) s6 fun u H hH hle => ?_
          exact fun v hv => ⟨_, rfl, hv⟩
  · rw [if_neg h0]
    refine zf ?_; refine zd (id := 0) ?_; refine za (qz rfl rfl rfl rfl) rfl ?_; refine za (ze rfl rfl rfl) rfl ?_; refine za (ze rfl rfl rfl) rfl ?_; refine zg ?_; refine zh ?_; refine zf ?_; refine zf ?_; refine zd (id := 1) ?_; refine za (zu L (vs := [_, _]) (zn rfl) rfl rfl rfl rfl ⟨_, rfl⟩) rfl ?_; refine za (zq L rfl rfl (zi rfl) rfl rfl rfl (fun u H hH hle _ => check_ret hz (hs.le hle) hZ hn hc hH)) rfl ?_; refine za (ze rfl rfl rfl) rfl ?_; refine zg ?_; refine zh ?_; refine zf ?_; refine zd (id := 2) ?_; refine za (zb rfl rfl rfl) rfl ?_; refine za (ql rfl rfl rfl rfl (decide_eq_true (by omega))) rfl ?_; refine zg ?_; refine zh ?_; refine zx rfl ?_; refine zf ?_; refine zd (id := 3) ?_; refine za (zb rfl rfl rfl) rfl ?_; refine za (ze rfl rfl rfl) rfl ?_; refine za (ze rfl rfl rfl) rfl ?_; refine zg ?_; refine zh ?_
    refine qh L (rs := [.tmp 2, .tmp 3]) rfl (fun _ _ h => h) Since.refl fun u H hH hle => ?_
    exact ⟨_, rfl, rfl, .inl ⟨rfl, _, rfl⟩⟩
end Go.V.L39
namespace Go.V.L39
open Go.Proofs Go.RowKit Go.V
theorem tup3 {φ1 φ2 φ3 : Value → Heap → Prop} {a b c : Value} {H : Heap} (h1 : φ1 a H) (h2 : φ2 b H) (h3 : φ3 c H) : TupS [φ1, φ2, φ3] (.tuple #[a, b, c]) H := ⟨[a, b, c], rfl, rfl, fun i φ x hi hx => by
  match i with
  | 0 => cases hi; cases hx; exact h1
  | 1 => cases hi; cases hx; exact h2
  | 2 => cases hi; cases hx; exact h3
  | i + 3 => cases hi⟩
theorem TbN.r {B : Heap} {t : Tb} {v : Value} {H : Heap} (h : TbN B t v H) : TbR t v H := let ⟨zs, s, h1, h2, h3, _, _⟩ := h; ⟨zs, s, h1, h2, h3.nofu⟩
theorem TabP.tup {B : Heap} {t : Tb} {e : Int} {v : Value} {H : Heap} (h : TabP B t e v H) : RTabS t e v H := by
  obtain ⟨tv, rfl, h⟩ := h
  exact tup2 h.r rfl
abbrev JoinS (r : Tb × Int × Bool) (e : Int) : Value → Heap → Prop := TupS [TbR r.1, fun v _ => v = .int .i64 r.2.1, fun v _ => v = .bool r.2.2, fun v _ => v = .int .i64 e]
theorem JoinS.mono {r : Tb × Int × Bool} {e : Int} : Kn.mono (.sat (JoinS r e)) := TupS.mono fun φ h => by
  simp only [List.mem_cons, List.mem_nil_iff, or_false] at h
  rcases h with rfl | rfl | rfl | rfl
  · exact TbR.mn
  · exact eqv_mono
  · exact eqv_mono
  · exact eqv_mono
theorem JoinP.tup {B : Heap} {r : Tb × Int × Bool} {e : Int} {v : Value} {H : Heap} (h : JoinP B r e v H) : JoinS r e v H := by
  obtain ⟨tv, rfl, h⟩ := h
  exact tup4 h.r rfl rfl rfl
def FlR (f : Fl) (v : Value) (H : Heap) : Prop := ∃ sv, v = flv f sv ∧ IsV f.is true sv H
theorem FlR.mn {f : Fl} : Kn.mono (.sat (FlR f)) := fun _ _ _ ⟨sv, h1, h2⟩ hle => ⟨sv, h1, h2.le hle⟩
abbrev FindS (f : Fl) (e : Int) : Value → Heap → Prop := TupS [FlR f, fun v _ => v = .int .i64 e]
theorem FindS.mono {f : Fl} {e : Int} : Kn.mono (.sat (FindS f e)) := TupS.mono fun φ h => by
  simp only [List.mem_cons, List.mem_nil_iff, or_false] at h
  rcases h with rfl | rfl
  · exact FlR.mn
  · exact eqv_mono
theorem FindP.tup {B : Heap} {f : Fl} {e : Int} {v : Value} {H : Heap} (h : FindP B f e v H) : FindS f e v H := by
  obtain ⟨sv, rfl, h⟩ := h
  exact tup2 ⟨sv, rfl, h.1⟩ rfl
abbrev LandS (t : Tb) (f : Fl) (e : Int) : Value → Heap → Prop := TupS [TbR t, FlR f, fun v _ => v = .int .i64 e]
theorem LandS.mono {t : Tb} {f : Fl} {e : Int} : Kn.mono (.sat (LandS t f e)) := TupS.mono fun φ h => by
  simp only [List.mem_cons, List.mem_nil_iff, or_false] at h
  rcases h with rfl | rfl | rfl
  · exact TbR.mn
  · exact FlR.mn
  · exact eqv_mono
theorem LandP.tup {B : Heap} {t : Tb} {f : Fl} {e : Int} {v : Value} {H : Heap} (h : LandP B t f e v H) : LandS t f e v H := by
  obtain ⟨tv, sv, rfl, h1, h2⟩ := h
  exact tup3 h1.r ⟨sv, rfl, h2.1⟩ rfl
abbrev PinsS (ps : List (Int × Nat)) (e : Int) : Value → Heap → Prop := TupS [SlV tyP 2 (ps.flatMap pnc) ps.length true, fun v _ => v = .int .i64 e]
theorem PinsS.mono {ps : List (Int × Nat)} {e : Int} : Kn.mono (.sat (PinsS ps e)) := TupS.mono fun φ h => by
  simp only [List.mem_cons, List.mem_nil_iff, or_false] at h
  rcases h with rfl | rfl
  · exact SlV.mono
  · exact eqv_mono
theorem PinsP.tup {ps : List (Int × Nat)} {e : Int} {v : Value} {H : Heap} (h : PinsP ps e v H) : PinsS ps e v H := by
  obtain ⟨sv, rfl, h⟩ := h
  exact tup2 h rfl
def flxC (f : Fl) (x : SlX) : List Value := flc (f, .slice x.1 x.2.1 x.2.2)
def FlX (f : Fl) (x : SlX) (H : Heap) : Prop := IsV f.is true (.slice x.1 x.2.1 x.2.2) H
theorem FlX.mono {f : Fl} : MonoX (FlX f) := fun _ _ _ h hle => by
  unfold FlX IsV at *
  exact SlV.le h hle
theorem flx_st {f : Fl} : ∀ v H, FlR f v H → ∃ x, FlX f x H ∧ cellsL v = flxC f x := fun v H ⟨sv, h1, h2⟩ => by
  obtain ⟨p, c, hsv⟩ := slv_sh h2
  subst h1 hsv
  exact ⟨(p, f.is.length, c), h2, rfl⟩
theorem flx_pl {f : Fl} (x : SlX) : (flxC f x).length = 14 ∧ (flxC f x).all plainV = true := ⟨rfl, rfl⟩
end Go.V.L39
namespace Go.V.L39
open Go.Proofs Go.RowKit Go.V
structure TZ39 (t : Tb) : Prop where
  q : ∀ f ∈ t.fl, QuZ f.q
  x : ∀ f ∈ t.fl, ∀ x ∈ f.is, 0 ≤ x.rv
theorem tz_zero : TZ39 T0 := ⟨fun f h => (by cases h), fun f h => (by cases h)⟩
theorem tz_join {t : Tb} (h : TZ39 t) {q : Qu} (hq : QuZ q) {rv : Int} {x : It} (hx : 0 ≤ x.rv) {rd : Int} {lo : Bool} : TZ39 (joinT t q rv x rd lo).1 := by
  by_cases he : joinE t q rv x rd lo = 0
  · cases hi : t.fl.findIdx? (hitB q rv lo) with
    | none =>
      rw [jTn he hi]
      refine ⟨fun f hf => ?_, fun f hf y hy => ?_⟩
      · rcases List.mem_append.1 hf with h1 | h1
        · exact h.q f h1
        · rw [List.mem_singleton.1 h1]; exact hq
      · rcases List.mem_append.1 hf with h1 | h1
        · exact h.x f h1 y hy
        · rw [List.mem_singleton.1 h1] at hy
          rw [List.mem_singleton.1 hy]; exact hx
    | some i =>
      obtain ⟨f0, hf0⟩ := get_some (List.findIdx?_eq_some_iff_getElem.1 hi).1
      rw [jTh he hi hf0]
      have key : ∀ f ∈ t.fl.modify i (addI x), ∃ g ∈ t.fl, f = g ∨ f = addI x g := fun f hf => by
        obtain ⟨j, hj⟩ := List.getElem?_of_mem hf
        rw [List.getElem?_modify] at hj
        cases hl : t.fl[j]? with
        | none => rw [hl] at hj; cases hj
        | some g =>
          rw [hl] at hj
          refine ⟨g, fls_mem hl, ?_⟩
          by_cases hij : i = j
          · right; simpa [hij] using hj.symm
          · left; simpa [hij] using hj.symm
      refine ⟨fun f hf => ?_, fun f hf y hy => ?_⟩
      · obtain ⟨g, hg, rfl | rfl⟩ := key f hf
        · exact h.q _ hg
        · exact h.q g hg
      · obtain ⟨g, hg, rfl | rfl⟩ := key f hf
        · exact h.x _ hg y hy
        · rcases List.mem_append.1 hy with h1 | h1
          · exact h.x g hg y h1
          · rw [List.mem_singleton.1 h1]; exact hx
  · rw [jT0 he]; exact tz_zero
theorem tz_cm {t : Tb} (h : TZ39 t) {id st : Int} : TZ39 (cmT t id st) := by
  unfold cmT
  split
  · exact tz_zero
  · refine ⟨fun f hf => ?_, fun f hf y hy => ?_⟩
    · obtain ⟨g, hg, rfl⟩ := List.mem_map.1 hf
      split
      · exact h.q g hg
      · exact h.q g hg
    · obtain ⟨g, hg, rfl⟩ := List.mem_map.1 hf
      split at hy
      · exact h.x g hg y hy
      · exact h.x g hg y hy
theorem tz_ld {t : Tb} (h : TZ39 t) {id : Int} : TZ39 (ldT t id) := by
  unfold ldT
  split
  · exact tz_zero
  · exact ⟨fun f hf => h.q f (List.mem_filter.1 hf).1, fun f hf => h.x f (List.mem_filter.1 hf).1⟩
theorem lv_tz : ∀ i, TZ39 (lvT i)
  | 0 => tz_zero
  | i + 1 => tz_join (lv_tz i) (by unfold lvQ; split <;> exact qS_z _) (by
    rcases i with _ | _ | _ | i
    · exact (by decide : (0 : Int) ≤ 1)
    · exact (by decide : (0 : Int) ≤ 1)
    · exact (by decide : (0 : Int) ≤ 2)
    · exact (by decide : (0 : Int) ≤ 1))
end Go.V.L39
namespace Go.V.L39
open Go.Proofs Go.RowKit Go.V
theorem lv_n : ∀ i, i < 5 → itsN (lvT i).fl ≤ 4 ∧ (lvT i).fl.length ≤ 3 := by decide +kernel
theorem lv_cnt : ckE (lvT 4) 0 = 0 ∧ cntB (fun x => decide (x.cl = 0)) (lvT 4).fl = 3 ∧ chkE (lvT 4) = 0 ∧ pins (allI (lvT 4).fl) = [(1, 3), (2, 1)] := by decide +kernel
theorem lv_n2 : itsN (cmT (lvT 4) 0 7).fl ≤ 4 ∧ (cmT (lvT 4) 0 7).fl.length ≤ 3 ∧ itsN lvU.fl ≤ 4 ∧ lvU.fl.length ≤ 3 := by decide +kernel
theorem lv_n3 : itsN lvV.fl ≤ 4 ∧ lvV.fl.length ≤ 3 := by decide +kernel
def lvW : Tb := (joinT lvV (qS 0) 1 ⟨3, 0, 1, 0, 1⟩ 5 true).1
abbrev LvK (t : Tb) (id : Int) (md : Bool) (e : Int) : Value → Heap → Prop := TupS [TbR t, fun v _ => v = .int .i64 id, fun v _ => v = .bool md, fun v _ => v = .int .i64 e]
theorem LvK.mono {t : Tb} {id : Int} {md : Bool} {e : Int} : Kn.mono (.sat (LvK t id md e)) := TupS.mono fun φ h => by
  simp only [List.mem_cons, List.mem_nil_iff, or_false] at h
  rcases h with rfl | rfl | rfl | rfl
  · exact TbR.mn
  · exact eqv_mono
  · exact eqv_mono
  · exact eqv_mono
theorem lv_qz (i : Nat) : QuZ (lvQ i) := by unfold lvQ; split <;> exact qS_z _
abbrev LvJ (t : Tb) (id : Int) (md : Bool) : Value → Heap → Prop := TupS [TbR t, fun v _ => v = .int .i64 id, fun v _ => v = .bool md, fun v _ => v = .int .i64 0]
theorem LvJ.mono {t : Tb} {id : Int} {md : Bool} : Kn.mono (.sat (LvJ t id md)) := TupS.mono fun φ h => by
  simp only [List.mem_cons, List.mem_nil_iff, or_false] at h
  rcases h with rfl | rfl | rfl | rfl
  · exact TbR.mn
  · exact eqv_mono
  · exact eqv_mono
  · exact eqv_mono
theorem lv_tup {B H : Heap} {i : Nat} {v : Value} (hi : i < 4) (h : JoinP B (joinT (lvT i) (lvQ i) (lvI i).rv (lvI i) 5 false) (joinE (lvT i) (lvQ i) (lvI i).rv (lvI i) 5 false) v H) : LvJ (lvT (i + 1)) (([0, 0, 1, 2] : List Int)[i]?.getD 0) (decide (i ≠ 1)) v H := by
  obtain ⟨e1, e2⟩ := lv_join i hi
  have h3 := JoinP.tup h
  unfold JoinS at h3
  rw [e1, e2] at h3
  exact h3
attribute [local irreducible] V N X VO Par StepOK Has Ret RetL RetO RetT RetG Src
set_option maxHeartbeats 8000000 in
set_option maxRecDepth 20000 in
theorem lives_law {w : World} {B : Heap} (hB : B.Le (hp w)) : Ret Try.prog 10 [] w B (fun v _ => v = .bool true) := by
  refine y6 Try.func10 rfl Try.ntmps10 (Nat.le_of_ble_eq_true rfl) hB ?_
  refine zf ?_; refine zd (id := 0) ?_; refine za (ze rfl rfl rfl) rfl ?_; refine zg ?_; refine zh ?_; refine zf ?_; refine zd (id := 1) ?_; refine za (zq L rfl rfl (zi rfl) rfl rfl rfl (fun u H hH _ _ => pair_law hH)) rfl ?_; refine za (zb rfl rfl rfl) rfl ?_; refine za (qv rfl rfl rfl rfl) rfl ?_; refine za (qv rfl rfl rfl rfl) rfl ?_; refine za (qt L rfl rfl rfl rfl) rfl ?_; refine za (qt L rfl rfl rfl rfl) rfl ?_; refine za (qq L rfl rfl rfl rfl rfl rfl rfl rfl) rfl ?_; refine za (qq L rfl rfl rfl rfl rfl rfl rfl rfl) rfl ?_; refine zg ?_; refine zh ?_; refine zf ?_; refine zd (id := 2) ?_; refine za (qt L rfl rfl rfl rfl) rfl ?_; refine zg ?_; refine zh ?_; refine zf ?_; refine zd (id := 3) ?_; refine za (zu L (vs := [_, _, _, _, _, _]) (qw rfl) rfl rfl rfl rfl ⟨_, rfl⟩) rfl ?_; refine za (zu L (vs := [_, _, _, _, _, _]) (qw rfl) rfl rfl rfl rfl ⟨_, rfl⟩) rfl ?_; refine za (zu L (vs := [_, _, _, _, _, _]) (qw rfl) rfl rfl rfl rfl ⟨_, rfl⟩) rfl ?_; refine za (zu L (vs := [_, _, _, _, _, _]) (qw rfl) rfl rfl rfl rfl ⟨_, rfl⟩) rfl ?_; refine za (y7 L rfl rfl rfl rfl rfl rfl rfl rfl rfl) rfl ?_; refine za (ok_assigns' rfl rfl rfl) rfl ?_; refine zg ?_; refine zh ?_; refine zf ?_; refine zd (id := 4) ?_; refine za (yb (cs := [_, _, _, _, _]) rfl rfl pl33 rfl rfl) rfl ?_; refine za (yb (cs := [_, _, _, _, _]) rfl rfl pl33 rfl rfl) rfl ?_; refine za (yb (cs := [_, _, _, _, _]) rfl rfl pl33 rfl rfl) rfl ?_; refine za (yb (cs := [_, _, _, _, _]) rfl rfl pl33 rfl rfl) rfl ?_; refine za (y7 L rfl rfl rfl rfl rfl rfl rfl rfl rfl) rfl ?_; refine za (ok_assigns' rfl rfl rfl) rfl ?_; refine zg ?_; refine zh ?_; refine zf ?_; refine zd (id := 5) ?_; refine za (zu L (vs := [_, _]) (qw rfl) rfl rfl rfl rfl ⟨_, rfl⟩) rfl ?_; refine za (qt L rfl rfl rfl rfl) rfl ?_; refine za (qq L rfl rfl rfl rfl rfl rfl rfl rfl) rfl ?_; refine zg ?_; refine zh ?_; refine zf ?_; refine zf ?_; refine zd (id := 6) ?_; refine za (ze rfl rfl rfl) rfl ?_; refine zg ?_; refine zh ?_; refine zz ?_
  refine V_clsX 3 TbX.mono ((none, 0, 0) : SlX) (show TbX (lvT 0) (none, 0, 0) B from ⟨[], rfl, fsb_nil rfl⟩) (r := fun x : SlX => Cell (tbxC (lvT 0) x) tyT) rfl ?_
  refine V_clsX 6 TbX.mono ((none, 0, 0) : SlX) (show TbX (lvT 0) (none, 0, 0) B from ⟨[], rfl, fsb_nil rfl⟩) (r := fun x : SlX => Cell (tbxC (lvT 0) x) tyT) rfl ?_
  refine yd (fun i : Nat => [(0, .is (.bool false)), (1, .own (Cell [.int .u8 (qS 0).kd, .string (qS 0).g.1.1, .string (qS 0).g.1.2, .string (qS 0).g.2, .string (qS 0).u.1, .string (qS 0).u.2] tyQ)), (2, .own (Cell [.int .u8 (qS 1).kd, .string (qS 1).g.1.1, .string (qS 1).g.1.2, .string (qS 1).g.2, .string (qS 1).u.1, .string (qS 1).u.2] tyQ)), (3, .own (ExR (fun x : SlX => Cell (tbxC (lvT i) x) tyT) (TbX (lvT i)) TbX.mono)), (4, .sat (SlB [.int .u8 (qS 0).kd, .string (qS 0).g.1.1, .string (qS 0).g.1.2, .string (qS 0).g.2, .string (qS 0).u.1, .string (qS 0).u.2, .int .u8 (qS 0).kd, .string (qS 0).g.1.1, .string (qS 0).g.1.2, .string (qS 0).g.2, .string (qS 0).u.1, .string (qS 0).u.2, .int .u8 (qS 0).kd, .string (qS 0).g.1.1, .string (qS 0).g.1.2, .string (qS 0).g.2, .string (qS 0).u.1, .string (qS 0).u.2, .int .u8 (qS 1).kd, .string (qS 1).g.1.1, .string (qS 1).g.1.2, .string (qS 1).g.2, .string (qS 1).u.1, .string (qS 1).u.2] tyQ 4)), (5, .sat (SlB [.int .i64 0, .int .i64 0, .int .i64 0, .int .i64 2, .int .u64 1, .int .i64 1, .int .i64 0, .int .i64 3, .int .i64 1, .int .u64 1, .int .i64 2, .int .i64 0, .int .i64 0, .int .i64 0, .int .u64 2, .int .i64 2, .int .i64 1, .int .i64 0, .int .i64 0, .int .u64 1] tyI 4)), (6, .own (ExR (fun x : SlX => Cell (tbxC (lvT (min i 1)) x) tyT) (TbX (lvT (min i 1))) TbX.mono)), (7, .is (.int .i64 i))]) (fun i => i ≤ 4) (fun i => 4 - i) 0 (Nat.zero_le _) ⟨rfl, rfl, rfl, rfl, rfl, rfl, rfl, rfl, trivial⟩ ?_
  rintro i hi
  by_cases hlt : i < 4
  · refine V_opnX 3 rfl fun ⟨p1, n1, c1⟩ H1 s1 ⟨zs, hz, hs⟩ => ?_
    dsimp only [tbxC] at hs ⊢
    obtain ⟨hn4, hl3⟩ := lv_n i (by omega)
    have hlen := fls_len hz
    have hn : itsN (lvT i).fl ≤ 4611686018427387904 := by omega
    rcases (by omega : i = 0 ∨ i = 1 ∨ i = 2 ∨ i = 3) with rfl | rfl | rfl | rfl
    · have hm := TbR.mn (t := lvT 1)
      refine zf ?_; refine zf ?_; refine zd (id := 7) ?_; refine za (zb rfl rfl rfl) rfl ?_; refine za (zw rfl rfl rfl rfl (decide_eq_true (by omega))) rfl ?_; refine zg ?_; refine zh ?_; refine zx rfl ?_; refine zt ?_; refine zh ?_; refine zf ?_; refine zz ?_; refine zf ?_; refine q8 (id := 9) [] mixed (by kernel_rfl) ?_; refine zc (zu L (vs := [_, _]) (qw rfl) rfl rfl rfl rfl ⟨_, rfl⟩) rfl ?_; refine zc (q0 rfl rfl rfl) rfl ?_; refine zc (zb rfl rfl rfl) rfl ?_; refine zc (y8 L 0 rfl rfl rfl rfl rfl rfl rfl (by omega)) rfl ?_; refine zc (zu L (vs := [_, _, _, _, _, _]) (zn rfl) rfl rfl rfl rfl ⟨_, rfl⟩) rfl ?_; refine zc (q0 rfl rfl rfl) rfl ?_; refine zc (zb rfl rfl rfl) rfl ?_; refine zc (y8 L 0 rfl rfl rfl rfl rfl rfl rfl (by omega)) rfl ?_; refine zc (zk L rfl rfl rfl rfl) rfl ?_; refine zc (zl L (zn rfl) rfl rfl rfl rfl) rfl ?_; refine zc (q0 rfl rfl rfl) rfl ?_; refine zc (zb rfl rfl rfl) rfl ?_; refine zc (y8 L 0 rfl rfl rfl rfl rfl rfl rfl (by omega)) rfl ?_; refine zc (zu L (vs := [_, _, _, _, _]) (zn rfl) rfl rfl rfl rfl ⟨_, rfl⟩) rfl ?_; refine zc (ok_call (φ := LvJ (lvT 1) 0 true) L rfl rfl (zi rfl) rfl rfl rfl LvJ.mono (fun u H hH hle _ => Ret.mono (join_ret (q := lvQ 0) (x := lvI 0) hz (hs.le hle) (lv_tz 0).q (lv_qz _) hn (by omega) hH) fun v H' _ h => lv_tup (i := 0) (by decide) h)) rfl ?_; refine zc (q0 rfl rfl rfl) rfl ?_; refine zc (ok_extracts rfl rfl rfl rfl (by assumption)) rfl ?_; refine zc (y5 rfl rfl rfl rfl) rfl ?_; refine zc (y5 rfl rfl rfl rfl) rfl ?_; refine zc (y5 rfl rfl rfl rfl) rfl ?_; refine zc (qt L rfl rfl rfl rfl) rfl ?_; refine zc (ok_storeX L (X := SlX) (tbxC (lvT 1)) (TbX (lvT 1)) TbX.mono tbx_st (fun _ => ⟨rfl, rfl⟩) rfl rfl rfl rfl rfl) rfl ?_; refine zc (ze rfl rfl rfl) rfl ?_; refine zc (ze rfl rfl rfl) rfl ?_; refine zc (ze rfl rfl rfl) rfl ?_; refine qg ?_; refine zh ?_; refine zf ?_; refine zf ?_
      refine V_opnX 8 rfl fun ⟨p2, n2, c2⟩ H2 s2 h2 => ?_
      refine V_opnX 6 rfl fun ⟨p6, n6, c6⟩ H6 s6 _ => ?_
      replace h2 := TbX.mono _ _ _ h2 s6.le
      dsimp only [tbxC]
      refine zd (id := 10) ?_; refine za (zb rfl rfl rfl) rfl ?_; refine za (ql rfl rfl rfl rfl (decide_eq_false (by omega))) rfl ?_; refine za (zb rfl rfl rfl) rfl ?_; refine za (zb rfl rfl rfl) rfl ?_; refine za (y7 L rfl rfl rfl rfl rfl rfl rfl rfl rfl) rfl ?_; refine za (zb rfl rfl rfl) rfl ?_; refine za (y8 L 0 rfl rfl rfl rfl rfl rfl rfl (by omega)) rfl ?_; refine za (zl L (zn rfl) rfl rfl rfl rfl) rfl ?_; refine za (ql rfl rfl rfl rfl (decide_eq_false (by omega))) rfl ?_; refine za (zm rfl rfl rfl rfl) rfl ?_; refine za (zb rfl rfl rfl) rfl ?_; refine za (zb rfl rfl rfl) rfl ?_; refine za (zb rfl rfl rfl) rfl ?_; refine za (ql rfl rfl rfl rfl (decide_eq_true (by omega))) rfl ?_; refine za (ok_bneq rfl rfl rfl rfl bt4 rfl) rfl ?_; refine za (zm rfl rfl rfl rfl) rfl ?_; refine zg ?_; refine zh ?_; refine zo rfl ?_; refine zt ?_; refine zh ?_; refine zf ?_; refine zd (id := 12) ?_; refine za (zu L (vs := [_, _]) (qw rfl) rfl rfl rfl rfl ⟨_, rfl⟩) rfl ?_; refine za (qq L rfl rfl rfl rfl rfl rfl rfl rfl) rfl ?_; refine zg ?_; refine zh ?_; refine zf ?_; refine zd (id := 13) ?_; refine za (zb rfl rfl rfl) rfl ?_; refine za (qf rfl rfl rfl rfl (decide_eq_true (by omega))) rfl ?_; refine zg ?_; refine zh ?_; refine zx rfl ?_; refine zd (id := 14) ?_; refine za (zu L (vs := [_, _]) (qw rfl) rfl rfl rfl rfl ⟨_, rfl⟩) rfl ?_; refine za (qq L rfl rfl rfl rfl rfl rfl rfl rfl) rfl ?_; refine zg ?_; refine qo ?_; refine zh ?_; refine zd (id := 8) ?_; refine za (zb rfl rfl rfl) rfl ?_; refine za (q9 rfl rfl rfl rfl (wrap_i64 (by omega) (by omega))) rfl ?_; refine za (ze rfl rfl rfl) rfl ?_; refine zg ?_
      refine N_clsX 3 TbX.mono ((p2, n2, c2) : SlX) h2 (r := fun x : SlX => Cell (tbxC (lvT 1) x) tyT) rfl ?_
      refine N_clsX 6 TbX.mono ((p2, n2, c2) : SlX) h2 (r := fun x : SlX => Cell (tbxC (lvT 1) x) tyT) rfl ?_
      exact N_roundS (x := 0) 1 ((s1.trans s2).trans s6) (by decide) (by decide) ⟨rfl, rfl, rfl, rfl, rfl, rfl, rfl, rfl, trivial⟩
    · have hm := TbR.mn (t := lvT 2)
      refine zf ?_; refine zf ?_; refine zd (id := 7) ?_; refine za (zb rfl rfl rfl) rfl ?_; refine za (zw rfl rfl rfl rfl (decide_eq_true (by omega))) rfl ?_; refine zg ?_; refine zh ?_; refine zx rfl ?_; refine zt ?_; refine zh ?_; refine zf ?_; refine zz ?_; refine zf ?_; refine q8 (id := 9) [] mixed (by kernel_rfl) ?_; refine zc (zu L (vs := [_, _]) (qw rfl) rfl rfl rfl rfl ⟨_, rfl⟩) rfl ?_; refine zc (q0 rfl rfl rfl) rfl ?_; refine zc (zb rfl rfl rfl) rfl ?_; refine zc (y8 L _ rfl rfl rfl rfl rfl rfl rfl (by omega)) rfl ?_; refine zc (zu L (vs := [_, _, _, _, _, _]) (zn rfl) rfl rfl rfl rfl ⟨_, rfl⟩) rfl ?_; refine zc (q0 rfl rfl rfl) rfl ?_; refine zc (zb rfl rfl rfl) rfl ?_; refine zc (y8 L _ rfl rfl rfl rfl rfl rfl rfl (by omega)) rfl ?_; refine zc (zk L rfl rfl rfl rfl) rfl ?_; refine zc (zl L (zn rfl) rfl rfl rfl rfl) rfl ?_; refine zc (q0 rfl rfl rfl) rfl ?_; refine zc (zb rfl rfl rfl) rfl ?_; refine zc (y8 L _ rfl rfl rfl rfl rfl rfl rfl (by omega)) rfl ?_; refine zc (zu L (vs := [_, _, _, _, _]) (zn rfl) rfl rfl rfl rfl ⟨_, rfl⟩) rfl ?_; refine zc (ok_call (φ := LvJ (lvT 2) 0 false) L rfl rfl (zi rfl) rfl rfl rfl LvJ.mono (fun u H hH hle _ => Ret.mono (join_ret (q := lvQ 1) (x := lvI 1) hz (hs.le hle) (lv_tz 1).q (lv_qz _) hn (by omega) hH) fun v H' _ h => lv_tup (i := 1) (by decide) h)) rfl ?_; refine zc (q0 rfl rfl rfl) rfl ?_; refine zc (ok_extracts rfl rfl rfl rfl (by assumption)) rfl ?_; refine zc (y5 rfl rfl rfl rfl) rfl ?_; refine zc (y5 rfl rfl rfl rfl) rfl ?_; refine zc (y5 rfl rfl rfl rfl) rfl ?_; refine zc (qt L rfl rfl rfl rfl) rfl ?_; refine zc (ok_storeX L (X := SlX) (tbxC (lvT 2)) (TbX (lvT 2)) TbX.mono tbx_st (fun _ => ⟨rfl, rfl⟩) rfl rfl rfl rfl rfl) rfl ?_; refine zc (ze rfl rfl rfl) rfl ?_; refine zc (ze rfl rfl rfl) rfl ?_; refine zc (ze rfl rfl rfl) rfl ?_; refine qg ?_; refine zh ?_; refine zf ?_; refine zf ?_
      refine V_opnX 8 rfl fun ⟨p2, n2, c2⟩ H2 s2 h2 => ?_
      dsimp only [tbxC]
      refine zd (id := 10) ?_; refine za (zb rfl rfl rfl) rfl ?_; refine za (ql rfl rfl rfl rfl (decide_eq_false (by omega))) rfl ?_; refine za (zb rfl rfl rfl) rfl ?_; refine za (zb rfl rfl rfl) rfl ?_; refine za (y7 L rfl rfl rfl rfl rfl rfl rfl rfl rfl) rfl ?_; refine za (zb rfl rfl rfl) rfl ?_; refine za (y8 L _ rfl rfl rfl rfl rfl rfl rfl (by omega)) rfl ?_; refine za (zl L (zn rfl) rfl rfl rfl rfl) rfl ?_; refine za (ql rfl rfl rfl rfl (decide_eq_false (by omega))) rfl ?_; refine za (zm rfl rfl rfl rfl) rfl ?_; refine za (zb rfl rfl rfl) rfl ?_; refine za (zb rfl rfl rfl) rfl ?_; refine za (zb rfl rfl rfl) rfl ?_; refine za (ql rfl rfl rfl rfl (decide_eq_false (by omega))) rfl ?_; refine za (ok_bneq rfl rfl rfl rfl bt4 rfl) rfl ?_; refine za (zm rfl rfl rfl rfl) rfl ?_; refine zg ?_; refine zh ?_; refine zo rfl ?_; refine zt ?_; refine zh ?_; refine zf ?_; refine zd (id := 12) ?_; refine za (zu L (vs := [_, _]) (qw rfl) rfl rfl rfl rfl ⟨_, rfl⟩) rfl ?_; refine za (qq L rfl rfl rfl rfl rfl rfl rfl rfl) rfl ?_; refine zg ?_; refine zh ?_; refine zf ?_; refine zd (id := 13) ?_; refine za (zb rfl rfl rfl) rfl ?_; refine za (qf rfl rfl rfl rfl (decide_eq_false (by omega))) rfl ?_; refine zg ?_; refine zh ?_; refine zo rfl ?_; refine zt ?_; refine qo ?_; refine zh ?_; refine zd (id := 8) ?_; refine za (zb rfl rfl rfl) rfl ?_; refine za (q9 rfl rfl rfl rfl (wrap_i64 (by omega) (by omega))) rfl ?_; refine za (ze rfl rfl rfl) rfl ?_; refine zg ?_
      refine N_clsX 3 TbX.mono ((p2, n2, c2) : SlX) h2 (r := fun x : SlX => Cell (tbxC (lvT 2) x) tyT) rfl ?_
      exact N_roundS (x := 1) 2 (s1.trans s2) (by decide) (by decide) ⟨rfl, rfl, rfl, rfl, rfl, rfl, rfl, rfl, trivial⟩
    · have hm := TbR.mn (t := lvT 3)
      refine zf ?_; refine zf ?_; refine zd (id := 7) ?_; refine za (zb rfl rfl rfl) rfl ?_; refine za (zw rfl rfl rfl rfl (decide_eq_true (by omega))) rfl ?_; refine zg ?_; refine zh ?_; refine zx rfl ?_; refine zt ?_; refine zh ?_; refine zf ?_; refine zz ?_; refine zf ?_; refine q8 (id := 9) [] mixed (by kernel_rfl) ?_; refine zc (zu L (vs := [_, _]) (qw rfl) rfl rfl rfl rfl ⟨_, rfl⟩) rfl ?_; refine zc (q0 rfl rfl rfl) rfl ?_; refine zc (zb rfl rfl rfl) rfl ?_; refine zc (y8 L _ rfl rfl rfl rfl rfl rfl rfl (by omega)) rfl ?_; refine zc (zu L (vs := [_, _, _, _, _, _]) (zn rfl) rfl rfl rfl rfl ⟨_, rfl⟩) rfl ?_; refine zc (q0 rfl rfl rfl) rfl ?_; refine zc (zb rfl rfl rfl) rfl ?_; refine zc (y8 L _ rfl rfl rfl rfl rfl rfl rfl (by omega)) rfl ?_; refine zc (zk L rfl rfl rfl rfl) rfl ?_; refine zc (zl L (zn rfl) rfl rfl rfl rfl) rfl ?_; refine zc (q0 rfl rfl rfl) rfl ?_; refine zc (zb rfl rfl rfl) rfl ?_; refine zc (y8 L _ rfl rfl rfl rfl rfl rfl rfl (by omega)) rfl ?_; refine zc (zu L (vs := [_, _, _, _, _]) (zn rfl) rfl rfl rfl rfl ⟨_, rfl⟩) rfl ?_; refine zc (ok_call (φ := LvJ (lvT 3) 1 true) L rfl rfl (zi rfl) rfl rfl rfl LvJ.mono (fun u H hH hle _ => Ret.mono (join_ret (q := lvQ 2) (x := lvI 2) hz (hs.le hle) (lv_tz 2).q (lv_qz _) hn (by omega) hH) fun v H' _ h => lv_tup (i := 2) (by decide) h)) rfl ?_; refine zc (q0 rfl rfl rfl) rfl ?_; refine zc (ok_extracts rfl rfl rfl rfl (by assumption)) rfl ?_; refine zc (y5 rfl rfl rfl rfl) rfl ?_; refine zc (y5 rfl rfl rfl rfl) rfl ?_; refine zc (y5 rfl rfl rfl rfl) rfl ?_; refine zc (qt L rfl rfl rfl rfl) rfl ?_; refine zc (ok_storeX L (X := SlX) (tbxC (lvT 3)) (TbX (lvT 3)) TbX.mono tbx_st (fun _ => ⟨rfl, rfl⟩) rfl rfl rfl rfl rfl) rfl ?_; refine zc (ze rfl rfl rfl) rfl ?_; refine zc (ze rfl rfl rfl) rfl ?_; refine zc (ze rfl rfl rfl) rfl ?_; refine qg ?_; refine zh ?_; refine zf ?_; refine zf ?_
      refine V_opnX 8 rfl fun ⟨p2, n2, c2⟩ H2 s2 h2 => ?_
      dsimp only [tbxC]
      refine zd (id := 10) ?_; refine za (zb rfl rfl rfl) rfl ?_; refine za (ql rfl rfl rfl rfl (decide_eq_false (by omega))) rfl ?_; refine za (zb rfl rfl rfl) rfl ?_; refine za (zb rfl rfl rfl) rfl ?_; refine za (y7 L rfl rfl rfl rfl rfl rfl rfl rfl rfl) rfl ?_; refine za (zb rfl rfl rfl) rfl ?_; refine za (y8 L _ rfl rfl rfl rfl rfl rfl rfl (by omega)) rfl ?_; refine za (zl L (zn rfl) rfl rfl rfl rfl) rfl ?_; refine za (ql rfl rfl rfl rfl (decide_eq_false (by omega))) rfl ?_; refine za (zm rfl rfl rfl rfl) rfl ?_; refine za (zb rfl rfl rfl) rfl ?_; refine za (zb rfl rfl rfl) rfl ?_; refine za (zb rfl rfl rfl) rfl ?_; refine za (ql rfl rfl rfl rfl (decide_eq_true (by omega))) rfl ?_; refine za (ok_bneq rfl rfl rfl rfl bt4 rfl) rfl ?_; refine za (zm rfl rfl rfl rfl) rfl ?_; refine zg ?_; refine zh ?_; refine zo rfl ?_; refine zt ?_; refine zh ?_; refine zf ?_; refine zd (id := 12) ?_; refine za (zu L (vs := [_, _]) (qw rfl) rfl rfl rfl rfl ⟨_, rfl⟩) rfl ?_; refine za (qq L rfl rfl rfl rfl rfl rfl rfl rfl) rfl ?_; refine zg ?_; refine zh ?_; refine zf ?_; refine zd (id := 13) ?_; refine za (zb rfl rfl rfl) rfl ?_; refine za (qf rfl rfl rfl rfl (decide_eq_false (by omega))) rfl ?_; refine zg ?_; refine zh ?_; refine zo rfl ?_; refine zt ?_; refine qo ?_; refine zh ?_; refine zd (id := 8) ?_; refine za (zb rfl rfl rfl) rfl ?_; refine za (q9 rfl rfl rfl rfl (wrap_i64 (by omega) (by omega))) rfl ?_; refine za (ze rfl rfl rfl) rfl ?_; refine zg ?_
      refine N_clsX 3 TbX.mono ((p2, n2, c2) : SlX) h2 (r := fun x : SlX => Cell (tbxC (lvT 3) x) tyT) rfl ?_
      exact N_roundS (x := 2) 3 (s1.trans s2) (by decide) (by decide) ⟨rfl, rfl, rfl, rfl, rfl, rfl, rfl, rfl, trivial⟩
    · have hm := TbR.mn (t := lvT 4)
      refine zf ?_; refine zf ?_; refine zd (id := 7) ?_; refine za (zb rfl rfl rfl) rfl ?_; refine za (zw rfl rfl rfl rfl (decide_eq_true (by omega))) rfl ?_; refine zg ?_; refine zh ?_; refine zx rfl ?_; refine zt ?_; refine zh ?_; refine zf ?_; refine zz ?_; refine zf ?_; refine q8 (id := 9) [] mixed (by kernel_rfl) ?_; refine zc (zu L (vs := [_, _]) (qw rfl) rfl rfl rfl rfl ⟨_, rfl⟩) rfl ?_; refine zc (q0 rfl rfl rfl) rfl ?_; refine zc (zb rfl rfl rfl) rfl ?_; refine zc (y8 L _ rfl rfl rfl rfl rfl rfl rfl (by omega)) rfl ?_; refine zc (zu L (vs := [_, _, _, _, _, _]) (zn rfl) rfl rfl rfl rfl ⟨_, rfl⟩) rfl ?_; refine zc (q0 rfl rfl rfl) rfl ?_; refine zc (zb rfl rfl rfl) rfl ?_; refine zc (y8 L _ rfl rfl rfl rfl rfl rfl rfl (by omega)) rfl ?_; refine zc (zk L rfl rfl rfl rfl) rfl ?_; refine zc (zl L (zn rfl) rfl rfl rfl rfl) rfl ?_; refine zc (q0 rfl rfl rfl) rfl ?_; refine zc (zb rfl rfl rfl) rfl ?_; refine zc (y8 L _ rfl rfl rfl rfl rfl rfl rfl (by omega)) rfl ?_; refine zc (zu L (vs := [_, _, _, _, _]) (zn rfl) rfl rfl rfl rfl ⟨_, rfl⟩) rfl ?_; refine zc (ok_call (φ := LvJ (lvT 4) 2 true) L rfl rfl (zi rfl) rfl rfl rfl LvJ.mono (fun u H hH hle _ => Ret.mono (join_ret (q := lvQ 3) (x := lvI 3) hz (hs.le hle) (lv_tz 3).q (lv_qz _) hn (by omega) hH) fun v H' _ h => lv_tup (i := 3) (by decide) h)) rfl ?_; refine zc (q0 rfl rfl rfl) rfl ?_; refine zc (ok_extracts rfl rfl rfl rfl (by assumption)) rfl ?_; refine zc (y5 rfl rfl rfl rfl) rfl ?_; refine zc (y5 rfl rfl rfl rfl) rfl ?_; refine zc (y5 rfl rfl rfl rfl) rfl ?_; refine zc (qt L rfl rfl rfl rfl) rfl ?_; refine zc (ok_storeX L (X := SlX) (tbxC (lvT 4)) (TbX (lvT 4)) TbX.mono tbx_st (fun _ => ⟨rfl, rfl⟩) rfl rfl rfl rfl rfl) rfl ?_; refine zc (ze rfl rfl rfl) rfl ?_; refine zc (ze rfl rfl rfl) rfl ?_; refine zc (ze rfl rfl rfl) rfl ?_; refine qg ?_; refine zh ?_; refine zf ?_; refine zf ?_
      refine V_opnX 8 rfl fun ⟨p2, n2, c2⟩ H2 s2 h2 => ?_
      dsimp only [tbxC]
      refine zd (id := 10) ?_; refine za (zb rfl rfl rfl) rfl ?_; refine za (ql rfl rfl rfl rfl (decide_eq_false (by omega))) rfl ?_; refine za (zb rfl rfl rfl) rfl ?_; refine za (zb rfl rfl rfl) rfl ?_; refine za (y7 L rfl rfl rfl rfl rfl rfl rfl rfl rfl) rfl ?_; refine za (zb rfl rfl rfl) rfl ?_; refine za (y8 L _ rfl rfl rfl rfl rfl rfl rfl (by omega)) rfl ?_; refine za (zl L (zn rfl) rfl rfl rfl rfl) rfl ?_; refine za (ql rfl rfl rfl rfl (decide_eq_false (by omega))) rfl ?_; refine za (zm rfl rfl rfl rfl) rfl ?_; refine za (zb rfl rfl rfl) rfl ?_; refine za (zb rfl rfl rfl) rfl ?_; refine za (zb rfl rfl rfl) rfl ?_; refine za (ql rfl rfl rfl rfl (decide_eq_true (by omega))) rfl ?_; refine za (ok_bneq rfl rfl rfl rfl bt4 rfl) rfl ?_; refine za (zm rfl rfl rfl rfl) rfl ?_; refine zg ?_; refine zh ?_; refine zo rfl ?_; refine zt ?_; refine zh ?_; refine zf ?_; refine zd (id := 12) ?_; refine za (zu L (vs := [_, _]) (qw rfl) rfl rfl rfl rfl ⟨_, rfl⟩) rfl ?_; refine za (qq L rfl rfl rfl rfl rfl rfl rfl rfl) rfl ?_; refine zg ?_; refine zh ?_; refine zf ?_; refine zd (id := 13) ?_; refine za (zb rfl rfl rfl) rfl ?_; refine za (qf rfl rfl rfl rfl (decide_eq_false (by omega))) rfl ?_; refine zg ?_; refine zh ?_; refine zo rfl ?_; refine zt ?_; refine qo ?_; refine zh ?_; refine zd (id := 8) ?_; refine za (zb rfl rfl rfl) rfl ?_; refine za (q9 rfl rfl rfl rfl (wrap_i64 (by omega) (by omega))) rfl ?_; refine za (ze rfl rfl rfl) rfl ?_; refine zg ?_
      refine N_clsX 3 TbX.mono ((p2, n2, c2) : SlX) h2 (r := fun x : SlX => Cell (tbxC (lvT 4) x) tyT) rfl ?_
      exact N_roundS (x := 3) 4 (s1.trans s2) (by decide) (by decide) ⟨rfl, rfl, rfl, rfl, rfl, rfl, rfl, rfl, trivial⟩
  · obtain rfl : i = 4 := by omega
    refine V_opnX 3 rfl fun ⟨p1, n1, c1⟩ H1 s1 ⟨zs, hz, hs⟩ => ?_
    dsimp only [tbxC] at hs ⊢
    obtain ⟨hn4, hl3⟩ := lv_n 4 (by decide)
    have hlen := fls_len hz
    have hn : itsN (lvT 4).fl ≤ 4611686018427387904 := by omega
    obtain ⟨r1, r2, r3, r4, r5, r6⟩ := lv_rest
    obtain ⟨k1, k2, k3, k4⟩ := lv_cnt
    have hmf := FlR.mn (f := findF (lvT 4) 0)
    refine zf ?_; refine zf ?_; refine zd (id := 7) ?_; refine za (zb rfl rfl rfl) rfl ?_; refine za (zw rfl rfl rfl rfl (decide_eq_false (by omega))) rfl ?_; refine zg ?_; refine zh ?_; refine zo rfl ?_; refine y3 ?_; refine qe ?_; refine qe ?_; refine y2 ?_; refine zh ?_; refine zf ?_; refine zd (id := 15) ?_; refine za (zu L (vs := [_, _]) (qw rfl) rfl rfl rfl rfl ⟨_, rfl⟩) rfl ?_; refine za (ok_call (φ := FindS (findF (lvT 4) 0) 0) L rfl rfl (zi rfl) rfl rfl rfl FindS.mono (fun u H hH hle _ => Ret.mono (find_ret hz (hs.le hle) (lv_tz 4).q hn hH) fun v H' _ h => (by have h2 := FindP.tup h; rw [r1] at h2; exact h2))) rfl ?_; refine za (q0 rfl rfl rfl) rfl ?_; refine za (ok_extracts rfl rfl rfl rfl (by assumption)) rfl ?_; refine za (y5 rfl rfl rfl rfl) rfl ?_; refine za (qt L rfl rfl rfl rfl) rfl ?_; refine za (ok_storeX L (X := SlX) (flxC (findF (lvT 4) 0)) (FlX (findF (lvT 4) 0)) FlX.mono flx_st flx_pl rfl rfl rfl rfl rfl) rfl ?_; refine za (ze rfl rfl rfl) rfl ?_; refine zg ?_; refine zh ?_; refine zf ?_
    refine zd (id := 16) ?_; refine za (zu L (vs := [_, _]) (qw rfl) rfl rfl rfl rfl ⟨_, rfl⟩) rfl ?_; refine za (zq (r := .tuple #[.int .i64 3, .int .i64 0]) L rfl rfl (zi rfl) rfl rfl rfl (fun u H hH hle _ => Ret.mono (waiting_ret hz (hs.le hle) (lv_tz 4).q hn hH) fun v H' _ h => (by rw [h, k1, if_pos rfl, k2]; rfl))) rfl ?_; refine za (zb rfl rfl rfl) rfl ?_; refine za (qv rfl rfl rfl rfl) rfl ?_; refine za (qv rfl rfl rfl rfl) rfl ?_; refine za (ze rfl rfl rfl) rfl ?_; refine za (ze rfl rfl rfl) rfl ?_; refine zg ?_; refine zh ?_; refine zf ?_
    have hmp := @SlV.mono tyP 2 ([(1, 3), (2, 1)] : List (Int × Nat)).length (([(1, 3), (2, 1)] : List (Int × Nat)).flatMap pnc) true
    refine zd (id := 17) ?_; refine za (zu L (vs := [_, _]) (qw rfl) rfl rfl rfl rfl ⟨_, rfl⟩) rfl ?_; refine za (ok_call (φ := PinsS [(1, 3), (2, 1)] 0) L rfl rfl (zi rfl) rfl rfl rfl PinsS.mono (fun u H hH hle _ => Ret.mono (pins_ret hz (hs.le hle) (lv_tz 4).q hn hH) fun v H' _ h => (by have h2 := PinsP.tup h; rw [k3, if_pos rfl, k4] at h2; exact h2))) rfl ?_; refine za (q0 rfl rfl rfl) rfl ?_; refine za (ok_extracts rfl rfl rfl rfl (by assumption)) rfl ?_; refine za (y5 rfl rfl rfl rfl) rfl ?_; refine za (ok_assigns' rfl rfl rfl) rfl ?_; refine za (ze rfl rfl rfl) rfl ?_; refine zg ?_; refine zh ?_; refine zf ?_; refine zf ?_
    refine V_opnX 12 rfl fun ⟨p2, n2, c2⟩ H2 s2 h2 => ?_
    dsimp only [flxC]
    refine V_box 12 rfl fun b12 hb12 => ?_
    obtain ⟨f1, f2, f3, f4, f5, f6⟩ := lv_find
    have hc1 : ((([(1, 3), (2, 1)] : List (Int × Nat)).flatMap pnc).drop (0 * 2)).take 2 = [.int .u64 1, .int .i64 3] := rfl
    have hc2 : ((([(1, 3), (2, 1)] : List (Int × Nat)).flatMap pnc).drop (1 * 2)).take 2 = [.int .u64 2, .int .i64 1] := rfl
    refine zd (id := 18) ?_; refine za (zb rfl rfl rfl) rfl ?_; refine za (ql rfl rfl rfl rfl (decide_eq_false (by omega))) rfl ?_; refine za (zb rfl rfl rfl) rfl ?_; refine za (zb rfl rfl rfl) rfl ?_; refine za (ql rfl rfl rfl rfl (decide_eq_false (by omega))) rfl ?_; refine za (zm rfl rfl rfl rfl) rfl ?_; refine za (zb rfl rfl rfl) rfl ?_; refine za (zb rfl rfl rfl) rfl ?_; refine za (ql rfl rfl rfl rfl (decide_eq_false (by omega))) rfl ?_; refine za (zm rfl rfl rfl rfl) rfl ?_; refine za (zb rfl rfl rfl) rfl ?_; refine za (y9 L rfl rfl rfl rfl) rfl ?_; refine za (zl L (src_box rfl (List.Mem.head _)) rfl rfl rfl rfl) rfl ?_; refine za (ql rfl rfl rfl rfl rfl) rfl ?_; refine za (zm rfl rfl rfl rfl) rfl ?_; refine za (zb rfl rfl rfl) rfl ?_; refine za (y9 L rfl rfl rfl rfl) rfl ?_; refine za (zl L (src_box rfl (List.Mem.head _)) rfl rfl rfl rfl) rfl ?_; refine za (ql rfl rfl rfl rfl rfl) rfl ?_; refine za (zm rfl rfl rfl rfl) rfl ?_; refine za (zb rfl rfl rfl) rfl ?_; refine za (y9 L rfl rfl rfl rfl) rfl ?_; refine za (zl L (src_box rfl (List.Mem.head _)) rfl rfl rfl rfl) rfl ?_; refine za (ql rfl rfl rfl rfl rfl) rfl ?_; refine za (zm rfl rfl rfl rfl) rfl ?_; refine za (zb rfl rfl rfl) rfl ?_; refine za (zb rfl rfl rfl) rfl ?_; refine za (ql rfl rfl rfl rfl (decide_eq_false (by omega))) rfl ?_; refine za (zm rfl rfl rfl rfl) rfl ?_; refine za (zb rfl rfl rfl) rfl ?_; refine za (q0 rfl rfl rfl) rfl ?_; refine za (y0 L rfl rfl rfl rfl) rfl ?_; refine za (ql rfl rfl rfl rfl rfl) rfl ?_; refine za (zm rfl rfl rfl rfl) rfl ?_; refine za (zb rfl rfl rfl) rfl ?_; refine za (q0 rfl rfl rfl) rfl ?_; refine za (qb L _ rfl rfl rfl rfl rfl rfl rfl (by first | omega | decide) (by assumption)) rfl ?_; refine za (ok_loadPA L (vs := [_, _]) rfl rfl rfl rfl rfl ⟨_, rfl⟩) rfl ?_; refine za (yb (cs := [_, _]) rfl rfl pl74 rfl rfl) rfl ?_; refine za (ok_aneq rfl rfl rfl rfl eq74 rfl rfl) rfl ?_; refine za (zm rfl rfl rfl rfl) rfl ?_; refine za (zb rfl rfl rfl) rfl ?_; refine za (q0 rfl rfl rfl) rfl ?_; refine za (qb L _ rfl rfl rfl rfl rfl rfl rfl (by first | omega | decide) (by assumption)) rfl ?_; refine za (ok_loadPA L (vs := [_, _]) rfl rfl rfl rfl rfl ⟨_, rfl⟩) rfl ?_; refine za (yb (cs := [_, _]) rfl rfl pl74 rfl rfl) rfl ?_; refine za (ok_aneq rfl rfl rfl rfl eq74 rfl rfl) rfl ?_; refine za (zm rfl rfl rfl rfl) rfl ?_; refine zg ?_; refine zh ?_; refine zo rfl ?_; refine zt ?_; refine zh ?_; refine zf ?_
    have hmc := TbR.mn (t := cmT (lvT 4) 0 7)
    have hs2 := hs.le s2.le
    refine zd (id := 20) ?_; refine za (zu L (vs := [_, _]) (qw rfl) rfl rfl rfl rfl ⟨_, rfl⟩) rfl ?_; refine za (ok_call (φ := RTabS (cmT (lvT 4) 0 7) 0) L rfl rfl (zi rfl) rfl rfl rfl RTabS.mono (fun u H hH hle _ => Ret.mono (commit_ret hz (hs2.le hle) (lv_tz 4).q hn (by omega) ⟨by decide, by decide⟩ hH) fun v H' _ h => (by have h2 := TabP.tup h; rw [r2] at h2; exact h2))) rfl ?_; refine za (q0 rfl rfl rfl) rfl ?_; refine za (ok_extracts rfl rfl rfl rfl (by assumption)) rfl ?_; refine za (y5 rfl rfl rfl rfl) rfl ?_; refine za (qt L rfl rfl rfl rfl) rfl ?_; refine za (ok_storeX L (X := SlX) (tbxC (cmT (lvT 4) 0 7)) (TbX (cmT (lvT 4) 0 7)) TbX.mono tbx_st (fun _ => ⟨rfl, rfl⟩) rfl rfl rfl rfl rfl) rfl ?_; refine za (ze rfl rfl rfl) rfl ?_; refine zg ?_; refine zh ?_; refine zf ?_
    refine V_opnX 18 rfl fun ⟨p3, n3, c3⟩ H3 s3 ⟨zs3, hz3, hs3⟩ => ?_
    dsimp only [tbxC] at hs3 ⊢
    obtain ⟨m1, m2, m3, m4⟩ := lv_n2
    have hl3 := fls_len hz3
    have hmu := TbR.mn (t := lvU)
    refine zd (id := 21) ?_; refine za (zu L (vs := [_, _]) (qw rfl) rfl rfl rfl rfl ⟨_, rfl⟩) rfl ?_; refine za (ok_call (φ := RTabS lvU 0) L rfl rfl (zi rfl) rfl rfl rfl RTabS.mono (fun u H hH hle _ => Ret.mono (commit_ret hz3 (hs3.le hle) (tz_cm (lv_tz 4)).q (by omega) (by omega) ⟨by decide, by decide⟩ hH) fun v H' _ h => (by have h2 := TabP.tup h; rw [r3] at h2; exact h2))) rfl ?_; refine za (q0 rfl rfl rfl) rfl ?_; refine za (ok_extracts rfl rfl rfl rfl (by assumption)) rfl ?_; refine za (y5 rfl rfl rfl rfl) rfl ?_; refine za (ok_storeX L (X := SlX) (tbxC lvU) (TbX lvU) TbX.mono tbx_st (fun _ => ⟨rfl, rfl⟩) rfl rfl rfl rfl rfl) rfl ?_; refine za (ze rfl rfl rfl) rfl ?_; refine zg ?_; refine zh ?_; refine zf ?_
    refine V_opnX 18 rfl fun ⟨p4, n4, c4⟩ H4 s4 ⟨zs4, hz4, hs4⟩ => ?_
    dsimp only [tbxC] at hs4 ⊢
    have hl4 := fls_len hz4
    have hmv := TbR.mn (t := lvV)
    have hmg := FlR.mn (f := findF lvU 0)
    refine zd (id := 22) ?_; refine za (zu L (vs := [_, _]) (qw rfl) rfl rfl rfl rfl ⟨_, rfl⟩) rfl ?_; refine za (ok_call (φ := LandS lvV (findF lvU 0) 0) L rfl rfl (zi rfl) rfl rfl rfl LandS.mono (fun u H hH hle _ => Ret.mono (land_ret hz4 (hs4.le hle) (tz_cm (tz_cm (lv_tz 4))).q (by omega) (by omega) hH) fun v H' _ h => (by have h2 := LandP.tup h; rw [r4] at h2; exact h2))) rfl ?_; refine za (q0 rfl rfl rfl) rfl ?_; refine za (ok_extracts rfl rfl rfl rfl (by assumption)) rfl ?_; refine za (ok_extracts rfl rfl rfl rfl (by assumption)) rfl ?_; refine vo_opn 161 rfl fun fv H5 s5 ⟨sv5, e5, h5⟩ => ?_; subst e5; obtain ⟨p5, c5, e6⟩ := slv_sh h5; subst e6; refine za (y5 rfl rfl rfl rfl) rfl ?_; refine za (ok_storeX L (X := SlX) (tbxC lvV) (TbX lvV) TbX.mono tbx_st (fun _ => ⟨rfl, rfl⟩) rfl rfl rfl rfl rfl) rfl ?_; refine box_store L (O1 := []) rfl rfl rfl rfl rfl rfl rfl rfl rfl ?_; refine za (ze rfl rfl rfl) rfl ?_; refine zg ?_; refine zh ?_; refine zf ?_
    refine V_opnX 18 rfl fun ⟨p6, n6, c6⟩ H6 s6 ⟨zs6, hz6, hs6⟩ => ?_
    dsimp only [tbxC] at hs6 ⊢
    obtain ⟨m5, m6⟩ := lv_n3
    have hl6 := fls_len hz6
    have hzv : TZ39 lvV := tz_ld (tz_cm (tz_cm (lv_tz 4)))
    have hmw := TbR.mn (t := ldT lvV 0)
    have hmh := FlR.mn (f := findF lvV 0)
    refine zd (id := 23) ?_; refine za (zu L (vs := [_, _]) (qw rfl) rfl rfl rfl rfl ⟨_, rfl⟩) rfl ?_; refine za (ok_call (φ := LandS (ldT lvV 0) (findF lvV 0) 8) L rfl rfl (zi rfl) rfl rfl rfl LandS.mono (fun u H hH hle _ => Ret.mono (land_ret hz6 (hs6.le hle) hzv.q (by omega) (by omega) hH) fun v H' _ h => (by have h2 := LandP.tup h; rw [r5] at h2; exact h2))) rfl ?_; refine za (q0 rfl rfl rfl) rfl ?_; refine za (ok_extracts rfl rfl rfl rfl (by assumption)) rfl ?_; refine za (ok_extracts rfl rfl rfl rfl (by assumption)) rfl ?_; refine za (y5 rfl rfl rfl rfl) rfl ?_; refine za (qt L rfl rfl rfl rfl) rfl ?_; refine za (qt L rfl rfl rfl rfl) rfl ?_; refine za (ok_storeX L (X := SlX) (tbxC (ldT lvV 0)) (TbX (ldT lvV 0)) TbX.mono tbx_st (fun _ => ⟨rfl, rfl⟩) rfl rfl rfl rfl rfl) rfl ?_; refine za (ok_storeX L (X := SlX) (flxC (findF lvV 0)) (FlX (findF lvV 0)) FlX.mono flx_st flx_pl rfl rfl rfl rfl rfl) rfl ?_; refine za (ze rfl rfl rfl) rfl ?_; refine zg ?_; refine zh ?_; refine zf ?_; refine zf ?_
    refine zd (id := 24) ?_; refine za (zb rfl rfl rfl) rfl ?_; refine za (ql rfl rfl rfl rfl (decide_eq_false (by omega))) rfl ?_; refine za (zb rfl rfl rfl) rfl ?_; refine za (zb rfl rfl rfl) rfl ?_; refine za (ql rfl rfl rfl rfl (decide_eq_false (by omega))) rfl ?_; refine za (zm rfl rfl rfl rfl) rfl ?_; refine za (zb rfl rfl rfl) rfl ?_; refine za (zb rfl rfl rfl) rfl ?_; refine za (ql rfl rfl rfl rfl (decide_eq_false (by omega))) rfl ?_; refine za (zm rfl rfl rfl rfl) rfl ?_; refine za (zb rfl rfl rfl) rfl ?_; refine za (zb rfl rfl rfl) rfl ?_; refine za (ql rfl rfl rfl rfl (decide_eq_false (by omega))) rfl ?_; refine za (zm rfl rfl rfl rfl) rfl ?_; refine za (zb rfl rfl rfl) rfl ?_; refine za (y9 L rfl rfl rfl rfl) rfl ?_; refine za (zl L (src_box rfl (List.Mem.head _)) rfl rfl rfl rfl) rfl ?_; refine za (ql rfl rfl rfl rfl (decide_eq_false (by omega))) rfl ?_; refine za (zm rfl rfl rfl rfl) rfl ?_; refine za (zb rfl rfl rfl) rfl ?_; refine za (y9 L rfl rfl rfl rfl) rfl ?_; refine za (zl L (src_box rfl (List.Mem.head _)) rfl rfl rfl rfl) rfl ?_; refine za (ql rfl rfl rfl rfl (decide_eq_false (by omega))) rfl ?_; refine za (zm rfl rfl rfl rfl) rfl ?_; refine za (zb rfl rfl rfl) rfl ?_; refine za (y9 L rfl rfl rfl rfl) rfl ?_; refine za (zl L (src_box rfl (List.Mem.head _)) rfl rfl rfl rfl) rfl ?_; refine za (ok_lenL L rfl rfl rfl rfl) rfl ?_; refine za (ql rfl rfl rfl rfl (decide_eq_false (by omega))) rfl ?_; refine za (zm rfl rfl rfl rfl) rfl ?_; refine zg ?_; refine zh ?_; refine zo rfl ?_; refine zt ?_; refine zh ?_; refine zf ?_
    obtain ⟨j1, j2, j3, j4⟩ := lv_ends
    have hw1 := TbR.mn (t := lvW)
    refine zd (id := 26) ?_; refine za (zu L (vs := [_, _]) (qw rfl) rfl rfl rfl rfl ⟨_, rfl⟩) rfl ?_; refine za (zu L (vs := [_, _, _, _, _, _]) (qw rfl) rfl rfl rfl rfl ⟨_, rfl⟩) rfl ?_; refine za (yb (cs := [_, _, _, _, _]) rfl rfl pl33 rfl rfl) rfl ?_; refine za (ok_call (φ := LvK lvW 1 false 0) L rfl rfl (zi rfl) rfl rfl rfl LvK.mono (fun u H hH hle _ => Ret.mono (join_ret (q := qS 0) (x := ⟨3, 0, 1, 0, 1⟩) hz6 (hs6.le hle) hzv.q (qS_z 0) (by omega) (by omega) hH) fun v H' _ h => (by have h2 := JoinP.tup h; unfold JoinS at h2; rw [j1, j2] at h2; exact h2))) rfl ?_; refine za (q0 rfl rfl rfl) rfl ?_; refine za (ok_extracts rfl rfl rfl rfl (by assumption)) rfl ?_; refine za (y5 rfl rfl rfl rfl) rfl ?_; refine za (y5 rfl rfl rfl rfl) rfl ?_; refine za (y5 rfl rfl rfl rfl) rfl ?_; refine za (qt L rfl rfl rfl rfl) rfl ?_; refine za (ok_storeX L (X := SlX) (tbxC lvW) (TbX lvW) TbX.mono tbx_st (fun _ => ⟨rfl, rfl⟩) rfl rfl rfl rfl rfl) rfl ?_; refine za (ze rfl rfl rfl) rfl ?_; refine za (ze rfl rfl rfl) rfl ?_; refine za (ze rfl rfl rfl) rfl ?_; refine zg ?_; refine zh ?_; refine zf ?_
    refine V_opnX 6 rfl fun ⟨p7, n7, c7⟩ H7 s7 ⟨zs7, hz7, hs7⟩ => ?_
    dsimp only [tbxC] at hs7 ⊢
    replace hz7 : zs7.map Prod.fst = (lvT 1).fl := hz7
    obtain ⟨m7, m8⟩ := lv_n 1 (by decide)
    have hl7 := fls_len hz7
    have hw2 := TbR.mn (t := T0)
    refine q8 (id := 27) [] mixed (by kernel_rfl) ?_; refine zc (zu L (vs := [_, _]) (qw rfl) rfl rfl rfl rfl ⟨_, rfl⟩) rfl ?_; refine zc (zu L (vs := [_, _, _, _, _, _]) (qw rfl) rfl rfl rfl rfl ⟨_, rfl⟩) rfl ?_; refine zc (q0 rfl rfl rfl) rfl ?_; refine zc (y8 L 0 rfl rfl rfl rfl rfl rfl rfl (by omega)) rfl ?_; refine zc (zu L (vs := [_, _, _, _, _]) (zn rfl) rfl rfl rfl rfl ⟨_, rfl⟩) rfl ?_; refine zc (ok_call (φ := LvK T0 0 false 4) L rfl rfl (zi rfl) rfl rfl rfl LvK.mono (fun u H hH hle _ => Ret.mono (join_ret (q := qS 0) (x := lvI 0) hz7 (hs7.le hle) (lv_tz 1).q (qS_z 0) (by omega) (by omega) hH) fun v H' _ h => (by have h2 := JoinP.tup h; unfold JoinS at h2; rw [jT0 (by rw [j3]; decide), j3] at h2; exact h2))) rfl ?_; refine zc (q0 rfl rfl rfl) rfl ?_; refine zc (ok_extracts rfl rfl rfl rfl (by assumption)) rfl ?_; refine zc (y5 rfl rfl rfl rfl) rfl ?_; refine zc (y5 rfl rfl rfl rfl) rfl ?_; refine zc (y5 rfl rfl rfl rfl) rfl ?_; refine zc (ze rfl rfl rfl) rfl ?_; refine qg ?_; refine zh ?_; refine zf ?_
    have hs8 := hs2.le ((((s3.le.trans s4.le).trans s5.le).trans s6.le).trans s7.le)
    refine q8 (id := 28) [] mixed (by kernel_rfl) ?_; refine zc (zu L (vs := [_, _]) (qw rfl) rfl rfl rfl rfl ⟨_, rfl⟩) rfl ?_; refine zc (yb (cs := [_, _, _, _, _, _]) rfl rfl pl30 rfl rfl) rfl ?_; refine zc (q0 rfl rfl rfl) rfl ?_; refine zc (y8 L 0 rfl rfl rfl rfl rfl rfl rfl (by omega)) rfl ?_; refine zc (zu L (vs := [_, _, _, _, _]) (zn rfl) rfl rfl rfl rfl ⟨_, rfl⟩) rfl ?_; refine zc (ok_call (φ := LvK T0 0 false 10) L rfl rfl (zi rfl) rfl rfl rfl LvK.mono (fun u H hH hle _ => Ret.mono (join_ret (q := ⟨0, ((⟨#[]⟩, ⟨#[]⟩), ⟨#[]⟩), U0⟩) (x := lvI 0) hz (hs8.le hle) (lv_tz 4).q (by exact ⟨⟨by decide, by decide⟩, by decide, by decide, by decide, by decide, by decide⟩) hn (by omega) hH) fun v H' _ h => (by have h2 := JoinP.tup h; unfold JoinS at h2; rw [jT0 (by rw [j4]; decide), j4] at h2; exact h2))) rfl ?_; refine zc (q0 rfl rfl rfl) rfl ?_; refine zc (ok_extracts rfl rfl rfl rfl (by assumption)) rfl ?_; refine zc (y5 rfl rfl rfl rfl) rfl ?_; refine zc (y5 rfl rfl rfl rfl) rfl ?_; refine zc (y5 rfl rfl rfl rfl) rfl ?_; refine zc (ze rfl rfl rfl) rfl ?_; refine qg ?_; refine zh ?_; refine zf ?_
    have hw3 := TbR.mn (t := cmT (lvT 4) 1 (-1))
    refine zd (id := 29) ?_; refine za (zu L (vs := [_, _]) (qw rfl) rfl rfl rfl rfl ⟨_, rfl⟩) rfl ?_; refine za (ok_call (φ := RTabS (cmT (lvT 4) 1 (-1)) 4) L rfl rfl (zi rfl) rfl rfl rfl RTabS.mono (fun u H hH hle _ => Ret.mono (commit_ret hz (hs8.le hle) (lv_tz 4).q hn (by omega) ⟨by decide, by decide⟩ hH) fun v H' _ h => (by have h2 := TabP.tup h; rw [r6] at h2; exact h2))) rfl ?_; refine za (q0 rfl rfl rfl) rfl ?_; refine za (ok_extracts rfl rfl rfl rfl (by assumption)) rfl ?_; refine za (y5 rfl rfl rfl rfl) rfl ?_; refine za (ze rfl rfl rfl) rfl ?_; refine zg ?_; refine zh ?_; refine zf ?_
    refine zd (id := 30) ?_; refine za (zb rfl rfl rfl) rfl ?_; refine za (qf rfl rfl rfl rfl (decide_eq_true (by omega))) rfl ?_; refine za (zb rfl rfl rfl) rfl ?_; refine za (zb rfl rfl rfl) rfl ?_; refine za (qf rfl rfl rfl rfl (decide_eq_true (by omega))) rfl ?_; refine za (zm rfl rfl rfl rfl) rfl ?_; refine za (zb rfl rfl rfl) rfl ?_; refine za (zb rfl rfl rfl) rfl ?_; refine za (ok_not rfl rfl rfl rfl) rfl ?_; refine za (zm rfl rfl rfl rfl) rfl ?_; refine za (zb rfl rfl rfl) rfl ?_; refine za (zb rfl rfl rfl) rfl ?_; refine za (qf rfl rfl rfl rfl (decide_eq_true (by omega))) rfl ?_; refine za (zm rfl rfl rfl rfl) rfl ?_; refine za (zb rfl rfl rfl) rfl ?_; refine za (zb rfl rfl rfl) rfl ?_; refine za (qf rfl rfl rfl rfl (decide_eq_true (by omega))) rfl ?_; refine za (zm rfl rfl rfl rfl) rfl ?_; refine za (zb rfl rfl rfl) rfl ?_; refine za (zb rfl rfl rfl) rfl ?_; refine za (qf rfl rfl rfl rfl (decide_eq_true (by omega))) rfl ?_; refine za (zm rfl rfl rfl rfl) rfl ?_; refine za (ze rfl rfl rfl) rfl ?_; refine zg ?_; refine zh ?_
    refine qh L (rs := [.tmp 0]) rfl (fun _ _ h => h) ((((((s1.trans s2).trans s3).trans s4).trans s5).trans s6).trans s7) fun u H hH hle => ?_
    rfl
end Go.V.L39
namespace Go.V.L39
open Go.Proofs Go.RowKit Go.V
structure TbI (B : Heap) (t : Tb) (s : Value) (zs : List (Fl × Value)) : Prop where
  fl : zs.map Prod.fst = t.fl
  sl : SlV tyF 14 (zs.flatMap flc) zs.length false s B
  is : ∀ (i : Nat) z, zs[i]? = some z → IsV z.1.is false z.2 B
  lz : ∀ f ∈ t.fl, f.is.length ≤ 4398046511104
  tz : TZ39 t
theorem TbI.le {B B' : Heap} {t : Tb} {s : Value} {zs : List (Fl × Value)} (h : TbI B t s zs) (hle : B.Le B') : TbI B' t s zs := ⟨h.fl, h.sl.le hle, fun i z hz => (h.is i z hz).le hle, h.lz, h.tz⟩
theorem itsN_max {m : Nat} : ∀ {l : List Fl}, (∀ f ∈ l, f.is.length ≤ m) → itsN l ≤ l.length * m
  | [], _ => Nat.zero_le _
  | f :: l, h => by
    have h1 := itsN_max (l := l) fun g hg => h g (List.mem_cons_of_mem _ hg)
    have h2 := h f (List.mem_cons_self ..)
    rw [List.length_cons, Nat.succ_mul]
    simp only [itsN, List.map_cons, List.sum_cons] at h1 ⊢
    omega
theorem TbI.fsb {B : Heap} {t : Tb} {s : Value} {zs : List (Fl × Value)} (h : TbI B t s zs) (hl : zs.length ≤ 30) : FsB zs false false s B ∧ itsN t.fl ≤ 131941395333120 := by
  refine ⟨⟨h.sl, h.is, by omega, fun i z hz => ?_⟩, ?_⟩
  · have := h.lz z.1 (by rw [← h.fl]; exact List.mem_map_of_mem (List.mem_of_getElem? hz))
    omega
  · have h1 := itsN_max h.lz
    have h2 := fls_len h.fl
    have h3 : t.fl.length * 4398046511104 ≤ 30 * 4398046511104 := Nat.mul_le_mul_right _ (by omega)
    omega
attribute [local irreducible] V N X VO Par StepOK Has Ret RetL RetO RetT RetG Src
theorem bnd_long {nx : Int} {xs : List Value} {n : Nat} {fu : Bool} {s : Value} (h : 30 < n) {w : World} {B : Heap} (hs : SlV tyF 14 xs n fu s B) (hB : B.Le (hp w)) :
    Ret Try.prog 9 [tbv nx s] w B (fun v _ => v = .bool false) := by
  refine y6 Try.func9 rfl Try.ntmps9 (Nat.le_of_ble_eq_true rfl) hB ?_
  refine zf ?_; refine zd (id := 0) ?_; refine za (qz rfl rfl rfl rfl) rfl ?_; refine za (ze rfl rfl rfl) rfl ?_; refine zg ?_; refine zh ?_; refine zf ?_; refine zd (id := 1) ?_; refine za (zk L rfl rfl rfl rfl) rfl ?_; refine za (StepOK.seeV (zl L (zn rfl) rfl rfl rfl rfl) (by assumption)) rfl ?_; refine za (y0 L rfl rfl rfl rfl) rfl ?_; refine za (ok_leq rfl rfl rfl rfl (decide_eq_false (by omega))) rfl ?_; refine za (zb rfl rfl rfl) rfl ?_; refine za (zj rfl (zi rfl) rfl) rfl ?_; refine za (zj rfl (zi rfl) rfl) rfl ?_; refine za (zj rfl (zi rfl) rfl) rfl ?_; refine za (zm rfl rfl rfl rfl) rfl ?_; refine za (ze rfl rfl rfl) rfl ?_; refine zg ?_; refine zh ?_
  refine qh L (rs := [.tmp 2]) rfl (fun _ _ h => h) Since.refl fun u H hH hle => ?_
  rfl
theorem bnd_law {t : Tb} {s : Value} {zs : List (Fl × Value)} {b : Bool} (hb : bndB t = b) {w : World} {B : Heap} (h : TbI B t s zs) (hB : B.Le (hp w)) :
    Ret Try.prog 9 [tbv t.nx s] w B (fun v _ => v = .bool b) := by
  by_cases hl : zs.length ≤ 30
  · obtain ⟨h1, h2⟩ := h.fsb hl
    exact bounded_law h.fl hb h1 (by omega) hB
  · obtain rfl : b = false := by
      rw [← hb]
      exact decide_eq_false fun hx => hl (by rw [fls_len h.fl]; exact hx.1)
    exact bnd_long (by omega) h.sl hB
theorem TbI.ok {B : Heap} {t : Tb} {s : Value} {zs : List (Fl × Value)} (h : TbI B t s zs) (hb : bndB t = true) : FsB zs false false s B ∧ itsN t.fl ≤ 60 ∧ zs.length ≤ 30 := by
  have h1 := of_decide_eq_true hb
  have h2 := fls_len h.fl
  exact ⟨(h.fsb (by omega)).1, h1.2, by omega⟩
end Go.V.L39
namespace Go.V
open Go.RowKit
inductive LeafK where
  | s
  | b
  | i (k : IntKind)
def LeafOK : LeafK → Value → Prop
  | .s, v => ∃ a : ByteArray, v = .string a ∧ a.size ≤ maxLen
  | .b, v => ∃ c, v = .bool c
  | .i k, v => ∃ n, v = .int k n ∧ (Lit.int k n).wf = true
def LeafsOK : List LeafK → List Value → Prop
  | [], [] => True
  | l :: ls, v :: vs => LeafOK l v ∧ LeafsOK ls vs
  | _, _ => False
theorem LeafsOK.append : ∀ {a b : List LeafK} {x y : List Value}, LeafsOK a x → LeafsOK b y → LeafsOK (a ++ b) (x ++ y)
  | [], _, [], _, _, h => h
  | [], _, _ :: _, _, h, _ => h.elim
  | _ :: _, _, [], _, h, _ => h.elim
  | _ :: _, _, _ :: _, _, h, k => ⟨h.1, LeafsOK.append h.2 k⟩
theorem LeafsOK.length : ∀ {a : List LeafK} {x : List Value}, LeafsOK a x → x.length = a.length
  | [], [], _ => rfl
  | [], _ :: _, h => h.elim
  | _ :: _, [], h => h.elim
  | _ :: _, _ :: _, h => by simp [LeafsOK.length h.2]
theorem leaf_s {ls : List LeafK} {vs : List Value} (h : LeafsOK (.s :: ls) vs) : ∃ a r, vs = .string a :: r ∧ a.size ≤ maxLen ∧ LeafsOK ls r := by
  cases vs with
  | nil => exact h.elim
  | cons v vs => obtain ⟨⟨a, rfl, ha⟩, h⟩ := h; exact ⟨a, vs, rfl, ha, h⟩
theorem leaf_i {k : IntKind} {ls : List LeafK} {vs : List Value} (h : LeafsOK (.i k :: ls) vs) : ∃ n r, vs = .int k n :: r ∧ (Lit.int k n).wf = true ∧ LeafsOK ls r := by
  cases vs with
  | nil => exact h.elim
  | cons v vs => obtain ⟨⟨a, rfl, ha⟩, h⟩ := h; exact ⟨a, vs, rfl, ha, h⟩
theorem leaf_nil {vs : List Value} (h : LeafsOK [] vs) : vs = [] := by
  cases vs with
  | nil => rfl
  | cons _ _ => exact h.elim
def leafF (P : Program) (rec : TypeId → Option (List LeafK)) : List Field → Nat → Option (List LeafK)
  | [], _ => some []
  | f :: fs, off => match rec f.type with
    | some ls => if f.offset = off ∧ P.cellsOf f.type = ls.length then
        match leafF P rec fs (off + ls.length) with
        | some r => some (ls ++ r)
        | none => none
      else none
    | none => none
def repL (ls : List LeafK) : Nat → List LeafK
  | 0 => []
  | n + 1 => ls ++ repL ls n
def leafI (P : Program) : Nat → TypeId → Option (List LeafK)
  | 0, _ => none
  | d + 1, t => match P.underlying t with
    | some .string => some [.s]
    | some (.int k) => some [.i k]
    | some .bool => some [.b]
    | some (.struct fs) => match leafF P (leafI P d) fs.toList 0 with
      | some ls => if P.cellsOf t = ls.length then some ls else none
      | none => none
    | some (.array n e) => match leafI P d e with
      | some ls => if P.cellsOf e = ls.length ∧ P.cellsOf t = (repL ls n).length then some (repL ls n) else none
      | none => none
    | _ => none
theorem mapM_all {α β : Type} {f : α → Option β} : ∀ {l : List α} {ys : List β}, l.mapM f = some ys → ∃ g : List β, g = ys ∧ (∀ x ∈ l, ∃ y, f x = some y ∧ y ∈ ys) ∧ (∀ y ∈ ys, ∃ x ∈ l, f x = some y)
  | [], ys, h => by
    simp at h; subst h
    exact ⟨_, rfl, by simp, by simp⟩
  | x :: l, ys, h => by
    rw [List.mapM_cons] at h
    cases hx : f x with
    | none => rw [hx] at h; cases h
    | some y =>
      rw [hx] at h
      cases hl : l.mapM f with
      | none => rw [hl] at h; cases h
      | some zs =>
        rw [hl] at h
        cases h
        obtain ⟨_, _, h1, h2⟩ := mapM_all hl
        refine ⟨_, rfl, fun z hz => ?_, fun z hz => ?_⟩
        · rcases List.mem_cons.1 hz with rfl | hz
          · exact ⟨y, hx, List.mem_cons_self ..⟩
          · obtain ⟨w, hw, hm⟩ := h1 z hz; exact ⟨w, hw, List.mem_cons_of_mem _ hm⟩
        · rcases List.mem_cons.1 hz with rfl | hz
          · exact ⟨x, List.mem_cons_self .., hx⟩
          · obtain ⟨w, hw, hm⟩ := h2 z hz; exact ⟨w, List.mem_cons_of_mem _ hw, hm⟩
theorem take_split (cs : List Value) (off m r : Nat) : (cs.drop off).take (m + r) = (cs.drop off).take m ++ (cs.drop (off + m)).take r := by
  rw [List.take_add, List.drop_drop]
section
variable {P : Program} {H : Type} {enc : TypeId × Value → H} {W : World} {sp : Nat → Bool} {held : Bool} {base : Nat}
theorem leaf_of_trod : ∀ (d : Nat) {t : TypeId} {ls : List LeafK}, leafI P d t = some ls → ∀ {fuel : Nat} {cs : List Value} {x : DataW H × List MemPlace},
    DataW.trod enc P W base sp held fuel t cs = some x → LeafsOK ls cs ∧ x.2 = []
  | 0, _, _, h, _, _, _, _ => by cases h
  | d + 1, t, ls, h, fuel, cs, x, hx => by
    have ih := @leaf_of_trod d
    cases fuel with
    | zero => simp [DataW.trod] at hx
    | succ fuel =>
      rw [leafI] at h
      unfold DataW.trod at hx
      cases hu : P.underlying t with
      | none => rw [hu] at h; cases h
      | some ds =>
        rw [hu] at h hx
        cases ds <;> first | (cases h; done) | skip
        · cases h
          match cs, hx with
          | [.bool b], hx => cases hx; exact ⟨⟨⟨b, rfl⟩, trivial⟩, rfl⟩
        · rename_i k
          cases h
          match cs, hx with
          | [.int k' m], hx =>
            simp only at hx
            split at hx
            · rename_i hk
              obtain ⟨rfl, hw⟩ := hk
              cases hx; exact ⟨⟨⟨m, rfl, hw⟩, trivial⟩, rfl⟩
            · cases hx
        · cases h
          match cs, hx with
          | [.string s], hx =>
            simp only at hx
            split at hx
            · rename_i hs; cases hx; exact ⟨⟨⟨s, rfl, hs⟩, trivial⟩, rfl⟩
            · cases hx
        · rename_i n e
          simp only at h hx
          split at h
          · rename_i l1 hl1
            split at h
            · rename_i hc
              cases h
              split at hx
              · rename_i hlen
                obtain ⟨xs, hxs, rfl⟩ := Option.map_eq_some_iff.1 hx
                obtain ⟨_, _, hall, hback⟩ := mapM_all hxs
                have each : ∀ i, i < n → LeafsOK l1 ((cs.drop (i * P.cellsOf e)).take (P.cellsOf e)) := fun i hi => by
                  obtain ⟨y, hy, _⟩ := hall i (List.mem_range.2 hi)
                  exact (ih hl1 hy).1
                have gen : ∀ m k, k + m = n → LeafsOK (repL l1 m) ((cs.drop (k * P.cellsOf e)).take (m * P.cellsOf e)) := by
                  intro m
                  induction m with
                  | zero => intro k _; simp [repL, LeafsOK]
                  | succ m ihm =>
                    intro k hk
                    rw [show (m + 1) * P.cellsOf e = P.cellsOf e + m * P.cellsOf e by rw [Nat.succ_mul]; omega, take_split]
                    refine LeafsOK.append (each k (by omega)) ?_
                    rw [show k * P.cellsOf e + P.cellsOf e = (k + 1) * P.cellsOf e by rw [Nat.succ_mul]]
                    exact ihm (k + 1) (by omega)
                refine ⟨?_, ?_⟩
                · have := gen n 0 (by omega)
                  have hrl : ∀ m, (repL l1 m).length = m * P.cellsOf e := by
                    intro m
                    induction m with
                    | zero => simp [repL]
                    | succ m ihm => simp only [repL, List.length_append, ihm, hc.1]; rw [Nat.succ_mul]; omega
                  rw [← hrl n, ← hc.2, ← hlen] at this
                  simpa using this
                · refine List.flatMap_eq_nil_iff.2 fun y hy => ?_
                  obtain ⟨i, _, hi⟩ := hback y hy
                  exact (ih hl1 hi).2
              · cases hx
            · cases h
          · cases h
        · rename_i fs
          simp only at h hx
          split at h
          · rename_i l1 hl1
            split at h
            · rename_i hc
              cases h
              split at hx
              · rename_i hlen
                obtain ⟨xs, hxs, rfl⟩ := Option.map_eq_some_iff.1 hx
                obtain ⟨_, _, hall, hback⟩ := mapM_all hxs
                have gen : ∀ (fl : List Field) (off : Nat) (ls : List LeafK), (∀ f ∈ fl, f ∈ fs.toList) → leafF P (leafI P d) fl off = some ls →
                    LeafsOK ls ((cs.drop off).take ls.length) ∧ ∀ f ∈ fl, ∃ l, leafI P d f.type = some l := by
                  intro fl
                  induction fl with
                  | nil => intro off ls _ h; cases h; simp [LeafsOK]
                  | cons f fl ihf =>
                    intro off ls hm h
                    simp only [leafF] at h
                    split at h
                    · rename_i l2 hl2
                      split at h
                      · rename_i hc2
                        obtain ⟨rfl, hc3⟩ := hc2
                        split at h
                        · rename_i r hr
                          cases h
                          obtain ⟨g1, g2⟩ := ihf _ _ (fun g hg => hm g (List.mem_cons_of_mem _ hg)) hr
                          refine ⟨?_, fun g hg => ?_⟩
                          · rw [List.length_append, take_split]
                            refine LeafsOK.append ?_ g1
                            obtain ⟨y, hy, _⟩ := hall f (hm f (List.mem_cons_self ..))
                            rw [← hc3]
                            exact (ih hl2 hy).1
                          · rcases List.mem_cons.1 hg with rfl | hg
                            · exact ⟨l2, hl2⟩
                            · exact g2 g hg
                        · cases h
                      · cases h
                    · cases h
                obtain ⟨g1, g2⟩ := gen fs.toList 0 _ (fun _ h => h) hl1
                refine ⟨?_, ?_⟩
                · rw [← hc, ← hlen] at g1; simpa using g1
                · refine List.flatMap_eq_nil_iff.2 fun y hy => ?_
                  obtain ⟨f, hf, hi⟩ := hback y hy
                  obtain ⟨l, hl⟩ := g2 f hf
                  exact (ih hl hi).2
              · cases hx
            · cases h
          · cases h
theorem open_one {t : TypeId} {k : IntKind} {b0 : Nat} {v : Value} {dd : DataW H} {ps : List MemPlace} (h : leafI P 20 t = some [.i k]) (hu : P.underlying t = some (.int k))
    (hval : Value.okWide P W .any b0 t v) (hd : DataW.Trod enc P W base sp held t v dd ps) : ∃ n, v = .int k n ∧ (Lit.int k n).wf = true ∧ ps = [] := by
  obtain ⟨fuel, hf⟩ := hd
  have h0 : Cell.ok P W .any b0 t v := by
    unfold Value.okWide at hval
    rw [hu] at hval
    unfold Cell.okWide at hval
    rw [hu] at hval
    exact hval
  unfold Cell.ok at h0
  rw [hu] at h0
  match v, h0 with
  | .int k' n, h0 =>
    obtain ⟨h1, h2⟩ := leaf_of_trod 20 h (by simpa [Value.cells] using hf)
    obtain ⟨n', r, g1, g2, g3⟩ := leaf_i h1
    cases g1
    exact ⟨n, rfl, g2, h2⟩
end
end Go.V
namespace Go.V
open Go.ChangeShapes Go.WideShapes Go.ChangeAt Go.ChangeMaps Go.RowKit
inductive Sh where
  | l (k : LeafK)
  | s (t e : TypeId) (ls : List LeafK)
def SlOK (H : Heap) (e : TypeId) (ls : List LeafK) (v : Value) : Prop := ∃ cs : List (List Value), (∀ c ∈ cs, LeafsOK ls c) ∧ cs.length ≤ maxLen ∧ SlV e ls.length cs.flatten cs.length false v H
def ShOK (H : Heap) : List Sh → List Value → Prop
  | [], vs => vs = []
  | .l k :: r, vs => ∃ v w, vs = v :: w ∧ LeafsOK [k] [v] ∧ ShOK H r w
  | .s _ e ls :: r, vs => ∃ v w, vs = v :: w ∧ SlOK H e ls v ∧ ShOK H r w
theorem ShOK.append {H : Heap} : ∀ {a b : List Sh} {x y : List Value}, ShOK H a x → ShOK H b y → ShOK H (a ++ b) (x ++ y)
  | [], _, _, _, hx, hy => by cases hx; exact hy
  | .l k :: a, _, _, _, ⟨v, w, e, h1, h2⟩, hy => by subst e; exact ⟨v, _, rfl, h1, ShOK.append h2 hy⟩
  | .s t e ls :: a, _, _, _, ⟨v, w, e', h1, h2⟩, hy => by subst e'; exact ⟨v, _, rfl, h1, ShOK.append h2 hy⟩
section
variable {P : Program} {H : Type} {enc : TypeId × Value → H} {W : World} {held : Bool}
end
end Go.V
namespace Go.V
open Go.ChangeShapes Go.WideShapes Go.ChangeAt Go.ChangeMaps Go.RowKit
section
variable {P : Program} {H : Type} {enc : TypeId × Value → H} {W : World} {held : Bool}
def Reads (enc : TypeId × Value → H) (P : Program) (W : World) (held : Bool) (t : TypeId) (n : Nat) (Φ : List Value → Prop) : Prop :=
  P.cellsOf t = n ∧ ∀ (fuel : Nat) (cs : List Value) (x : DataW H × List MemPlace), DataW.trod enc P W 0 (fun _ => true) held fuel t cs = some x → (x.1.weights P t).all (· ≤ reachBytes) = true → cs.length = n ∧ Φ cs
theorem reads_leaf {t : TypeId} {ls : List LeafK} (h : leafI P 20 t = some ls) (hc : P.cellsOf t = ls.length) : Reads enc P W held t ls.length (LeafsOK ls) :=
  ⟨hc, fun _ _ _ hx _ => ⟨(leaf_of_trod 20 h hx).1.length, (leaf_of_trod 20 h hx).1⟩⟩
def SlD (e : TypeId) (n by_ : Nat) (Φ : List Value → Prop) (Hh : Heap) (v : Value) : Prop := ∃ cs : List (List Value), (∀ c ∈ cs, c.length = n ∧ Φ c) ∧ cs.length ≤ maxLen ∧ cs.length * by_ ≤ reachBytes ∧ SlV e n cs.flatten cs.length false v Hh
theorem weights_all_mem {e : TypeId} : ∀ {l : List (DataW H)} {d : DataW H}, d ∈ l → ∀ n ∈ d.weights P e, n ∈ DataW.weightsAll P e l
  | d0 :: l, d, hd, n, hn => by
    simp only [DataW.weightsAll, List.mem_append]
    rcases List.mem_cons.1 hd with rfl | hd
    · exact .inl hn
    · exact .inr (weights_all_mem hd n hn)
theorem wt_sub {l m : List Nat} (h : l.all (· ≤ reachBytes) = true) (hs : ∀ n ∈ m, n ∈ l) : m.all (· ≤ reachBytes) = true :=
  List.all_eq_true.2 fun n hn => List.all_eq_true.1 h n (hs n hn)
theorem wt_at {ts : List TypeId} {ds : List (DataW H)} (h : (DataW.weightsEach P ts ds).all (· ≤ reachBytes) = true) (j : Nat) {t : TypeId} {d : DataW H} (ht : ts[j]? = some t) (hd : ds[j]? = some d) : (d.weights P t).all (· ≤ reachBytes) = true :=
  wt_sub h (DataW.weights_mem_each ht hd)
theorem reads_slice {t e : TypeId} {n : Nat} {Φ : List Value → Prop} (ht : P.underlying t = some (.slice e)) (hct : P.cellsOf t = 1) (he : Reads enc P W held e n Φ) (hn : 0 < n) :
    Reads enc P W held t 1 (fun vs => ∃ v, vs = [v] ∧ SlD e n (P.bytesOf e) Φ (hp W) v) := by
  refine ⟨hct, fun fuel cs x hf hw => ?_⟩
  rcases Deep.open_slice ht hf with ⟨rfl, _⟩ | ⟨a, len, cap, m, nn, D, Pl, rfl, _, h1, h2, hm, rfl, hx⟩
  · exact ⟨rfl, _, rfl, [], fun c h => (nomatch h), Nat.zero_le _, by simp, SlV.nil⟩
  refine ⟨rfl, _, rfl, ?_⟩
  simp only [if_true] at hm
  subst hm
  have hwe : (DataW.weights P t (DataW.slice ((List.range len).map D) ((List.range (m - len)).map fun j => D (len + j)))) = (len + (m - len)) * P.bytesOf e :: (DataW.weightsAll P e ((List.range len).map D) ++ DataW.weightsAll P e ((List.range (m - len)).map fun j => D (len + j))) := by
    rw [DataW.weights, ht]; simp
  simp only at hw
  rw [hwe] at hw
  have hb : (len + (m - len)) * P.bytesOf e ≤ reachBytes := by
    have := List.all_eq_true.1 hw _ (List.mem_cons_self ..)
    simpa using this
  have hwD : ∀ i, i < len → ((D i).weights P e).all (· ≤ reachBytes) = true := fun i hi => wt_sub hw fun k hk =>
    List.mem_cons_of_mem _ (List.mem_append_left _ (weights_all_mem (List.mem_map.2 ⟨i, List.mem_range.2 hi, rfl⟩) k hk))
  rcases Nat.eq_zero_or_pos m with h0 | h0
  · obtain rfl : len = 0 := by omega
    subst h0
    exact ⟨[], fun c h => (nomatch h), Nat.zero_le _, by simp, by simp, .inl ⟨rfl, _, rfl⟩⟩
  obtain ⟨he1, he2⟩ := he
  have hsp : a.spot = none ∧ ∃ c0 ty fr, W.heap[a.block]? = some (.cells c0 ty fr) := by
    obtain ⟨c, g1, _⟩ := hx 0 h0
    obtain ⟨_, g2, g3⟩ := World.cells?_some g1
    have g4 := g3 0 (by omega)
    have hc0 : ∃ v, c[0]? = some v := ⟨_, List.getElem?_eq_getElem (by omega)⟩
    obtain ⟨v, hv⟩ := hc0
    rw [hv] at g4
    have hadd : ((a.add (0 * P.cellsOf e)).add 0) = a := by
      rw [Nat.zero_mul]
      unfold Addr.add
      simp
    rw [hadd] at g4
    unfold World.cell? at g4
    split at g4
    · rename_i c1 ty fr hh
      split at g4
      · cases g4
      · rename_i hs
        exact ⟨by simpa using hs, _, _, _, hh⟩
    · cases g4
  obtain ⟨h3, cs, ty, fr, h4⟩ := hsp
  obtain ⟨C, hC⟩ := Deep.choose_lt (α := List Value) (n := m) (p := fun i c => W.cells? 0 (a.add (i * P.cellsOf e)) (P.cellsOf e) = some c ∧ (i < len → c.length = n ∧ Φ c)) (fun i hi => by
    obtain ⟨c, g1, g2⟩ := hx i hi
    exact ⟨c, g1, fun hl => he2 _ _ _ g2 (hwD i hl)⟩)
  have hln : ∀ i, i < len → (C i).length = n := fun i hi => ((hC i (by omega)).2 hi).1
  refine ⟨(List.range len).map C, fun c hc => ?_, by simp; omega, ?_, ?_⟩
  · obtain ⟨i, hi, rfl⟩ := List.mem_map.1 hc
    exact (hC i (by have := List.mem_range.1 hi; omega)).2 (List.mem_range.1 hi)
  · rw [List.length_map, List.length_range]
    exact Nat.le_trans (Nat.mul_le_mul_right _ (by omega)) hb
  · have hfl : ∀ k, k ≤ len → ((List.range k).map C).flatten.length = k * n := by
      intro k
      induction k with
      | zero => simp
      | succ k ih =>
        intro hk
        rw [List.range_succ, List.map_append, List.flatten_append, List.length_append, ih (by omega), Nat.succ_mul]
        simp [hln k (by omega)]
    refine ⟨by rw [hfl len (Nat.le_refl _), List.length_map, List.length_range], .inr ⟨a.block, a.off, m, cs, ty, fr, ?_, h4, ?_, by simpa using h1, fun h => by cases h⟩⟩
    · obtain ⟨ab, ao, asp⟩ := a
      simp only at h3
      subst h3
      simp
    · rw [hfl len (Nat.le_refl _)]
      have key : ∀ k, k ≤ len → (cs.toList.drop a.off).take (k * n) = ((List.range k).map C).flatten := by
        intro k
        induction k with
        | zero => simp
        | succ k ih =>
          intro hk
          rw [Nat.succ_mul, take_split, ih (by omega), List.range_succ, List.map_append, List.flatten_append]
          congr 1
          obtain ⟨_, g2, g3⟩ := World.cells?_some (hC k (by omega)).1
          simp only [List.map_cons, List.map_nil, List.flatten_cons, List.flatten_nil, List.append_nil]
          apply List.ext_getElem?
          intro j
          rcases Nat.lt_or_ge j n with hj | hj
          · have := g3 j (by omega)
            rw [← this, List.getElem?_take_of_lt hj, List.getElem?_drop]
            obtain ⟨ab, ao, asp⟩ := a
            simp only at h3
            subst h3
            rw [addr_add, addr_add, cell_of_heap h4]
            simp only [he1]
            rw [Array.getElem?_toList]
          · rw [List.getElem?_eq_none (by rw [List.length_take]; omega), List.getElem?_eq_none (by rw [hln k (by omega)]; exact hj)]
      exact key len (Nat.le_refl _)
def Parts : List (Nat × (List Value → Prop)) → List Value → Prop
  | [], vs => vs = []
  | (n, Φ) :: r, vs => ∃ a b, vs = a ++ b ∧ a.length = n ∧ Φ a ∧ Parts r b
inductive FieldsR (enc : TypeId × Value → H) (P : Program) (W : World) (held : Bool) : List Field → Nat → List (Nat × (List Value → Prop)) → Prop
  | nil {off : Nat} : FieldsR enc P W held [] off []
  | cons {f : Field} {fs : List Field} {off n : Nat} {Φ : List Value → Prop} {r : List (Nat × (List Value → Prop))} (ho : f.offset = off) (hr : Reads enc P W held f.type n Φ) (h : FieldsR enc P W held fs (off + n) r) : FieldsR enc P W held (f :: fs) off ((n, Φ) :: r)
def nsum : List (Nat × (List Value → Prop)) → Nat
  | [] => 0
  | p :: r => p.1 + nsum r
theorem reads_struct {t : TypeId} {fs : Array Field} {ps : List (Nat × (List Value → Prop))} (hu : P.underlying t = some (.struct fs)) (h : FieldsR enc P W held fs.toList 0 ps) (hc : P.cellsOf t = nsum ps) : Reads enc P W held t (nsum ps) (Parts ps) := by
  refine ⟨hc, fun fuel cs x hf hw => ?_⟩
  obtain ⟨xs, n, rfl, rfl, hl, hxl, hx⟩ := DataW.trod_struct hu hf
  have hwe : DataW.weights P t (DataW.agg (H := H) (xs.map (·.1))) = DataW.weightsEach P (fs.toList.map (·.type)) (xs.map (·.1)) := by
    rw [DataW.weights, hu]
  simp only at hw
  rw [hwe] at hw
  refine ⟨by rw [hl, hc], ?_⟩
  have gen : ∀ (fl : List Field) (i off : Nat) (ps : List (Nat × (List Value → Prop))), (∀ (j : Nat) f, fl[j]? = some f → fs[i + j]? = some f) → FieldsR enc P W held fl off ps → off + nsum ps = cs.length → Parts ps (cs.drop off) := by
    intro fl
    induction fl with
    | nil => intro i off ps _ h ho; cases h; simp only [nsum] at ho; simp only [Parts]; rw [List.drop_eq_nil_of_le (by omega)]
    | cons f fl ihf =>
      intro i off ps hm h ho
      cases h with
      | @cons _ _ _ n' Φ r h1 h2 h3 =>
      simp only [nsum] at ho
      have g0 := hm 0 f rfl
      rw [Nat.add_zero] at g0
      have g1 := hx i f g0
      have hi : i < xs.length := by
        rw [hxl]
        rcases Nat.lt_or_ge i fs.size with h | h
        · exact h
        · rw [Array.getElem?_eq_none h] at g0; cases g0
      rw [List.getElem?_eq_getElem hi, h1, h2.1] at g1
      have hwi : (xs[i].1.weights P f.type).all (· ≤ reachBytes) = true := wt_at hw i (by rw [List.getElem?_map, Array.getElem?_toList, g0]; rfl) (by rw [List.getElem?_map, List.getElem?_eq_getElem hi]; rfl)
      obtain ⟨g2, g3⟩ := h2.2 _ _ _ g1 hwi
      refine ⟨(cs.drop off).take n', cs.drop (off + n'), ?_, g2, g3, ihf (i + 1) (off + n') r (fun j f' hj => ?_) h3 (by omega)⟩
      · rw [← List.drop_drop, List.take_append_drop]
      · have := hm (j + 1) f' (by simpa using hj)
        rw [← this]; congr 1; omega
  have g := gen fs.toList 0 0 ps (fun j f hj => by rw [Nat.zero_add, ← Array.getElem?_toList]; exact hj) h (by rw [hl, hc]; omega)
  simpa using g
theorem open_agD {t : TypeId} {n b0 : Nat} {Φ : List Value → Prop} {v : Value} {dd : DataW H} {ps : List MemPlace} (h : Reads enc P W held t n Φ) (ha : (match P.underlying t with | some (.struct _) | some (.array _ _) => true | _ => false) = true)
    (hval : Value.okWide P W .any b0 t v) (hd : DataW.Trod enc P W 0 (fun _ => true) held t v dd ps) (hw : (dd.weights P t).all (· ≤ reachBytes) = true) : ∃ cs : List Value, v = .agg cs.toArray ∧ Φ cs := by
  obtain ⟨fuel, hf⟩ := hd
  have key : ∃ cs, v = .agg cs := by
    unfold Value.okWide at hval
    split at hval
    · obtain ⟨cs, h1, _⟩ := hval; exact ⟨cs, h1⟩
    · obtain ⟨cs, h1, _⟩ := hval; exact ⟨cs, h1⟩
    · rename_i h1 h2
      exfalso
      split at ha
      · rename_i x hx; exact h1 _ hx
      · rename_i x y hx; exact h2 _ _ hx
      · cases ha
  obtain ⟨cs, rfl⟩ := key
  exact ⟨cs.toList, by simp, (h.2 _ _ _ hf hw).2⟩
end
end Go.V
namespace Go.V.L39
open Go.Proofs Go.ChangeShapes Go.WideShapes Go.ChangeAt Go.ChangeMaps Go.RowKit Go.V
abbrev ItL : List LeafK := [.i .i64, .i .i64, .i .i64, .i .i64, .i .u64]
abbrev QuL : List LeafK := [.i .u8, .s, .s, .s, .s, .s]
abbrev ItsP (H : Heap) : List Value → Prop := fun vs => ∃ v, vs = [v] ∧ SlD tyI 5 (Try.prog.bytesOf tyI) (LeafsOK ItL) H v
abbrev FlPs (H : Heap) : List (Nat × (List Value → Prop)) := [(1, LeafsOK [.i .i64]), (1, LeafsOK [.i .u64]), (6, LeafsOK QuL), (1, LeafsOK [.i .i64]), (1, LeafsOK [.i .i64]), (1, LeafsOK [.i .i64]), (1, LeafsOK [.i .i64]), (1, LeafsOK [.i .i64]), (1, ItsP H)]
abbrev TbPs (H : Heap) : List (Nat × (List Value → Prop)) := [(1, LeafsOK [.i .i64]), (1, fun vs => ∃ v, vs = [v] ∧ SlD tyF 14 (Try.prog.bytesOf tyF) (Parts (FlPs H)) H v)]
section
variable {H : Type} {enc : TypeId × Value → H} {W : World} {held : Bool}
theorem reads_its : Reads enc Try.prog W held 47 1 (ItsP (hp W)) := reads_slice Try.underlying47 (by kernel_rfl) (reads_leaf (ls := ItL) (by kernel_rfl) (by kernel_rfl)) (by decide)
theorem reads_i64 : Reads enc Try.prog W held 3 1 (LeafsOK [.i .i64]) := reads_leaf (ls := [.i .i64]) (by kernel_rfl) (by kernel_rfl)
theorem reads_i64' : Reads enc Try.prog W held 2 1 (LeafsOK [.i .i64]) := reads_leaf (ls := [.i .i64]) (by kernel_rfl) (by kernel_rfl)
theorem reads_u64 : Reads enc Try.prog W held 31 1 (LeafsOK [.i .u64]) := reads_leaf (ls := [.i .u64]) (by kernel_rfl) (by kernel_rfl)
theorem reads_qu : Reads enc Try.prog W held tyQ 6 (LeafsOK QuL) := reads_leaf (ls := QuL) (by kernel_rfl) (by kernel_rfl)
theorem reads_fl : Reads enc Try.prog W held tyF 14 (Parts (FlPs (hp W))) := reads_struct Try.underlying49
  (.cons rfl reads_i64 (.cons rfl reads_u64 (.cons rfl reads_qu (.cons rfl reads_i64 (.cons rfl reads_i64 (.cons rfl reads_i64' (.cons rfl reads_i64 (.cons rfl reads_i64 (.cons rfl reads_its .nil))))))))) (by kernel_rfl)
theorem reads_fls : Reads enc Try.prog W held 22 1 (fun vs => ∃ v, vs = [v] ∧ SlD tyF 14 (Try.prog.bytesOf tyF) (Parts (FlPs (hp W))) (hp W) v) := reads_slice Try.underlying22 (by kernel_rfl) reads_fl (by decide)
theorem reads_tb : Reads enc Try.prog W held tyT 2 (Parts (TbPs (hp W))) := reads_struct Try.underlying24 (.cons rfl reads_i64 (.cons rfl reads_fls .nil)) (by kernel_rfl)
end
theorem by_it : Try.prog.bytesOf tyI = 40 := by kernel_rfl
theorem leaf_int {k : IntKind} {a : List Value} (h : LeafsOK [.i k] a) : ∃ z, a = [.int k z] ∧ (Lit.int k z).wf = true := by
  obtain ⟨z, r, rfl, h1, h2⟩ := leaf_i h
  obtain rfl := leaf_nil h2
  exact ⟨z, rfl, h1⟩
theorem max_len {n : Nat} (h : n ≤ maxLen) : n ≤ 9223372036854775807 := h
theorem qu_of {a : List Value} (h : LeafsOK QuL a) : ∃ q : Qu, a = quc q ∧ QuZ q := by
  obtain ⟨k, r, rfl, h0, h⟩ := leaf_i h
  obtain ⟨s1, r, rfl, h1, h⟩ := leaf_s h
  obtain ⟨s2, r, rfl, h2, h⟩ := leaf_s h
  obtain ⟨s3, r, rfl, h3, h⟩ := leaf_s h
  obtain ⟨s4, r, rfl, h4, h⟩ := leaf_s h
  obtain ⟨s5, r, rfl, h5, h⟩ := leaf_s h
  obtain rfl := leaf_nil h
  exact ⟨⟨k, ((s1, s2), s3), (s4, s5)⟩, rfl, Go.bounds_u8 h0, max_len h1, max_len h2, max_len h3, max_len h4, max_len h5⟩
theorem it_of {a : List Value} (h : LeafsOK ItL a) : ∃ x : It, a = itc x ∧ ItZ x := by
  obtain ⟨z1, r, rfl, h1, h⟩ := leaf_i h
  obtain ⟨z2, r, rfl, h2, h⟩ := leaf_i h
  obtain ⟨z3, r, rfl, h3, h⟩ := leaf_i h
  obtain ⟨z4, r, rfl, h4, h⟩ := leaf_i h
  obtain ⟨z5, r, rfl, h5, h⟩ := leaf_i h
  obtain rfl := leaf_nil h
  exact ⟨⟨z1, z2, z3, z4, z5⟩, rfl, Go.bounds_i64 h1, Go.bounds_i64 h2, Go.bounds_i64 h3, Go.bounds_i64 h4, Go.bounds_u64 h5⟩
theorem each_of {α : Type} {f : α → List Value} {Φ : List Value → Prop} {Ψ : α → Prop} (hf : ∀ c, Φ c → ∃ x, c = f x ∧ Ψ x) : ∀ (cs : List (List Value)), (∀ c ∈ cs, Φ c) → ∃ l : List α, cs.flatten = l.flatMap f ∧ l.length = cs.length ∧ ∀ x ∈ l, Ψ x
  | [], _ => ⟨[], rfl, rfl, fun x h => by cases h⟩
  | c :: cs, h => by
    obtain ⟨x, rfl, hx⟩ := hf c (h c (List.mem_cons_self ..))
    obtain ⟨l, h1, h2, h3⟩ := each_of hf cs fun d hd => h d (List.mem_cons_of_mem _ hd)
    exact ⟨x :: l, by rw [List.flatten_cons, List.flatMap_cons, h1], by rw [List.length_cons, List.length_cons, h2], fun y hy => by
      rcases List.mem_cons.1 hy with rfl | hy
      · exact hx
      · exact h3 y hy⟩
theorem its_of {H : Heap} {v : Value} (h : SlD tyI 5 (Try.prog.bytesOf tyI) (LeafsOK ItL) H v) : ∃ l : List It, IsV l false v H ∧ l.length ≤ 4398046511104 ∧ ∀ x ∈ l, ItZ x := by
  obtain ⟨cs, h1, h2, h3, h4⟩ := h
  obtain ⟨l, g1, g2, g3⟩ := each_of (f := itc) (Ψ := ItZ) (fun c hc => it_of hc) cs fun c hc => (h1 c hc).2
  rw [by_it] at h3
  rw [g1, ← g2] at h4
  exact ⟨l, h4, by unfold reachBytes at h3; omega, g3⟩
structure FlI (H : Heap) (z : Fl × Value) : Prop where
  is : IsV z.1.is false z.2 H
  ln : z.1.is.length ≤ 4398046511104
  z : FlZ z.1
theorem fl_of {H : Heap} {c : List Value} (h : Parts (FlPs H) c) : ∃ z : Fl × Value, c = flc z ∧ FlI H z := by
  obtain ⟨a1, b, rfl, -, h1, h⟩ := h
  obtain ⟨a2, b, rfl, -, h2, h⟩ := h
  obtain ⟨a3, b, rfl, -, h3, h⟩ := h
  obtain ⟨a4, b, rfl, -, h4, h⟩ := h
  obtain ⟨a5, b, rfl, -, h5, h⟩ := h
  obtain ⟨a6, b, rfl, -, h6, h⟩ := h
  obtain ⟨a7, b, rfl, -, h7, h⟩ := h
  obtain ⟨a8, b, rfl, -, h8, h⟩ := h
  obtain ⟨a9, b, rfl, -, ⟨v, rfl, h9⟩, rfl⟩ := h
  obtain ⟨z1, rfl, w1⟩ := leaf_int h1
  obtain ⟨z2, rfl, w2⟩ := leaf_int h2
  obtain ⟨q, rfl, w3⟩ := qu_of h3
  obtain ⟨z4, rfl, w4⟩ := leaf_int h4
  obtain ⟨z5, rfl, w5⟩ := leaf_int h5
  obtain ⟨z6, rfl, w6⟩ := leaf_int h6
  obtain ⟨z7, rfl, w7⟩ := leaf_int h7
  obtain ⟨z8, rfl, w8⟩ := leaf_int h8
  obtain ⟨l, g1, g2, g3⟩ := its_of h9
  exact ⟨(⟨z1, z2, q, z4, z5, z6, z7, z8, l⟩, v), rfl, g1, g2, Go.bounds_i64 w1, Go.bounds_u64 w2, w3, Go.bounds_i64 w4, Go.bounds_i64 w5, Go.bounds_i64 w6, Go.bounds_i64 w7, Go.bounds_i64 w8, g3⟩
theorem tb_of {H : Heap} {c : List Value} (h : Parts (TbPs H) c) : ∃ (t : Tb) (s : Value) (zs : List (Fl × Value)), c = [.int .i64 t.nx, s] ∧ TbI H t s zs ∧ TbZ t := by
  obtain ⟨a1, b, rfl, -, h1, h⟩ := h
  obtain ⟨a2, b, rfl, -, ⟨v, rfl, cs, g1, g2, g3, g4⟩, rfl⟩ := h
  obtain ⟨nx, rfl, w1⟩ := leaf_int h1
  obtain ⟨zs, e1, e2, e3⟩ := each_of (f := flc) (Ψ := FlI H) (fun c hc => fl_of hc) cs fun c hc => (g1 c hc).2
  rw [e1, ← e2] at g4
  refine ⟨⟨nx, zs.map Prod.fst⟩, v, zs, rfl, ⟨rfl, g4, fun i z hz => (e3 z (List.mem_of_getElem? hz)).is, fun f hf => ?_, fun f hf => ?_, fun f hf x hx => ?_⟩, Go.bounds_i64 w1, fun f hf => ?_⟩
  all_goals obtain ⟨z, hz, rfl⟩ := List.mem_map.1 hf
  · exact (e3 z hz).ln
  · exact (e3 z hz).z.q
  · exact ((e3 z hz).z.is x hx).rv.1
  · exact (e3 z hz).z
end Go.V.L39
namespace Go.V.L39
open Go.Proofs Go.RowKit Go.V
attribute [local irreducible] V N X VO Par StepOK Has Ret RetL RetO RetT RetG Src
end Go.V.L39
namespace Go.V.L39
open Go.Proofs Go.RowKit Go.V
theorem srtR_eq (l : List It) : srtR l = (revs l).mergeSort (fun x y => decide (x ≤ y)) := Go.Sort.sortInt (revs l)
theorem revs_nodup (l : List It) : (revs l).Nodup := by
  suffices ∀ (m : List It) (acc : List Int), acc.Nodup → (revsF acc m).Nodup from this l [] List.nodup_nil
  intro m
  induction m with
  | nil => exact fun acc h => h
  | cons x m ih =>
    intro acc h
    refine ih _ ?_
    dsimp only
    split
    · exact h
    · rename_i hx
      rw [List.nodup_append]
      exact ⟨h, List.pairwise_singleton _ _, fun a ha b hb => by
        rw [List.mem_singleton] at hb
        subst hb
        intro e; subst e; exact hx ha⟩
theorem srtR_perm (l : List It) : (srtR l).Perm (revs l) := by rw [srtR_eq]; exact List.mergeSort_perm _ _
theorem srtR_sorted (l : List It) : (srtR l).Pairwise fun a b => a < b := by
  have h1 : (srtR l).Pairwise fun a b => decide (a ≤ b) = true := by
    rw [srtR_eq]
    exact List.pairwise_mergeSort (le := fun x y : Int => decide (x ≤ y)) (fun a b c h1 h2 => by simp at *; omega) (fun a b => by simp; omega) _
  have h2 : (srtR l).Nodup := (srtR_perm l).nodup_iff.2 (revs_nodup l)
  exact (h1.and h2).imp fun ⟨h3, h4⟩ => by
    have := of_decide_eq_true h3
    omega
theorem pins_at {l : List It} {i : Nat} {p : Int × Nat} (h : (pins l)[i]? = some p) : (srtR l)[i]? = some p.1 ∧ p.2 = cntR p.1 l := by
  unfold pins at h
  rw [List.getElem?_map] at h
  cases hs : (srtR l)[i]? with
  | none => rw [hs] at h; cases h
  | some v => rw [hs] at h; cases h; exact ⟨rfl, rfl⟩
theorem pins_lt {l : List It} {i : Nat} {p q : Int × Nat} (h1 : (pins l)[i]? = some p) (h2 : (pins l)[i + 1]? = some q) : p.1 < q.1 := by
  have g1 := (pins_at h1).1
  have g2 := (pins_at h2).1
  have hs := List.pairwise_iff_getElem.1 (srtR_sorted l) i (i + 1) (get_lt g1) (get_lt g2) (Nat.lt_succ_self _)
  rw [List.getElem?_eq_getElem (get_lt g1)] at g1
  rw [List.getElem?_eq_getElem (get_lt g2)] at g2
  rw [Option.some.inj g1, Option.some.inj g2] at hs
  exact hs
theorem pins_pos {l : List It} {i : Nat} {p : Int × Nat} (h : (pins l)[i]? = some p) : 0 < p.2 ∧ ∃ x ∈ l, x.rv = p.1 := by
  obtain ⟨h1, h2⟩ := pins_at h
  have h3 : p.1 ∈ revs l := (srtR_perm l).mem_iff.1 (List.mem_of_getElem? h1)
  have h4 := (mem_revs l p.1).1 h3
  refine ⟨by omega, ?_⟩
  obtain ⟨x, hx, hv⟩ := List.countP_pos_iff.1 h4
  exact ⟨x, hx, of_decide_eq_true hv⟩
theorem sum_zero {l : List Nat} (h : ∀ a ∈ l, a = 0) : l.sum = 0 := by
  induction l with
  | nil => rfl
  | cons a l ih => rw [List.sum_cons, h a (List.mem_cons_self ..), ih fun b hb => h b (List.mem_cons_of_mem _ hb)]
theorem sum_ind {v : Int} : ∀ {vs : List Int}, vs.Nodup → v ∈ vs → (vs.map fun u => if v = u then 1 else 0).sum = 1
  | [], _, h => by cases h
  | u :: vs, hn, h => by
    rw [List.nodup_cons] at hn
    rw [List.map_cons, List.sum_cons]
    by_cases e : v = u
    · subst e
      have : (vs.map fun u => if v = u then 1 else 0).sum = 0 := by
        refine sum_zero fun a ha => ?_
        obtain ⟨b, hb, rfl⟩ := List.mem_map.1 ha
        exact if_neg fun e => hn.1 (by rw [e]; exact hb)
      rw [this, if_pos rfl]
    · rw [if_neg e, sum_ind hn.2 (by rcases List.mem_cons.1 h with h | h; exact absurd h e; exact h)]
theorem sum_add {α : Type} (f g : α → Nat) : ∀ l : List α, (l.map fun x => f x + g x).sum = (l.map f).sum + (l.map g).sum
  | [] => rfl
  | x :: l => by simp only [List.map_cons, List.sum_cons, sum_add f g l]; omega
theorem sum_cnt {vs : List Int} (hn : vs.Nodup) : ∀ {l : List It}, (∀ x ∈ l, x.rv ∈ vs) → (vs.map fun v => cntR v l).sum = l.length
  | [], _ => by
    refine (sum_zero fun a ha => ?_).trans rfl
    obtain ⟨b, hb, rfl⟩ := List.mem_map.1 ha
    rfl
  | x :: l, h => by
    have h1 := sum_cnt hn (l := l) fun y hy => h y (List.mem_cons_of_mem _ hy)
    have h2 : (vs.map fun v => cntR v (x :: l)) = vs.map fun v => cntR v l + if x.rv = v then 1 else 0 := List.map_congr_left fun v _ => by
      unfold cntR
      rw [List.countP_cons]
      congr 1
      by_cases e : x.rv = v <;> simp [e]
    rw [h2, sum_add, h1, sum_ind hn (h x (List.mem_cons_self ..)), List.length_cons]
theorem pins_sum (l : List It) : ((pins l).map Prod.snd).sum = l.length := by
  have h1 : (pins l).map Prod.snd = (srtR l).map fun v => cntR v l := by simp [pins]
  rw [h1, ((srtR_perm l).map _).sum_nat]
  exact sum_cnt (revs_nodup l) fun x hx => (mem_revs l x.rv).2 (List.countP_pos_iff.2 ⟨x, hx, decide_eq_true rfl⟩)
theorem pins_len (l : List It) : (pins l).length ≤ l.length := by
  have h1 := revs_len l
  have h2 := srt_len l
  unfold pins
  rw [List.length_map]
  omega
theorem sum_take {l : List Nat} (i : Nat) : (l.take i).sum ≤ l.sum := by
  have := congrArg List.sum (List.take_append_drop i l)
  rw [List.sum_append] at this
  omega
theorem sum_snoc {l : List Nat} {i x : Nat} (h : l[i]? = some x) : (l.take (i + 1)).sum = (l.take i).sum + x := by
  rw [take_snoc h, List.sum_append]; simp
theorem cntB_allI (p : It → Bool) (l : List Fl) : cntB p l = (allI l).countP p := by
  unfold cntB allI
  rw [List.countP_flatMap]
  rfl
theorem cnt_rev {v : Int} (h : v ≠ 0) (l : List Fl) : cntB (cntP (-1) v) l = cntR v (allI l) := by
  rw [cntB_allI]
  unfold cntR
  congr 1
  funext x
  simp [cntP, h]
theorem cnt_cl {cl : Int} (h : 0 ≤ cl) (l : List Fl) : cntB (cntP cl 0) l = cntB (fun x => decide (x.cl = cl)) l := by
  congr 1
  funext x
  have : cl ≠ -1 := by omega
  simp [cntP, this]
theorem rv_pos {t : Tb} (h : chkE t = 0) {x : It} (hx : x ∈ allI t.fl) : 0 < x.rv := by
  obtain ⟨f, hf, hxf⟩ := List.mem_flatMap.1 hx
  obtain ⟨i, hi⟩ := List.getElem?_of_mem hf
  have h1 := (memB_iff.1 ((chkE_iff.1 h).fl i f hi).mem).1 x hxf
  exact (itV_iff.1 h1).2.2.2.2.2.2.2.2
theorem filter_at {α : Type} {p : α → Bool} {l : List α} {i : Nat} {f : α} (h : l[i]? = some f) (hp : p f = true) : (l.filter p)[((l.take i).filter p).length]? = some f := by
  have e : l = l.take i ++ (f :: l.drop (i + 1)) := by
    have h1 := get_lt h
    rw [List.getElem?_eq_getElem h1] at h
    rw [← Option.some.inj h, ← List.drop_eq_getElem_cons h1, List.take_append_drop]
  have h2 : l.filter p = (l.take i).filter p ++ (f :: (l.drop (i + 1)).filter p) := by
    conv => lhs; rw [e]
    rw [List.filter_append, List.filter_cons_of_pos hp]
  rw [h2, List.getElem?_append_right (Nat.le_refl _), Nat.sub_self]
  rfl
end Go.V.L39
namespace Go.V.L39
open Go.Proofs Go.RowKit Go.V
def QuR (l : List Fl) (v : Value) (H : Heap) : Prop := ∃ sv, v = .agg #[sv] ∧ SlV tyE 3 (l.flatMap enc3) l.length true sv H
theorem QuR.mn {l : List Fl} : Kn.mono (.sat (QuR l)) := fun _ _ _ ⟨sv, h1, h2⟩ hle => ⟨sv, h1, h2.le hle⟩
abbrev QueS (l : List Fl) (e : Int) : Value → Heap → Prop := TupS [QuR l, fun v _ => v = .int .i64 e]
theorem QueS.mono {l : List Fl} {e : Int} : Kn.mono (.sat (QueS l e)) := TupS.mono fun φ h => by
  simp only [List.mem_cons, List.mem_nil_iff, or_false] at h
  rcases h with rfl | rfl
  · exact QuR.mn
  · exact eqv_mono
theorem QueP.tup {l : List Fl} {e : Int} {v : Value} {H : Heap} (h : QueP l e v H) : QueS l e v H := by
  obtain ⟨sv, rfl, h⟩ := h
  exact tup2 ⟨sv, rfl, h⟩ rfl
def quxC (x : SlX) : List Value := [.slice x.1 x.2.1 x.2.2]
def QuX (l : List Fl) (x : SlX) (H : Heap) : Prop := SlV tyE 3 (l.flatMap enc3) l.length true (.slice x.1 x.2.1 x.2.2) H
theorem QuX.mono {l : List Fl} : MonoX (QuX l) := fun _ _ _ h hle => SlV.mono _ _ _ h hle
theorem qux_st {l : List Fl} : ∀ v H, QuR l v H → ∃ x, QuX l x H ∧ cellsL v = quxC x := fun v H ⟨sv, h1, h2⟩ => by
  obtain ⟨p, c, hsv⟩ := slv_sh h2
  subst h1 hsv
  exact ⟨(p, l.length, c), h2, rfl⟩
attribute [local irreducible] V N X VO Par StepOK Has Ret RetL RetO RetT RetG Src
set_option maxHeartbeats 8000000 in
set_option maxRecDepth 20000 in
theorem counts_law {t : Tb} {s : Value} {zs : List (Fl × Value)} {cl : Int} {w : World} {B : Heap} (hI : TbI B t s zs) (hB : B.Le (hp w)) :
    Ret Try.prog 6 [tbv t.nx s, .int .i64 cl] w B (fun v _ => v = .bool true) := by
  obtain ⟨p0, c0, e0⟩ := slv_sh hI.sl
  subst e0
  refine y6 Try.func6 rfl Try.ntmps6 (Nat.le_of_ble_eq_true rfl) hB ?_
  cases hb : bndB t with
  | false =>
    refine zf ?_; refine zd (id := 0) ?_; refine za (qz rfl rfl rfl rfl) rfl ?_; refine za (ze rfl rfl rfl) rfl ?_; refine zg ?_; refine zh ?_; refine zf ?_; refine zf ?_; refine zd (id := 1) ?_; refine za (zu L (vs := [_, _]) (zn rfl) rfl rfl rfl rfl ⟨_, rfl⟩) rfl ?_; refine za (zq L rfl rfl (zi rfl) rfl rfl rfl (fun u H hH hle _ => bnd_law hb (hI.le hle) hH)) rfl ?_; refine za (ok_not rfl rfl rfl rfl) rfl ?_; refine zg ?_; refine zh ?_; refine zx rfl ?_; refine zf ?_; refine zd (id := 2) ?_; refine za (zq L rfl rfl (zi rfl) rfl rfl rfl (fun u H hH _ _ => lives_law hH)) rfl ?_; refine za (ze rfl rfl rfl) rfl ?_; refine zg ?_; refine zh ?_
    refine qh L (rs := [.tmp 4]) rfl (fun _ _ h => h) Since.refl fun u H hH hle => ?_
    rfl
  | true =>
    obtain ⟨hs, hn60, hl30⟩ := hI.ok hb
    have hz := hI.fl
    have hZ := hI.tz.q
    have hX := hI.tz.x
    have hn : itsN t.fl ≤ 4611686018427387904 := by omega
    have hn2 : itsN t.fl ≤ 9223372036854775807 := by omega
    have hlen := fls_len hz
    by_cases hc : chkE t = 0
    · by_cases hcl : 0 ≤ cl ∧ cl ≤ 15
      · obtain ⟨hcl0, hcl1⟩ := hcl
        have hck : ckE t cl = 0 := by unfold ckE; rw [if_neg (not_not_intro hc), if_pos ⟨hcl0, hcl1⟩]
        have hql : (quF t cl).length ≤ 30 := by have := List.length_filter_le (fun f => decide (f.cl = cl)) t.fl; unfold quF; omega
        have hqe : quErr t cl = 0 := by unfold quErr; rw [if_neg (not_not_intro hck), if_neg (by omega)]
        have hwt : ∀ {u : World} {H : Heap}, H.Le (hp u) → B.Le H → Ret Try.prog 29 [tbv t.nx (.slice p0 zs.length c0), .int .i64 cl] u H (fun v _ => v = .tuple #[.int .i64 ((cntB (fun x => decide (x.cl = cl)) t.fl : Nat)), .int .i64 (0)]) := fun hH hle => by have h9 := waiting_ret (cl := cl) hz (hs.le hle) hZ hn hH; rw [hck] at h9; exact h9
        have hpt : ∀ {u : World} {H : Heap}, H.Le (hp u) → B.Le H → Ret Try.prog 28 [tbv t.nx (.slice p0 zs.length c0)] u H (PinsS (pins (allI t.fl)) (0)) := fun hH hle => Ret.mono (pins_ret hz (hs.le hle) hZ hn hH) fun v H' _ h => (by have h9 := PinsP.tup h; rw [if_pos hc, hc] at h9; exact h9)
        have hqt : ∀ {u : World} {H : Heap}, H.Le (hp u) → B.Le H → Ret Try.prog 30 [tbv t.nx (.slice p0 zs.length c0), .int .i64 cl] u H (QueS (quF t cl) (0)) := fun hH hle => Ret.mono (queue_ret hz (hs.le hle) hZ hn (by omega) hH) fun v H' _ h => (by have h9 := QueP.tup h; rw [hqe] at h9; exact h9)
        have hmp := @SlV.mono tyP 2 (pins (allI t.fl) : List (Int × Nat)).length ((pins (allI t.fl) : List (Int × Nat)).flatMap pnc) true
        have hmq := QuR.mn (l := quF t cl)
        refine zf ?_; refine zd (id := 0) ?_; refine za (qz rfl rfl rfl rfl) rfl ?_; refine za (ze rfl rfl rfl) rfl ?_; refine zg ?_; refine zh ?_; refine zf ?_; refine zf ?_; refine zd (id := 1) ?_; refine za (zu L (vs := [_, _]) (zn rfl) rfl rfl rfl rfl ⟨_, rfl⟩) rfl ?_; refine za (zq L rfl rfl (zi rfl) rfl rfl rfl (fun u H hH hle _ => bnd_law hb (hI.le hle) hH)) rfl ?_; refine za (ok_not rfl rfl rfl rfl) rfl ?_; refine zg ?_; refine zh ?_; refine zo rfl ?_; refine zt ?_; refine zh ?_; refine zf ?_; refine zd (id := 3) ?_; refine za (zu L (vs := [_, _]) (zn rfl) rfl rfl rfl rfl ⟨_, rfl⟩) rfl ?_; refine za (zb rfl rfl rfl) rfl ?_; refine za (zq L rfl rfl (zi rfl) rfl rfl rfl (fun u H hH hle _ => hwt hH hle)) rfl ?_; refine za (zb rfl rfl rfl) rfl ?_; refine za (qv rfl rfl rfl rfl) rfl ?_; refine za (qv rfl rfl rfl rfl) rfl ?_; refine za (ze rfl rfl rfl) rfl ?_; refine za (ze rfl rfl rfl) rfl ?_; refine zg ?_; refine zh ?_; refine zf ?_
        refine zd (id := 4) ?_; refine za (zu L (vs := [_, _]) (zn rfl) rfl rfl rfl rfl ⟨_, rfl⟩) rfl ?_; refine za (ok_call (φ := PinsS (pins (allI t.fl)) (0)) L rfl rfl (zi rfl) rfl rfl rfl PinsS.mono (fun u H hH hle _ => hpt hH hle)) rfl ?_; refine za (q0 rfl rfl rfl) rfl ?_; refine za (ok_extracts rfl rfl rfl rfl (by assumption)) rfl ?_; refine za (y5 rfl rfl rfl rfl) rfl ?_; refine za (ok_assigns' rfl rfl rfl) rfl ?_; refine za (ze rfl rfl rfl) rfl ?_; refine zg ?_; refine zh ?_; refine zf ?_
        refine zd (id := 5) ?_; refine za (zu L (vs := [_, _]) (zn rfl) rfl rfl rfl rfl ⟨_, rfl⟩) rfl ?_; refine za (zb rfl rfl rfl) rfl ?_; refine za (ok_call (φ := QueS (quF t cl) (0)) L rfl rfl (zi rfl) rfl rfl rfl QueS.mono (fun u H hH hle _ => hqt hH hle)) rfl ?_; refine za (q0 rfl rfl rfl) rfl ?_; refine za (ok_extracts rfl rfl rfl rfl (by assumption)) rfl ?_; refine za (y5 rfl rfl rfl rfl) rfl ?_; refine za (qt L rfl rfl rfl rfl) rfl ?_; refine za (ok_storeX L (X := SlX) quxC (QuX (quF t cl)) QuX.mono qux_st (fun _ => ⟨rfl, rfl⟩) rfl rfl rfl rfl rfl) rfl ?_; refine za (ze rfl rfl rfl) rfl ?_; refine zg ?_; refine zh ?_; refine zf ?_
        refine V_opnX 9 rfl fun ⟨p2, n2, c2⟩ H2 s2 h2 => ?_
        obtain ⟨p3, c3, e3⟩ := slv_sh h2
        obtain ⟨rfl, rfl, rfl⟩ : p2 = p3 ∧ n2 = (quF t cl : List Fl).length ∧ c2 = c3 := by dsimp only at e3; cases e3; exact ⟨rfl, rfl, rfl⟩
        dsimp only [quxC] at h2 ⊢
        unfold QuX at h2
        dsimp only at h2
        refine V_pub 9 rfl ?_
        have hs2 := hs.le s2.le
        refine zd (id := 6) ?_; refine za (zu L (vs := [_, _]) (zn rfl) rfl rfl rfl rfl ⟨_, rfl⟩) rfl ?_; refine za (zq L rfl rfl (zi rfl) rfl rfl rfl (fun u H hH hle _ => rcheck_ret hz (hs2.le hle) hZ hX hn2 hc hH)) rfl ?_; refine za (ze rfl rfl rfl) rfl ?_; refine zg ?_; refine zh ?_; refine zf ?_; refine zf ?_
        have hps := pins_sum (allI t.fl)
        rw [itsN_allI] at hps
        have hpl : (pins (allI t.fl)).length ≤ 60 := by have := pins_len (allI t.fl); rw [itsN_allI] at this; omega
        refine zd (id := 7) ?_; refine za (zb rfl rfl rfl) rfl ?_; refine za (zb rfl rfl rfl) rfl ?_; refine za (ql rfl rfl rfl rfl (decide_eq_false (by omega))) rfl ?_; refine za (zb rfl rfl rfl) rfl ?_; refine za (zb rfl rfl rfl) rfl ?_; refine za (ql rfl rfl rfl rfl (decide_eq_false (by omega))) rfl ?_; refine za (zb rfl rfl rfl) rfl ?_; refine za (zj rfl (zi rfl) rfl) rfl ?_; refine za (zj rfl (zi rfl) rfl) rfl ?_; refine za (zj rfl (zi rfl) rfl) rfl ?_; refine za (zm rfl rfl rfl rfl) rfl ?_; refine za (zm rfl rfl rfl rfl) rfl ?_; refine zg ?_; refine zh ?_; refine zo rfl ?_; refine zt ?_; refine zh ?_; refine zf ?_; refine zf ?_; refine zd (id := 9) ?_; refine za (zb rfl rfl rfl) rfl ?_; refine za (qf rfl rfl rfl rfl (decide_eq_true (by omega))) rfl ?_; refine zg ?_; refine zh ?_; refine zx rfl ?_; refine zf ?_; refine zd (id := 10) ?_; refine za (ze rfl rfl rfl) rfl ?_; refine zg ?_; refine zh ?_; refine zf ?_; refine zf ?_; refine zd (id := 11) ?_; refine za (ze rfl rfl rfl) rfl ?_; refine zg ?_; refine zh ?_; refine zz ?_
        refine yd (fun i : Nat => [(1, .is (.int .i64 cl)), (2, .sat (At [.int .i64 t.nx, .slice p0 zs.length c0] tyT 0)), (5, .is (.int .i64 ((cntB (fun x => decide (x.cl = cl)) t.fl : Nat)))), (6, .is (.int .i64 (0))), (7, .sat (SlV tyP 2 ((pins (allI t.fl)).flatMap pnc) (pins (allI t.fl)).length true)), (9, .sat (At [.slice p2 (quF t cl : List Fl).length c2] 80 0)), (10, .is (.int .i64 (0))), (11, .is (.int .i64 0)), (12, .is (.int .i64 ((((pins (allI t.fl)).map Prod.snd).take i).sum : Nat))), (13, .is (.int .i64 i))]) (fun i => i ≤ (pins (allI t.fl)).length) (fun i => (pins (allI t.fl)).length - i) 0 (Nat.zero_le _) ⟨rfl, rfl, rfl, rfl, rfl, rfl, rfl, rfl, rfl, rfl, trivial⟩ ?_
        rintro i hi
        by_cases hlt : i < (pins (allI t.fl)).length
        · obtain ⟨p, hpi⟩ := get_some hlt
          obtain ⟨hp2, y, hy, hyv⟩ := pins_pos hpi
          have hp1 : 0 < p.1 := by rw [← hyv]; exact rv_pos hc hy
          have hc1 : (((pins (allI t.fl)).flatMap pnc).drop (i * 2)).take 2 = [.int .u64 p.1, .int .i64 p.2] := flatMap_at pnc_len _ i p hpi
          have hsum := sum_snoc (l := (pins (allI t.fl)).map Prod.snd) (i := i) (x := p.2) (by rw [List.getElem?_map, hpi]; rfl)
          have hsl := sum_take (l := (pins (allI t.fl)).map Prod.snd) (i + 1)
          have hadd : IntKind.i64.wrap ((((((pins (allI t.fl)).map Prod.snd).take i).sum : Nat) : Int) + ((p.2 : Nat) : Int)) = (((((pins (allI t.fl)).map Prod.snd).take (i + 1)).sum : Nat) : Int) := (wrap_i64 (by omega) (by omega)).trans (by omega)
          cases i with
          | zero =>
            refine zf ?_; refine zf ?_; refine zd (id := 12) ?_; refine za (zb rfl rfl rfl) rfl ?_; refine za (q0 rfl rfl rfl) rfl ?_; refine za (y0 L rfl rfl rfl rfl) rfl ?_; refine za (zw rfl rfl rfl rfl (decide_eq_true (by omega))) rfl ?_; refine zg ?_; refine zh ?_; refine zx rfl ?_; refine zt ?_; refine zh ?_; refine zf ?_; refine zz ?_; refine zf ?_; refine zf ?_; refine q8 (id := 14) [] mixed (by kernel_rfl) ?_; refine zc (zb rfl rfl rfl) rfl ?_; refine zc (qm rfl rfl rfl rfl (decide_eq_false (by omega))) rfl ?_; refine zc (zb rfl rfl rfl) rfl ?_; refine zc (zj rfl (zi rfl) rfl) rfl ?_; refine zc (zj rfl (zi rfl) rfl) rfl ?_; refine zc (zj rfl (zi rfl) rfl) rfl ?_; refine zc (zj rfl (zi rfl) rfl) rfl ?_; refine zc (zj rfl (zi rfl) rfl) rfl ?_; refine zc (zj rfl (zi rfl) rfl) rfl ?_; refine zc (zj rfl (zi rfl) rfl) rfl ?_; refine zc (zj rfl (zi rfl) rfl) rfl ?_; refine zc (zj rfl (zi rfl) rfl) rfl ?_; refine zc (zj rfl (zi rfl) rfl) rfl ?_; refine zc (zj rfl (zi rfl) rfl) rfl ?_; refine zc (zj rfl (zi rfl) rfl) rfl ?_; refine zc (zm rfl rfl rfl rfl) rfl ?_; refine zc (zb rfl rfl rfl) rfl ?_; refine zc (q0 rfl rfl rfl) rfl ?_; refine zc (zb rfl rfl rfl) rfl ?_; refine zc (qb L _ rfl rfl rfl rfl rfl rfl rfl (by first | omega | decide) (by assumption)) rfl ?_; refine zc (qk L rfl rfl rfl rfl) rfl ?_; refine zc (qn L rfl rfl rfl rfl rfl) rfl ?_; refine zc (zu L (vs := [_, _]) (zn rfl) rfl rfl rfl rfl ⟨_, rfl⟩) rfl ?_; refine zc (q0 rfl rfl rfl) rfl ?_; refine zc (zb rfl rfl rfl) rfl ?_; refine zc (qb L _ rfl rfl rfl rfl rfl rfl rfl (by first | omega | decide) (by assumption)) rfl ?_; refine zc (qk L rfl rfl rfl rfl) rfl ?_; refine zc (qn L rfl rfl rfl rfl rfl) rfl ?_; refine zc (zq (r := .int .i64 (p.2 : Nat)) L rfl rfl (zi rfl) rfl rfl rfl (fun u H hH hle _ => (by have h9 := rcount_ret (cl := -1) (rv := p.1) hz (hs2.le hle) hn hH; rw [cnt_rev (by omega), ← (pins_at hpi).2] at h9; exact h9))) rfl ?_; refine zc (ql rfl rfl rfl rfl (decide_eq_false (by omega))) rfl ?_; refine zc (zm rfl rfl rfl rfl) rfl ?_; refine zc (zb rfl rfl rfl) rfl ?_; refine zc (q0 rfl rfl rfl) rfl ?_; refine zc (zb rfl rfl rfl) rfl ?_; refine zc (qb L _ rfl rfl rfl rfl rfl rfl rfl (by first | omega | decide) (by assumption)) rfl ?_; refine zc (qk L rfl rfl rfl rfl) rfl ?_; refine zc (qn L rfl rfl rfl rfl rfl) rfl ?_; refine zc (zw rfl rfl rfl rfl (decide_eq_false (by omega))) rfl ?_; refine zc (zm rfl rfl rfl rfl) rfl ?_; refine qg ?_; refine zh ?_; refine zo rfl ?_; refine zt ?_; refine zh ?_; refine zd (id := 16) ?_; refine za (zb rfl rfl rfl) rfl ?_; refine za (q0 rfl rfl rfl) rfl ?_; refine za (zb rfl rfl rfl) rfl ?_; refine za (qb L _ rfl rfl rfl rfl rfl rfl rfl (by first | omega | decide) (by assumption)) rfl ?_; refine za (qk L rfl rfl rfl rfl) rfl ?_; refine za (qn L rfl rfl rfl rfl rfl) rfl ?_; refine za (q9 rfl rfl rfl rfl (by assumption)) rfl ?_; refine za (ze rfl rfl rfl) rfl ?_; refine zg ?_; refine qo ?_; refine zh ?_; refine zd (id := 13) ?_; refine za (zb rfl rfl rfl) rfl ?_; refine za (q9 rfl rfl rfl rfl (wrap_i64 (by omega) (by omega))) rfl ?_; refine za (ze rfl rfl rfl) rfl ?_; refine zg ?_
            exact qp (x := 0) 1 (by omega) (by omega) ⟨rfl, rfl, rfl, rfl, rfl, rfl, rfl, rfl, rfl, rfl, trivial⟩
          | succ k =>
            obtain ⟨p', hpk⟩ := get_some (show k < (pins (allI t.fl)).length by omega)
            have hlt2 := pins_lt hpk hpi
            have hc2 : (((pins (allI t.fl)).flatMap pnc).drop (k * 2)).take 2 = [.int .u64 p'.1, .int .i64 p'.2] := flatMap_at pnc_len _ k p' hpk
            have hw : IntKind.i64.wrap (((k + 1 : Nat) : Int) - 1) = (k : Int) := (wrap_i64 (by omega) (by omega)).trans (by omega)
            refine zf ?_; refine zf ?_; refine zd (id := 12) ?_; refine za (zb rfl rfl rfl) rfl ?_; refine za (q0 rfl rfl rfl) rfl ?_; refine za (y0 L rfl rfl rfl rfl) rfl ?_; refine za (zw rfl rfl rfl rfl (decide_eq_true (by omega))) rfl ?_; refine zg ?_; refine zh ?_; refine zx rfl ?_; refine zt ?_; refine zh ?_; refine zf ?_; refine zz ?_; refine zf ?_; refine zf ?_; refine q8 (id := 14) [] mixed (by kernel_rfl) ?_; refine zc (zb rfl rfl rfl) rfl ?_; refine zc (qm rfl rfl rfl rfl (decide_eq_true (by omega))) rfl ?_; refine zc (zb rfl rfl rfl) rfl ?_; refine zc (q0 rfl rfl rfl) rfl ?_; refine zc (zb rfl rfl rfl) rfl ?_; refine zc (qs rfl rfl rfl rfl (by assumption)) rfl ?_; refine zc (qb L _ rfl rfl rfl rfl rfl rfl rfl (by first | omega | decide) (by assumption)) rfl ?_; refine zc (qk L rfl rfl rfl rfl) rfl ?_; refine zc (qn L rfl rfl rfl rfl rfl) rfl ?_; refine zc (q0 rfl rfl rfl) rfl ?_; refine zc (zb rfl rfl rfl) rfl ?_; refine zc (qb L _ rfl rfl rfl rfl rfl rfl rfl (by first | omega | decide) (by assumption)) rfl ?_; refine zc (qk L rfl rfl rfl rfl) rfl ?_; refine zc (qn L rfl rfl rfl rfl rfl) rfl ?_; refine zc (y1 rfl rfl rfl rfl (decide_eq_false (by omega))) rfl ?_; refine zc (zm rfl rfl rfl rfl) rfl ?_; refine zc (zb rfl rfl rfl) rfl ?_; refine zc (q0 rfl rfl rfl) rfl ?_; refine zc (zb rfl rfl rfl) rfl ?_; refine zc (qb L _ rfl rfl rfl rfl rfl rfl rfl (by first | omega | decide) (by assumption)) rfl ?_; refine zc (qk L rfl rfl rfl rfl) rfl ?_; refine zc (qn L rfl rfl rfl rfl rfl) rfl ?_; refine zc (zu L (vs := [_, _]) (zn rfl) rfl rfl rfl rfl ⟨_, rfl⟩) rfl ?_; refine zc (q0 rfl rfl rfl) rfl ?_; refine zc (zb rfl rfl rfl) rfl ?_; refine zc (qb L _ rfl rfl rfl rfl rfl rfl rfl (by first | omega | decide) (by assumption)) rfl ?_; refine zc (qk L rfl rfl rfl rfl) rfl ?_; refine zc (qn L rfl rfl rfl rfl rfl) rfl ?_; refine zc (zq (r := .int .i64 (p.2 : Nat)) L rfl rfl (zi rfl) rfl rfl rfl (fun u H hH hle _ => (by have h9 := rcount_ret (cl := -1) (rv := p.1) hz (hs2.le hle) hn hH; rw [cnt_rev (by omega), ← (pins_at hpi).2] at h9; exact h9))) rfl ?_; refine zc (ql rfl rfl rfl rfl (decide_eq_false (by omega))) rfl ?_; refine zc (zm rfl rfl rfl rfl) rfl ?_; refine zc (zb rfl rfl rfl) rfl ?_; refine zc (q0 rfl rfl rfl) rfl ?_; refine zc (zb rfl rfl rfl) rfl ?_; refine zc (qb L _ rfl rfl rfl rfl rfl rfl rfl (by first | omega | decide) (by assumption)) rfl ?_; refine zc (qk L rfl rfl rfl rfl) rfl ?_; refine zc (qn L rfl rfl rfl rfl rfl) rfl ?_; refine zc (zw rfl rfl rfl rfl (decide_eq_false (by omega))) rfl ?_; refine zc (zm rfl rfl rfl rfl) rfl ?_; refine qg ?_; refine zh ?_; refine zo rfl ?_; refine zt ?_; refine zh ?_; refine zd (id := 16) ?_; refine za (zb rfl rfl rfl) rfl ?_; refine za (q0 rfl rfl rfl) rfl ?_; refine za (zb rfl rfl rfl) rfl ?_; refine za (qb L _ rfl rfl rfl rfl rfl rfl rfl (by first | omega | decide) (by assumption)) rfl ?_; refine za (qk L rfl rfl rfl rfl) rfl ?_; refine za (qn L rfl rfl rfl rfl rfl) rfl ?_; refine za (q9 rfl rfl rfl rfl (by assumption)) rfl ?_; refine za (ze rfl rfl rfl) rfl ?_; refine zg ?_; refine qo ?_; refine zh ?_; refine zd (id := 13) ?_; refine za (zb rfl rfl rfl) rfl ?_; refine za (q9 rfl rfl rfl rfl (wrap_i64 (by omega) (by omega))) rfl ?_; refine za (ze rfl rfl rfl) rfl ?_; refine zg ?_
            exact qp (x := k + 1) (k + 2) (by omega) (by omega) ⟨rfl, rfl, rfl, rfl, rfl, rfl, rfl, rfl, rfl, rfl, trivial⟩
        · obtain rfl : i = (pins (allI t.fl)).length := by omega
          have htk : ((((pins (allI t.fl)).map Prod.snd).take (pins (allI t.fl)).length).sum : Nat) = itsN t.fl := by rw [List.take_of_length_le (by simp), hps]
          rw [htk]
          refine zf ?_; refine zf ?_; refine zd (id := 12) ?_; refine za (zb rfl rfl rfl) rfl ?_; refine za (q0 rfl rfl rfl) rfl ?_; refine za (y0 L rfl rfl rfl rfl) rfl ?_; refine za (zw rfl rfl rfl rfl (decide_eq_false (by omega))) rfl ?_; refine zg ?_; refine zh ?_; refine zo rfl ?_; refine y3 ?_; refine qe ?_; refine qe ?_; refine y2 ?_; refine zh ?_; refine zf ?_; refine zf ?_; refine zd (id := 17) ?_; refine za (zb rfl rfl rfl) rfl ?_; refine za (zu L (vs := [_, _]) (zn rfl) rfl rfl rfl rfl ⟨_, rfl⟩) rfl ?_; refine za (zq L rfl rfl (zi rfl) rfl rfl rfl (fun u H hH hle _ => ritems_ret hz (hs2.le hle) hn2 hH)) rfl ?_; refine za (ql rfl rfl rfl rfl (decide_eq_false (by omega))) rfl ?_; refine zg ?_; refine zh ?_; refine zo rfl ?_; refine zt ?_; refine zh ?_; refine zf ?_; refine zd (id := 19) ?_; refine za (zb rfl rfl rfl) rfl ?_; refine za (zw rfl rfl rfl rfl (decide_eq_false (by omega))) rfl ?_; refine za (zb rfl rfl rfl) rfl ?_; refine za (zb rfl rfl rfl) rfl ?_; refine za (qm rfl rfl rfl rfl (decide_eq_false (by omega))) rfl ?_; refine za (zm rfl rfl rfl rfl) rfl ?_; refine zg ?_; refine zh ?_; refine zo rfl ?_; refine zt ?_; refine zh ?_; refine zf ?_; refine zf ?_
          refine zd (id := 21) ?_; refine za (zb rfl rfl rfl) rfl ?_; refine za (zb rfl rfl rfl) rfl ?_; refine za (ql rfl rfl rfl rfl (decide_eq_false (by omega))) rfl ?_; refine za (zb rfl rfl rfl) rfl ?_; refine za (zb rfl rfl rfl) rfl ?_; refine za (zb rfl rfl rfl) rfl ?_; refine za (ql rfl rfl rfl rfl (decide_eq_false (by omega))) rfl ?_; refine za (zm rfl rfl rfl rfl) rfl ?_; refine zg ?_; refine zh ?_; refine zo rfl ?_; refine zt ?_; refine zh ?_; refine zf ?_; refine zf ?_; refine zd (id := 23) ?_; refine za (zb rfl rfl rfl) rfl ?_; refine za (ql rfl rfl rfl rfl (decide_eq_false (by omega))) rfl ?_; refine zg ?_; refine zh ?_; refine zo rfl ?_; refine zt ?_; refine zh ?_; refine zf ?_; refine zd (id := 25) ?_; refine za (ze rfl rfl rfl) rfl ?_; refine zg ?_; refine zh ?_; refine zf ?_; refine zf ?_; refine zd (id := 26) ?_; refine za (ze rfl rfl rfl) rfl ?_; refine zg ?_; refine zh ?_; refine zz ?_
          refine yd (fun i : Nat => [(1, .is (.int .i64 cl)), (2, .sat (At [.int .i64 t.nx, .slice p0 zs.length c0] tyT 0)), (5, .is (.int .i64 (cntB (fun x => decide (x.cl = cl)) t.fl : Nat))), (9, .sat (At [.slice p2 (quF t cl).length c2] 80 0)), (14, .is (.int .i64 (((t.fl.take i).filter fun f => decide (f.cl = cl)).length : Nat))), (15, .is (.int .i64 i))]) (fun i => i ≤ zs.length) (fun i => zs.length - i) 0 (Nat.zero_le _) ⟨rfl, rfl, rfl, rfl, rfl, rfl, trivial⟩ ?_
          rintro i hi
          have hfl : ((t.fl.take i).filter fun f => decide (f.cl = cl)).length ≤ i := Nat.le_trans (List.length_filter_le _ _) (by rw [List.length_take]; omega)
          have hsl := hs2.sl
          by_cases hlt : i < zs.length
          · obtain ⟨f, pp, c, hzi, hli, hzv, hil, hc14⟩ := hs2.at hz hlt
            have hq1 := quF_take (cl := cl) hli
            refine zf ?_; refine zf ?_; refine zd (id := 27) ?_; refine za (zb rfl rfl rfl) rfl ?_; refine za (zk L rfl rfl rfl rfl) rfl ?_; refine za (StepOK.seeV (zl L (zn rfl) rfl rfl rfl rfl) (by assumption)) rfl ?_; refine za (y0 L rfl rfl rfl rfl) rfl ?_; refine za (zw rfl rfl rfl rfl (decide_eq_true (by omega))) rfl ?_; refine zg ?_; refine zh ?_; refine zx rfl ?_; refine zt ?_; refine zh ?_; refine zf ?_; refine zz ?_; refine zf ?_; refine zd (id := 29) ?_; refine za (zk L rfl rfl rfl rfl) rfl ?_; refine za (StepOK.seeV (zl L (zn rfl) rfl rfl rfl rfl) (by assumption)) rfl ?_; refine za (zb rfl rfl rfl) rfl ?_; refine za (qb L _ rfl rfl rfl rfl rfl rfl rfl (by first | omega | decide) (by assumption)) rfl ?_; refine za (ok_loadPA L (vs := [_, _, _, _, _, _, _, _, _, _, _, _, _, _]) rfl rfl rfl rfl rfl ⟨_, rfl⟩) rfl ?_; refine za (qt L rfl rfl rfl rfl) rfl ?_; refine za (qq L rfl rfl rfl rfl rfl rfl rfl rfl) rfl ?_; refine zg ?_; refine zh ?_; refine zf ?_
            refine V_pub 16 rfl ?_
            by_cases hfc : f.cl = cl
            · rw [if_pos hfc] at hq1
              have hqk : (quF t cl)[((t.fl.take i).filter fun f => decide (f.cl = cl)).length]? = some f := filter_at hli (decide_eq_true hfc)
              have hql2 := get_lt hqk
              have hqc : (((quF t cl).flatMap enc3).drop (((t.fl.take i).filter fun f => decide (f.cl = cl)).length * 3)).take 3 = [.int .i64 f.id, .int .i64 f.cs, .int .i64 f.si] := flatMap_at enc3_len _ _ f hqk
              have hq2 : ((t.fl.take (i + 1)).filter fun f => decide (f.cl = cl)).length = ((t.fl.take i).filter fun f => decide (f.cl = cl)).length + 1 := by rw [hq1]; simp
              refine zd (id := 30) ?_; refine za (zk L rfl rfl rfl rfl) rfl ?_; refine za (zl L (zn rfl) rfl rfl rfl rfl) rfl ?_; refine za (zb rfl rfl rfl) rfl ?_; refine za (qf rfl rfl rfl rfl (decide_eq_true (by omega))) rfl ?_; refine zg ?_; refine zh ?_; refine zx rfl ?_; refine zf ?_; refine zf ?_; refine q8 (id := 31) [] mixed (by kernel_rfl) ?_; refine zc (zb rfl rfl rfl) rfl ?_; refine zc (zk L rfl rfl rfl rfl) rfl ?_; refine zc (StepOK.seeV (zl L (zn rfl) rfl rfl rfl rfl) (by assumption)) rfl ?_; refine zc (y0 L rfl rfl rfl rfl) rfl ?_; refine zc (y1 rfl rfl rfl rfl (decide_eq_false (by omega))) rfl ?_; refine zc (zb rfl rfl rfl) rfl ?_; refine zc (zk L rfl rfl rfl rfl) rfl ?_; refine zc (StepOK.seeV (zl L (zn rfl) rfl rfl rfl rfl) (by assumption)) rfl ?_; refine zc (zb rfl rfl rfl) rfl ?_; refine zc (qb L _ rfl rfl rfl rfl rfl rfl rfl (by first | omega | decide) (by assumption)) rfl ?_; refine zc (qk L rfl rfl rfl rfl) rfl ?_; refine zc (qn L rfl rfl rfl rfl rfl) rfl ?_; refine zc (zk L rfl rfl rfl rfl) rfl ?_; refine zc (zl L (zn rfl) rfl rfl rfl rfl) rfl ?_; refine zc (ql rfl rfl rfl rfl (decide_eq_false (by omega))) rfl ?_; refine zc (zm rfl rfl rfl rfl) rfl ?_; refine zc (zb rfl rfl rfl) rfl ?_; refine zc (zk L rfl rfl rfl rfl) rfl ?_; refine zc (StepOK.seeV (zl L (zn rfl) rfl rfl rfl rfl) (by assumption)) rfl ?_; refine zc (zb rfl rfl rfl) rfl ?_; refine zc (qb L _ rfl rfl rfl rfl rfl rfl rfl (by first | omega | decide) (by assumption)) rfl ?_; refine zc (qk L rfl rfl rfl rfl) rfl ?_; refine zc (qn L rfl rfl rfl rfl rfl) rfl ?_; refine zc (zk L rfl rfl rfl rfl) rfl ?_; refine zc (zl L (zn rfl) rfl rfl rfl rfl) rfl ?_; refine zc (ql rfl rfl rfl rfl (decide_eq_false (by omega))) rfl ?_; refine zc (zm rfl rfl rfl rfl) rfl ?_; refine zc (zb rfl rfl rfl) rfl ?_; refine zc (zk L rfl rfl rfl rfl) rfl ?_; refine zc (StepOK.seeV (zl L (zn rfl) rfl rfl rfl rfl) (by assumption)) rfl ?_; refine zc (zb rfl rfl rfl) rfl ?_; refine zc (qb L _ rfl rfl rfl rfl rfl rfl rfl (by first | omega | decide) (by assumption)) rfl ?_; refine zc (qk L rfl rfl rfl rfl) rfl ?_; refine zc (qn L rfl rfl rfl rfl rfl) rfl ?_; refine zc (zk L rfl rfl rfl rfl) rfl ?_; refine zc (zl L (zn rfl) rfl rfl rfl rfl) rfl ?_; refine zc (ql rfl rfl rfl rfl (decide_eq_false (by omega))) rfl ?_; refine zc (zm rfl rfl rfl rfl) rfl ?_; refine qg ?_; refine zh ?_; refine zo rfl ?_; refine zt ?_; refine zh ?_; refine zd (id := 33) ?_; refine za (zb rfl rfl rfl) rfl ?_; refine za (q9 rfl rfl rfl rfl (wrap_i64 (by omega) (by omega))) rfl ?_; refine za (ze rfl rfl rfl) rfl ?_; refine zg ?_; refine qo ?_; refine zh ?_; refine zd (id := 28) ?_; refine za (zb rfl rfl rfl) rfl ?_; refine za (q9 rfl rfl rfl rfl (wrap_i64 (by omega) (by omega))) rfl ?_; refine za (ze rfl rfl rfl) rfl ?_; refine zg ?_
              exact qp (x := i) (i + 1) hlt (by omega) ⟨rfl, rfl, rfl, rfl, by rw [hq2]; rfl, rfl, trivial⟩
            · rw [if_neg hfc, List.append_nil] at hq1
              refine zd (id := 30) ?_; refine za (zk L rfl rfl rfl rfl) rfl ?_; refine za (zl L (zn rfl) rfl rfl rfl rfl) rfl ?_; refine za (zb rfl rfl rfl) rfl ?_; refine za (qf rfl rfl rfl rfl (decide_eq_false (by omega))) rfl ?_; refine zg ?_; refine zh ?_; refine zo rfl ?_; refine zt ?_; refine qo ?_; refine zh ?_; refine zd (id := 28) ?_; refine za (zb rfl rfl rfl) rfl ?_; refine za (q9 rfl rfl rfl rfl (wrap_i64 (by omega) (by omega))) rfl ?_; refine za (ze rfl rfl rfl) rfl ?_; refine zg ?_
              exact qp (x := i) (i + 1) hlt (by omega) ⟨rfl, rfl, rfl, rfl, by rw [hq1]; rfl, rfl, trivial⟩
          · obtain rfl : i = zs.length := by omega
            have htt : t.fl.take zs.length = t.fl := by rw [hlen, List.take_length]
            rw [htt] at hfl ⊢
            have hfe : (t.fl.filter fun f => decide (f.cl = cl)) = quF t cl := rfl
            rw [hfe] at hfl ⊢
            refine zf ?_; refine zf ?_; refine zd (id := 27) ?_; refine za (zb rfl rfl rfl) rfl ?_; refine za (zk L rfl rfl rfl rfl) rfl ?_; refine za (StepOK.seeV (zl L (zn rfl) rfl rfl rfl rfl) (by assumption)) rfl ?_; refine za (y0 L rfl rfl rfl rfl) rfl ?_; refine za (zw rfl rfl rfl rfl (decide_eq_false (by omega))) rfl ?_; refine zg ?_; refine zh ?_; refine zo rfl ?_; refine y3 ?_; refine qe ?_; refine qe ?_; refine y2 ?_; refine zh ?_; refine zf ?_; refine zd (id := 34) ?_; refine za (zb rfl rfl rfl) rfl ?_; refine za (zk L rfl rfl rfl rfl) rfl ?_; refine za (StepOK.seeV (zl L (zn rfl) rfl rfl rfl rfl) (by assumption)) rfl ?_; refine za (y0 L rfl rfl rfl rfl) rfl ?_; refine za (qf rfl rfl rfl rfl (decide_eq_true (by omega))) rfl ?_; refine za (zb rfl rfl rfl) rfl ?_; refine za (zk L rfl rfl rfl rfl) rfl ?_; refine za (StepOK.seeV (zl L (zn rfl) rfl rfl rfl rfl) (by assumption)) rfl ?_; refine za (ok_capV L rfl rfl rfl rfl) rfl ?_; refine za (zb rfl rfl rfl) rfl ?_; refine za (qf rfl rfl rfl rfl (decide_eq_true (by omega))) rfl ?_; refine za (zm rfl rfl rfl rfl) rfl ?_; refine za (zb rfl rfl rfl) rfl ?_; refine za (zb rfl rfl rfl) rfl ?_; refine za (zu L (vs := [_, _]) (zn rfl) rfl rfl rfl rfl ⟨_, rfl⟩) rfl ?_; refine za (zb rfl rfl rfl) rfl ?_; refine za (zq (r := .int .i64 (cntB (fun x => decide (x.cl = cl)) t.fl : Nat)) L rfl rfl (zi rfl) rfl rfl rfl (fun u H hH hle _ => (by have h9 := rcount_ret (cl := cl) (rv := 0) hz (hs2.le hle) hn hH; rw [cnt_cl hcl0] at h9; exact h9))) rfl ?_; refine za (qf rfl rfl rfl rfl (decide_eq_true (by omega))) rfl ?_; refine za (zm rfl rfl rfl rfl) rfl ?_; refine za (zb rfl rfl rfl) rfl ?_; refine za (zq L rfl rfl (zi rfl) rfl rfl rfl (fun u H hH _ _ => lives_law hH)) rfl ?_; refine za (zm rfl rfl rfl rfl) rfl ?_; refine za (ze rfl rfl rfl) rfl ?_; refine zg ?_; refine zh ?_
            refine qh L (rs := [.tmp 4]) rfl (fun _ _ h => h) s2 fun u H hH hle => ?_
            rfl
      · have hck : ckE t cl = 4 := by unfold ckE; rw [if_neg (not_not_intro hc), if_neg hcl]
        have hqe : quErr t cl = 4 := by unfold quErr; rw [if_pos (by rw [hck]; decide), hck]
        have hwt : ∀ {u : World} {H : Heap}, H.Le (hp u) → B.Le H → Ret Try.prog 29 [tbv t.nx (.slice p0 zs.length c0), .int .i64 cl] u H (fun v _ => v = .tuple #[.int .i64 (0), .int .i64 (4)]) := fun hH hle => by have h9 := waiting_ret (cl := cl) hz (hs.le hle) hZ hn hH; rw [hck] at h9; exact h9
        have hpt : ∀ {u : World} {H : Heap}, H.Le (hp u) → B.Le H → Ret Try.prog 28 [tbv t.nx (.slice p0 zs.length c0)] u H (PinsS (pins (allI t.fl)) (0)) := fun hH hle => Ret.mono (pins_ret hz (hs.le hle) hZ hn hH) fun v H' _ h => (by have h9 := PinsP.tup h; rw [if_pos hc, hc] at h9; exact h9)
        have hqt : ∀ {u : World} {H : Heap}, H.Le (hp u) → B.Le H → Ret Try.prog 30 [tbv t.nx (.slice p0 zs.length c0), .int .i64 cl] u H (QueS ([]) (4)) := fun hH hle => Ret.mono (queue_ret hz (hs.le hle) hZ hn (by omega) hH) fun v H' _ h => (by have h9 := QueP.tup h; rw [hqe] at h9; exact h9)
        have hmp := @SlV.mono tyP 2 (pins (allI t.fl) : List (Int × Nat)).length ((pins (allI t.fl) : List (Int × Nat)).flatMap pnc) true
        have hmq := QuR.mn (l := [])
        refine zf ?_; refine zd (id := 0) ?_; refine za (qz rfl rfl rfl rfl) rfl ?_; refine za (ze rfl rfl rfl) rfl ?_; refine zg ?_; refine zh ?_; refine zf ?_; refine zf ?_; refine zd (id := 1) ?_; refine za (zu L (vs := [_, _]) (zn rfl) rfl rfl rfl rfl ⟨_, rfl⟩) rfl ?_; refine za (zq L rfl rfl (zi rfl) rfl rfl rfl (fun u H hH hle _ => bnd_law hb (hI.le hle) hH)) rfl ?_; refine za (ok_not rfl rfl rfl rfl) rfl ?_; refine zg ?_; refine zh ?_; refine zo rfl ?_; refine zt ?_; refine zh ?_; refine zf ?_; refine zd (id := 3) ?_; refine za (zu L (vs := [_, _]) (zn rfl) rfl rfl rfl rfl ⟨_, rfl⟩) rfl ?_; refine za (zb rfl rfl rfl) rfl ?_; refine za (zq L rfl rfl (zi rfl) rfl rfl rfl (fun u H hH hle _ => hwt hH hle)) rfl ?_; refine za (zb rfl rfl rfl) rfl ?_; refine za (qv rfl rfl rfl rfl) rfl ?_; refine za (qv rfl rfl rfl rfl) rfl ?_; refine za (ze rfl rfl rfl) rfl ?_; refine za (ze rfl rfl rfl) rfl ?_; refine zg ?_; refine zh ?_; refine zf ?_
        refine zd (id := 4) ?_; refine za (zu L (vs := [_, _]) (zn rfl) rfl rfl rfl rfl ⟨_, rfl⟩) rfl ?_; refine za (ok_call (φ := PinsS (pins (allI t.fl)) (0)) L rfl rfl (zi rfl) rfl rfl rfl PinsS.mono (fun u H hH hle _ => hpt hH hle)) rfl ?_; refine za (q0 rfl rfl rfl) rfl ?_; refine za (ok_extracts rfl rfl rfl rfl (by assumption)) rfl ?_; refine za (y5 rfl rfl rfl rfl) rfl ?_; refine za (ok_assigns' rfl rfl rfl) rfl ?_; refine za (ze rfl rfl rfl) rfl ?_; refine zg ?_; refine zh ?_; refine zf ?_
        refine zd (id := 5) ?_; refine za (zu L (vs := [_, _]) (zn rfl) rfl rfl rfl rfl ⟨_, rfl⟩) rfl ?_; refine za (zb rfl rfl rfl) rfl ?_; refine za (ok_call (φ := QueS ([]) (4)) L rfl rfl (zi rfl) rfl rfl rfl QueS.mono (fun u H hH hle _ => hqt hH hle)) rfl ?_; refine za (q0 rfl rfl rfl) rfl ?_; refine za (ok_extracts rfl rfl rfl rfl (by assumption)) rfl ?_; refine za (y5 rfl rfl rfl rfl) rfl ?_; refine za (qt L rfl rfl rfl rfl) rfl ?_; refine za (ok_storeX L (X := SlX) quxC (QuX ([])) QuX.mono qux_st (fun _ => ⟨rfl, rfl⟩) rfl rfl rfl rfl rfl) rfl ?_; refine za (ze rfl rfl rfl) rfl ?_; refine zg ?_; refine zh ?_; refine zf ?_
        refine V_opnX 9 rfl fun ⟨p2, n2, c2⟩ H2 s2 h2 => ?_
        obtain ⟨p3, c3, e3⟩ := slv_sh h2
        obtain ⟨rfl, rfl, rfl⟩ : p2 = p3 ∧ n2 = ([] : List Fl).length ∧ c2 = c3 := by dsimp only at e3; cases e3; exact ⟨rfl, rfl, rfl⟩
        dsimp only [quxC] at h2 ⊢
        unfold QuX at h2
        dsimp only at h2
        refine V_pub 9 rfl ?_
        have hs2 := hs.le s2.le
        refine zd (id := 6) ?_; refine za (zu L (vs := [_, _]) (zn rfl) rfl rfl rfl rfl ⟨_, rfl⟩) rfl ?_; refine za (zq L rfl rfl (zi rfl) rfl rfl rfl (fun u H hH hle _ => rcheck_ret hz (hs2.le hle) hZ hX hn2 hc hH)) rfl ?_; refine za (ze rfl rfl rfl) rfl ?_; refine zg ?_; refine zh ?_; refine zf ?_; refine zf ?_
        have hps := pins_sum (allI t.fl)
        rw [itsN_allI] at hps
        have hpl : (pins (allI t.fl)).length ≤ 60 := by have := pins_len (allI t.fl); rw [itsN_allI] at this; omega
        refine zd (id := 7) ?_; refine za (zb rfl rfl rfl) rfl ?_; refine za (zb rfl rfl rfl) rfl ?_; refine za (ql rfl rfl rfl rfl (decide_eq_false (by omega))) rfl ?_; refine za (zb rfl rfl rfl) rfl ?_; refine za (zb rfl rfl rfl) rfl ?_; refine za (ql rfl rfl rfl rfl (decide_eq_false (by omega))) rfl ?_; refine za (zb rfl rfl rfl) rfl ?_; refine za (zj rfl (zi rfl) rfl) rfl ?_; refine za (zj rfl (zi rfl) rfl) rfl ?_; refine za (zj rfl (zi rfl) rfl) rfl ?_; refine za (zm rfl rfl rfl rfl) rfl ?_; refine za (zm rfl rfl rfl rfl) rfl ?_; refine zg ?_; refine zh ?_; refine zo rfl ?_; refine zt ?_; refine zh ?_; refine zf ?_; refine zf ?_; refine zd (id := 9) ?_; refine za (zb rfl rfl rfl) rfl ?_; refine za (qf rfl rfl rfl rfl (decide_eq_true (by omega))) rfl ?_; refine zg ?_; refine zh ?_; refine zx rfl ?_; refine zf ?_; refine zd (id := 10) ?_; refine za (ze rfl rfl rfl) rfl ?_; refine zg ?_; refine zh ?_; refine zf ?_; refine zf ?_; refine zd (id := 11) ?_; refine za (ze rfl rfl rfl) rfl ?_; refine zg ?_; refine zh ?_; refine zz ?_
        refine yd (fun i : Nat => [(1, .is (.int .i64 cl)), (2, .sat (At [.int .i64 t.nx, .slice p0 zs.length c0] tyT 0)), (5, .is (.int .i64 (0))), (6, .is (.int .i64 (4))), (7, .sat (SlV tyP 2 ((pins (allI t.fl)).flatMap pnc) (pins (allI t.fl)).length true)), (9, .sat (At [.slice p2 ([] : List Fl).length c2] 80 0)), (10, .is (.int .i64 (4))), (11, .is (.int .i64 0)), (12, .is (.int .i64 ((((pins (allI t.fl)).map Prod.snd).take i).sum : Nat))), (13, .is (.int .i64 i))]) (fun i => i ≤ (pins (allI t.fl)).length) (fun i => (pins (allI t.fl)).length - i) 0 (Nat.zero_le _) ⟨rfl, rfl, rfl, rfl, rfl, rfl, rfl, rfl, rfl, rfl, trivial⟩ ?_
        rintro i hi
        by_cases hlt : i < (pins (allI t.fl)).length
        · obtain ⟨p, hpi⟩ := get_some hlt
          obtain ⟨hp2, y, hy, hyv⟩ := pins_pos hpi
          have hp1 : 0 < p.1 := by rw [← hyv]; exact rv_pos hc hy
          have hc1 : (((pins (allI t.fl)).flatMap pnc).drop (i * 2)).take 2 = [.int .u64 p.1, .int .i64 p.2] := flatMap_at pnc_len _ i p hpi
          have hsum := sum_snoc (l := (pins (allI t.fl)).map Prod.snd) (i := i) (x := p.2) (by rw [List.getElem?_map, hpi]; rfl)
          have hsl := sum_take (l := (pins (allI t.fl)).map Prod.snd) (i + 1)
          have hadd : IntKind.i64.wrap ((((((pins (allI t.fl)).map Prod.snd).take i).sum : Nat) : Int) + ((p.2 : Nat) : Int)) = (((((pins (allI t.fl)).map Prod.snd).take (i + 1)).sum : Nat) : Int) := (wrap_i64 (by omega) (by omega)).trans (by omega)
          cases i with
          | zero =>
            refine zf ?_; refine zf ?_; refine zd (id := 12) ?_; refine za (zb rfl rfl rfl) rfl ?_; refine za (q0 rfl rfl rfl) rfl ?_; refine za (y0 L rfl rfl rfl rfl) rfl ?_; refine za (zw rfl rfl rfl rfl (decide_eq_true (by omega))) rfl ?_; refine zg ?_; refine zh ?_; refine zx rfl ?_; refine zt ?_; refine zh ?_; refine zf ?_; refine zz ?_; refine zf ?_; refine zf ?_; refine q8 (id := 14) [] mixed (by kernel_rfl) ?_; refine zc (zb rfl rfl rfl) rfl ?_; refine zc (qm rfl rfl rfl rfl (decide_eq_false (by omega))) rfl ?_; refine zc (zb rfl rfl rfl) rfl ?_; refine zc (zj rfl (zi rfl) rfl) rfl ?_; refine zc (zj rfl (zi rfl) rfl) rfl ?_; refine zc (zj rfl (zi rfl) rfl) rfl ?_; refine zc (zj rfl (zi rfl) rfl) rfl ?_; refine zc (zj rfl (zi rfl) rfl) rfl ?_; refine zc (zj rfl (zi rfl) rfl) rfl ?_; refine zc (zj rfl (zi rfl) rfl) rfl ?_; refine zc (zj rfl (zi rfl) rfl) rfl ?_; refine zc (zj rfl (zi rfl) rfl) rfl ?_; refine zc (zj rfl (zi rfl) rfl) rfl ?_; refine zc (zj rfl (zi rfl) rfl) rfl ?_; refine zc (zj rfl (zi rfl) rfl) rfl ?_; refine zc (zm rfl rfl rfl rfl) rfl ?_; refine zc (zb rfl rfl rfl) rfl ?_; refine zc (q0 rfl rfl rfl) rfl ?_; refine zc (zb rfl rfl rfl) rfl ?_; refine zc (qb L _ rfl rfl rfl rfl rfl rfl rfl (by first | omega | decide) (by assumption)) rfl ?_; refine zc (qk L rfl rfl rfl rfl) rfl ?_; refine zc (qn L rfl rfl rfl rfl rfl) rfl ?_; refine zc (zu L (vs := [_, _]) (zn rfl) rfl rfl rfl rfl ⟨_, rfl⟩) rfl ?_; refine zc (q0 rfl rfl rfl) rfl ?_; refine zc (zb rfl rfl rfl) rfl ?_; refine zc (qb L _ rfl rfl rfl rfl rfl rfl rfl (by first | omega | decide) (by assumption)) rfl ?_; refine zc (qk L rfl rfl rfl rfl) rfl ?_; refine zc (qn L rfl rfl rfl rfl rfl) rfl ?_; refine zc (zq (r := .int .i64 (p.2 : Nat)) L rfl rfl (zi rfl) rfl rfl rfl (fun u H hH hle _ => (by have h9 := rcount_ret (cl := -1) (rv := p.1) hz (hs2.le hle) hn hH; rw [cnt_rev (by omega), ← (pins_at hpi).2] at h9; exact h9))) rfl ?_; refine zc (ql rfl rfl rfl rfl (decide_eq_false (by omega))) rfl ?_; refine zc (zm rfl rfl rfl rfl) rfl ?_; refine zc (zb rfl rfl rfl) rfl ?_; refine zc (q0 rfl rfl rfl) rfl ?_; refine zc (zb rfl rfl rfl) rfl ?_; refine zc (qb L _ rfl rfl rfl rfl rfl rfl rfl (by first | omega | decide) (by assumption)) rfl ?_; refine zc (qk L rfl rfl rfl rfl) rfl ?_; refine zc (qn L rfl rfl rfl rfl rfl) rfl ?_; refine zc (zw rfl rfl rfl rfl (decide_eq_false (by omega))) rfl ?_; refine zc (zm rfl rfl rfl rfl) rfl ?_; refine qg ?_; refine zh ?_; refine zo rfl ?_; refine zt ?_; refine zh ?_; refine zd (id := 16) ?_; refine za (zb rfl rfl rfl) rfl ?_; refine za (q0 rfl rfl rfl) rfl ?_; refine za (zb rfl rfl rfl) rfl ?_; refine za (qb L _ rfl rfl rfl rfl rfl rfl rfl (by first | omega | decide) (by assumption)) rfl ?_; refine za (qk L rfl rfl rfl rfl) rfl ?_; refine za (qn L rfl rfl rfl rfl rfl) rfl ?_; refine za (q9 rfl rfl rfl rfl (by assumption)) rfl ?_; refine za (ze rfl rfl rfl) rfl ?_; refine zg ?_; refine qo ?_; refine zh ?_; refine zd (id := 13) ?_; refine za (zb rfl rfl rfl) rfl ?_; refine za (q9 rfl rfl rfl rfl (wrap_i64 (by omega) (by omega))) rfl ?_; refine za (ze rfl rfl rfl) rfl ?_; refine zg ?_
            exact qp (x := 0) 1 (by omega) (by omega) ⟨rfl, rfl, rfl, rfl, rfl, rfl, rfl, rfl, rfl, rfl, trivial⟩
          | succ k =>
            obtain ⟨p', hpk⟩ := get_some (show k < (pins (allI t.fl)).length by omega)
            have hlt2 := pins_lt hpk hpi
            have hc2 : (((pins (allI t.fl)).flatMap pnc).drop (k * 2)).take 2 = [.int .u64 p'.1, .int .i64 p'.2] := flatMap_at pnc_len _ k p' hpk
            have hw : IntKind.i64.wrap (((k + 1 : Nat) : Int) - 1) = (k : Int) := (wrap_i64 (by omega) (by omega)).trans (by omega)
            refine zf ?_; refine zf ?_; refine zd (id := 12) ?_; refine za (zb rfl rfl rfl) rfl ?_; refine za (q0 rfl rfl rfl) rfl ?_; refine za (y0 L rfl rfl rfl rfl) rfl ?_; refine za (zw rfl rfl rfl rfl (decide_eq_true (by omega))) rfl ?_; refine zg ?_; refine zh ?_; refine zx rfl ?_; refine zt ?_; refine zh ?_; refine zf ?_; refine zz ?_; refine zf ?_; refine zf ?_; refine q8 (id := 14) [] mixed (by kernel_rfl) ?_; refine zc (zb rfl rfl rfl) rfl ?_; refine zc (qm rfl rfl rfl rfl (decide_eq_true (by omega))) rfl ?_; refine zc (zb rfl rfl rfl) rfl ?_; refine zc (q0 rfl rfl rfl) rfl ?_; refine zc (zb rfl rfl rfl) rfl ?_; refine zc (qs rfl rfl rfl rfl (by assumption)) rfl ?_; refine zc (qb L _ rfl rfl rfl rfl rfl rfl rfl (by first | omega | decide) (by assumption)) rfl ?_; refine zc (qk L rfl rfl rfl rfl) rfl ?_; refine zc (qn L rfl rfl rfl rfl rfl) rfl ?_; refine zc (q0 rfl rfl rfl) rfl ?_; refine zc (zb rfl rfl rfl) rfl ?_; refine zc (qb L _ rfl rfl rfl rfl rfl rfl rfl (by first | omega | decide) (by assumption)) rfl ?_; refine zc (qk L rfl rfl rfl rfl) rfl ?_; refine zc (qn L rfl rfl rfl rfl rfl) rfl ?_; refine zc (y1 rfl rfl rfl rfl (decide_eq_false (by omega))) rfl ?_; refine zc (zm rfl rfl rfl rfl) rfl ?_; refine zc (zb rfl rfl rfl) rfl ?_; refine zc (q0 rfl rfl rfl) rfl ?_; refine zc (zb rfl rfl rfl) rfl ?_; refine zc (qb L _ rfl rfl rfl rfl rfl rfl rfl (by first | omega | decide) (by assumption)) rfl ?_; refine zc (qk L rfl rfl rfl rfl) rfl ?_; refine zc (qn L rfl rfl rfl rfl rfl) rfl ?_; refine zc (zu L (vs := [_, _]) (zn rfl) rfl rfl rfl rfl ⟨_, rfl⟩) rfl ?_; refine zc (q0 rfl rfl rfl) rfl ?_; refine zc (zb rfl rfl rfl) rfl ?_; refine zc (qb L _ rfl rfl rfl rfl rfl rfl rfl (by first | omega | decide) (by assumption)) rfl ?_; refine zc (qk L rfl rfl rfl rfl) rfl ?_; refine zc (qn L rfl rfl rfl rfl rfl) rfl ?_; refine zc (zq (r := .int .i64 (p.2 : Nat)) L rfl rfl (zi rfl) rfl rfl rfl (fun u H hH hle _ => (by have h9 := rcount_ret (cl := -1) (rv := p.1) hz (hs2.le hle) hn hH; rw [cnt_rev (by omega), ← (pins_at hpi).2] at h9; exact h9))) rfl ?_; refine zc (ql rfl rfl rfl rfl (decide_eq_false (by omega))) rfl ?_; refine zc (zm rfl rfl rfl rfl) rfl ?_; refine zc (zb rfl rfl rfl) rfl ?_; refine zc (q0 rfl rfl rfl) rfl ?_; refine zc (zb rfl rfl rfl) rfl ?_; refine zc (qb L _ rfl rfl rfl rfl rfl rfl rfl (by first | omega | decide) (by assumption)) rfl ?_; refine zc (qk L rfl rfl rfl rfl) rfl ?_; refine zc (qn L rfl rfl rfl rfl rfl) rfl ?_; refine zc (zw rfl rfl rfl rfl (decide_eq_false (by omega))) rfl ?_; refine zc (zm rfl rfl rfl rfl) rfl ?_; refine qg ?_; refine zh ?_; refine zo rfl ?_; refine zt ?_; refine zh ?_; refine zd (id := 16) ?_; refine za (zb rfl rfl rfl) rfl ?_; refine za (q0 rfl rfl rfl) rfl ?_; refine za (zb rfl rfl rfl) rfl ?_; refine za (qb L _ rfl rfl rfl rfl rfl rfl rfl (by first | omega | decide) (by assumption)) rfl ?_; refine za (qk L rfl rfl rfl rfl) rfl ?_; refine za (qn L rfl rfl rfl rfl rfl) rfl ?_; refine za (q9 rfl rfl rfl rfl (by assumption)) rfl ?_; refine za (ze rfl rfl rfl) rfl ?_; refine zg ?_; refine qo ?_; refine zh ?_; refine zd (id := 13) ?_; refine za (zb rfl rfl rfl) rfl ?_; refine za (q9 rfl rfl rfl rfl (wrap_i64 (by omega) (by omega))) rfl ?_; refine za (ze rfl rfl rfl) rfl ?_; refine zg ?_
            exact qp (x := k + 1) (k + 2) (by omega) (by omega) ⟨rfl, rfl, rfl, rfl, rfl, rfl, rfl, rfl, rfl, rfl, trivial⟩
        · obtain rfl : i = (pins (allI t.fl)).length := by omega
          have htk : ((((pins (allI t.fl)).map Prod.snd).take (pins (allI t.fl)).length).sum : Nat) = itsN t.fl := by rw [List.take_of_length_le (by simp), hps]
          rw [htk]
          rcases (by omega : cl < 0 ∨ (0 ≤ cl ∧ 15 < cl)) with hcl0 | ⟨hcl0, hcl1⟩
          · refine zf ?_; refine zf ?_; refine zd (id := 12) ?_; refine za (zb rfl rfl rfl) rfl ?_; refine za (q0 rfl rfl rfl) rfl ?_; refine za (y0 L rfl rfl rfl rfl) rfl ?_; refine za (zw rfl rfl rfl rfl (decide_eq_false (by omega))) rfl ?_; refine zg ?_; refine zh ?_; refine zo rfl ?_; refine y3 ?_; refine qe ?_; refine qe ?_; refine y2 ?_; refine zh ?_; refine zf ?_; refine zf ?_; refine zd (id := 17) ?_; refine za (zb rfl rfl rfl) rfl ?_; refine za (zu L (vs := [_, _]) (zn rfl) rfl rfl rfl rfl ⟨_, rfl⟩) rfl ?_; refine za (zq L rfl rfl (zi rfl) rfl rfl rfl (fun u H hH hle _ => ritems_ret hz (hs2.le hle) hn2 hH)) rfl ?_; refine za (ql rfl rfl rfl rfl (decide_eq_false (by omega))) rfl ?_; refine zg ?_; refine zh ?_; refine zo rfl ?_; refine zt ?_; refine zh ?_; refine zf ?_; refine zd (id := 19) ?_; refine za (zb rfl rfl rfl) rfl ?_; refine za (zw rfl rfl rfl rfl (decide_eq_true (by omega))) rfl ?_; refine za (zb rfl rfl rfl) rfl ?_; refine za (zj rfl (zi rfl) rfl) rfl ?_; refine za (zj rfl (zi rfl) rfl) rfl ?_; refine za (zm rfl rfl rfl rfl) rfl ?_; refine zg ?_; refine zh ?_; refine zx rfl ?_; refine zd (id := 20) ?_; refine za (ze rfl rfl rfl) rfl ?_; refine zg ?_; refine zh ?_; refine zf ?_; refine zf ?_
            refine zd (id := 21) ?_; refine za (zb rfl rfl rfl) rfl ?_; refine za (zb rfl rfl rfl) rfl ?_; refine za (ql rfl rfl rfl rfl (decide_eq_false (by omega))) rfl ?_; refine za (zb rfl rfl rfl) rfl ?_; refine za (zb rfl rfl rfl) rfl ?_; refine za (zb rfl rfl rfl) rfl ?_; refine za (ql rfl rfl rfl rfl (decide_eq_false (by omega))) rfl ?_; refine za (zm rfl rfl rfl rfl) rfl ?_; refine zg ?_; refine zh ?_; refine zo rfl ?_; refine zt ?_; refine zh ?_; refine zf ?_; refine zf ?_; refine zd (id := 23) ?_; refine za (zb rfl rfl rfl) rfl ?_; refine za (ql rfl rfl rfl rfl (decide_eq_true (by omega))) rfl ?_; refine zg ?_; refine zh ?_; refine zx rfl ?_; refine zf ?_; refine zd (id := 24) ?_; refine za (zb rfl rfl rfl) rfl ?_; refine za (qf rfl rfl rfl rfl (decide_eq_true (by omega))) rfl ?_; refine za (zb rfl rfl rfl) rfl ?_; refine za (zk L rfl rfl rfl rfl) rfl ?_; refine za (StepOK.seeV (zl L (zn rfl) rfl rfl rfl rfl) (by assumption)) rfl ?_; refine za (y0 L rfl rfl rfl rfl) rfl ?_; refine za (qf rfl rfl rfl rfl rfl) rfl ?_; refine za (zm rfl rfl rfl rfl) rfl ?_; refine za (zb rfl rfl rfl) rfl ?_; refine za (zq L rfl rfl (zi rfl) rfl rfl rfl (fun u H hH _ _ => lives_law hH)) rfl ?_; refine za (zm rfl rfl rfl rfl) rfl ?_; refine za (ze rfl rfl rfl) rfl ?_; refine zg ?_; refine zh ?_
            refine qh L (rs := [.tmp 4]) rfl (fun _ _ h => h) s2 fun u H hH hle => ?_
            rfl
          · refine zf ?_; refine zf ?_; refine zd (id := 12) ?_; refine za (zb rfl rfl rfl) rfl ?_; refine za (q0 rfl rfl rfl) rfl ?_; refine za (y0 L rfl rfl rfl rfl) rfl ?_; refine za (zw rfl rfl rfl rfl (decide_eq_false (by omega))) rfl ?_; refine zg ?_; refine zh ?_; refine zo rfl ?_; refine y3 ?_; refine qe ?_; refine qe ?_; refine y2 ?_; refine zh ?_; refine zf ?_; refine zf ?_; refine zd (id := 17) ?_; refine za (zb rfl rfl rfl) rfl ?_; refine za (zu L (vs := [_, _]) (zn rfl) rfl rfl rfl rfl ⟨_, rfl⟩) rfl ?_; refine za (zq L rfl rfl (zi rfl) rfl rfl rfl (fun u H hH hle _ => ritems_ret hz (hs2.le hle) hn2 hH)) rfl ?_; refine za (ql rfl rfl rfl rfl (decide_eq_false (by omega))) rfl ?_; refine zg ?_; refine zh ?_; refine zo rfl ?_; refine zt ?_; refine zh ?_; refine zf ?_; refine zd (id := 19) ?_; refine za (zb rfl rfl rfl) rfl ?_; refine za (zw rfl rfl rfl rfl (decide_eq_false (by omega))) rfl ?_; refine za (zb rfl rfl rfl) rfl ?_; refine za (zb rfl rfl rfl) rfl ?_; refine za (qm rfl rfl rfl rfl (decide_eq_true (by omega))) rfl ?_; refine za (zm rfl rfl rfl rfl) rfl ?_; refine zg ?_; refine zh ?_; refine zx rfl ?_; refine zd (id := 20) ?_; refine za (ze rfl rfl rfl) rfl ?_; refine zg ?_; refine zh ?_; refine zf ?_; refine zf ?_
            refine zd (id := 21) ?_; refine za (zb rfl rfl rfl) rfl ?_; refine za (zb rfl rfl rfl) rfl ?_; refine za (ql rfl rfl rfl rfl (decide_eq_false (by omega))) rfl ?_; refine za (zb rfl rfl rfl) rfl ?_; refine za (zb rfl rfl rfl) rfl ?_; refine za (zb rfl rfl rfl) rfl ?_; refine za (ql rfl rfl rfl rfl (decide_eq_false (by omega))) rfl ?_; refine za (zm rfl rfl rfl rfl) rfl ?_; refine zg ?_; refine zh ?_; refine zo rfl ?_; refine zt ?_; refine zh ?_; refine zf ?_; refine zf ?_; refine zd (id := 23) ?_; refine za (zb rfl rfl rfl) rfl ?_; refine za (ql rfl rfl rfl rfl (decide_eq_true (by omega))) rfl ?_; refine zg ?_; refine zh ?_; refine zx rfl ?_; refine zf ?_; refine zd (id := 24) ?_; refine za (zb rfl rfl rfl) rfl ?_; refine za (qf rfl rfl rfl rfl (decide_eq_true (by omega))) rfl ?_; refine za (zb rfl rfl rfl) rfl ?_; refine za (zk L rfl rfl rfl rfl) rfl ?_; refine za (StepOK.seeV (zl L (zn rfl) rfl rfl rfl rfl) (by assumption)) rfl ?_; refine za (y0 L rfl rfl rfl rfl) rfl ?_; refine za (qf rfl rfl rfl rfl rfl) rfl ?_; refine za (zm rfl rfl rfl rfl) rfl ?_; refine za (zb rfl rfl rfl) rfl ?_; refine za (zq L rfl rfl (zi rfl) rfl rfl rfl (fun u H hH _ _ => lives_law hH)) rfl ?_; refine za (zm rfl rfl rfl rfl) rfl ?_; refine za (ze rfl rfl rfl) rfl ?_; refine zg ?_; refine zh ?_
            refine qh L (rs := [.tmp 4]) rfl (fun _ _ h => h) s2 fun u H hH hle => ?_
            rfl
    · have hck : ckE t cl = chkE t := by unfold ckE; rw [if_pos hc]
      have hqe : quErr t cl = chkE t := by unfold quErr; rw [if_pos (by rw [hck]; exact hc), hck]
      have hwt : ∀ {u : World} {H : Heap}, H.Le (hp u) → B.Le H → Ret Try.prog 29 [tbv t.nx (.slice p0 zs.length c0), .int .i64 cl] u H (fun v _ => v = .tuple #[.int .i64 (0), .int .i64 (chkE t)]) := fun hH hle => by have h9 := waiting_ret (cl := cl) hz (hs.le hle) hZ hn hH; rw [hck, if_neg hc] at h9; exact h9
      have hpt : ∀ {u : World} {H : Heap}, H.Le (hp u) → B.Le H → Ret Try.prog 28 [tbv t.nx (.slice p0 zs.length c0)] u H (PinsS ([]) (chkE t)) := fun hH hle => Ret.mono (pins_ret hz (hs.le hle) hZ hn hH) fun v H' _ h => (by have h9 := PinsP.tup h; rw [if_neg hc] at h9; exact h9)
      have hqt : ∀ {u : World} {H : Heap}, H.Le (hp u) → B.Le H → Ret Try.prog 30 [tbv t.nx (.slice p0 zs.length c0), .int .i64 cl] u H (QueS ([]) (chkE t)) := fun hH hle => Ret.mono (queue_ret hz (hs.le hle) hZ hn (by omega) hH) fun v H' _ h => (by have h9 := QueP.tup h; rw [hqe, if_neg hc] at h9; exact h9)
      have hmp := @SlV.mono tyP 2 ([] : List (Int × Nat)).length (([] : List (Int × Nat)).flatMap pnc) true
      have hmq := QuR.mn (l := [])
      refine zf ?_; refine zd (id := 0) ?_; refine za (qz rfl rfl rfl rfl) rfl ?_; refine za (ze rfl rfl rfl) rfl ?_; refine zg ?_; refine zh ?_; refine zf ?_; refine zf ?_; refine zd (id := 1) ?_; refine za (zu L (vs := [_, _]) (zn rfl) rfl rfl rfl rfl ⟨_, rfl⟩) rfl ?_; refine za (zq L rfl rfl (zi rfl) rfl rfl rfl (fun u H hH hle _ => bnd_law hb (hI.le hle) hH)) rfl ?_; refine za (ok_not rfl rfl rfl rfl) rfl ?_; refine zg ?_; refine zh ?_; refine zo rfl ?_; refine zt ?_; refine zh ?_; refine zf ?_; refine zd (id := 3) ?_; refine za (zu L (vs := [_, _]) (zn rfl) rfl rfl rfl rfl ⟨_, rfl⟩) rfl ?_; refine za (zb rfl rfl rfl) rfl ?_; refine za (zq L rfl rfl (zi rfl) rfl rfl rfl (fun u H hH hle _ => hwt hH hle)) rfl ?_; refine za (zb rfl rfl rfl) rfl ?_; refine za (qv rfl rfl rfl rfl) rfl ?_; refine za (qv rfl rfl rfl rfl) rfl ?_; refine za (ze rfl rfl rfl) rfl ?_; refine za (ze rfl rfl rfl) rfl ?_; refine zg ?_; refine zh ?_; refine zf ?_
      refine zd (id := 4) ?_; refine za (zu L (vs := [_, _]) (zn rfl) rfl rfl rfl rfl ⟨_, rfl⟩) rfl ?_; refine za (ok_call (φ := PinsS ([]) (chkE t)) L rfl rfl (zi rfl) rfl rfl rfl PinsS.mono (fun u H hH hle _ => hpt hH hle)) rfl ?_; refine za (q0 rfl rfl rfl) rfl ?_; refine za (ok_extracts rfl rfl rfl rfl (by assumption)) rfl ?_; refine za (y5 rfl rfl rfl rfl) rfl ?_; refine za (ok_assigns' rfl rfl rfl) rfl ?_; refine za (ze rfl rfl rfl) rfl ?_; refine zg ?_; refine zh ?_; refine zf ?_
      refine zd (id := 5) ?_; refine za (zu L (vs := [_, _]) (zn rfl) rfl rfl rfl rfl ⟨_, rfl⟩) rfl ?_; refine za (zb rfl rfl rfl) rfl ?_; refine za (ok_call (φ := QueS ([]) (chkE t)) L rfl rfl (zi rfl) rfl rfl rfl QueS.mono (fun u H hH hle _ => hqt hH hle)) rfl ?_; refine za (q0 rfl rfl rfl) rfl ?_; refine za (ok_extracts rfl rfl rfl rfl (by assumption)) rfl ?_; refine za (y5 rfl rfl rfl rfl) rfl ?_; refine za (qt L rfl rfl rfl rfl) rfl ?_; refine za (ok_storeX L (X := SlX) quxC (QuX ([])) QuX.mono qux_st (fun _ => ⟨rfl, rfl⟩) rfl rfl rfl rfl rfl) rfl ?_; refine za (ze rfl rfl rfl) rfl ?_; refine zg ?_; refine zh ?_; refine zf ?_
      refine V_opnX 9 rfl fun ⟨p2, n2, c2⟩ H2 s2 h2 => ?_
      obtain ⟨p3, c3, e3⟩ := slv_sh h2
      obtain ⟨rfl, rfl, rfl⟩ : p2 = p3 ∧ n2 = ([] : List Fl).length ∧ c2 = c3 := by dsimp only at e3; cases e3; exact ⟨rfl, rfl, rfl⟩
      dsimp only [quxC] at h2 ⊢
      unfold QuX at h2
      dsimp only at h2
      refine V_pub 9 rfl ?_
      have hs2 := hs.le s2.le
      refine zd (id := 6) ?_; refine za (zu L (vs := [_, _]) (zn rfl) rfl rfl rfl rfl ⟨_, rfl⟩) rfl ?_; refine za (zq L rfl rfl (zi rfl) rfl rfl rfl (fun u H hH hle _ => rcheck_ret hz (hs2.le hle) hZ hX hn2 rfl hH)) rfl ?_; refine za (ze rfl rfl rfl) rfl ?_; refine zg ?_; refine zh ?_; refine zf ?_; refine zf ?_
      refine zd (id := 7) ?_; refine za (zb rfl rfl rfl) rfl ?_; refine za (zb rfl rfl rfl) rfl ?_; refine za (ql rfl rfl rfl rfl (decide_eq_false (by omega))) rfl ?_; refine za (zb rfl rfl rfl) rfl ?_; refine za (zb rfl rfl rfl) rfl ?_; refine za (ql rfl rfl rfl rfl (decide_eq_true (by omega))) rfl ?_; refine za (zb rfl rfl rfl) rfl ?_; refine za (q0 rfl rfl rfl) rfl ?_; refine za (y0 L rfl rfl rfl rfl) rfl ?_; refine za (qm rfl rfl rfl rfl rfl) rfl ?_; refine za (zm rfl rfl rfl rfl) rfl ?_; refine za (zm rfl rfl rfl rfl) rfl ?_; refine zg ?_; refine zh ?_; refine zo rfl ?_; refine zt ?_; refine zh ?_; refine zf ?_; refine zf ?_; refine zd (id := 9) ?_; refine za (zb rfl rfl rfl) rfl ?_; refine za (qf rfl rfl rfl rfl (decide_eq_false (by omega))) rfl ?_; refine zg ?_; refine zh ?_; refine zo rfl ?_; refine zt ?_; refine zh ?_; refine zf ?_; refine zf ?_; refine zd (id := 21) ?_; refine za (zb rfl rfl rfl) rfl ?_; refine za (zb rfl rfl rfl) rfl ?_; refine za (ql rfl rfl rfl rfl (decide_eq_false (by omega))) rfl ?_; refine za (zb rfl rfl rfl) rfl ?_; refine za (zb rfl rfl rfl) rfl ?_; refine za (zb rfl rfl rfl) rfl ?_; refine za (ql rfl rfl rfl rfl (decide_eq_false (by omega))) rfl ?_; refine za (zm rfl rfl rfl rfl) rfl ?_; refine zg ?_; refine zh ?_; refine zo rfl ?_; refine zt ?_; refine zh ?_; refine zf ?_; refine zf ?_; refine zd (id := 23) ?_; refine za (zb rfl rfl rfl) rfl ?_; refine za (ql rfl rfl rfl rfl (decide_eq_true (by omega))) rfl ?_; refine zg ?_; refine zh ?_; refine zx rfl ?_; refine zf ?_; refine zd (id := 24) ?_; refine za (zb rfl rfl rfl) rfl ?_; refine za (qf rfl rfl rfl rfl (decide_eq_true (by omega))) rfl ?_; refine za (zb rfl rfl rfl) rfl ?_; refine za (zk L rfl rfl rfl rfl) rfl ?_; refine za (StepOK.seeV (zl L (zn rfl) rfl rfl rfl rfl) (by assumption)) rfl ?_; refine za (y0 L rfl rfl rfl rfl) rfl ?_; refine za (qf rfl rfl rfl rfl rfl) rfl ?_; refine za (zm rfl rfl rfl rfl) rfl ?_; refine za (zb rfl rfl rfl) rfl ?_; refine za (zq L rfl rfl (zi rfl) rfl rfl rfl (fun u H hH _ _ => lives_law hH)) rfl ?_; refine za (zm rfl rfl rfl rfl) rfl ?_; refine za (ze rfl rfl rfl) rfl ?_; refine zg ?_; refine zh ?_
      refine qh L (rs := [.tmp 4]) rfl (fun _ _ h => h) s2 fun u H hH hle => ?_
      rfl
end Go.V.L39
namespace Go.V.L39
open Go.Proofs Go.RowKit Go.V
theorem flightsCounts_in {W : World} {cs : List Value} {cl : Int} (l0 : Parts (TbPs (hp W)) cs) : Ret Try.prog 6 [.agg cs.toArray, .int .i64 cl] W (hp W) (fun v _ => v = .bool true) := by
  obtain ⟨t, s, zs, rfl, hI, _⟩ := tb_of l0
  exact counts_law hI (Heap.Le.refl _)
end Go.V.L39
namespace Go.Proofs.Ytfihdmobfmkclaa.flightsCounts
open Go.ChangeShapes Go.WideShapes Go.ChangeAt Go.ChangeMaps Go.RowKit Go.V Go.V.L39
theorem own : ownKnob Try.prog.godebug = none := by kernel_rfl
theorem laidOut : laidOutB Try.prog = true := by kernel_rfl
theorem la0 : (match Try.prog.underlying 24 with | some (.struct _) | some (.array _ _) => true | _ => false) = true := by kernel_rfl
theorem lr1 : Try.prog.readableRec 24 = true := by kernel_rfl
theorem lt1 : 24 < Try.prog.types.size := of_decide_eq_true (by kernel_rfl)
theorem lf2 : leafI Try.prog 20 3 = some [.i .i64] := by kernel_rfl
theorem lo2 : Try.prog.underlying 3 = some (.int .i64) := by kernel_rfl
theorem lr3 : Try.prog.readableRec 3 = true := by kernel_rfl
theorem lt3 : 3 < Try.prog.types.size := of_decide_eq_true (by kernel_rfl)
set_option maxRecDepth 100000 in
theorem lifted (os : Os) (started : os.Started) (H : Type) (enc : TypeId × Value → H) :
    ReturnsInHanded {} Try.checked os 6 .any (Rows.flightsCountsSpec.pre6 enc Try.prog Try.f6 Rows.flightsCountsRow.domain false) (Rows.flightsCountsSpec.post enc Try.prog Try.f6 false true false false) := by
  refine returnsInHanded_of_change_shaped (C := Try.checked) own started (by kernel_rfl) Try.func6
    (ChangeSpec.witness6 (enc := enc) (C := Try.checked) false ⟨#[], #[.agg #[.int .i64 0, .slice none 0 0], .int .i64 0], []⟩ 8 (by kernel_rfl) (by kernel_rfl) (by kernel_rfl) (by kernel_rfl)) ?_
  intro W base args ds gs before hval0 hW hcnd hsz hsh _
  have hval : ∀ (j : Nat) t v, Try.f6.params[j]? = some t → args[j]? = some v → Value.okWide Try.prog W .any base t v := hval0
  have hW' := hW
  obtain ⟨p, q, hA0, hV, rfl, hfz, hnd⟩ := hW
  have hA : DataW.TrodAll enc Try.prog W 0 (fun _ => true) true Try.f6.params.toList args.toList ds p := hA0
  rw [Try.params6] at hA hval hsz
  obtain ⟨v0, v1, d0, d1, p0, p1, rfl, rfl, rfl, h0, h1⟩ := trodAll_two hA
  obtain ⟨rfl, rfl⟩ := trodVars_none hV
  clear hA0 hval0
  obtain ⟨c0, rfl, l0⟩ := open_agD reads_tb la0 (hval 0 24 v0 rfl rfl) h0 (wt_at hsz 0 rfl rfl)
  obtain ⟨cl, rfl, zcl, rfl⟩ := open_one lf2 lo2 (hval 1 3 v1 rfl rfl) h1
  have hplc := hW'.lt
  simp only [List.append_nil] at hW'
  have hlaw := Go.V.L39.flightsCounts_in (cl := cl) l0
  unfold Ret at hlaw
  refine hlaw.mono fun e W' hp => ?_
  obtain ⟨v, rfl, H', g, rfl⟩ := hp
  refine ⟨_, rfl, _, _, _, [], p0 ++ ([] ++ ([])), [], hW', trodAll_cons_mk (shut_bool Try.underlying4 _) trodAll_mk0, ?_, rfl, g.below.frame _, fun h => by cases h⟩
  exact trodAll_cons_mk (Below.trod laidOut lr1 lt1 h0 g.below (fun x hx => hplc x (by simp [hx]))) (trodAll_cons_mk (Below.trod laidOut lr3 lt3 h1 g.below (fun x hx => by cases hx)) trodAll_mk0)
theorem proved : Rows.FlightsCountsSaid :=
  OpenClaim.holds_of_wide 6 Try.f6 rfl rfl rfl rfl rfl rfl rfl ⟨rfl, rfl, rfl, rfl, rfl⟩ rfl rfl rfl rfl rfl (by kernel_rfl) Try.func6 (by kernel_rfl)
    (of_decide_eq_true (by kernel_rfl)) (by unfold Func.isWrapper; first | (rw [if_pos (by decide +kernel)]; kernel_rfl) | (rw [if_neg (by decide +kernel)]; exact ⟨rfl, rfl⟩))
    (fun os started H enc _ => lifted os started H enc)
#print axioms proved
end Go.Proofs.Ytfihdmobfmkclaa.flightsCounts
