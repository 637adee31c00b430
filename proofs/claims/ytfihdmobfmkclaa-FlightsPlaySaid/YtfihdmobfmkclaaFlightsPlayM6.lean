/- FlightsPlay returns true for every input, and leaves it as it was: no condition. -/
import Derived.Test.YtfihdmobfmkclaaFlightsPlayM5
import Derived.ProofKit
import Derived.HandedShaped
import Derived.OpenShut
import Derived.Carry
import Derived.Deep.Slices
import Derived.SizedLaws
import Derived.Test.YtfihdmobfmkclaaRows
set_option linter.unusedVariables false
set_option linter.unusedSimpArgs false
namespace Go.V.L39
open Go.Proofs Go.RowKit Go.V
section
variable {P : Program} {F : Fr} {B : Heap} {n : Nat} {O : Boxes} {ops : Array Oper} {ex : Exs} {κ : Kap} {Q : Exit → Act → World → Prop} {o : Oper} {os : List Oper} {d : Nat} {k : Kn}
theorem _root_.Go.V.Zs55 (h : VO P F B n O ops (upd κ d k) os Q) (s : StepOK P F B n ops O κ o d k := by exact ok_extracts rfl rfl rfl rfl (by assumption)) (v : vd o = some d := by rfl) : VO P F B n O ops κ (o :: os) Q := z7 s v h
theorem _root_.Go.V.Zs71 (h : VO P F B n O ops (upd κ d k) os Q) (s : StepOK P F B n ops O κ o d k := by exact y2 rfl rfl rfl rfl) (v : vd o = some d := by rfl) : VO P F B n O ops κ (o :: os) Q := z7 s v h
theorem _root_.Go.V.Zs77 (h : Par P F B n O ops ex (upd κ d k) os Q) (s : StepOK P F B n ops O κ o d k := by exact yb L 0 rfl rfl rfl rfl rfl rfl rfl (by omega)) (v : vd o = some d := by rfl) : Par P F B n O ops ex κ (o :: os) Q := z8 s v h
end
theorem lv_n : ∀ i, i < 5 → itsN (lvT i).fl ≤ 4 ∧ (lvT i).fl.length ≤ 3 := by decide +kernel
theorem lv_cnt : ckE (lvT 4) 0 = 0 ∧ cntB (fun x => decide (x.cl = 0)) (lvT 4).fl = 3 ∧ chkE (lvT 4) = 0 ∧ pins (allI (lvT 4).fl) = [(1, 3), (2, 1)] := by decide +kernel
theorem lv_n2 : itsN (cmT (lvT 4) 0 7).fl ≤ 4 ∧ (cmT (lvT 4) 0 7).fl.length ≤ 3 ∧ itsN lvU.fl ≤ 4 ∧ lvU.fl.length ≤ 3 := by decide +kernel
theorem lv_n3 : itsN lvV.fl ≤ 4 ∧ lvV.fl.length ≤ 3 := by decide +kernel
def lvW : Tb := (joinT lvV (qS 0) 1 ⟨3, 0, 1, 0, 1⟩ 5 true).1
abbrev LvK (t : Tb) (id : Int) (md : Bool) (e : Int) : Value → Heap → Prop := TupS [TbR t, fun v _ => v = .int .i64 id, fun v _ => v = .bool md, fun v _ => v = .int .i64 e]
theorem LvK.mono {t : Tb} {id : Int} {md : Bool} {e : Int} : Kn.mono (.sat (LvK t id md e)) := TupS.mono fun φ h => by
  simp only [List.mem_cons, List.mem_nil_iff, or_false] at h
  rcases h with rfl | rfl | rfl | rfl
  · exact TbR.mn
  · exact eqv_mono
  · exact eqv_mono
  · exact eqv_mono
theorem lv_qz (i : Nat) : QuZ (lvQ i) := by unfold lvQ; split <;> exact qS_z _
abbrev LvJ (t : Tb) (id : Int) (md : Bool) : Value → Heap → Prop := TupS [TbR t, fun v _ => v = .int .i64 id, fun v _ => v = .bool md, fun v _ => v = .int .i64 0]
theorem LvJ.mono {t : Tb} {id : Int} {md : Bool} : Kn.mono (.sat (LvJ t id md)) := TupS.mono fun φ h => by
  simp only [List.mem_cons, List.mem_nil_iff, or_false] at h
  rcases h with rfl | rfl | rfl | rfl
  · exact TbR.mn
  · exact eqv_mono
  · exact eqv_mono
  · exact eqv_mono
theorem lv_tup {B H : Heap} {i : Nat} {v : Value} (hi : i < 4) (h : JoinP B (joinT (lvT i) (lvQ i) (lvI i).rv (lvI i) 5 false) (joinE (lvT i) (lvQ i) (lvI i).rv (lvI i) 5 false) v H) : LvJ (lvT (i + 1)) (([0, 0, 1, 2] : List Int)[i]?.getD 0) (decide (i ≠ 1)) v H := by
  obtain ⟨e1, e2⟩ := lv_join i hi
  have h3 := JoinP.tup h
  unfold JoinS at h3
  rw [e1, e2] at h3
  exact h3
attribute [local irreducible] V N X VO Par StepOK Has Ret RetL RetO RetT RetG Src
set_option maxHeartbeats 8000000 in
set_option maxRecDepth 20000 in
theorem lives_law {w : World} {B : Heap} (hB : B.Le (hp w)) : Ret Try.prog 10 [] w B (fun v _ => v = .bool true) := by
  refine y6 Try.func10 rfl Try.ntmps10 (Nat.le_of_ble_eq_true rfl) hB ?_
  refine zd ?_; refine zb (id := 0) ?_; refine Zs3 ?_; refine ze ?_; refine zg ?_; refine zd ?_; refine zb (id := 1) ?_; refine z7 (zp L rfl rfl (zf rfl) rfl rfl rfl (fun u H hH _ _ => pair_law hH)) rfl ?_; refine Zs1 ?_; refine Zs43 ?_; refine Zs43 ?_; refine Zs36 ?_; refine Zs36 ?_; refine Zs13 ?_; refine Zs13 ?_; refine ze ?_; refine zg ?_; refine zd ?_; refine zb (id := 2) ?_; refine Zs36 ?_; refine ze ?_; refine zg ?_; refine zd ?_; refine zb (id := 3) ?_; refine z7 (zo L (vs := [_, _, _, _, _, _]) (qk rfl) rfl rfl rfl rfl ⟨_, rfl⟩) rfl ?_; refine z7 (zo L (vs := [_, _, _, _, _, _]) (qk rfl) rfl rfl rfl rfl ⟨_, rfl⟩) rfl ?_; refine z7 (zo L (vs := [_, _, _, _, _, _]) (qk rfl) rfl rfl rfl rfl ⟨_, rfl⟩) rfl ?_; refine z7 (zo L (vs := [_, _, _, _, _, _]) (qk rfl) rfl rfl rfl rfl ⟨_, rfl⟩) rfl ?_; refine Zs35 ?_; refine Zs64 ?_; refine ze ?_; refine zg ?_; refine zd ?_; refine zb (id := 4) ?_; refine z7 (y3 (cs := [_, _, _, _, _]) rfl rfl pl33 rfl rfl) rfl ?_; refine z7 (y3 (cs := [_, _, _, _, _]) rfl rfl pl33 rfl rfl) rfl ?_; refine z7 (y3 (cs := [_, _, _, _, _]) rfl rfl pl33 rfl rfl) rfl ?_; refine z7 (y3 (cs := [_, _, _, _, _]) rfl rfl pl33 rfl rfl) rfl ?_; refine Zs35 ?_; refine Zs64 ?_; refine ze ?_; refine zg ?_; refine zd ?_; refine zb (id := 5) ?_; refine z7 (zo L (vs := [_, _]) (qk rfl) rfl rfl rfl rfl ⟨_, rfl⟩) rfl ?_; refine Zs36 ?_; refine Zs13 ?_; refine ze ?_; refine zg ?_; refine zd ?_; refine zd ?_; refine zb (id := 6) ?_; refine Zs3 ?_; refine ze ?_; refine zg ?_; refine q0 ?_
  refine V_clsX 3 TbX.mono ((none, 0, 0) : SlX) (show TbX (lvT 0) (none, 0, 0) B from ⟨[], rfl, fsb_nil rfl⟩) (r := fun x : SlX => Cell (tbxC (lvT 0) x) tyT) rfl ?_
  refine V_clsX 6 TbX.mono ((none, 0, 0) : SlX) (show TbX (lvT 0) (none, 0, 0) B from ⟨[], rfl, fsb_nil rfl⟩) (r := fun x : SlX => Cell (tbxC (lvT 0) x) tyT) rfl ?_
  refine V_loop (fun i : Nat => [(0, .is (.bool false)), (1, .own (Cell [.int .u8 (qS 0).kd, .string (qS 0).g.1.1, .string (qS 0).g.1.2, .string (qS 0).g.2, .string (qS 0).u.1, .string (qS 0).u.2] tyQ)), (2, .own (Cell [.int .u8 (qS 1).kd, .string (qS 1).g.1.1, .string (qS 1).g.1.2, .string (qS 1).g.2, .string (qS 1).u.1, .string (qS 1).u.2] tyQ)), (3, .own (ExR (fun x : SlX => Cell (tbxC (lvT i) x) tyT) (TbX (lvT i)) TbX.mono)), (4, .sat (SlB [.int .u8 (qS 0).kd, .string (qS 0).g.1.1, .string (qS 0).g.1.2, .string (qS 0).g.2, .string (qS 0).u.1, .string (qS 0).u.2, .int .u8 (qS 0).kd, .string (qS 0).g.1.1, .string (qS 0).g.1.2, .string (qS 0).g.2, .string (qS 0).u.1, .string (qS 0).u.2, .int .u8 (qS 0).kd, .string (qS 0).g.1.1, .string (qS 0).g.1.2, .string (qS 0).g.2, .string (qS 0).u.1, .string (qS 0).u.2, .int .u8 (qS 1).kd, .string (qS 1).g.1.1, .string (qS 1).g.1.2, .string (qS 1).g.2, .string (qS 1).u.1, .string (qS 1).u.2] tyQ 4)), (5, .sat (SlB [.int .i64 0, .int .i64 0, .int .i64 0, .int .i64 2, .int .u64 1, .int .i64 1, .int .i64 0, .int .i64 3, .int .i64 1, .int .u64 1, .int .i64 2, .int .i64 0, .int .i64 0, .int .i64 0, .int .u64 2, .int .i64 2, .int .i64 1, .int .i64 0, .int .i64 0, .int .u64 1] tyI 4)), (6, .own (ExR (fun x : SlX => Cell (tbxC (lvT (min i 1)) x) tyT) (TbX (lvT (min i 1))) TbX.mono)), (7, .is (.int .i64 i))]) (fun i => i ≤ 4) (fun i => 4 - i) 0 (Nat.zero_le _) ⟨rfl, rfl, rfl, rfl, rfl, rfl, rfl, rfl, trivial⟩ ?_
  rintro i hi
  by_cases hlt : i < 4
  · refine V_opnX 3 rfl fun ⟨p1, n1, c1⟩ H1 s1 ⟨zs, hz, hs⟩ => ?_
    dsimp only [tbxC] at hs ⊢
    obtain ⟨hn4, hl3⟩ := lv_n i (by omega)
    have hlen := fls_len hz
    have hn : itsN (lvT i).fl ≤ 4611686018427387904 := by omega
    rcases (by omega : i = 0 ∨ i = 1 ∨ i = 2 ∨ i = 3) with rfl | rfl | rfl | rfl
    · have hm := TbR.mn (t := lvT 1)
      refine zd ?_; refine zd ?_; refine zb (id := 7) ?_; refine Zs1 ?_; refine Zs10 ?_; refine ze ?_; refine zg ?_; refine zu rfl ?_; refine zt ?_; refine zg ?_; refine zd ?_; refine q0 ?_; refine zd ?_; refine zy (id := 9) [] mixed (by kernel_rfl) ?_; refine z8 (zo L (vs := [_, _]) (qk rfl) rfl rfl rfl rfl ⟨_, rfl⟩) rfl ?_; refine Zs51 ?_; refine Zs7 ?_; refine Zs77 ?_; refine z8 (zo L (vs := [_, _, _, _, _, _]) (zl rfl) rfl rfl rfl rfl ⟨_, rfl⟩) rfl ?_; refine Zs51 ?_; refine Zs7 ?_; refine Zs77 ?_; refine Zs25 ?_; refine Zs34 ?_; refine Zs51 ?_; refine Zs7 ?_; refine Zs77 ?_; refine z8 (zo L (vs := [_, _, _, _, _]) (zl rfl) rfl rfl rfl rfl ⟨_, rfl⟩) rfl ?_; refine z8 (ok_call (φ := LvJ (lvT 1) 0 true) L rfl rfl (zf rfl) rfl rfl rfl LvJ.mono (fun u H hH hle _ => Ret.mono (join_ret (q := lvQ 0) (x := lvI 0) hz (hs.le hle) (lv_tz 0).q (lv_qz _) hn (by omega) hH) fun v H' _ h => lv_tup (i := 0) (by decide) h)) rfl ?_; refine Zs51 ?_; refine Zs54 ?_; refine Zs59 ?_; refine Zs59 ?_; refine Zs59 ?_; refine z8 (qt L rfl rfl rfl rfl) rfl ?_; refine z8 (ok_storeX L (X := SlX) (tbxC (lvT 1)) (TbX (lvT 1)) TbX.mono tbx_st (fun _ => ⟨rfl, rfl⟩) rfl rfl rfl rfl rfl) rfl ?_; refine Zs49 ?_; refine Zs49 ?_; refine Zs49 ?_; refine qb ?_; refine zg ?_; refine zd ?_; refine zd ?_
      refine V_opnX 8 rfl fun ⟨p2, n2, c2⟩ H2 s2 h2 => ?_
      refine V_opnX 6 rfl fun ⟨p6, n6, c6⟩ H6 s6 _ => ?_
      replace h2 := TbX.mono _ _ _ h2 s6.le
      dsimp only [tbxC]
      refine zb (id := 10) ?_; refine Zs1 ?_; refine Zs11 ?_; refine Zs1 ?_; refine Zs1 ?_; refine Zs35 ?_; refine Zs1 ?_; refine z7 (yb L 0 rfl rfl rfl rfl rfl rfl rfl (by omega)) rfl ?_; refine Zs4 ?_; refine Zs11 ?_; refine Zs6 ?_; refine Zs1 ?_; refine Zs1 ?_; refine Zs1 ?_; refine Zs23 ?_; refine z7 (ok_bneq rfl rfl rfl rfl bt4 rfl) rfl ?_; refine Zs6 ?_; refine ze ?_; refine zg ?_; refine zm rfl ?_; refine zt ?_; refine zg ?_; refine zd ?_; refine zb (id := 12) ?_; refine z7 (zo L (vs := [_, _]) (qk rfl) rfl rfl rfl rfl ⟨_, rfl⟩) rfl ?_; refine Zs13 ?_; refine ze ?_; refine zg ?_; refine zd ?_; refine zb (id := 13) ?_; refine Zs1 ?_; refine Zs18 ?_; refine ze ?_; refine zg ?_; refine zu rfl ?_; refine zb (id := 14) ?_; refine z7 (zo L (vs := [_, _]) (qk rfl) rfl rfl rfl rfl ⟨_, rfl⟩) rfl ?_; refine Zs13 ?_; refine ze ?_; refine qo ?_; refine zg ?_; refine zb (id := 8) ?_; refine Zs1 ?_; refine Zs16 ?_; refine Zs3 ?_; refine ze ?_
      refine N_clsX 3 TbX.mono ((p2, n2, c2) : SlX) h2 (r := fun x : SlX => Cell (tbxC (lvT 1) x) tyT) rfl ?_
      refine N_clsX 6 TbX.mono ((p2, n2, c2) : SlX) h2 (r := fun x : SlX => Cell (tbxC (lvT 1) x) tyT) rfl ?_
      exact N_roundS (x := 0) 1 ((s1.trans s2).trans s6) (by decide) (by decide) ⟨rfl, rfl, rfl, rfl, rfl, rfl, rfl, rfl, trivial⟩
    · have hm := TbR.mn (t := lvT 2)
      refine zd ?_; refine zd ?_; refine zb (id := 7) ?_; refine Zs1 ?_; refine Zs10 ?_; refine ze ?_; refine zg ?_; refine zu rfl ?_; refine zt ?_; refine zg ?_; refine zd ?_; refine q0 ?_; refine zd ?_; refine zy (id := 9) [] mixed (by kernel_rfl) ?_; refine z8 (zo L (vs := [_, _]) (qk rfl) rfl rfl rfl rfl ⟨_, rfl⟩) rfl ?_; refine Zs51 ?_; refine Zs7 ?_; refine z8 (yb L _ rfl rfl rfl rfl rfl rfl rfl (by omega)) rfl ?_; refine z8 (zo L (vs := [_, _, _, _, _, _]) (zl rfl) rfl rfl rfl rfl ⟨_, rfl⟩) rfl ?_; refine Zs51 ?_; refine Zs7 ?_; refine z8 (yb L _ rfl rfl rfl rfl rfl rfl rfl (by omega)) rfl ?_; refine Zs25 ?_; refine Zs34 ?_; refine Zs51 ?_; refine Zs7 ?_; refine z8 (yb L _ rfl rfl rfl rfl rfl rfl rfl (by omega)) rfl ?_; refine z8 (zo L (vs := [_, _, _, _, _]) (zl rfl) rfl rfl rfl rfl ⟨_, rfl⟩) rfl ?_; refine z8 (ok_call (φ := LvJ (lvT 2) 0 false) L rfl rfl (zf rfl) rfl rfl rfl LvJ.mono (fun u H hH hle _ => Ret.mono (join_ret (q := lvQ 1) (x := lvI 1) hz (hs.le hle) (lv_tz 1).q (lv_qz _) hn (by omega) hH) fun v H' _ h => lv_tup (i := 1) (by decide) h)) rfl ?_; refine Zs51 ?_; refine Zs54 ?_; refine Zs59 ?_; refine Zs59 ?_; refine Zs59 ?_; refine z8 (qt L rfl rfl rfl rfl) rfl ?_; refine z8 (ok_storeX L (X := SlX) (tbxC (lvT 2)) (TbX (lvT 2)) TbX.mono tbx_st (fun _ => ⟨rfl, rfl⟩) rfl rfl rfl rfl rfl) rfl ?_; refine Zs49 ?_; refine Zs49 ?_; refine Zs49 ?_; refine qb ?_; refine zg ?_; refine zd ?_; refine zd ?_
      refine V_opnX 8 rfl fun ⟨p2, n2, c2⟩ H2 s2 h2 => ?_
      dsimp only [tbxC]
      refine zb (id := 10) ?_; refine Zs1 ?_; refine Zs11 ?_; refine Zs1 ?_; refine Zs1 ?_; refine Zs35 ?_; refine Zs1 ?_; refine z7 (yb L _ rfl rfl rfl rfl rfl rfl rfl (by omega)) rfl ?_; refine Zs4 ?_; refine Zs11 ?_; refine Zs6 ?_; refine Zs1 ?_; refine Zs1 ?_; refine Zs1 ?_; refine Zs11 ?_; refine z7 (ok_bneq rfl rfl rfl rfl bt4 rfl) rfl ?_; refine Zs6 ?_; refine ze ?_; refine zg ?_; refine zm rfl ?_; refine zt ?_; refine zg ?_; refine zd ?_; refine zb (id := 12) ?_; refine z7 (zo L (vs := [_, _]) (qk rfl) rfl rfl rfl rfl ⟨_, rfl⟩) rfl ?_; refine Zs13 ?_; refine ze ?_; refine zg ?_; refine zd ?_; refine zb (id := 13) ?_; refine Zs1 ?_; refine Zs14 ?_; refine ze ?_; refine zg ?_; refine zm rfl ?_; refine zt ?_; refine qo ?_; refine zg ?_; refine zb (id := 8) ?_; refine Zs1 ?_; refine Zs16 ?_; refine Zs3 ?_; refine ze ?_
      refine N_clsX 3 TbX.mono ((p2, n2, c2) : SlX) h2 (r := fun x : SlX => Cell (tbxC (lvT 2) x) tyT) rfl ?_
      exact N_roundS (x := 1) 2 (s1.trans s2) (by decide) (by decide) ⟨rfl, rfl, rfl, rfl, rfl, rfl, rfl, rfl, trivial⟩
    · have hm := TbR.mn (t := lvT 3)
      refine zd ?_; refine zd ?_; refine zb (id := 7) ?_; refine Zs1 ?_; refine Zs10 ?_; refine ze ?_; refine zg ?_; refine zu rfl ?_; refine zt ?_; refine zg ?_; refine zd ?_; refine q0 ?_; refine zd ?_; refine zy (id := 9) [] mixed (by kernel_rfl) ?_; refine z8 (zo L (vs := [_, _]) (qk rfl) rfl rfl rfl rfl ⟨_, rfl⟩) rfl ?_; refine Zs51 ?_; refine Zs7 ?_; refine z8 (yb L _ rfl rfl rfl rfl rfl rfl rfl (by omega)) rfl ?_; refine z8 (zo L (vs := [_, _, _, _, _, _]) (zl rfl) rfl rfl rfl rfl ⟨_, rfl⟩) rfl ?_; refine Zs51 ?_; refine Zs7 ?_; refine z8 (yb L _ rfl rfl rfl rfl rfl rfl rfl (by omega)) rfl ?_; refine Zs25 ?_; refine Zs34 ?_; refine Zs51 ?_; refine Zs7 ?_; refine z8 (yb L _ rfl rfl rfl rfl rfl rfl rfl (by omega)) rfl ?_; refine z8 (zo L (vs := [_, _, _, _, _]) (zl rfl) rfl rfl rfl rfl ⟨_, rfl⟩) rfl ?_; refine z8 (ok_call (φ := LvJ (lvT 3) 1 true) L rfl rfl (zf rfl) rfl rfl rfl LvJ.mono (fun u H hH hle _ => Ret.mono (join_ret (q := lvQ 2) (x := lvI 2) hz (hs.le hle) (lv_tz 2).q (lv_qz _) hn (by omega) hH) fun v H' _ h => lv_tup (i := 2) (by decide) h)) rfl ?_; refine Zs51 ?_; refine Zs54 ?_; refine Zs59 ?_; refine Zs59 ?_; refine Zs59 ?_; refine z8 (qt L rfl rfl rfl rfl) rfl ?_; refine z8 (ok_storeX L (X := SlX) (tbxC (lvT 3)) (TbX (lvT 3)) TbX.mono tbx_st (fun _ => ⟨rfl, rfl⟩) rfl rfl rfl rfl rfl) rfl ?_; refine Zs49 ?_; refine Zs49 ?_; refine Zs49 ?_; refine qb ?_; refine zg ?_; refine zd ?_; refine zd ?_
      refine V_opnX 8 rfl fun ⟨p2, n2, c2⟩ H2 s2 h2 => ?_
      dsimp only [tbxC]
      refine zb (id := 10) ?_; refine Zs1 ?_; refine Zs11 ?_; refine Zs1 ?_; refine Zs1 ?_; refine Zs35 ?_; refine Zs1 ?_; refine z7 (yb L _ rfl rfl rfl rfl rfl rfl rfl (by omega)) rfl ?_; refine Zs4 ?_; refine Zs11 ?_; refine Zs6 ?_; refine Zs1 ?_; refine Zs1 ?_; refine Zs1 ?_; refine Zs23 ?_; refine z7 (ok_bneq rfl rfl rfl rfl bt4 rfl) rfl ?_; refine Zs6 ?_; refine ze ?_; refine zg ?_; refine zm rfl ?_; refine zt ?_; refine zg ?_; refine zd ?_; refine zb (id := 12) ?_; refine z7 (zo L (vs := [_, _]) (qk rfl) rfl rfl rfl rfl ⟨_, rfl⟩) rfl ?_; refine Zs13 ?_; refine ze ?_; refine zg ?_; refine zd ?_; refine zb (id := 13) ?_; refine Zs1 ?_; refine Zs14 ?_; refine ze ?_; refine zg ?_; refine zm rfl ?_; refine zt ?_; refine qo ?_; refine zg ?_; refine zb (id := 8) ?_; refine Zs1 ?_; refine Zs16 ?_; refine Zs3 ?_; refine ze ?_
      refine N_clsX 3 TbX.mono ((p2, n2, c2) : SlX) h2 (r := fun x : SlX => Cell (tbxC (lvT 3) x) tyT) rfl ?_
      exact N_roundS (x := 2) 3 (s1.trans s2) (by decide) (by decide) ⟨rfl, rfl, rfl, rfl, rfl, rfl, rfl, rfl, trivial⟩
    · have hm := TbR.mn (t := lvT 4)
      refine zd ?_; refine zd ?_; refine zb (id := 7) ?_; refine Zs1 ?_; refine Zs10 ?_; refine ze ?_; refine zg ?_; refine zu rfl ?_; refine zt ?_; refine zg ?_; refine zd ?_; refine q0 ?_; refine zd ?_; refine zy (id := 9) [] mixed (by kernel_rfl) ?_; refine z8 (zo L (vs := [_, _]) (qk rfl) rfl rfl rfl rfl ⟨_, rfl⟩) rfl ?_; refine Zs51 ?_; refine Zs7 ?_; refine z8 (yb L _ rfl rfl rfl rfl rfl rfl rfl (by omega)) rfl ?_; refine z8 (zo L (vs := [_, _, _, _, _, _]) (zl rfl) rfl rfl rfl rfl ⟨_, rfl⟩) rfl ?_; refine Zs51 ?_; refine Zs7 ?_; refine z8 (yb L _ rfl rfl rfl rfl rfl rfl rfl (by omega)) rfl ?_; refine Zs25 ?_; refine Zs34 ?_; refine Zs51 ?_; refine Zs7 ?_; refine z8 (yb L _ rfl rfl rfl rfl rfl rfl rfl (by omega)) rfl ?_; refine z8 (zo L (vs := [_, _, _, _, _]) (zl rfl) rfl rfl rfl rfl ⟨_, rfl⟩) rfl ?_; refine z8 (ok_call (φ := LvJ (lvT 4) 2 true) L rfl rfl (zf rfl) rfl rfl rfl LvJ.mono (fun u H hH hle _ => Ret.mono (join_ret (q := lvQ 3) (x := lvI 3) hz (hs.le hle) (lv_tz 3).q (lv_qz _) hn (by omega) hH) fun v H' _ h => lv_tup (i := 3) (by decide) h)) rfl ?_; refine Zs51 ?_; refine Zs54 ?_; refine Zs59 ?_; refine Zs59 ?_; refine Zs59 ?_; refine z8 (qt L rfl rfl rfl rfl) rfl ?_; refine z8 (ok_storeX L (X := SlX) (tbxC (lvT 4)) (TbX (lvT 4)) TbX.mono tbx_st (fun _ => ⟨rfl, rfl⟩) rfl rfl rfl rfl rfl) rfl ?_; refine Zs49 ?_; refine Zs49 ?_; refine Zs49 ?_; refine qb ?_; refine zg ?_; refine zd ?_; refine zd ?_
      refine V_opnX 8 rfl fun ⟨p2, n2, c2⟩ H2 s2 h2 => ?_
      dsimp only [tbxC]
      refine zb (id := 10) ?_; refine Zs1 ?_; refine Zs11 ?_; refine Zs1 ?_; refine Zs1 ?_; refine Zs35 ?_; refine Zs1 ?_; refine z7 (yb L _ rfl rfl rfl rfl rfl rfl rfl (by omega)) rfl ?_; refine Zs4 ?_; refine Zs11 ?_; refine Zs6 ?_; refine Zs1 ?_; refine Zs1 ?_; refine Zs1 ?_; refine Zs23 ?_; refine z7 (ok_bneq rfl rfl rfl rfl bt4 rfl) rfl ?_; refine Zs6 ?_; refine ze ?_; refine zg ?_; refine zm rfl ?_; refine zt ?_; refine zg ?_; refine zd ?_; refine zb (id := 12) ?_; refine z7 (zo L (vs := [_, _]) (qk rfl) rfl rfl rfl rfl ⟨_, rfl⟩) rfl ?_; refine Zs13 ?_; refine ze ?_; refine zg ?_; refine zd ?_; refine zb (id := 13) ?_; refine Zs1 ?_; refine Zs14 ?_; refine ze ?_; refine zg ?_; refine zm rfl ?_; refine zt ?_; refine qo ?_; refine zg ?_; refine zb (id := 8) ?_; refine Zs1 ?_; refine Zs16 ?_; refine Zs3 ?_; refine ze ?_
      refine N_clsX 3 TbX.mono ((p2, n2, c2) : SlX) h2 (r := fun x : SlX => Cell (tbxC (lvT 4) x) tyT) rfl ?_
      exact N_roundS (x := 3) 4 (s1.trans s2) (by decide) (by decide) ⟨rfl, rfl, rfl, rfl, rfl, rfl, rfl, rfl, trivial⟩
  · obtain rfl : i = 4 := by omega
    refine V_opnX 3 rfl fun ⟨p1, n1, c1⟩ H1 s1 ⟨zs, hz, hs⟩ => ?_
    dsimp only [tbxC] at hs ⊢
    obtain ⟨hn4, hl3⟩ := lv_n 4 (by decide)
    have hlen := fls_len hz
    have hn : itsN (lvT 4).fl ≤ 4611686018427387904 := by omega
    obtain ⟨r1, r2, r3, r4, r5, r6⟩ := lv_rest
    obtain ⟨k1, k2, k3, k4⟩ := lv_cnt
    have hmf := FlR.mn (f := findF (lvT 4) 0)
    refine zd ?_; refine zd ?_; refine zb (id := 7) ?_; refine Zs1 ?_; refine Zs8 ?_; refine ze ?_; refine zg ?_; refine zm rfl ?_; refine y5 ?_; refine qf ?_; refine qf ?_; refine y4 ?_; refine zg ?_; refine zd ?_; refine zb (id := 15) ?_; refine z7 (zo L (vs := [_, _]) (qk rfl) rfl rfl rfl rfl ⟨_, rfl⟩) rfl ?_; refine z7 (ok_call (φ := FindS (findF (lvT 4) 0) 0) L rfl rfl (zf rfl) rfl rfl rfl FindS.mono (fun u H hH hle _ => Ret.mono (find_ret hz (hs.le hle) (lv_tz 4).q hn hH) fun v H' _ h => (by have h2 := FindP.tup h; rw [r1] at h2; exact h2))) rfl ?_; refine Zs41 ?_; refine Zs55 ?_; refine Zs71 ?_; refine Zs36 ?_; refine z7 (ok_storeX L (X := SlX) (flxC (findF (lvT 4) 0)) (FlX (findF (lvT 4) 0)) FlX.mono flx_st flx_pl rfl rfl rfl rfl rfl) rfl ?_; refine Zs3 ?_; refine ze ?_; refine zg ?_; refine zd ?_
    refine zb (id := 16) ?_; refine z7 (zo L (vs := [_, _]) (qk rfl) rfl rfl rfl rfl ⟨_, rfl⟩) rfl ?_; refine z7 (zp (r := .tuple #[.int .i64 3, .int .i64 0]) L rfl rfl (zf rfl) rfl rfl rfl (fun u H hH hle _ => Ret.mono (waiting_ret hz (hs.le hle) (lv_tz 4).q hn hH) fun v H' _ h => (by rw [h, k1, if_pos rfl, k2]; rfl))) rfl ?_; refine Zs1 ?_; refine Zs43 ?_; refine Zs43 ?_; refine Zs3 ?_; refine Zs3 ?_; refine ze ?_; refine zg ?_; refine zd ?_
    have hmp := @SlV.mono tyP 2 ([(1, 3), (2, 1)] : List (Int × Nat)).length (([(1, 3), (2, 1)] : List (Int × Nat)).flatMap pnc) true
    refine zb (id := 17) ?_; refine z7 (zo L (vs := [_, _]) (qk rfl) rfl rfl rfl rfl ⟨_, rfl⟩) rfl ?_; refine z7 (ok_call (φ := PinsS [(1, 3), (2, 1)] 0) L rfl rfl (zf rfl) rfl rfl rfl PinsS.mono (fun u H hH hle _ => Ret.mono (pins_ret hz (hs.le hle) (lv_tz 4).q hn hH) fun v H' _ h => (by have h2 := PinsP.tup h; rw [k3, if_pos rfl, k4] at h2; exact h2))) rfl ?_; refine Zs41 ?_; refine Zs55 ?_; refine Zs71 ?_; refine Zs64 ?_; refine Zs3 ?_; refine ze ?_; refine zg ?_; refine zd ?_; refine zd ?_
    refine V_opnX 12 rfl fun ⟨p2, n2, c2⟩ H2 s2 h2 => ?_
    dsimp only [flxC]
    refine V_box 12 rfl fun b12 hb12 => ?_
    obtain ⟨f1, f2, f3, f4, f5, f6⟩ := lv_find
    have hc1 : ((([(1, 3), (2, 1)] : List (Int × Nat)).flatMap pnc).drop (0 * 2)).take 2 = [.int .u64 1, .int .i64 3] := rfl
    have hc2 : ((([(1, 3), (2, 1)] : List (Int × Nat)).flatMap pnc).drop (1 * 2)).take 2 = [.int .u64 2, .int .i64 1] := rfl
    refine zb (id := 18) ?_; refine Zs1 ?_; refine Zs11 ?_; refine Zs1 ?_; refine Zs1 ?_; refine Zs11 ?_; refine Zs6 ?_; refine Zs1 ?_; refine Zs1 ?_; refine Zs11 ?_; refine Zs6 ?_; refine Zs1 ?_; refine Zs31 ?_; refine z7 (zj L (src_box rfl (List.Mem.head _)) rfl rfl rfl rfl) rfl ?_; refine z7 (qg rfl rfl rfl rfl rfl) rfl ?_; refine Zs6 ?_; refine Zs1 ?_; refine Zs31 ?_; refine z7 (zj L (src_box rfl (List.Mem.head _)) rfl rfl rfl rfl) rfl ?_; refine z7 (qg rfl rfl rfl rfl rfl) rfl ?_; refine Zs6 ?_; refine Zs1 ?_; refine Zs31 ?_; refine z7 (zj L (src_box rfl (List.Mem.head _)) rfl rfl rfl rfl) rfl ?_; refine z7 (qg rfl rfl rfl rfl rfl) rfl ?_; refine Zs6 ?_; refine Zs1 ?_; refine Zs1 ?_; refine Zs11 ?_; refine Zs6 ?_; refine Zs1 ?_; refine Zs41 ?_; refine Zs32 ?_; refine z7 (qg rfl rfl rfl rfl rfl) rfl ?_; refine Zs6 ?_; refine Zs1 ?_; refine Zs41 ?_; refine z7 (q9 L _ rfl rfl rfl rfl rfl rfl rfl (by first | omega | decide) (by assumption)) rfl ?_; refine z7 (y9 L (vs := [_, _]) rfl rfl rfl rfl rfl ⟨_, rfl⟩) rfl ?_; refine z7 (y3 (cs := [_, _]) rfl rfl pl74 rfl rfl) rfl ?_; refine z7 (ok_aneq rfl rfl rfl rfl eq74 rfl rfl) rfl ?_; refine Zs6 ?_; refine Zs1 ?_; refine Zs41 ?_; refine z7 (q9 L _ rfl rfl rfl rfl rfl rfl rfl (by first | omega | decide) (by assumption)) rfl ?_; refine z7 (y9 L (vs := [_, _]) rfl rfl rfl rfl rfl ⟨_, rfl⟩) rfl ?_; refine z7 (y3 (cs := [_, _]) rfl rfl pl74 rfl rfl) rfl ?_; refine z7 (ok_aneq rfl rfl rfl rfl eq74 rfl rfl) rfl ?_; refine Zs6 ?_; refine ze ?_; refine zg ?_; refine zm rfl ?_; refine zt ?_; refine zg ?_; refine zd ?_
    have hmc := TbR.mn (t := cmT (lvT 4) 0 7)
    have hs2 := hs.le s2.le
    refine zb (id := 20) ?_; refine z7 (zo L (vs := [_, _]) (qk rfl) rfl rfl rfl rfl ⟨_, rfl⟩) rfl ?_; refine z7 (ok_call (φ := RTabS (cmT (lvT 4) 0 7) 0) L rfl rfl (zf rfl) rfl rfl rfl RTabS.mono (fun u H hH hle _ => Ret.mono (commit_ret hz (hs2.le hle) (lv_tz 4).q hn (by omega) ⟨by decide, by decide⟩ hH) fun v H' _ h => (by have h2 := TabP.tup h; rw [r2] at h2; exact h2))) rfl ?_; refine Zs41 ?_; refine Zs55 ?_; refine Zs71 ?_; refine Zs36 ?_; refine z7 (ok_storeX L (X := SlX) (tbxC (cmT (lvT 4) 0 7)) (TbX (cmT (lvT 4) 0 7)) TbX.mono tbx_st (fun _ => ⟨rfl, rfl⟩) rfl rfl rfl rfl rfl) rfl ?_; refine Zs3 ?_; refine ze ?_; refine zg ?_; refine zd ?_
    refine V_opnX 18 rfl fun ⟨p3, n3, c3⟩ H3 s3 ⟨zs3, hz3, hs3⟩ => ?_
    dsimp only [tbxC] at hs3 ⊢
    obtain ⟨m1, m2, m3, m4⟩ := lv_n2
    have hl3 := fls_len hz3
    have hmu := TbR.mn (t := lvU)
    refine zb (id := 21) ?_; refine z7 (zo L (vs := [_, _]) (qk rfl) rfl rfl rfl rfl ⟨_, rfl⟩) rfl ?_; refine z7 (ok_call (φ := RTabS lvU 0) L rfl rfl (zf rfl) rfl rfl rfl RTabS.mono (fun u H hH hle _ => Ret.mono (commit_ret hz3 (hs3.le hle) (tz_cm (lv_tz 4)).q (by omega) (by omega) ⟨by decide, by decide⟩ hH) fun v H' _ h => (by have h2 := TabP.tup h; rw [r3] at h2; exact h2))) rfl ?_; refine Zs41 ?_; refine Zs55 ?_; refine Zs71 ?_; refine z7 (ok_storeX L (X := SlX) (tbxC lvU) (TbX lvU) TbX.mono tbx_st (fun _ => ⟨rfl, rfl⟩) rfl rfl rfl rfl rfl) rfl ?_; refine Zs3 ?_; refine ze ?_; refine zg ?_; refine zd ?_
    refine V_opnX 18 rfl fun ⟨p4, n4, c4⟩ H4 s4 ⟨zs4, hz4, hs4⟩ => ?_
    dsimp only [tbxC] at hs4 ⊢
    have hl4 := fls_len hz4
    have hmv := TbR.mn (t := lvV)
    have hmg := FlR.mn (f := findF lvU 0)
    refine zb (id := 22) ?_; refine z7 (zo L (vs := [_, _]) (qk rfl) rfl rfl rfl rfl ⟨_, rfl⟩) rfl ?_; refine z7 (ok_call (φ := LandS lvV (findF lvU 0) 0) L rfl rfl (zf rfl) rfl rfl rfl LandS.mono (fun u H hH hle _ => Ret.mono (land_ret hz4 (hs4.le hle) (tz_cm (tz_cm (lv_tz 4))).q (by omega) (by omega) hH) fun v H' _ h => (by have h2 := LandP.tup h; rw [r4] at h2; exact h2))) rfl ?_; refine Zs41 ?_; refine Zs55 ?_; refine Zs55 ?_; refine vo_opn 161 rfl fun fv H5 s5 ⟨sv5, e5, h5⟩ => ?_; subst e5; obtain ⟨p5, c5, e6⟩ := slv_sh h5; subst e6; refine Zs71 ?_; refine z7 (ok_storeX L (X := SlX) (tbxC lvV) (TbX lvV) TbX.mono tbx_st (fun _ => ⟨rfl, rfl⟩) rfl rfl rfl rfl rfl) rfl ?_; refine box_store L (O1 := []) rfl rfl rfl rfl rfl rfl rfl rfl rfl ?_; refine Zs3 ?_; refine ze ?_; refine zg ?_; refine zd ?_
    refine V_opnX 18 rfl fun ⟨p6, n6, c6⟩ H6 s6 ⟨zs6, hz6, hs6⟩ => ?_
    dsimp only [tbxC] at hs6 ⊢
    obtain ⟨m5, m6⟩ := lv_n3
    have hl6 := fls_len hz6
    have hzv : TZ39 lvV := tz_ld (tz_cm (tz_cm (lv_tz 4)))
    have hmw := TbR.mn (t := ldT lvV 0)
    have hmh := FlR.mn (f := findF lvV 0)
    refine zb (id := 23) ?_; refine z7 (zo L (vs := [_, _]) (qk rfl) rfl rfl rfl rfl ⟨_, rfl⟩) rfl ?_; refine z7 (ok_call (φ := LandS (ldT lvV 0) (findF lvV 0) 8) L rfl rfl (zf rfl) rfl rfl rfl LandS.mono (fun u H hH hle _ => Ret.mono (land_ret hz6 (hs6.le hle) hzv.q (by omega) (by omega) hH) fun v H' _ h => (by have h2 := LandP.tup h; rw [r5] at h2; exact h2))) rfl ?_; refine Zs41 ?_; refine Zs55 ?_; refine Zs55 ?_; refine Zs71 ?_; refine Zs36 ?_; refine Zs36 ?_; refine z7 (ok_storeX L (X := SlX) (tbxC (ldT lvV 0)) (TbX (ldT lvV 0)) TbX.mono tbx_st (fun _ => ⟨rfl, rfl⟩) rfl rfl rfl rfl rfl) rfl ?_; refine z7 (ok_storeX L (X := SlX) (flxC (findF lvV 0)) (FlX (findF lvV 0)) FlX.mono flx_st flx_pl rfl rfl rfl rfl rfl) rfl ?_; refine Zs3 ?_; refine ze ?_; refine zg ?_; refine zd ?_; refine zd ?_
    refine zb (id := 24) ?_; refine Zs1 ?_; refine Zs11 ?_; refine Zs1 ?_; refine Zs1 ?_; refine Zs11 ?_; refine Zs6 ?_; refine Zs1 ?_; refine Zs1 ?_; refine Zs11 ?_; refine Zs6 ?_; refine Zs1 ?_; refine Zs1 ?_; refine Zs11 ?_; refine Zs6 ?_; refine Zs1 ?_; refine Zs31 ?_; refine z7 (zj L (src_box rfl (List.Mem.head _)) rfl rfl rfl rfl) rfl ?_; refine Zs11 ?_; refine Zs6 ?_; refine Zs1 ?_; refine Zs31 ?_; refine z7 (zj L (src_box rfl (List.Mem.head _)) rfl rfl rfl rfl) rfl ?_; refine Zs11 ?_; refine Zs6 ?_; refine Zs1 ?_; refine Zs31 ?_; refine z7 (zj L (src_box rfl (List.Mem.head _)) rfl rfl rfl rfl) rfl ?_; refine Zs39 ?_; refine Zs11 ?_; refine Zs6 ?_; refine ze ?_; refine zg ?_; refine zm rfl ?_; refine zt ?_; refine zg ?_; refine zd ?_
    obtain ⟨j1, j2, j3, j4⟩ := lv_ends
    have hw1 := TbR.mn (t := lvW)
    refine zb (id := 26) ?_; refine z7 (zo L (vs := [_, _]) (qk rfl) rfl rfl rfl rfl ⟨_, rfl⟩) rfl ?_; refine z7 (zo L (vs := [_, _, _, _, _, _]) (qk rfl) rfl rfl rfl rfl ⟨_, rfl⟩) rfl ?_; refine z7 (y3 (cs := [_, _, _, _, _]) rfl rfl pl33 rfl rfl) rfl ?_; refine z7 (ok_call (φ := LvK lvW 1 false 0) L rfl rfl (zf rfl) rfl rfl rfl LvK.mono (fun u H hH hle _ => Ret.mono (join_ret (q := qS 0) (x := ⟨3, 0, 1, 0, 1⟩) hz6 (hs6.le hle) hzv.q (qS_z 0) (by omega) (by omega) hH) fun v H' _ h => (by have h2 := JoinP.tup h; unfold JoinS at h2; rw [j1, j2] at h2; exact h2))) rfl ?_; refine Zs41 ?_; refine Zs55 ?_; refine Zs71 ?_; refine Zs71 ?_; refine Zs71 ?_; refine Zs36 ?_; refine z7 (ok_storeX L (X := SlX) (tbxC lvW) (TbX lvW) TbX.mono tbx_st (fun _ => ⟨rfl, rfl⟩) rfl rfl rfl rfl rfl) rfl ?_; refine Zs3 ?_; refine Zs3 ?_; refine Zs3 ?_; refine ze ?_; refine zg ?_; refine zd ?_
    refine V_opnX 6 rfl fun ⟨p7, n7, c7⟩ H7 s7 ⟨zs7, hz7, hs7⟩ => ?_
    dsimp only [tbxC] at hs7 ⊢
    replace hz7 : zs7.map Prod.fst = (lvT 1).fl := hz7
    obtain ⟨m7, m8⟩ := lv_n 1 (by decide)
    have hl7 := fls_len hz7
    have hw2 := TbR.mn (t := T0)
    refine zy (id := 27) [] mixed (by kernel_rfl) ?_; refine z8 (zo L (vs := [_, _]) (qk rfl) rfl rfl rfl rfl ⟨_, rfl⟩) rfl ?_; refine z8 (zo L (vs := [_, _, _, _, _, _]) (qk rfl) rfl rfl rfl rfl ⟨_, rfl⟩) rfl ?_; refine Zs51 ?_; refine Zs77 ?_; refine z8 (zo L (vs := [_, _, _, _, _]) (zl rfl) rfl rfl rfl rfl ⟨_, rfl⟩) rfl ?_; refine z8 (ok_call (φ := LvK T0 0 false 4) L rfl rfl (zf rfl) rfl rfl rfl LvK.mono (fun u H hH hle _ => Ret.mono (join_ret (q := qS 0) (x := lvI 0) hz7 (hs7.le hle) (lv_tz 1).q (qS_z 0) (by omega) (by omega) hH) fun v H' _ h => (by have h2 := JoinP.tup h; unfold JoinS at h2; rw [jT0 (by rw [j3]; decide), j3] at h2; exact h2))) rfl ?_; refine Zs51 ?_; refine Zs54 ?_; refine Zs59 ?_; refine Zs59 ?_; refine Zs59 ?_; refine Zs49 ?_; refine qb ?_; refine zg ?_; refine zd ?_
    have hs8 := hs2.le ((((s3.le.trans s4.le).trans s5.le).trans s6.le).trans s7.le)
    refine zy (id := 28) [] mixed (by kernel_rfl) ?_; refine z8 (zo L (vs := [_, _]) (qk rfl) rfl rfl rfl rfl ⟨_, rfl⟩) rfl ?_; refine z8 (y3 (cs := [_, _, _, _, _, _]) rfl rfl pl30 rfl rfl) rfl ?_; refine Zs51 ?_; refine Zs77 ?_; refine z8 (zo L (vs := [_, _, _, _, _]) (zl rfl) rfl rfl rfl rfl ⟨_, rfl⟩) rfl ?_; refine z8 (ok_call (φ := LvK T0 0 false 10) L rfl rfl (zf rfl) rfl rfl rfl LvK.mono (fun u H hH hle _ => Ret.mono (join_ret (q := ⟨0, ((⟨#[]⟩, ⟨#[]⟩), ⟨#[]⟩), U0⟩) (x := lvI 0) hz (hs8.le hle) (lv_tz 4).q (by exact ⟨⟨by decide, by decide⟩, by decide, by decide, by decide, by decide, by decide⟩) hn (by omega) hH) fun v H' _ h => (by have h2 := JoinP.tup h; unfold JoinS at h2; rw [jT0 (by rw [j4]; decide), j4] at h2; exact h2))) rfl ?_; refine Zs51 ?_; refine Zs54 ?_; refine Zs59 ?_; refine Zs59 ?_; refine Zs59 ?_; refine Zs49 ?_; refine qb ?_; refine zg ?_; refine zd ?_
    have hw3 := TbR.mn (t := cmT (lvT 4) 1 (-1))
    refine zb (id := 29) ?_; refine z7 (zo L (vs := [_, _]) (qk rfl) rfl rfl rfl rfl ⟨_, rfl⟩) rfl ?_; refine z7 (ok_call (φ := RTabS (cmT (lvT 4) 1 (-1)) 4) L rfl rfl (zf rfl) rfl rfl rfl RTabS.mono (fun u H hH hle _ => Ret.mono (commit_ret hz (hs8.le hle) (lv_tz 4).q hn (by omega) ⟨by decide, by decide⟩ hH) fun v H' _ h => (by have h2 := TabP.tup h; rw [r6] at h2; exact h2))) rfl ?_; refine Zs41 ?_; refine Zs55 ?_; refine Zs71 ?_; refine Zs3 ?_; refine ze ?_; refine zg ?_; refine zd ?_
    refine zb (id := 30) ?_; refine Zs1 ?_; refine Zs18 ?_; refine Zs1 ?_; refine Zs1 ?_; refine Zs18 ?_; refine Zs6 ?_; refine Zs1 ?_; refine Zs1 ?_; refine Zs48 ?_; refine Zs6 ?_; refine Zs1 ?_; refine Zs1 ?_; refine Zs18 ?_; refine Zs6 ?_; refine Zs1 ?_; refine Zs1 ?_; refine Zs18 ?_; refine Zs6 ?_; refine Zs1 ?_; refine Zs1 ?_; refine Zs18 ?_; refine Zs6 ?_; refine Zs3 ?_; refine ze ?_; refine zg ?_
    refine qe L (rs := [.tmp 0]) rfl (fun _ _ h => h) ((((((s1.trans s2).trans s3).trans s4).trans s5).trans s6).trans s7) fun u H hH hle => ?_
    rfl
end Go.V.L39
namespace Go.V.L39
open Go.Proofs Go.RowKit Go.V
structure TbI (B : Heap) (t : Tb) (s : Value) (zs : List (Fl × Value)) : Prop where
  fl : zs.map Prod.fst = t.fl
  sl : SlV tyF 14 (zs.flatMap flc) zs.length false s B
  is : ∀ (i : Nat) z, zs[i]? = some z → IsV z.1.is false z.2 B
  lz : ∀ f ∈ t.fl, f.is.length ≤ 4398046511104
  tz : TZ39 t
theorem TbI.le {B B' : Heap} {t : Tb} {s : Value} {zs : List (Fl × Value)} (h : TbI B t s zs) (hle : B.Le B') : TbI B' t s zs := ⟨h.fl, h.sl.le hle, fun i z hz => (h.is i z hz).le hle, h.lz, h.tz⟩
theorem itsN_max {m : Nat} : ∀ {l : List Fl}, (∀ f ∈ l, f.is.length ≤ m) → itsN l ≤ l.length * m
  | [], _ => Nat.zero_le _
  | f :: l, h => by
    have h1 := itsN_max (l := l) fun g hg => h g (List.mem_cons_of_mem _ hg)
    have h2 := h f (List.mem_cons_self ..)
    rw [List.length_cons, Nat.succ_mul]
    simp only [itsN, List.map_cons, List.sum_cons] at h1 ⊢
    omega
theorem TbI.fsb {B : Heap} {t : Tb} {s : Value} {zs : List (Fl × Value)} (h : TbI B t s zs) (hl : zs.length ≤ 30) : FsB zs false false s B ∧ itsN t.fl ≤ 131941395333120 := by
  refine ⟨⟨h.sl, h.is, by omega, fun i z hz => ?_⟩, ?_⟩
  · have := h.lz z.1 (by rw [← h.fl]; exact List.mem_map_of_mem (List.mem_of_getElem? hz))
    omega
  · have h1 := itsN_max h.lz
    have h2 := fls_len h.fl
    have h3 : t.fl.length * 4398046511104 ≤ 30 * 4398046511104 := Nat.mul_le_mul_right _ (by omega)
    omega
attribute [local irreducible] V N X VO Par StepOK Has Ret RetL RetO RetT RetG Src
theorem TbI.ok {B : Heap} {t : Tb} {s : Value} {zs : List (Fl × Value)} (h : TbI B t s zs) (hb : bndB t = true) : FsB zs false false s B ∧ itsN t.fl ≤ 60 ∧ zs.length ≤ 30 := by
  have h1 := of_decide_eq_true hb
  have h2 := fls_len h.fl
  exact ⟨(h.fsb (by omega)).1, h1.2, by omega⟩
end Go.V.L39
namespace Go.V
open Go.RowKit
inductive LeafK where
  | s
  | b
  | i (k : IntKind)
def LeafOK : LeafK → Value → Prop
  | .s, v => ∃ a : ByteArray, v = .string a ∧ a.size ≤ maxLen
  | .b, v => ∃ c, v = .bool c
  | .i k, v => ∃ n, v = .int k n ∧ (Lit.int k n).wf = true
def LeafsOK : List LeafK → List Value → Prop
  | [], [] => True
  | l :: ls, v :: vs => LeafOK l v ∧ LeafsOK ls vs
  | _, _ => False
theorem LeafsOK.append : ∀ {a b : List LeafK} {x y : List Value}, LeafsOK a x → LeafsOK b y → LeafsOK (a ++ b) (x ++ y)
  | [], _, [], _, _, h => h
  | [], _, _ :: _, _, h, _ => h.elim
  | _ :: _, _, [], _, h, _ => h.elim
  | _ :: _, _, _ :: _, _, h, k => ⟨h.1, LeafsOK.append h.2 k⟩
theorem LeafsOK.length : ∀ {a : List LeafK} {x : List Value}, LeafsOK a x → x.length = a.length
  | [], [], _ => rfl
  | [], _ :: _, h => h.elim
  | _ :: _, [], h => h.elim
  | _ :: _, _ :: _, h => by simp [LeafsOK.length h.2]
theorem leaf_i {k : IntKind} {ls : List LeafK} {vs : List Value} (h : LeafsOK (.i k :: ls) vs) : ∃ n r, vs = .int k n :: r ∧ (Lit.int k n).wf = true ∧ LeafsOK ls r := by
  cases vs with
  | nil => exact h.elim
  | cons v vs => obtain ⟨⟨a, rfl, ha⟩, h⟩ := h; exact ⟨a, vs, rfl, ha, h⟩
theorem leaf_nil {vs : List Value} (h : LeafsOK [] vs) : vs = [] := by
  cases vs with
  | nil => rfl
  | cons _ _ => exact h.elim
def leafF (P : Program) (rec : TypeId → Option (List LeafK)) : List Field → Nat → Option (List LeafK)
  | [], _ => some []
  | f :: fs, off => match rec f.type with
    | some ls => if f.offset = off ∧ P.cellsOf f.type = ls.length then
        match leafF P rec fs (off + ls.length) with
        | some r => some (ls ++ r)
        | none => none
      else none
    | none => none
def repL (ls : List LeafK) : Nat → List LeafK
  | 0 => []
  | n + 1 => ls ++ repL ls n
def leafI (P : Program) : Nat → TypeId → Option (List LeafK)
  | 0, _ => none
  | d + 1, t => match P.underlying t with
    | some .string => some [.s]
    | some (.int k) => some [.i k]
    | some .bool => some [.b]
    | some (.struct fs) => match leafF P (leafI P d) fs.toList 0 with
      | some ls => if P.cellsOf t = ls.length then some ls else none
      | none => none
    | some (.array n e) => match leafI P d e with
      | some ls => if P.cellsOf e = ls.length ∧ P.cellsOf t = (repL ls n).length then some (repL ls n) else none
      | none => none
    | _ => none
theorem mapM_all {α β : Type} {f : α → Option β} : ∀ {l : List α} {ys : List β}, l.mapM f = some ys → ∃ g : List β, g = ys ∧ (∀ x ∈ l, ∃ y, f x = some y ∧ y ∈ ys) ∧ (∀ y ∈ ys, ∃ x ∈ l, f x = some y)
  | [], ys, h => by
    simp at h; subst h
    exact ⟨_, rfl, by simp, by simp⟩
  | x :: l, ys, h => by
    rw [List.mapM_cons] at h
    cases hx : f x with
    | none => rw [hx] at h; cases h
    | some y =>
      rw [hx] at h
      cases hl : l.mapM f with
      | none => rw [hl] at h; cases h
      | some zs =>
        rw [hl] at h
        cases h
        obtain ⟨_, _, h1, h2⟩ := mapM_all hl
        refine ⟨_, rfl, fun z hz => ?_, fun z hz => ?_⟩
        · rcases List.mem_cons.1 hz with rfl | hz
          · exact ⟨y, hx, List.mem_cons_self ..⟩
          · obtain ⟨w, hw, hm⟩ := h1 z hz; exact ⟨w, hw, List.mem_cons_of_mem _ hm⟩
        · rcases List.mem_cons.1 hz with rfl | hz
          · exact ⟨x, List.mem_cons_self .., hx⟩
          · obtain ⟨w, hw, hm⟩ := h2 z hz; exact ⟨w, List.mem_cons_of_mem _ hw, hm⟩
theorem take_split (cs : List Value) (off m r : Nat) : (cs.drop off).take (m + r) = (cs.drop off).take m ++ (cs.drop (off + m)).take r := by
  rw [List.take_add, List.drop_drop]
section
variable {P : Program} {H : Type} {enc : TypeId × Value → H} {W : World} {sp : Nat → Bool} {held : Bool} {base : Nat}
theorem leaf_of_trod : ∀ (d : Nat) {t : TypeId} {ls : List LeafK}, leafI P d t = some ls → ∀ {fuel : Nat} {cs : List Value} {x : DataW H × List MemPlace},
    DataW.trod enc P W base sp held fuel t cs = some x → LeafsOK ls cs ∧ x.2 = []
  | 0, _, _, h, _, _, _, _ => by cases h
  | d + 1, t, ls, h, fuel, cs, x, hx => by
    have ih := @leaf_of_trod d
    cases fuel with
    | zero => simp [DataW.trod] at hx
    | succ fuel =>
      rw [leafI] at h
      unfold DataW.trod at hx
      cases hu : P.underlying t with
      | none => rw [hu] at h; cases h
      | some ds =>
        rw [hu] at h hx
        cases ds <;> first | (cases h; done) | skip
        · cases h
          match cs, hx with
          | [.bool b], hx => cases hx; exact ⟨⟨⟨b, rfl⟩, trivial⟩, rfl⟩
        · rename_i k
          cases h
          match cs, hx with
          | [.int k' m], hx =>
            simp only at hx
            split at hx
            · rename_i hk
              obtain ⟨rfl, hw⟩ := hk
              cases hx; exact ⟨⟨⟨m, rfl, hw⟩, trivial⟩, rfl⟩
            · cases hx
        · cases h
          match cs, hx with
          | [.string s], hx =>
            simp only at hx
            split at hx
            · rename_i hs; cases hx; exact ⟨⟨⟨s, rfl, hs⟩, trivial⟩, rfl⟩
            · cases hx
        · rename_i n e
          simp only at h hx
          split at h
          · rename_i l1 hl1
            split at h
            · rename_i hc
              cases h
              split at hx
              · rename_i hlen
                obtain ⟨xs, hxs, rfl⟩ := Option.map_eq_some_iff.1 hx
                obtain ⟨_, _, hall, hback⟩ := mapM_all hxs
                have each : ∀ i, i < n → LeafsOK l1 ((cs.drop (i * P.cellsOf e)).take (P.cellsOf e)) := fun i hi => by
                  obtain ⟨y, hy, _⟩ := hall i (List.mem_range.2 hi)
                  exact (ih hl1 hy).1
                have gen : ∀ m k, k + m = n → LeafsOK (repL l1 m) ((cs.drop (k * P.cellsOf e)).take (m * P.cellsOf e)) := by
                  intro m
                  induction m with
                  | zero => intro k _; simp [repL, LeafsOK]
                  | succ m ihm =>
                    intro k hk
                    rw [show (m + 1) * P.cellsOf e = P.cellsOf e + m * P.cellsOf e by rw [Nat.succ_mul]; omega, take_split]
                    refine LeafsOK.append (each k (by omega)) ?_
                    rw [show k * P.cellsOf e + P.cellsOf e = (k + 1) * P.cellsOf e by rw [Nat.succ_mul]]
                    exact ihm (k + 1) (by omega)
                refine ⟨?_, ?_⟩
                · have := gen n 0 (by omega)
                  have hrl : ∀ m, (repL l1 m).length = m * P.cellsOf e := by
                    intro m
                    induction m with
                    | zero => simp [repL]
                    | succ m ihm => simp only [repL, List.length_append, ihm, hc.1]; rw [Nat.succ_mul]; omega
                  rw [← hrl n, ← hc.2, ← hlen] at this
                  simpa using this
                · refine List.flatMap_eq_nil_iff.2 fun y hy => ?_
                  obtain ⟨i, _, hi⟩ := hback y hy
                  exact (ih hl1 hi).2
              · cases hx
            · cases h
          · cases h
        · rename_i fs
          simp only at h hx
          split at h
          · rename_i l1 hl1
            split at h
            · rename_i hc
              cases h
              split at hx
              · rename_i hlen
                obtain ⟨xs, hxs, rfl⟩ := Option.map_eq_some_iff.1 hx
                obtain ⟨_, _, hall, hback⟩ := mapM_all hxs
                have gen : ∀ (fl : List Field) (off : Nat) (ls : List LeafK), (∀ f ∈ fl, f ∈ fs.toList) → leafF P (leafI P d) fl off = some ls →
                    LeafsOK ls ((cs.drop off).take ls.length) ∧ ∀ f ∈ fl, ∃ l, leafI P d f.type = some l := by
                  intro fl
                  induction fl with
                  | nil => intro off ls _ h; cases h; simp [LeafsOK]
                  | cons f fl ihf =>
                    intro off ls hm h
                    simp only [leafF] at h
                    split at h
                    · rename_i l2 hl2
                      split at h
                      · rename_i hc2
                        obtain ⟨rfl, hc3⟩ := hc2
                        split at h
                        · rename_i r hr
                          cases h
                          obtain ⟨g1, g2⟩ := ihf _ _ (fun g hg => hm g (List.mem_cons_of_mem _ hg)) hr
                          refine ⟨?_, fun g hg => ?_⟩
                          · rw [List.length_append, take_split]
                            refine LeafsOK.append ?_ g1
                            obtain ⟨y, hy, _⟩ := hall f (hm f (List.mem_cons_self ..))
                            rw [← hc3]
                            exact (ih hl2 hy).1
                          · rcases List.mem_cons.1 hg with rfl | hg
                            · exact ⟨l2, hl2⟩
                            · exact g2 g hg
                        · cases h
                      · cases h
                    · cases h
                obtain ⟨g1, g2⟩ := gen fs.toList 0 _ (fun _ h => h) hl1
                refine ⟨?_, ?_⟩
                · rw [← hc, ← hlen] at g1; simpa using g1
                · refine List.flatMap_eq_nil_iff.2 fun y hy => ?_
                  obtain ⟨f, hf, hi⟩ := hback y hy
                  obtain ⟨l, hl⟩ := g2 f hf
                  exact (ih hl hi).2
              · cases hx
            · cases h
          · cases h
theorem open_sl {t e : TypeId} {ls : List LeafK} {b0 : Nat} {v : Value} {dd : DataW H} {ps : List MemPlace} (ht : P.underlying t = some (.slice e)) (hlf : leafI P 20 e = some ls) (hce : P.cellsOf e = ls.length)
    (hval : Value.okWide P W .any b0 t v) (hd : DataW.Trod enc P W 0 (fun _ => true) held t v dd ps) :
    ∃ cs : List (List Value), (∀ c ∈ cs, LeafsOK ls c) ∧ cs.length ≤ maxLen ∧ SlV e ls.length cs.flatten cs.length false v (hp W) := by
  obtain ⟨fuel, hf⟩ := hd
  have hv : v = .slice none 0 0 ∨ ∃ a len cap, v = .slice (some a) len cap ∧ len ≤ cap ∧ cap ≤ maxLen ∧ a.spot = none ∧ ∃ cs fr ty, W.heap[a.block]? = some (.cells cs ty fr) := by
    have h0 : Cell.ok P W .any b0 t v := by
      unfold Value.okWide at hval
      rw [ht] at hval
      unfold Cell.okWide at hval
      rw [ht] at hval
      exact hval
    unfold Cell.ok at h0
    rw [ht] at h0
    match v, h0 with
    | .slice none 0 0, _ => exact .inl rfl
    | .slice (some a) len cap, h0 =>
      obtain ⟨h1, h2, _, h3, row, cells, h4, _⟩ := h0
      have hm : IntKind.i64.max = 9223372036854775807 := by decide
      refine .inr ⟨a, len, cap, rfl, h1, by rw [hm] at h2; unfold maxLen; omega, h3, ?_⟩
      unfold World.shape? at h4
      split at h4
      · rename_i cs ty fr hh; exact ⟨_, _, _, hh⟩
      · cases h4
  rcases hv with rfl | ⟨a, len, cap, rfl, h1, h2, h3, cs, fr, ty, h4⟩
  · exact ⟨[], fun c h => (nomatch h), Nat.zero_le _, SlV.nil⟩
  · rcases Deep.open_slice ht (by simpa [Value.cells] using hf) with ⟨h, _⟩ | ⟨a', len', cap', m, nn, D, Pl, h5, _, _, _, hm, _, hx⟩
    · cases h
    · cases h5
      simp only [if_true] at hm
      rw [hm] at hx
      clear hm
      obtain ⟨C, hC⟩ := Deep.choose_lt (α := List Value) (n := cap) (p := fun i c => W.cells? 0 (a.add (i * P.cellsOf e)) (P.cellsOf e) = some c ∧ LeafsOK ls c) (fun i hi => by
        obtain ⟨c, g1, g2⟩ := hx i hi
        exact ⟨c, g1, (leaf_of_trod 20 hlf g2).1⟩)
      have hln : ∀ i, i < cap → (C i).length = ls.length := fun i hi => (hC i hi).2.length
      refine ⟨(List.range len).map C, fun c hc => ?_, by simp; omega, ?_⟩
      · obtain ⟨i, hi, rfl⟩ := List.mem_map.1 hc
        exact (hC i (by have := List.mem_range.1 hi; omega)).2
      · have hfl : ∀ k, k ≤ cap → ((List.range k).map C).flatten.length = k * ls.length := by
          intro k
          induction k with
          | zero => simp
          | succ k ih =>
            intro hk
            rw [List.range_succ, List.map_append, List.flatten_append, List.length_append, ih (by omega), Nat.succ_mul]
            simp [hln k (by omega)]
        refine ⟨by rw [hfl len h1, List.length_map, List.length_range], .inr ⟨a.block, a.off, cap, cs, ty, fr, ?_, h4, ?_, by simpa using h1, fun h => by cases h⟩⟩
        · obtain ⟨ab, ao, asp⟩ := a
          simp only at h3
          subst h3
          simp
        · rw [hfl len h1]
          have key : ∀ k, k ≤ cap → (cs.toList.drop a.off).take (k * ls.length) = ((List.range k).map C).flatten := by
            intro k
            induction k with
            | zero => simp
            | succ k ih =>
              intro hk
              rw [Nat.succ_mul, take_split, ih (by omega), List.range_succ, List.map_append, List.flatten_append]
              congr 1
              obtain ⟨_, g2, g3⟩ := World.cells?_some (hC k (by omega)).1
              simp only [List.map_cons, List.map_nil, List.flatten_cons, List.flatten_nil, List.append_nil]
              apply List.ext_getElem?
              intro j
              rcases Nat.lt_or_ge j ls.length with hj | hj
              · have := g3 j (by omega)
                rw [← this, List.getElem?_take_of_lt hj, List.getElem?_drop]
                obtain ⟨ab, ao, asp⟩ := a
                simp only at h3
                subst h3
                rw [addr_add, addr_add, cell_of_heap h4]
                simp only [hce]
                rw [Array.getElem?_toList]
              · rw [List.getElem?_eq_none (by rw [List.length_take]; omega), List.getElem?_eq_none (by rw [hln k (by omega)]; exact hj)]
          exact key len h1
end
end Go.V
namespace Go.V
open Go.ChangeShapes Go.WideShapes Go.ChangeAt Go.ChangeMaps Go.RowKit
inductive Sh where
  | l (k : LeafK)
  | s (t e : TypeId) (ls : List LeafK)
def SlOK (H : Heap) (e : TypeId) (ls : List LeafK) (v : Value) : Prop := ∃ cs : List (List Value), (∀ c ∈ cs, LeafsOK ls c) ∧ cs.length ≤ maxLen ∧ SlV e ls.length cs.flatten cs.length false v H
def ShOK (H : Heap) : List Sh → List Value → Prop
  | [], vs => vs = []
  | .l k :: r, vs => ∃ v w, vs = v :: w ∧ LeafsOK [k] [v] ∧ ShOK H r w
  | .s _ e ls :: r, vs => ∃ v w, vs = v :: w ∧ SlOK H e ls v ∧ ShOK H r w
theorem ShOK.append {H : Heap} : ∀ {a b : List Sh} {x y : List Value}, ShOK H a x → ShOK H b y → ShOK H (a ++ b) (x ++ y)
  | [], _, _, _, hx, hy => by cases hx; exact hy
  | .l k :: a, _, _, _, ⟨v, w, e, h1, h2⟩, hy => by subst e; exact ⟨v, _, rfl, h1, ShOK.append h2 hy⟩
  | .s t e ls :: a, _, _, _, ⟨v, w, e', h1, h2⟩, hy => by subst e'; exact ⟨v, _, rfl, h1, ShOK.append h2 hy⟩
section
variable {P : Program} {H : Type} {enc : TypeId × Value → H} {W : World} {held : Bool}
end
end Go.V
namespace Go.V
open Go.ChangeShapes Go.WideShapes Go.ChangeAt Go.ChangeMaps Go.RowKit
section
variable {P : Program} {H : Type} {enc : TypeId × Value → H} {W : World} {held : Bool}
end
end Go.V
namespace Go.V.L39
open Go.Proofs Go.ChangeShapes Go.WideShapes Go.ChangeAt Go.ChangeMaps Go.RowKit Go.V
section
variable {H : Type} {enc : TypeId × Value → H} {W : World} {held : Bool}
end
theorem each_of {α : Type} {f : α → List Value} {Φ : List Value → Prop} {Ψ : α → Prop} (hf : ∀ c, Φ c → ∃ x, c = f x ∧ Ψ x) : ∀ (cs : List (List Value)), (∀ c ∈ cs, Φ c) → ∃ l : List α, cs.flatten = l.flatMap f ∧ l.length = cs.length ∧ ∀ x ∈ l, Ψ x
  | [], _ => ⟨[], rfl, rfl, fun x h => by cases h⟩
  | c :: cs, h => by
    obtain ⟨x, rfl, hx⟩ := hf c (h c (List.mem_cons_self ..))
    obtain ⟨l, h1, h2, h3⟩ := each_of hf cs fun d hd => h d (List.mem_cons_of_mem _ hd)
    exact ⟨x :: l, by rw [List.flatten_cons, List.flatMap_cons, h1], by rw [List.length_cons, List.length_cons, h2], fun y hy => by
      rcases List.mem_cons.1 hy with rfl | hy
      · exact hx
      · exact h3 y hy⟩
end Go.V.L39
namespace Go.V.L39
open Go.Proofs Go.RowKit Go.V
structure OwnZ (zs : List (Fl × Value)) (B H : Heap) : Prop where
  nw : ∀ (i : Nat) z, zs[i]? = some z → NewIn B z.2
  ow : ∀ (i : Nat) z, zs[i]? = some z → OwnB tyI (z.1.is.flatMap itc) z.2 H
def TbXN (B : Heap) (t : Tb) (x : SlX) (H : Heap) : Prop := TbN B t (tbv t.nx (.slice x.1 x.2.1 x.2.2)) H
theorem TbXN.mono {B : Heap} {t : Tb} : MonoX (TbXN B t) := fun _ _ _ h hle => tbn_mono h hle
theorem TbN.mn {B : Heap} {t : Tb} : Kn.mono (.sat (TbN B t)) := fun _ _ _ h hle => tbn_mono h hle
theorem TbXN.open {B : Heap} {t : Tb} {x : SlX} {H : Heap} (h : TbXN B t x H) : ∃ zs, zs.map Prod.fst = t.fl ∧ FsB zs true true (.slice x.1 x.2.1 x.2.2) H ∧ OwnZ zs B H := by
  obtain ⟨zs, s, h1, h2, h3, h4, h5⟩ := h
  obtain rfl : (Value.slice x.1 x.2.1 x.2.2) = s := by
    injection h1 with h1
    have h6 := congrArg (fun a : Array Value => a.toList[1]?) h1
    simpa using h6
  exact ⟨zs, h2, h3, fun i z hz => (h5 i z hz).1, fun i z hz => (h5 i z hz).2⟩
abbrev JoinNS (B : Heap) (t : Tb) (id : Int) (md : Bool) (e : Int) : Value → Heap → Prop := TupS [TbN B t, fun v _ => v = .int .i64 id, fun v _ => v = .bool md, fun v _ => v = .int .i64 e]
theorem JoinNS.mono {B : Heap} {t : Tb} {id : Int} {md : Bool} {e : Int} : Kn.mono (.sat (JoinNS B t id md e)) := TupS.mono fun φ h => by
  simp only [List.mem_cons, List.mem_nil_iff, or_false] at h
  rcases h with rfl | rfl | rfl | rfl
  · exact TbN.mn
  · exact eqv_mono
  · exact eqv_mono
  · exact eqv_mono
theorem CopyP.r {B : Heap} {t : Tb} (hl : t.fl.length ≤ 100000) (hli : ∀ f ∈ t.fl, f.is.length ≤ 4611686018427387904) {v : Value} {H : Heap} (h : CopyP B t v H) : TbR t v H := by
  obtain ⟨zs, s, h1, h2⟩ := h
  exact ⟨zs, s, h1, h2.fl, h2.toB (by rw [fls_len h2.fl]; exact hl) hli⟩
end Go.V.L39
namespace Go.V.L39
open Go.Proofs Go.RowKit Go.V
theorem srtR_eq (l : List It) : srtR l = (revs l).mergeSort (fun x y => decide (x ≤ y)) := Go.Sort.sortInt (revs l)
theorem revs_nodup (l : List It) : (revs l).Nodup := by
  suffices ∀ (m : List It) (acc : List Int), acc.Nodup → (revsF acc m).Nodup from this l [] List.nodup_nil
  intro m
  induction m with
  | nil => exact fun acc h => h
  | cons x m ih =>
    intro acc h
    refine ih _ ?_
    dsimp only
    split
    · exact h
    · rename_i hx
      rw [List.nodup_append]
      exact ⟨h, List.pairwise_singleton _ _, fun a ha b hb => by
        rw [List.mem_singleton] at hb
        subst hb
        intro e; subst e; exact hx ha⟩
theorem srtR_perm (l : List It) : (srtR l).Perm (revs l) := by rw [srtR_eq]; exact List.mergeSort_perm _ _
theorem sum_zero {l : List Nat} (h : ∀ a ∈ l, a = 0) : l.sum = 0 := by
  induction l with
  | nil => rfl
  | cons a l ih => rw [List.sum_cons, h a (List.mem_cons_self ..), ih fun b hb => h b (List.mem_cons_of_mem _ hb)]
theorem sum_ind {v : Int} : ∀ {vs : List Int}, vs.Nodup → v ∈ vs → (vs.map fun u => if v = u then 1 else 0).sum = 1
  | [], _, h => by cases h
  | u :: vs, hn, h => by
    rw [List.nodup_cons] at hn
    rw [List.map_cons, List.sum_cons]
    by_cases e : v = u
    · subst e
      have : (vs.map fun u => if v = u then 1 else 0).sum = 0 := by
        refine sum_zero fun a ha => ?_
        obtain ⟨b, hb, rfl⟩ := List.mem_map.1 ha
        exact if_neg fun e => hn.1 (by rw [e]; exact hb)
      rw [this, if_pos rfl]
    · rw [if_neg e, sum_ind hn.2 (by rcases List.mem_cons.1 h with h | h; exact absurd h e; exact h)]
theorem sum_add {α : Type} (f g : α → Nat) : ∀ l : List α, (l.map fun x => f x + g x).sum = (l.map f).sum + (l.map g).sum
  | [] => rfl
  | x :: l => by simp only [List.map_cons, List.sum_cons, sum_add f g l]; omega
theorem sum_cnt {vs : List Int} (hn : vs.Nodup) : ∀ {l : List It}, (∀ x ∈ l, x.rv ∈ vs) → (vs.map fun v => cntR v l).sum = l.length
  | [], _ => by
    refine (sum_zero fun a ha => ?_).trans rfl
    obtain ⟨b, hb, rfl⟩ := List.mem_map.1 ha
    rfl
  | x :: l, h => by
    have h1 := sum_cnt hn (l := l) fun y hy => h y (List.mem_cons_of_mem _ hy)
    have h2 : (vs.map fun v => cntR v (x :: l)) = vs.map fun v => cntR v l + if x.rv = v then 1 else 0 := List.map_congr_left fun v _ => by
      unfold cntR
      rw [List.countP_cons]
      congr 1
      by_cases e : x.rv = v <;> simp [e]
    rw [h2, sum_add, h1, sum_ind hn (h x (List.mem_cons_self ..)), List.length_cons]
theorem pins_sum (l : List It) : ((pins l).map Prod.snd).sum = l.length := by
  have h1 : (pins l).map Prod.snd = (srtR l).map fun v => cntR v l := by simp [pins]
  rw [h1, ((srtR_perm l).map _).sum_nat]
  exact sum_cnt (revs_nodup l) fun x hx => (mem_revs l x.rv).2 (List.countP_pos_iff.2 ⟨x, hx, decide_eq_true rfl⟩)
theorem pins_len (l : List It) : (pins l).length ≤ l.length := by
  have h1 := revs_len l
  have h2 := srt_len l
  unfold pins
  rw [List.length_map]
  omega
theorem sum_take {l : List Nat} (i : Nat) : (l.take i).sum ≤ l.sum := by
  have := congrArg List.sum (List.take_append_drop i l)
  rw [List.sum_append] at this
  omega
theorem sum_snoc {l : List Nat} {i x : Nat} (h : l[i]? = some x) : (l.take (i + 1)).sum = (l.take i).sum + x := by
  rw [take_snoc h, List.sum_append]; simp
end Go.V.L39
namespace Go.V.L39
open Go.Proofs Go.RowKit Go.V
theorem N_attach {F : Fr} {B : Heap} {O : Boxes} {n : Nat} {κ : Kap} {Q : Exit → Act → World → Prop} (t g : Nat) {x : Value} {r : Res} (hk : κ g = some (.own (AtV x r))) (ht : κ t = some (.is x)) (h : N F B n O (upd (upd κ g nilK) t (.own r)) Q) : N F B n O κ Q := fun a u hh => h a u (hh.attach hk ht)
abbrev tyOp : TypeId := 67
def opc (o : Op6) : List Value := [.int .u8 o.w, .int .u8 o.q, .int .u8 o.r, .int .u8 o.c, .int .u8 o.k, .int .u8 o.n]
theorem opc_len (o : Op6) : (opc o).length = 6 := rfl
def aqC (W : Wt) : List Value := W.flatMap fun w => quc w.1
def itC (W : Wt) : List Value := W.flatMap fun w => itc w.2
theorem aq_at {W : Wt} {k : Nat} {w : Qu × It} (h : W[k]? = some w) : ((aqC W).drop (k * 6)).take 6 = [.int .u8 w.1.kd, .string w.1.g.1.1, .string w.1.g.1.2, .string w.1.g.2, .string w.1.u.1, .string w.1.u.2] := flatMap_at (f := fun w : Qu × It => quc w.1) (s := 6) (fun _ => rfl) W k w h
theorem itC_at {W : Wt} {k : Nat} {w : Qu × It} (h : W[k]? = some w) : ((itC W).drop (k * 5)).take 5 = [.int .i64 w.2.tk, .int .i64 w.2.im, .int .i64 w.2.cl, .int .i64 w.2.cs, .int .u64 w.2.rv] := flatMap_at (f := fun w : Qu × It => itc w.2) (s := 5) (fun _ => rfl) W k w h
theorem aq_snoc {κ : Kap} {s : Nat} {W : Wt} {w : Qu × It} (h : κ s = some (.own (SlR tyQ 6 (W.length + 1) (aqC W ++ quc w.1)))) : κ s = some (.own (SlR tyQ 6 (W ++ [w]).length (aqC (W ++ [w])))) := by
  rw [h]; unfold aqC; rw [List.flatMap_append, List.length_append]; simp
theorem iw_snoc {κ : Kap} {s : Nat} {W : Wt} {w : Qu × It} (h : κ s = some (.own (SlR tyI 5 (W.length + 1) (itC W ++ itc w.2)))) : κ s = some (.own (SlR tyI 5 (W ++ [w]).length (itC (W ++ [w])))) := by
  rw [h]; unfold itC; rw [List.flatMap_append, List.length_append]; simp
theorem stp_join {i : Nat} {t : Tb} {W : Wt} (h : PInv i t W) (hi : i < 100) {o : Op6} (hw : o.w % 8 < 5) : stp t o i = jS t o i := by
  unfold stp; rw [if_pos hw, if_pos (p_joinE h hi o)]
theorem stp_nil {i : Nat} {t : Tb} {o : Op6} (hw : ¬ o.w % 8 < 5) (hn : t.fl = []) : stp t o i = t := by
  unfold stp; rw [if_neg hw, if_pos hn]
theorem atS_eq {t : Tb} {n : Nat} {f : Fl} (h : t.fl[n % t.fl.length]? = some f) : atS t n = f := by
  unfold atS; rw [h]; rfl
theorem stp_cm {i : Nat} {t : Tb} {W : Wt} (h : PInv i t W) (hi : i < 100) {o : Op6} (ho : OpZ o) (hw : ¬ o.w % 8 < 5) (hn : t.fl ≠ []) (hw7 : o.w % 8 < 7) {f : Fl} (hf : t.fl[o.n % t.fl.length]? = some f) : stp t o i = cmT t f.id o.n := by
  unfold stp; rw [if_neg hw, if_neg hn, if_pos hw7, atS_eq hf, if_pos (p_cmE h hi (fls_mem hf) ho.n)]
theorem stp_ld {i : Nat} {t : Tb} {W : Wt} (h : PInv i t W) {o : Op6} (hw : ¬ o.w % 8 < 5) (hn : t.fl ≠ []) (hw7 : ¬ o.w % 8 < 7) {f : Fl} (hf : t.fl[o.n % t.fl.length]? = some f) : stp t o i = ldT t f.id := by
  unfold stp; rw [if_neg hw, if_neg hn, if_neg hw7, atS_eq hf, if_pos (plE_at h.ok (fls_mem hf))]
theorem fls_its : ∀ {l : List Fl}, (∀ f ∈ l, f.is ≠ []) → l.length ≤ itsN l
  | [], _ => Nat.zero_le _
  | f :: l, h => by
    have h1 := fls_its (l := l) fun g hg => h g (List.mem_cons_of_mem _ hg)
    have h2 : 0 < f.is.length := List.length_pos_iff.2 (h f (List.mem_cons_self ..))
    simp only [itsN, List.map_cons, List.sum_cons, List.length_cons] at h1 ⊢
    omega
theorem PInv.small {i : Nat} {t : Tb} {W : Wt} (h : PInv i t W) : itsN t.fl ≤ i ∧ t.fl.length ≤ i := by
  have h1 := h.len
  have h2 := h.its
  have h3 : t.fl.length ≤ itsN t.fl := fls_its fun f hf => by
    obtain ⟨k, hk⟩ := List.getElem?_of_mem hf
    exact (h.ok.fl k f hk).ne
  omega
def goneB (l : List It) (x : It) : Bool := l.any fun y => decide (y = x)
theorem goneB_snoc {l : List It} {j : Nat} {y x : It} (h : l[j]? = some y) : goneB (l.take (j + 1)) x = (goneB (l.take j) x || decide (y = x)) := by
  unfold goneB; rw [take_snoc h, List.any_append]; simp
theorem gone_hit {i : Nat} {t : Tb} {W : Wt} (h : PInv i t W) {f : Fl} (hf : f ∈ t.fl) {k : Nat} {w : Qu × It} (hw : W[k]? = some w) : goneB f.is w.2 = hitW f w := by
  have h1 := p_in h hf hw
  rw [Bool.eq_iff_iff, ← h1]
  unfold goneB
  rw [List.any_eq_true]
  constructor
  · rintro ⟨y, hy, hd⟩
    rw [← of_decide_eq_true hd]; exact hy
  · exact fun hm => ⟨_, hm, decide_eq_true rfl⟩
def filW (W : Wt) (f : Fl) : Wt := W.filter fun w => !hitW f w
theorem filW_snoc {W : Wt} {f : Fl} {k : Nat} {w : Qu × It} (h : W[k]? = some w) : filW (W.take (k + 1)) f = filW (W.take k) f ++ if hitW f w = true then [] else [w] := by
  unfold filW; rw [take_snoc h, List.filter_append]
  cases hh : hitW f w <;> simp [List.filter, hh]
theorem pins_take_sum {l : List It} {k : Nat} {p : Int × Nat} (h : (pins l)[k]? = some p) : (((pins l).map Prod.snd).take (k + 1)).sum = (((pins l).map Prod.snd).take k).sum + p.2 := sum_snoc (by rw [List.getElem?_map, h]; rfl)
end Go.V.L39
namespace Go.V.L39
open Go.Proofs Go.RowKit Go.V
abbrev JoinS0 (t : Tb) (id : Int) (md : Bool) : Value → Heap → Prop := TupS [TbR t, fun v _ => v = .int .i64 id, fun v _ => v = .bool md, fun v _ => v = .int .i64 0]
theorem JoinS0.mono {t : Tb} {id : Int} {md : Bool} : Kn.mono (.sat (JoinS0 t id md)) := TupS.mono fun φ h => by
  simp only [List.mem_cons, List.mem_nil_iff, or_false] at h
  rcases h with rfl | rfl | rfl | rfl
  · exact TbR.mn
  · exact eqv_mono
  · exact eqv_mono
  · exact eqv_mono
attribute [local irreducible] V N X VO Par StepOK Has Ret RetL RetO RetT RetG Src
set_option maxHeartbeats 16000000 in
set_option maxRecDepth 20000 in
theorem play_law {ops : List Op6} {s : Value} (hop : ∀ o ∈ ops, OpZ o) {w : World} {B : Heap} (hs : SlV tyOp 6 (ops.flatMap opc) ops.length false s B) (hB : B.Le (hp w)) :
    Ret Try.prog 5 [s] w B (fun v _ => v = .bool true) := by
  obtain ⟨p0, c0, rfl⟩ := slv_sh hs
  refine y6 Try.func5 rfl Try.ntmps5 (Nat.le_of_ble_eq_true rfl) hB ?_
  by_cases hl : 20 < ops.length
  · refine zd ?_; refine zb (id := 0) ?_; refine Zs3 ?_; refine ze ?_; refine zg ?_; refine zd ?_; refine zd ?_; refine zb (id := 1) ?_; refine Zs1 ?_; refine Zs39 ?_; refine Zs21 ?_; refine ze ?_; refine zg ?_; refine zu rfl ?_; refine zd ?_; refine zb (id := 2) ?_; refine z7 (zp L rfl rfl (zf rfl) rfl rfl rfl (fun u H hH _ _ => lives_law hH)) rfl ?_; refine Zs3 ?_; refine ze ?_; refine zg ?_
    refine qe L (rs := [.tmp 2]) rfl (fun _ _ h => h) Since.refl fun u H hH hle => ?_
    rfl
  refine V_seen 0 (SlV tyOp 6 (ops.flatMap opc) ops.length false) rfl SlV.mono hs ?_
  refine zd ?_; refine zb (id := 0) ?_; refine Zs3 ?_; refine ze ?_; refine zg ?_; refine zd ?_; refine zd ?_; refine zb (id := 1) ?_; refine Zs41 ?_; refine Zs32 ?_; refine Zs12 ?_; refine ze ?_; refine zg ?_; refine zm rfl ?_; refine zt ?_; refine zg ?_; refine zd ?_; refine zb (id := 3) ?_; refine Zs36 ?_; refine ze ?_; refine zg ?_; refine zd ?_; refine zb (id := 4) ?_; refine z7 (zo L (vs := [_, _]) (qk rfl) rfl rfl rfl rfl ⟨_, rfl⟩) rfl ?_; refine Zs36 ?_; refine Zs13 ?_; refine ze ?_; refine zg ?_; refine zd ?_; refine zb (id := 5) ?_; refine Zs3 ?_; refine ze ?_; refine zg ?_; refine zd ?_; refine zb (id := 6) ?_; refine Zs3 ?_; refine ze ?_; refine zg ?_; refine zd ?_; refine zd ?_; refine zb (id := 7) ?_; refine Zs3 ?_; refine ze ?_; refine zg ?_; refine q0 ?_
  refine V_clsX 3 TbX.mono ((none, 0, 0) : SlX) (show TbX T0 (none, 0, 0) B from ⟨[], rfl, fsb_nil rfl⟩) (r := fun x : SlX => Cell (tbxC T0 x) tyT) rfl ?_
  refine V_clsX 4 TbX.mono ((none, 0, 0) : SlX) (show TbX T0 (none, 0, 0) B from ⟨[], rfl, fsb_nil rfl⟩) (r := fun x : SlX => Cell (tbxC T0 x) tyT) rfl ?_
  refine V_nilR 5 tyQ 6 rfl ?_
  refine V_nilR 6 tyI 5 rfl ?_
  refine V_loop (fun T : (Nat × Tb) × Wt => [(0, .sat (SlV tyOp 6 (ops.flatMap opc) ops.length false)), (2, .is (.bool false)), (3, .own (ExR (fun x : SlX => Cell (tbxC (T.1.2) x) tyT) (TbX (T.1.2)) TbX.mono)), (4, .own (ExR (fun x : SlX => Cell (tbxC (T.1.2) x) tyT) (TbX (T.1.2)) TbX.mono)), (5, .own (SlR tyQ 6 (T.2).length (aqC (T.2)))), (6, .own (SlR tyI 5 (T.2).length (itC (T.2)))), (7, .is (.int .i64 (T.1.1 : Nat)))]) (fun T => T.1.1 ≤ ops.length ∧ PInv T.1.1 T.1.2 T.2 ∧ TZ39 T.1.2) (fun T => ops.length - T.1.1) ((0, T0), []) ⟨Nat.zero_le _, pinv0, tz_zero⟩ ⟨rfl, rfl, rfl, rfl, rfl, rfl, rfl, trivial⟩ ?_
  rintro ⟨⟨i, t⟩, Q⟩ ⟨hi, hP, hT⟩
  dsimp only at hi hP hT ⊢
  by_cases hlt : i < ops.length
  · obtain ⟨o, hoi⟩ := get_some hlt
    have ho := hop o (List.mem_of_getElem? hoi)
    obtain ⟨how, hoq, hor, hoc, hok, hon⟩ := ho
    have ho : OpZ o := ⟨how, hoq, hor, hoc, hok, hon⟩
    have hc6 : ((ops.flatMap opc).drop (i * 6)).take 6 = [.int .u8 o.w, .int .u8 o.q, .int .u8 o.r, .int .u8 o.c, .int .u8 o.k, .int .u8 o.n] := flatMap_at opc_len _ i o hoi
    obtain ⟨hsm, hsl⟩ := hP.small
    have hWl := hP.len
    have hTs := tz_stp hT o i
    have e8 : Int.tmod (o.w : Int) 8 = ((o.w % 8 : Nat) : Int) := rfl
    have q3 : (i : Int).tdiv 3 = ((i / 3 : Nat) : Int) := rfl
    have d3 : IntKind.i64.wrap ((i : Int).tdiv 3) = ((i / 3 : Nat) : Int) := wrap_i64 (by omega) (by omega)
    have hms := TbR.mn (t := stp t o i)
    refine V_opnX 3 rfl fun ⟨p3, n3, c3⟩ H3 s3 ⟨zs3, hz3, hs3⟩ => ?_
    refine V_opnX 4 rfl fun ⟨p4o, n4o, c4o⟩ H4o s4o ⟨zs4o, hz4o, hs4o⟩ => ?_
    dsimp only [tbxC] at hs3 hs4o ⊢
    have hl4o := fls_len hz4o
    obtain ⟨pz3, cz3, ez3⟩ := hs3.shape
    cases ez3
    have hs3o := hs3.le s4o.le
    have hl3 := fls_len hz3
    refine V_box 3 rfl fun b3 _ => ?_
    refine zd ?_; refine zd ?_; refine zb (id := 8) ?_; refine Zs1 ?_; refine Zs41 ?_; refine Zs32 ?_; refine Zs10 ?_; refine ze ?_; refine zg ?_; refine zu rfl ?_; refine zt ?_; refine zg ?_; refine zd ?_; refine q0 ?_; refine zd ?_; refine zy (id := 10) [] mixed (by kernel_rfl) ?_; refine z8 (zo L (vs := [_, _]) (qk rfl) rfl rfl rfl rfl ⟨_, rfl⟩) rfl ?_; refine Zs51 ?_; refine Zs7 ?_; refine z8 (q9 L _ rfl rfl rfl rfl rfl rfl rfl (by first | omega | decide) (by assumption)) rfl ?_; refine z8 (y9 L (vs := [_, _, _, _, _, _]) rfl rfl rfl rfl rfl ⟨_, rfl⟩) rfl ?_; refine Zs7 ?_; refine z8 (ok_call (φ := TbR (stp t o i)) L rfl rfl (zf rfl) rfl rfl rfl TbR.mn (fun u H hH hle _ => step_law hz4o (hs4o.le hle) hT.q hT.x (by omega) (by omega) ho (by omega) hH)) rfl ?_; refine z8 (ok_storeX L (X := SlX) (tbxC (stp t o i)) (TbX (stp t o i)) TbX.mono tbx_st (fun _ => ⟨rfl, rfl⟩) rfl rfl rfl rfl rfl) rfl ?_; refine qb ?_; refine zg ?_; refine zd ?_
    refine V_opnX 4 rfl fun ⟨p4, n4, c4⟩ H4 s4 ⟨zs4, hz4, hs4⟩ => ?_
    dsimp only [tbxC] at hs4 ⊢
    have hs34 := hs3o.le s4.le
    refine zb (id := 11) ?_; refine Zs41 ?_; refine Zs1 ?_; refine z7 (q9 L _ rfl rfl rfl rfl rfl rfl rfl (by first | omega | decide) (by assumption)) rfl ?_; refine z7 (y9 L (vs := [_, _, _, _, _, _]) rfl rfl rfl rfl rfl ⟨_, rfl⟩) rfl ?_; refine Zs1 ?_; refine z7 (zp L rfl rfl (zf rfl) rfl rfl rfl (fun u H hH _ _ => item_law (by omega) ho hH)) rfl ?_; refine Zs36 ?_; refine Zs13 ?_; refine ze ?_; refine zg ?_; refine zd ?_
    refine V_pub 8 rfl ?_
    refine zb (id := 12) ?_; refine Zs41 ?_; refine Zs1 ?_; refine z7 (q9 L _ rfl rfl rfl rfl rfl rfl rfl (by first | omega | decide) (by assumption)) rfl ?_; refine Zs56 ?_; refine Zs45 ?_; refine z7 (zp L rfl rfl (zf rfl) rfl rfl rfl (fun u H hH _ _ => query_law (by omega) hH)) rfl ?_; refine Zs36 ?_; refine Zs13 ?_; refine ze ?_; refine zg ?_; refine zd ?_
    refine V_pub 9 rfl ?_
    refine zb (id := 13) ?_; refine Zs36 ?_; refine ze ?_; refine zg ?_; refine zd ?_
    refine zb (id := 14) ?_; refine Zs3 ?_; refine ze ?_
    refine zg ?_
    refine zd (q0 ?_)
    refine V_midB (mid_last (fun W' : Wt => [(0, .sat (SlV tyOp 6 (ops.flatMap opc) ops.length false)), (2, .is (.bool false)), (3, .is (.pointer (some ⟨b3, 0, none⟩))), (4, .own (Cell [.int .i64 ((stp t o i)).nx, .slice p4 n4 c4] tyT)), (5, .own (SlR tyQ 6 (W').length (aqC (W')))), (6, .own (SlR tyI 5 (W').length (itC (W')))), (7, .is (.int .i64 (i : Nat))), (10, .own (ExR (fun x : SlX => Cell (tbxC ((stp t o i)) x) tyT) (TbX ((stp t o i))) TbX.mono)), (11, .is (.int .i64 0))]) (fun W' => PInv (i + 1) (stp t o i) W') (fun _ => [bx b3 [.int .i64 t.nx, .slice p3 zs3.length c3] tyT]) ?_) ?_
    rotate_left
    · -- the ways
      by_cases hw5 : o.w % 8 < 5
      · have hst := stp_join hP (by omega) hw5
        have hj0 := p_joinE hP (by omega) o
        have hPn := p_join hP (by omega) o
        rw [← hst] at hPn
        have hmj := TbR.mn (t := stp t o i)
        have hqz := qS_z o.q
        refine zd ?_; refine zb (id := 38) ?_; refine Zs41 ?_; refine Zs1 ?_; refine z7 (q9 L _ rfl rfl rfl rfl rfl rfl rfl (by first | omega | decide) (by assumption)) rfl ?_; refine Zs56 ?_; refine Zs45 ?_; refine Zs26 ?_; refine Zs10 ?_; refine Zs3 ?_; refine ze ?_; refine zg ?_; refine zu rfl ?_; refine zd ?_; refine zb (id := 39) ?_; refine z7 (zo L (vs := [_, _]) (src_box rfl (List.Mem.head _)) rfl rfl rfl rfl ⟨_, rfl⟩) rfl ?_; refine z7 (zo L (vs := [_, _, _, _, _, _]) (zl rfl) rfl rfl rfl rfl ⟨_, rfl⟩) rfl ?_; refine Zs5 ?_; refine Zs4 ?_; refine z7 (zo L (vs := [_, _, _, _, _]) (zl rfl) rfl rfl rfl rfl ⟨_, rfl⟩) rfl ?_; refine Zs1 ?_; refine Zs27 ?_; refine z7 (ok_call (φ := JoinS0 (stp t o i) (joinT t (qS o.q) (itS o i).rv (itS o i) ((i / 3 : Nat) : Int) false).2.1 (joinT t (qS o.q) (itS o i).rv (itS o i) ((i / 3 : Nat) : Int) false).2.2) L rfl rfl (zf rfl) rfl rfl rfl JoinS0.mono (fun u H hH hle _ => Ret.mono (join_ret hz3 (hs34.le hle) hT.q hqz (by omega) (by omega) hH) fun v H' _ h => (by have h9 := JoinP.tup h; rw [hj0] at h9; unfold JoinS at h9; rw [hst]; exact h9))) rfl ?_; refine Zs41 ?_; refine Zs55 ?_; refine Zs71 ?_; refine Zs71 ?_; refine Zs71 ?_; refine z7 (ok_storeX L (X := SlX) (tbxC (stp t o i)) (TbX (stp t o i)) TbX.mono tbx_st (fun _ => ⟨rfl, rfl⟩) rfl rfl rfl rfl rfl) rfl ?_; refine Zs3 ?_; refine ze ?_; refine zg ?_; refine zd ?_
        refine zb (id := 40) ?_; refine qd (ya (.inl rfl) rfl rfl rfl rfl) ?_; refine z7 (zo L (vs := [_, _, _, _, _, _]) (zl rfl) rfl rfl rfl rfl ⟨_, rfl⟩) rfl ?_; refine Zs35 ?_; refine qd (ok_append L rfl rfl rfl (apd_B rfl) rfl el30 rfl rfl (by omega) (by omega)) ?_; refine qd (ya (.inr rfl) rfl rfl rfl rfl) ?_; refine ze ?_; refine zg ?_; refine zb (id := 41) ?_; refine qd (ya (.inl rfl) rfl rfl rfl rfl) ?_; refine z7 (zo L (vs := [_, _, _, _, _]) (zl rfl) rfl rfl rfl rfl ⟨_, rfl⟩) rfl ?_; refine Zs35 ?_; refine qd (ok_append L rfl rfl rfl (apd_B rfl) rfl el33 rfl rfl (by omega) (by omega)) ?_; refine qd (ya (.inr rfl) rfl rfl rfl rfl) ?_; refine ze ?_; refine qo ?_
        exact N_mids (Q ++ [(qS o.q, itS o i)]) Since.refl hPn rfl ⟨rfl, rfl, rfl, rfl, aq_snoc rfl, iw_snoc rfl, rfl, rfl, rfl, trivial⟩
      by_cases hnil : t.fl = []
      · have hst := stp_nil (i := i) hw5 hnil
        have hl0 : zs3.length = 0 := by rw [hl3, hnil]; rfl
        have hPn := hP.more
        refine zd ?_; refine zb (id := 38) ?_; refine Zs41 ?_; refine Zs1 ?_; refine z7 (q9 L _ rfl rfl rfl rfl rfl rfl rfl (by first | omega | decide) (by assumption)) rfl ?_; refine Zs56 ?_; refine Zs45 ?_; refine Zs26 ?_; refine Zs8 ?_; refine Zs3 ?_; refine ze ?_; refine zg ?_; refine zm rfl ?_; refine zd ?_; refine zb (id := 42) ?_; refine Zs31 ?_; refine z7 (zj L (src_box rfl (List.Mem.head _)) rfl rfl rfl rfl) rfl ?_; refine Zs39 ?_; refine Zs18 ?_; refine Zs3 ?_; refine ze ?_; refine zg ?_; refine zu rfl ?_; refine y5 ?_; refine X_there rfl ?_; refine qf ?_; refine y4 ?_; refine zg ?_; refine zb (id := 9) ?_; refine Zs1 ?_; refine Zs16 ?_; refine Zs3 ?_; refine ze ?_
        rw [hst] at hz4
        rw [hst]
        refine N_unbox 3 [] rfl rfl ?_
        refine N_clsX 3 TbX.mono ((p3, zs3.length, c3) : SlX) ⟨zs3, hz3, hs34⟩ (r := fun x : SlX => Cell (tbxC t x) tyT) rfl ?_
        refine N_clsX 4 TbX.mono ((p4, n4, c4) : SlX) ⟨zs4, hz4, hs4⟩ (r := fun x : SlX => Cell (tbxC t x) tyT) rfl ?_
        exact N_roundS (x := ((i, t), Q)) ((i + 1, t), Q) (s3.trans (s4o.trans s4)) ⟨hlt, hPn, hT⟩ (by dsimp only; omega) ⟨rfl, rfl, rfl, rfl, rfl, rfl, rfl, trivial⟩
      obtain ⟨f, hf⟩ := get_some (Nat.mod_lt o.n (List.length_pos_iff.2 hnil))
      have hfm := fls_mem hf
      have hlp : 0 < t.fl.length := List.length_pos_iff.2 hnil
      have hmod : o.n % zs3.length < zs3.length := Nat.mod_lt _ (by omega)
      obtain ⟨f', pf, cf, hzf, hlf, hfv, hfl, hc14⟩ := hs34.at hz3 hmod
      rw [hl3, hf] at hlf
      cases hlf
      have hsl3 := hs34.sl
      have en : Int.tmod (o.n : Int) (zs3.length : Int) = ((o.n % zs3.length : Nat) : Int) := rfl
      have hwr : IntKind.i64.wrap (Int.tmod (o.n : Int) (zs3.length : Int)) = ((o.n % zs3.length : Nat) : Int) := wrap_i64 (by rw [en]; omega) (by rw [en]; omega)
      by_cases hw7 : o.w % 8 < 7
      · have hst := stp_cm hP (by omega) ho hw5 hnil hw7 hf
        have hPn := p_cm hP (by omega) hfm ho.n
        rw [← hst] at hPn
        have hc0 := p_cmE hP (by omega) hfm ho.n
        refine zd ?_; refine zb (id := 38) ?_; refine Zs41 ?_; refine Zs1 ?_; refine z7 (q9 L _ rfl rfl rfl rfl rfl rfl rfl (by first | omega | decide) (by assumption)) rfl ?_; refine Zs56 ?_; refine Zs45 ?_; refine Zs26 ?_; refine Zs8 ?_; refine Zs3 ?_; refine ze ?_; refine zg ?_; refine zm rfl ?_; refine zd ?_; refine zb (id := 42) ?_; refine Zs31 ?_; refine z7 (StepOK.seeV (zj L (src_box rfl (List.Mem.head _)) rfl rfl rfl rfl) (by assumption)) rfl ?_; refine Zs32 ?_; refine Zs14 ?_; refine Zs3 ?_; refine ze ?_; refine zg ?_; refine zm rfl ?_; refine zd ?_; refine zb (id := 43) ?_; refine Zs41 ?_; refine Zs1 ?_; refine z7 (q9 L _ rfl rfl rfl rfl rfl rfl rfl (by first | omega | decide) (by assumption)) rfl ?_; refine Zs56 ?_; refine Zs45 ?_; refine Zs26 ?_; refine Zs10 ?_; refine Zs3 ?_; refine ze ?_; refine zg ?_; refine zu rfl ?_; refine zd ?_; refine zd ?_; refine zb (id := 44) ?_; refine Zs31 ?_; refine z7 (StepOK.seeV (zj L (src_box rfl (List.Mem.head _)) rfl rfl rfl rfl) (by assumption)) rfl ?_; refine Zs32 ?_; refine Zs14 ?_; refine ze ?_; refine zg ?_; refine zm rfl ?_; refine zt ?_; refine zg ?_; refine zy (id := 46) [] mixed (by kernel_rfl) ?_; refine z8 (zo L (vs := [_, _]) (src_box rfl (List.Mem.head _)) rfl rfl rfl rfl ⟨_, rfl⟩) rfl ?_; refine Zs40 ?_; refine z8 (StepOK.seeV (zj L (src_box rfl (List.Mem.head _)) rfl rfl rfl rfl) (by assumption)) rfl ?_; refine Zs51 ?_; refine Zs7 ?_; refine z8 (q9 L _ rfl rfl rfl rfl rfl rfl rfl (by first | omega | decide) (by assumption)) rfl ?_; refine Zs50 ?_; refine Zs44 ?_; refine z8 (ok_conv rfl rfl rfl cv5_3.1 cv5_3.2 (wrap_i64 (by omega) (by omega))) rfl ?_; refine Zs40 ?_; refine z8 (StepOK.seeV (zj L (src_box rfl (List.Mem.head _)) rfl rfl rfl rfl) (by assumption)) rfl ?_; refine z8 (y0 L rfl rfl rfl rfl) rfl ?_; refine z8 (ok_rem rfl rfl rfl rfl (by omega) (by assumption)) rfl ?_; refine z8 (q9 L _ rfl rfl rfl rfl rfl rfl rfl (by first | omega | decide) (by assumption)) rfl ?_; refine Zs50 ?_; refine Zs44 ?_; refine Zs51 ?_; refine Zs7 ?_; refine z8 (q9 L _ rfl rfl rfl rfl rfl rfl rfl (by first | omega | decide) (by assumption)) rfl ?_; refine Zs50 ?_; refine Zs44 ?_; refine z8 (ok_conv rfl rfl rfl cv5_3.1 cv5_3.2 (wrap_i64 (by omega) (by omega))) rfl ?_; refine z8 (ok_call (φ := RTabS (stp t o i) 0) L rfl rfl (zf rfl) rfl rfl rfl RTabS.mono (fun u H hH hle _ => Ret.mono (commit_ret hz3 (hs34.le hle) hT.q (by omega) (by omega) ⟨by omega, by omega⟩ hH) fun v H' _ h => (by have h9 := TabP.tup h; rw [hc0, ← hst] at h9; exact h9))) rfl ?_; refine Zs51 ?_; refine Zs54 ?_; refine Zs59 ?_; refine z8 (ok_storeX L (X := SlX) (tbxC (stp t o i)) (TbX (stp t o i)) TbX.mono tbx_st (fun _ => ⟨rfl, rfl⟩) rfl rfl rfl rfl rfl) rfl ?_; refine Zs49 ?_; refine qb ?_; refine qo ?_
        exact N_mids Q Since.refl hPn rfl ⟨rfl, rfl, rfl, rfl, rfl, rfl, rfl, rfl, rfl, trivial⟩
      · have hst := stp_ld hP hw5 hnil hw7 hf
        have hPn := p_ld hP hfm
        have hPe := plE_at hP.ok hfm
        have hfe := findF_at hP.ok hfm
        rw [← hst] at hPn
        have hml := FlR.mn (f := f)
        refine zd ?_; refine zb (id := 38) ?_; refine Zs41 ?_; refine Zs1 ?_; refine z7 (q9 L _ rfl rfl rfl rfl rfl rfl rfl (by first | omega | decide) (by assumption)) rfl ?_; refine Zs56 ?_; refine Zs45 ?_; refine Zs26 ?_; refine Zs8 ?_; refine Zs3 ?_; refine ze ?_; refine zg ?_; refine zm rfl ?_; refine zd ?_; refine zb (id := 42) ?_; refine Zs31 ?_; refine z7 (StepOK.seeV (zj L (src_box rfl (List.Mem.head _)) rfl rfl rfl rfl) (by assumption)) rfl ?_; refine Zs32 ?_; refine Zs14 ?_; refine Zs3 ?_; refine ze ?_; refine zg ?_; refine zm rfl ?_; refine zd ?_; refine zb (id := 43) ?_; refine Zs41 ?_; refine Zs1 ?_; refine z7 (q9 L _ rfl rfl rfl rfl rfl rfl rfl (by first | omega | decide) (by assumption)) rfl ?_; refine Zs56 ?_; refine Zs45 ?_; refine Zs26 ?_; refine Zs8 ?_; refine Zs3 ?_; refine ze ?_; refine zg ?_; refine zm rfl ?_; refine zd ?_; refine zb (id := 15) ?_; refine Zs36 ?_; refine ze ?_; refine zg ?_; refine zd ?_; refine zd ?_; refine zb (id := 16) ?_; refine Zs31 ?_; refine z7 (StepOK.seeV (zj L (src_box rfl (List.Mem.head _)) rfl rfl rfl rfl) (by assumption)) rfl ?_; refine Zs32 ?_; refine Zs14 ?_; refine ze ?_; refine zg ?_; refine zm rfl ?_; refine zt ?_; refine zg ?_; refine zd ?_; refine zy (id := 18) [] mixed (by kernel_rfl) ?_; refine z8 (zo L (vs := [_, _]) (src_box rfl (List.Mem.head _)) rfl rfl rfl rfl ⟨_, rfl⟩) rfl ?_; refine Zs40 ?_; refine z8 (StepOK.seeV (zj L (src_box rfl (List.Mem.head _)) rfl rfl rfl rfl) (by assumption)) rfl ?_; refine Zs51 ?_; refine Zs7 ?_; refine z8 (q9 L _ rfl rfl rfl rfl rfl rfl rfl (by first | omega | decide) (by assumption)) rfl ?_; refine Zs50 ?_; refine Zs44 ?_; refine z8 (ok_conv rfl rfl rfl cv5_3.1 cv5_3.2 (wrap_i64 (by omega) (by omega))) rfl ?_; refine Zs40 ?_; refine z8 (StepOK.seeV (zj L (src_box rfl (List.Mem.head _)) rfl rfl rfl rfl) (by assumption)) rfl ?_; refine z8 (y0 L rfl rfl rfl rfl) rfl ?_; refine z8 (ok_rem rfl rfl rfl rfl (by omega) (by assumption)) rfl ?_; refine z8 (q9 L _ rfl rfl rfl rfl rfl rfl rfl (by first | omega | decide) (by assumption)) rfl ?_; refine Zs50 ?_; refine Zs44 ?_; refine z8 (ok_call (φ := LandS (stp t o i) f 0) L rfl rfl (zf rfl) rfl rfl rfl LandS.mono (fun u H hH hle _ => Ret.mono (land_ret hz3 (hs34.le hle) hT.q (by omega) (by omega) hH) fun v H' _ h => (by have h9 := LandP.tup h; rw [hPe, hfe, ← hst] at h9; exact h9))) rfl ?_; refine Zs51 ?_; refine Zs54 ?_; refine Zs54 ?_; refine Zs59 ?_; refine z8 (ok_storeX L (X := SlX) (tbxC (stp t o i)) (TbX (stp t o i)) TbX.mono tbx_st (fun _ => ⟨rfl, rfl⟩) rfl rfl rfl rfl rfl) rfl ?_; refine z8 (ok_storeX L (X := SlX) (flxC f) (FlX f) FlX.mono flx_st flx_pl rfl rfl rfl rfl rfl) rfl ?_; refine Zs49 ?_; refine qb ?_; refine zg ?_; refine zd ?_
        refine V_opnX 12 rfl fun ⟨p12, n12, c12⟩ H12 s12 h12 => ?_
        unfold FlX at h12
        dsimp only at h12
        obtain ⟨py, cy, ey⟩ := slv_sh h12
        cases ey
        dsimp only [flxC, flc]
        have hfi : f.is.length ≤ Q.length := by have := p_len hP hfm; omega
        refine V_pub 12 rfl ?_
        refine V_pubR 5 rfl ?_
        refine V_pubR 6 rfl ?_
        refine zb (id := 19) ?_; refine Zs3 ?_; refine ze ?_; refine zg ?_; refine zd ?_; refine zb (id := 20) ?_; refine Zs3 ?_; refine ze ?_; refine zg ?_; refine zd ?_; refine zd ?_; refine zb (id := 21) ?_; refine Zs3 ?_; refine ze ?_; refine zg ?_; refine q0 ?_
        refine V_nilR 13 tyQ 6 rfl ?_
        refine V_nilR 14 tyI 5 rfl ?_
        refine V_loop (fun k : Nat => [(0, .sat (SlV tyOp 6 (ops.flatMap opc) ops.length false)), (2, .is (.bool false)), (3, .is (.pointer (some ⟨b3, 0, none⟩))), (4, .own (Cell [.int .i64 ((stp t o i)).nx, .slice p4 n4 c4] tyT)), (5, .sat (SlV tyQ 6 (aqC Q) Q.length false)), (6, .sat (SlV tyI 5 (itC Q) Q.length false)), (7, .is (.int .i64 (i : Nat))), (10, .own (ExR (fun x : SlX => Cell (tbxC ((stp t o i)) x) tyT) (TbX ((stp t o i))) TbX.mono)), (11, .is (.int .i64 0)), (12, .sat (At [.int .i64 f.id, .int .u64 f.rv, .int .u8 f.q.kd, .string f.q.g.1.1, .string f.q.g.1.2, .string f.q.g.2, .string f.q.u.1, .string f.q.u.2, .int .i64 f.cl, .int .i64 f.cs, .int .i64 f.si, .int .i64 f.ve, .int .i64 f.sp, .slice p12 f.is.length c12] tyF 0)), (13, .own (SlR tyQ 6 (filW (Q.take k) f).length (aqC (filW (Q.take k) f)))), (14, .own (SlR tyI 5 (filW (Q.take k) f).length (itC (filW (Q.take k) f)))), (15, .is (.int .i64 k))]) (fun k => k ≤ Q.length) (fun k => Q.length - k) 0 (Nat.zero_le _) ⟨rfl, rfl, rfl, rfl, rfl, rfl, rfl, rfl, rfl, rfl, rfl, rfl, rfl, trivial⟩ ?_
        rintro k hk
        have hfil : (filW (Q.take k) f).length ≤ k := Nat.le_trans (List.length_filter_le _ _) (by rw [List.length_take]; omega)
        by_cases hkt : k < Q.length
        · obtain ⟨wt, hwk⟩ := get_some hkt
          have hcq := aq_at hwk
          have hci := itC_at hwk
          have hgh := gone_hit hP hfm hwk
          have hfs := filW_snoc (f := f) hwk
          refine zd ?_; refine zd ?_; refine zb (id := 22) ?_; refine Zs1 ?_; refine Zs41 ?_; refine Zs32 ?_; refine Zs10 ?_; refine ze ?_; refine zg ?_; refine zu rfl ?_; refine zt ?_; refine zg ?_; refine zd ?_; refine q0 ?_; refine zd ?_; refine zb (id := 24) ?_; refine Zs3 ?_; refine ze ?_; refine zg ?_; refine zd ?_; refine zd ?_; refine zb (id := 25) ?_; refine Zs3 ?_; refine ze ?_; refine zg ?_; refine q0 ?_
          refine V_midB (mid_last (fun _ : Unit => [(0, .sat (SlV tyOp 6 (ops.flatMap opc) ops.length false)), (2, .is (.bool false)), (3, .is (.pointer (some ⟨b3, 0, none⟩))), (4, .own (Cell [.int .i64 ((stp t o i)).nx, .slice p4 n4 c4] tyT)), (5, .sat (SlV tyQ 6 (aqC Q) Q.length false)), (6, .sat (SlV tyI 5 (itC Q) Q.length false)), (7, .is (.int .i64 (i : Nat))), (10, .own (ExR (fun x : SlX => Cell (tbxC ((stp t o i)) x) tyT) (TbX ((stp t o i))) TbX.mono)), (11, .is (.int .i64 0)), (12, .sat (At [.int .i64 f.id, .int .u64 f.rv, .int .u8 f.q.kd, .string f.q.g.1.1, .string f.q.g.1.2, .string f.q.g.2, .string f.q.u.1, .string f.q.u.2, .int .i64 f.cl, .int .i64 f.cs, .int .i64 f.si, .int .i64 f.ve, .int .i64 f.sp, .slice p12 f.is.length c12] tyF 0)), (13, .own (SlR tyQ 6 (filW (Q.take k) f).length (aqC (filW (Q.take k) f)))), (14, .own (SlR tyI 5 (filW (Q.take k) f).length (itC (filW (Q.take k) f)))), (15, .is (.int .i64 k)), (16, .is (.bool (hitW f wt)))]) (fun _ => True) (fun _ => [bx b3 [.int .i64 t.nx, .slice p3 zs3.length c3] tyT]) ?_) ?_
          rotate_left
          · refine V_loop (fun j : Nat => [(0, .sat (SlV tyOp 6 (ops.flatMap opc) ops.length false)), (2, .is (.bool false)), (3, .is (.pointer (some ⟨b3, 0, none⟩))), (4, .own (Cell [.int .i64 ((stp t o i)).nx, .slice p4 n4 c4] tyT)), (5, .sat (SlV tyQ 6 (aqC Q) Q.length false)), (6, .sat (SlV tyI 5 (itC Q) Q.length false)), (7, .is (.int .i64 (i : Nat))), (10, .own (ExR (fun x : SlX => Cell (tbxC ((stp t o i)) x) tyT) (TbX ((stp t o i))) TbX.mono)), (11, .is (.int .i64 0)), (12, .sat (At [.int .i64 f.id, .int .u64 f.rv, .int .u8 f.q.kd, .string f.q.g.1.1, .string f.q.g.1.2, .string f.q.g.2, .string f.q.u.1, .string f.q.u.2, .int .i64 f.cl, .int .i64 f.cs, .int .i64 f.si, .int .i64 f.ve, .int .i64 f.sp, .slice p12 f.is.length c12] tyF 0)), (13, .own (SlR tyQ 6 (filW (Q.take k) f).length (aqC (filW (Q.take k) f)))), (14, .own (SlR tyI 5 (filW (Q.take k) f).length (itC (filW (Q.take k) f)))), (15, .is (.int .i64 k)), (16, .is (.bool (goneB (f.is.take j) wt.2))), (17, .is (.int .i64 j))]) (fun j => j ≤ f.is.length) (fun j => f.is.length - j) 0 (Nat.zero_le _) ⟨rfl, rfl, rfl, rfl, rfl, rfl, rfl, rfl, rfl, rfl, rfl, rfl, rfl, rfl, rfl, trivial⟩ ?_
            rintro j hj
            by_cases hjt : j < f.is.length
            · obtain ⟨y, hy⟩ := get_some hjt
              have hcy := it_at hy
              have hgs := goneB_snoc (x := wt.2) hy
              cases hg : goneB (f.is.take j) wt.2 with
              | true =>
                rw [hg, Bool.true_or] at hgs
                refine zd ?_; refine zd ?_; refine zb (id := 26) ?_; refine Zs1 ?_; refine Zs5 ?_; refine Zs15 ?_; refine Zs32 ?_; refine Zs10 ?_; refine ze ?_; refine zg ?_; refine zu rfl ?_; refine zt ?_; refine zg ?_; refine zd ?_; refine q0 ?_; refine zy (id := 28) [] mixed (by kernel_rfl) ?_; refine Zs7 ?_; refine Zs7 ?_; refine Zs9 ?_; refine Zs9 ?_; refine Zs9 ?_; refine Zs9 ?_; refine Zs9 ?_; refine Zs9 ?_; refine Zs9 ?_; refine Zs9 ?_; refine Zs9 ?_; refine Zs9 ?_; refine Zs33 ?_; refine Zs49 ?_; refine qb ?_; refine qo ?_; refine zg ?_; refine zb (id := 27) ?_; refine Zs1 ?_; refine Zs16 ?_; refine Zs3 ?_; refine ze ?_
                exact qy (x := j) (j + 1) hjt (by omega) ⟨rfl, rfl, rfl, rfl, rfl, rfl, rfl, rfl, rfl, rfl, rfl, rfl, rfl, by rw [hgs]; rfl, rfl, trivial⟩
              | false =>
                rw [hg, Bool.false_or] at hgs
                have heq := eqIv (a := y) (b := wt.2) rfl
                refine zd ?_; refine zd ?_; refine zb (id := 26) ?_; refine Zs1 ?_; refine Zs5 ?_; refine Zs15 ?_; refine Zs32 ?_; refine Zs10 ?_; refine ze ?_; refine zg ?_; refine zu rfl ?_; refine zt ?_; refine zg ?_; refine zd ?_; refine q0 ?_; refine zy (id := 28) [] mixed (by kernel_rfl) ?_; refine Zs7 ?_; refine Zs7 ?_; refine Zs25 ?_; refine Zs24 ?_; refine Zs7 ?_; refine z8 (q9 L _ rfl rfl rfl rfl rfl rfl rfl (by first | omega | decide) (by assumption)) rfl ?_; refine z8 (y9 L (vs := [_, _, _, _, _]) rfl rfl rfl rfl rfl ⟨_, rfl⟩) rfl ?_; refine Zs51 ?_; refine Zs7 ?_; refine z8 (q9 L _ rfl rfl rfl rfl rfl rfl rfl (by first | omega | decide) (by assumption)) rfl ?_; refine z8 (y9 L (vs := [_, _, _, _, _]) rfl rfl rfl rfl rfl ⟨_, rfl⟩) rfl ?_; refine z8 (ok_aeql rfl rfl rfl rfl eq33 (by assumption) rfl) rfl ?_; refine Zs33 ?_; refine Zs49 ?_; refine qb ?_; refine qo ?_; refine zg ?_; refine zb (id := 27) ?_; refine Zs1 ?_; refine Zs16 ?_; refine Zs3 ?_; refine ze ?_
                exact qy (x := j) (j + 1) hjt (by omega) ⟨rfl, rfl, rfl, rfl, rfl, rfl, rfl, rfl, rfl, rfl, rfl, rfl, rfl, by rw [hgs]; rfl, rfl, trivial⟩
            · obtain rfl : j = f.is.length := by omega
              rw [List.take_length, hgh]
              refine zd ?_; refine zd ?_; refine zb (id := 26) ?_; refine Zs1 ?_; refine Zs5 ?_; refine Zs15 ?_; refine Zs32 ?_; refine Zs8 ?_; refine ze ?_; refine zg ?_; refine zm rfl ?_; refine y5 ?_; refine qf ?_; refine qf ?_; refine y4 ?_
              exact N_mids () Since.refl trivial rfl ⟨rfl, rfl, rfl, rfl, rfl, rfl, rfl, rfl, rfl, rfl, rfl, rfl, rfl, rfl, trivial⟩
          rintro _ _
          cases hh : hitW f wt with
          | true =>
            obtain ⟨hh1, hh2⟩ := hitW_iff.1 hh
            rw [hh, if_pos rfl, List.append_nil] at hfs
            have heq := eqQv (decide_eq_true hh1)
            refine zd ?_; refine zd ?_; refine zy (id := 29) [] mixed (by kernel_rfl) ?_; refine Zs7 ?_; refine Zs51 ?_; refine Zs7 ?_; refine z8 (q9 L _ rfl rfl rfl rfl rfl rfl rfl (by first | omega | decide) (by assumption)) rfl ?_; refine z8 (y9 L (vs := [_, _, _, _, _, _]) rfl rfl rfl rfl rfl ⟨_, rfl⟩) rfl ?_; refine Zs25 ?_; refine z8 (zo L (vs := [_, _, _, _, _, _]) (zl rfl) rfl rfl rfl rfl ⟨_, rfl⟩) rfl ?_; refine Zs73 ?_; refine Zs7 ?_; refine Zs51 ?_; refine Zs7 ?_; refine z8 (q9 L _ rfl rfl rfl rfl rfl rfl rfl (by first | omega | decide) (by assumption)) rfl ?_; refine Zs50 ?_; refine Zs44 ?_; refine Zs25 ?_; refine Zs34 ?_; refine z8 (qm rfl rfl rfl rfl (decide_eq_true (by omega))) rfl ?_; refine Zs33 ?_; refine z8 (ok_bneq rfl rfl rfl rfl bt4 rfl) rfl ?_; refine qb ?_; refine zg ?_; refine zm rfl ?_; refine zt ?_; refine zg ?_; refine zd ?_; refine zb (id := 31) ?_; refine Zs1 ?_; refine Zs48 ?_; refine ze ?_; refine zg ?_; refine zm rfl ?_; refine zt ?_; refine qo ?_; refine zg ?_; refine zb (id := 23) ?_; refine Zs1 ?_; refine Zs16 ?_; refine Zs3 ?_; refine ze ?_
            exact qy (x := k) (k + 1) hkt (by omega) ⟨rfl, rfl, rfl, rfl, rfl, rfl, rfl, rfl, rfl, rfl, by rw [hfs]; rfl, by rw [hfs]; rfl, rfl, trivial⟩
          | false =>
            rw [hh, if_neg (by decide)] at hfs
            by_cases hh1 : wt.1 = f.q
            · have hh2 : wt.2.rv ≠ f.rv := fun e => by rw [hitW_iff.2 ⟨hh1, e⟩] at hh; cases hh
              have heq := eqQv (decide_eq_true hh1)
              refine zd ?_; refine zd ?_; refine zy (id := 29) [] mixed (by kernel_rfl) ?_; refine Zs7 ?_; refine Zs51 ?_; refine Zs7 ?_; refine z8 (q9 L _ rfl rfl rfl rfl rfl rfl rfl (by first | omega | decide) (by assumption)) rfl ?_; refine z8 (y9 L (vs := [_, _, _, _, _, _]) rfl rfl rfl rfl rfl ⟨_, rfl⟩) rfl ?_; refine Zs25 ?_; refine z8 (zo L (vs := [_, _, _, _, _, _]) (zl rfl) rfl rfl rfl rfl ⟨_, rfl⟩) rfl ?_; refine Zs73 ?_; refine Zs7 ?_; refine Zs51 ?_; refine Zs7 ?_; refine z8 (q9 L _ rfl rfl rfl rfl rfl rfl rfl (by first | omega | decide) (by assumption)) rfl ?_; refine Zs50 ?_; refine Zs44 ?_; refine Zs25 ?_; refine Zs34 ?_; refine z8 (qm rfl rfl rfl rfl (decide_eq_false (by omega))) rfl ?_; refine Zs33 ?_; refine z8 (ok_bneq rfl rfl rfl rfl bt4 rfl) rfl ?_; refine qb ?_; refine zg ?_; refine zm rfl ?_; refine zt ?_; refine zg ?_; refine zd ?_; refine zb (id := 31) ?_; refine Zs1 ?_; refine Zs48 ?_; refine ze ?_; refine zg ?_; refine zu rfl ?_; refine zd ?_; refine zb (id := 32) ?_; refine qd (ya (.inl rfl) rfl rfl rfl rfl) ?_; refine Zs41 ?_; refine Zs1 ?_; refine z7 (q9 L _ rfl rfl rfl rfl rfl rfl rfl (by first | omega | decide) (by assumption)) rfl ?_; refine z7 (y9 L (vs := [_, _, _, _, _, _]) rfl rfl rfl rfl rfl ⟨_, rfl⟩) rfl ?_; refine Zs35 ?_; refine qd (ok_append L rfl rfl rfl (apd_B rfl) rfl el30 rfl rfl (by omega) (by omega)) ?_; refine qd (ya (.inr rfl) rfl rfl rfl rfl) ?_; refine ze ?_; refine zg ?_; refine zb (id := 33) ?_; refine qd (ya (.inl rfl) rfl rfl rfl rfl) ?_; refine Zs41 ?_; refine Zs1 ?_; refine z7 (q9 L _ rfl rfl rfl rfl rfl rfl rfl (by first | omega | decide) (by assumption)) rfl ?_; refine z7 (y9 L (vs := [_, _, _, _, _]) rfl rfl rfl rfl rfl ⟨_, rfl⟩) rfl ?_; refine Zs35 ?_; refine qd (ok_append L rfl rfl rfl (apd_B rfl) rfl el33 rfl rfl (by omega) (by omega)) ?_; refine qd (ya (.inr rfl) rfl rfl rfl rfl) ?_; refine ze ?_; refine qo ?_; refine zg ?_; refine zb (id := 23) ?_; refine Zs1 ?_; refine Zs16 ?_; refine Zs3 ?_; refine ze ?_
              exact qy (x := k) (k + 1) hkt (by omega) ⟨rfl, rfl, rfl, rfl, rfl, rfl, rfl, rfl, rfl, rfl, by rw [hfs]; exact aq_snoc rfl, by rw [hfs]; exact iw_snoc rfl, rfl, trivial⟩
            · have heq := eqQv (decide_eq_false hh1)
              refine zd ?_; refine zd ?_; refine zy (id := 29) [] mixed (by kernel_rfl) ?_; refine Zs7 ?_; refine Zs51 ?_; refine Zs7 ?_; refine z8 (q9 L _ rfl rfl rfl rfl rfl rfl rfl (by first | omega | decide) (by assumption)) rfl ?_; refine z8 (y9 L (vs := [_, _, _, _, _, _]) rfl rfl rfl rfl rfl ⟨_, rfl⟩) rfl ?_; refine Zs25 ?_; refine z8 (zo L (vs := [_, _, _, _, _, _]) (zl rfl) rfl rfl rfl rfl ⟨_, rfl⟩) rfl ?_; refine Zs73 ?_; refine Zs7 ?_; refine Zs9 ?_; refine Zs9 ?_; refine Zs9 ?_; refine Zs9 ?_; refine Zs9 ?_; refine Zs9 ?_; refine Zs9 ?_; refine Zs9 ?_; refine Zs33 ?_; refine z8 (ok_bneq rfl rfl rfl rfl bt4 rfl) rfl ?_; refine qb ?_; refine zg ?_; refine zm rfl ?_; refine zt ?_; refine zg ?_; refine zd ?_; refine zb (id := 31) ?_; refine Zs1 ?_; refine Zs48 ?_; refine ze ?_; refine zg ?_; refine zu rfl ?_; refine zd ?_; refine zb (id := 32) ?_; refine qd (ya (.inl rfl) rfl rfl rfl rfl) ?_; refine Zs41 ?_; refine Zs1 ?_; refine z7 (q9 L _ rfl rfl rfl rfl rfl rfl rfl (by first | omega | decide) (by assumption)) rfl ?_; refine z7 (y9 L (vs := [_, _, _, _, _, _]) rfl rfl rfl rfl rfl ⟨_, rfl⟩) rfl ?_; refine Zs35 ?_; refine qd (ok_append L rfl rfl rfl (apd_B rfl) rfl el30 rfl rfl (by omega) (by omega)) ?_; refine qd (ya (.inr rfl) rfl rfl rfl rfl) ?_; refine ze ?_; refine zg ?_; refine zb (id := 33) ?_; refine qd (ya (.inl rfl) rfl rfl rfl rfl) ?_; refine Zs41 ?_; refine Zs1 ?_; refine z7 (q9 L _ rfl rfl rfl rfl rfl rfl rfl (by first | omega | decide) (by assumption)) rfl ?_; refine z7 (y9 L (vs := [_, _, _, _, _]) rfl rfl rfl rfl rfl ⟨_, rfl⟩) rfl ?_; refine Zs35 ?_; refine qd (ok_append L rfl rfl rfl (apd_B rfl) rfl el33 rfl rfl (by omega) (by omega)) ?_; refine qd (ya (.inr rfl) rfl rfl rfl rfl) ?_; refine ze ?_; refine qo ?_; refine zg ?_; refine zb (id := 23) ?_; refine Zs1 ?_; refine Zs16 ?_; refine Zs3 ?_; refine ze ?_
              exact qy (x := k) (k + 1) hkt (by omega) ⟨rfl, rfl, rfl, rfl, rfl, rfl, rfl, rfl, rfl, rfl, by rw [hfs]; exact aq_snoc rfl, by rw [hfs]; exact iw_snoc rfl, rfl, trivial⟩
        · obtain rfl : k = Q.length := by omega
          rw [List.take_length] at hfil ⊢
          have hln := p_len hP hfm
          have hadd : IntKind.i64.wrap (((filW Q f).length : Int) + (f.is.length : Int)) = (Q.length : Int) := (wrap_i64 (by omega) (by omega)).trans (by unfold filW at *; omega)
          refine V_detach 14 914 (S := fun v => ∃ p c, v = .slice p (filW Q f).length c) rfl SlR.shapeN fun x14 hx14 => ?_
          obtain ⟨p14, c14, rfl⟩ := hx14
          refine zd ?_; refine zd ?_; refine zb (id := 22) ?_; refine Zs1 ?_; refine Zs41 ?_; refine Zs32 ?_; refine Zs8 ?_; refine ze ?_; refine zg ?_; refine zm rfl ?_; refine y5 ?_; refine qf ?_; refine qf ?_; refine y4 ?_; refine zg ?_; refine zd ?_; refine zd ?_; refine zb (id := 34) ?_; refine Zs1 ?_; refine Zs39 ?_; refine Zs5 ?_; refine Zs15 ?_; refine Zs32 ?_; refine Zs17 ?_; refine Zs41 ?_; refine Zs32 ?_; refine Zs11 ?_; refine ze ?_; refine zg ?_; refine zm rfl ?_; refine zt ?_; refine zg ?_; refine zd ?_; refine zb (id := 36) ?_; refine qd (ya (.inl rfl) rfl rfl rfl rfl) ?_; refine qd (ya (.inr rfl) rfl rfl rfl rfl) ?_; refine ze ?_; refine zg ?_; refine zb (id := 37) ?_; refine Zs1 ?_; refine Zs3 ?_; refine ze ?_; refine qo ?_
          refine N_attach 6 914 rfl rfl ?_
          exact N_mids (filW Q f) s12 hPn rfl ⟨rfl, rfl, rfl, rfl, rfl, rfl, rfl, rfl, rfl, trivial⟩
    -- behind it
    rintro W' hPn
    refine V_opnX 10 rfl fun ⟨p10, n10, c10⟩ H10 s10 ⟨zs10, hz10, hs10⟩ => ?_
    dsimp only [tbxC] at hs10 ⊢
    obtain ⟨pz10, cz10, ez10⟩ := hs10.shape
    cases ez10
    have hs410 := hs4.le s10.le
    obtain ⟨hsm', hsl'⟩ := hPn.small
    have hWl' := hPn.len
    have hits := hPn.its
    have hok' := chkE_iff.2 hPn.ok
    have hl10 := fls_len hz10
    refine V_detach 6 906 (S := fun v => ∃ p c, v = .slice p W'.length c) rfl SlR.shapeN fun x6 hx6 => ?_
    obtain ⟨p6, c6, rfl⟩ := hx6
    have hmp := @SlV.mono tyP 2 (pins (allI (stp t o i).fl)).length ((pins (allI (stp t o i).fl)).flatMap pnc) true
    refine zd ?_; refine zd ?_; refine zb (id := 47) ?_; refine Zs1 ?_; refine Zs11 ?_; refine Zs1 ?_; refine z7 (zo L (vs := [_, _]) (qk rfl) rfl rfl rfl rfl ⟨_, rfl⟩) rfl ?_; refine z7 (zo L (vs := [_, _]) (qk rfl) rfl rfl rfl rfl ⟨_, rfl⟩) rfl ?_; refine z7 (zp (r := .int .i64 1) L rfl rfl (zf rfl) rfl rfl rfl (fun u H hH hle _ => rsame_ret hz10 hz4 (if_pos ⟨rfl, rfl⟩) (hs10.le hle) (hs410.le hle) hH)) rfl ?_; refine Zs14 ?_; refine Zs6 ?_; refine Zs1 ?_; refine z7 (zo L (vs := [_, _]) (qk rfl) rfl rfl rfl rfl ⟨_, rfl⟩) rfl ?_; refine z7 (zp (r := .int .i64 (W'.length : Nat)) L rfl rfl (zf rfl) rfl rfl rfl (fun u H hH hle _ => (by rw [← hits]; exact ritems_ret hz10 (hs10.le hle) (by omega) hH))) rfl ?_; refine Zs1 ?_; refine Zs39 ?_; refine Zs11 ?_; refine Zs6 ?_; refine ze ?_; refine zg ?_; refine zm rfl ?_; refine zt ?_; refine zg ?_; refine zd ?_; refine zb (id := 49) ?_; refine z7 (zo L (vs := [_, _]) (qk rfl) rfl rfl rfl rfl ⟨_, rfl⟩) rfl ?_; refine box_store L (O1 := []) rfl rfl rfl rfl rfl rfl rfl rfl rfl ?_; refine ze ?_; refine zg ?_; refine zd ?_
    refine zb (id := 50) ?_; refine z7 (zo L (vs := [_, _]) (src_box rfl (List.Mem.head _)) rfl rfl rfl rfl ⟨_, rfl⟩) rfl ?_; refine z7 (ok_call (φ := PinsS (pins (allI (stp t o i).fl)) 0) L rfl rfl (zf rfl) rfl rfl rfl PinsS.mono (fun u H hH hle _ => Ret.mono (pins_ret hz10 (hs10.le hle) hTs.q (by omega) hH) fun v H' _ h => (by have h9 := PinsP.tup h; rw [if_pos hok', hok'] at h9; exact h9))) rfl ?_; refine Zs41 ?_; refine Zs55 ?_; refine Zs71 ?_; refine Zs64 ?_; refine Zs3 ?_; refine ze ?_; refine zg ?_; refine zd ?_
    refine zb (id := 51) ?_; refine Zs3 ?_; refine ze ?_; refine zg ?_; refine zd ?_; refine zd ?_; refine zb (id := 52) ?_; refine Zs3 ?_; refine ze ?_; refine zg ?_; refine q0 ?_
    have hps := pins_sum (allI (stp t o i).fl)
    rw [itsN_allI] at hps
    have hpl := pins_len (allI (stp t o i).fl)
    rw [itsN_allI] at hpl
    refine V_loop (fun k : Nat => [(0, .sat (SlV tyOp 6 (ops.flatMap opc) ops.length false)), (2, .is (.bool false)), (3, .is (.pointer (some ⟨b3, 0, none⟩))), (4, .own (Cell [.int .i64 ((stp t o i)).nx, .slice p4 n4 c4] tyT)), (5, .own (SlR tyQ 6 (W').length (aqC (W')))), (6, .is (.slice p6 W'.length c6)), (7, .is (.int .i64 (i : Nat))), (18, .sat (SlV tyP 2 ((pins (allI (stp t o i).fl)).flatMap pnc) (pins (allI (stp t o i).fl)).length true)), (19, .is (.int .i64 0)), (20, .is (.int .i64 ((((pins (allI (stp t o i).fl)).map Prod.snd).take k).sum : Nat))), (21, .is (.int .i64 k)), (906, .own (AtV (.slice p6 W'.length c6) (SlR tyI 5 W'.length (itC W'))))]) (fun k => k ≤ (pins (allI (stp t o i).fl)).length) (fun k => (pins (allI (stp t o i).fl)).length - k) 0 (Nat.zero_le _) ⟨rfl, rfl, rfl, rfl, rfl, rfl, rfl, rfl, rfl, rfl, rfl, rfl, trivial⟩ ?_
    rintro k hk
    by_cases hkt : k < (pins (allI (stp t o i).fl)).length
    · obtain ⟨p, hpk⟩ := get_some hkt
      have hcp : (((pins (allI (stp t o i).fl)).flatMap pnc).drop (k * 2)).take 2 = [.int .u64 p.1, .int .i64 p.2] := flatMap_at pnc_len _ k p hpk
      have hsum := pins_take_sum hpk
      have hsl2 := sum_take (l := (pins (allI (stp t o i).fl)).map Prod.snd) (k + 1)
      have hadd : IntKind.i64.wrap (((((pins (allI (stp t o i).fl)).map Prod.snd).take k).sum : Nat) + (p.2 : Int)) = (((((pins (allI (stp t o i).fl)).map Prod.snd).take (k + 1)).sum : Nat) : Int) := (wrap_i64 (by omega) (by omega)).trans (by omega)
      refine zd ?_; refine zd ?_; refine zb (id := 53) ?_; refine Zs1 ?_; refine Zs41 ?_; refine Zs32 ?_; refine Zs10 ?_; refine ze ?_; refine zg ?_; refine zu rfl ?_; refine zt ?_; refine zg ?_; refine zd ?_; refine q0 ?_; refine zb (id := 55) ?_; refine Zs1 ?_; refine Zs41 ?_; refine Zs1 ?_; refine z7 (q9 L _ rfl rfl rfl rfl rfl rfl rfl (by first | omega | decide) (by assumption)) rfl ?_; refine Zs56 ?_; refine Zs45 ?_; refine Zs17 ?_; refine Zs3 ?_; refine ze ?_; refine qo ?_; refine zg ?_; refine zb (id := 54) ?_; refine Zs1 ?_; refine Zs16 ?_; refine Zs3 ?_; refine ze ?_
      exact qy (x := k) (k + 1) hkt (by omega) ⟨rfl, rfl, rfl, rfl, rfl, rfl, rfl, rfl, rfl, rfl, rfl, rfl, trivial⟩
    · obtain rfl : k = (pins (allI (stp t o i).fl)).length := by omega
      have htk : ((((pins (allI (stp t o i).fl)).map Prod.snd).take (pins (allI (stp t o i).fl)).length).sum : Nat) = W'.length := by rw [List.take_of_length_le (by simp), hps, hits]
      rw [htk]
      refine zd ?_; refine zd ?_; refine zb (id := 53) ?_; refine Zs1 ?_; refine Zs41 ?_; refine Zs32 ?_; refine Zs8 ?_; refine ze ?_; refine zg ?_; refine zm rfl ?_; refine y5 ?_; refine qf ?_; refine qf ?_; refine y4 ?_; refine zg ?_; refine zd ?_; refine zb (id := 56) ?_; refine Zs1 ?_; refine Zs11 ?_; refine Zs1 ?_; refine Zs1 ?_; refine Zs1 ?_; refine Zs39 ?_; refine Zs11 ?_; refine Zs6 ?_; refine ze ?_; refine zg ?_; refine zm rfl ?_; refine zt ?_; refine qo ?_; refine zg ?_
      refine V_attach 6 906 rfl rfl ?_
      refine zb (id := 9) ?_; refine Zs1 ?_; refine Zs16 ?_; refine Zs3 ?_; refine ze ?_
      refine N_unbox 3 [] rfl rfl ?_
      refine N_clsX 3 TbX.mono ((p10, zs10.length, c10) : SlX) ⟨zs10, hz10, hs10⟩ (r := fun x : SlX => Cell (tbxC (stp t o i) x) tyT) rfl ?_
      refine N_clsX 4 TbX.mono ((p4, n4, c4) : SlX) ⟨zs4, hz4, hs410⟩ (r := fun x : SlX => Cell (tbxC (stp t o i) x) tyT) rfl ?_
      exact N_roundS (x := ((i, t), Q)) ((i + 1, stp t o i), W') (s3.trans (s4o.trans (s4.trans s10))) ⟨hlt, hPn, hTs⟩ (by dsimp only; omega) ⟨rfl, rfl, rfl, rfl, rfl, rfl, rfl, trivial⟩
  · obtain rfl : i = ops.length := by omega
    refine zd ?_; refine zd ?_; refine zb (id := 8) ?_; refine Zs1 ?_; refine Zs41 ?_; refine Zs32 ?_; refine Zs8 ?_; refine ze ?_; refine zg ?_; refine zm rfl ?_; refine y5 ?_; refine qf ?_; refine qf ?_; refine y4 ?_; refine zg ?_; refine zd ?_; refine zb (id := 58) ?_; refine z7 (zp L rfl rfl (zf rfl) rfl rfl rfl (fun u H hH _ _ => lives_law hH)) rfl ?_; refine Zs3 ?_; refine ze ?_; refine zg ?_
    refine qe L (rs := [.tmp 2]) rfl (fun _ _ h => h) Since.refl fun u H hH hle => ?_
    rfl
end Go.V.L39
namespace Go.V.L39
open Go.Proofs Go.RowKit Go.V
theorem u8_nat {n : Int} (h : (Lit.int .u8 n).wf = true) : ∃ k : Nat, n = k ∧ k < 256 := by
  have := Go.bounds_u8 h
  exact ⟨n.toNat, by omega, by omega⟩
theorem op6_of {c : List Value} (h : LeafsOK [.i .u8, .i .u8, .i .u8, .i .u8, .i .u8, .i .u8] c) : ∃ o : Op6, c = opc o ∧ OpZ o := by
  obtain ⟨z1, r, rfl, h1, h⟩ := leaf_i h
  obtain ⟨z2, r, rfl, h2, h⟩ := leaf_i h
  obtain ⟨z3, r, rfl, h3, h⟩ := leaf_i h
  obtain ⟨z4, r, rfl, h4, h⟩ := leaf_i h
  obtain ⟨z5, r, rfl, h5, h⟩ := leaf_i h
  obtain ⟨z6, r, rfl, h6, h⟩ := leaf_i h
  obtain rfl := leaf_nil h
  obtain ⟨k1, rfl, g1⟩ := u8_nat h1
  obtain ⟨k2, rfl, g2⟩ := u8_nat h2
  obtain ⟨k3, rfl, g3⟩ := u8_nat h3
  obtain ⟨k4, rfl, g4⟩ := u8_nat h4
  obtain ⟨k5, rfl, g5⟩ := u8_nat h5
  obtain ⟨k6, rfl, g6⟩ := u8_nat h6
  exact ⟨⟨k1, k2, k3, k4, k5, k6⟩, rfl, g1, g2, g3, g4, g5, g6⟩
theorem flightsPlay_in {W : World} {cs : List (List Value)} (lcs : ∀ c ∈ cs, LeafsOK [.i .u8, .i .u8, .i .u8, .i .u8, .i .u8, .i .u8] c) {v : Value} (hcs : SlV tyOp 6 cs.flatten cs.length false v (hp W)) :
    Ret Try.prog 5 [v] W (hp W) (fun v _ => v = .bool true) := by
  obtain ⟨l, g1, g2, g3⟩ := each_of (f := opc) (Ψ := OpZ) (fun c hc => op6_of hc) cs lcs
  rw [g1, ← g2] at hcs
  exact play_law g3 hcs (Heap.Le.refl _)
end Go.V.L39
namespace Go.Proofs.Ytfihdmobfmkclaa.flightsPlay
open Go.ChangeShapes Go.WideShapes Go.ChangeAt Go.ChangeMaps Go.RowKit Go.V Go.V.L39
theorem own : ownKnob Try.prog.godebug = none := by kernel_rfl
theorem laidOut : laidOutB Try.prog = true := by kernel_rfl
theorem lf0 : leafI Try.prog 20 67 = some [.i .u8, .i .u8, .i .u8, .i .u8, .i .u8, .i .u8] := by kernel_rfl
theorem lc0 : Try.prog.cellsOf 67 = ([.i .u8, .i .u8, .i .u8, .i .u8, .i .u8, .i .u8] : List LeafK).length := by kernel_rfl
theorem lr1 : Try.prog.readableRec 63 = true := by kernel_rfl
theorem lt1 : 63 < Try.prog.types.size := of_decide_eq_true (by kernel_rfl)
theorem lu2 : Try.prog.underlying 63 = some (.slice 67) := by kernel_rfl
set_option maxRecDepth 100000 in
theorem lifted (os : Os) (started : os.Started) (H : Type) (enc : TypeId × Value → H) :
    ReturnsInHanded {} Try.checked os 5 .any (Rows.flightsPlaySpec.pre6 enc Try.prog Try.f5 Rows.flightsPlayRow.domain false) (Rows.flightsPlaySpec.post enc Try.prog Try.f5 false true false false) := by
  refine returnsInHanded_of_change_shaped (C := Try.checked) own started (by kernel_rfl) Try.func5
    (ChangeSpec.witness6 (enc := enc) (C := Try.checked) false ⟨#[], #[.slice none 0 0], []⟩ 8 (by kernel_rfl) (by kernel_rfl) (by kernel_rfl) (by kernel_rfl)) ?_
  intro W base args ds gs before hval0 hW hcnd _ hsh _
  have hval : ∀ (j : Nat) t v, Try.f5.params[j]? = some t → args[j]? = some v → Value.okWide Try.prog W .any base t v := hval0
  have hW' := hW
  obtain ⟨p0, q, hA0, hV, rfl, hfz, hnd⟩ := hW
  have hA : DataW.TrodAll enc Try.prog W 0 (fun _ => true) true Try.f5.params.toList args.toList ds p0 := hA0
  rw [Try.params5] at hA hval
  obtain ⟨v0, d0, rfl, rfl, h0⟩ := trodAll_one hA
  obtain ⟨rfl, rfl⟩ := trodVars_none hV
  clear hA0 hval0
  obtain ⟨cs, lcs, zcs, hcs⟩ := open_sl lu2 lf0 lc0 (hval 0 63 v0 rfl rfl) h0
  have hplc := hW'.lt
  simp only [List.append_nil] at hW'
  have hlaw := Go.V.L39.flightsPlay_in lcs hcs
  unfold Ret at hlaw
  refine hlaw.mono fun e W' hp => ?_
  obtain ⟨v, rfl, H', g, rfl⟩ := hp
  refine ⟨_, rfl, _, _, _, [], p0 ++ ([]), [], hW', trodAll_cons_mk (shut_bool Try.underlying4 _) trodAll_mk0, ?_, rfl, g.below.frame _, fun h => by cases h⟩
  exact trodAll_cons_mk (Below.trod laidOut lr1 lt1 h0 g.below (fun x hx => hplc x (by simp [hx]))) trodAll_mk0
theorem proved : Rows.FlightsPlaySaid :=
  OpenClaim.holds_of_wide 5 Try.f5 rfl rfl rfl rfl rfl rfl rfl ⟨rfl, rfl, rfl, rfl, rfl⟩ rfl rfl rfl rfl rfl (by kernel_rfl) Try.func5 (by kernel_rfl)
    (of_decide_eq_true (by kernel_rfl)) (by unfold Func.isWrapper; first | (rw [if_pos (by decide +kernel)]; kernel_rfl) | (rw [if_neg (by decide +kernel)]; exact ⟨rfl, rfl⟩))
    (fun os started H enc _ => lifted os started H enc)
#print axioms proved
end Go.Proofs.Ytfihdmobfmkclaa.flightsPlay
