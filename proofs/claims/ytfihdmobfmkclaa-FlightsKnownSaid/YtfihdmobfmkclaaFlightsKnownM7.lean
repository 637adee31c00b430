/- FlightsKnown returns true: no condition. -/
import Derived.Test.YtfihdmobfmkclaaFlightsKnownM6
import Derived.ProofKit
import Derived.HandedShaped
import Derived.OpenShut
import Derived.Carry
import Derived.Deep.Slices
import Derived.Test.YtfihdmobfmkclaaRows
set_option linter.unusedVariables false
set_option linter.unusedSimpArgs false
namespace Go.V.L39
open Go.Proofs Go.RowKit Go.V
abbrev JoinS0 (t : Tb) (id : Int) (md : Bool) : Value → Heap → Prop := TupS [TbR t, fun v _ => v = .int .i64 id, fun v _ => v = .bool md, fun v _ => v = .int .i64 0]
theorem JoinS0.mono {t : Tb} {id : Int} {md : Bool} : Kn.mono (.sat (JoinS0 t id md)) := TupS.mono fun φ h => by
  simp only [List.mem_cons, List.mem_nil_iff, or_false] at h
  rcases h with rfl | rfl | rfl | rfl
  · exact TbR.mn
  · exact eqv_mono
  · exact eqv_mono
  · exact eqv_mono
attribute [local irreducible] V N X VO Par StepOK Has Ret RetL RetO RetT RetG Src
set_option maxHeartbeats 16000000 in
set_option maxRecDepth 20000 in
theorem play_law {ops : List Op6} {s : Value} (hop : ∀ o ∈ ops, OpZ o) {w : World} {B : Heap} (hs : SlV tyOp 6 (ops.flatMap opc) ops.length false s B) (hB : B.Le (hp w)) :
    Ret Try.prog 5 [s] w B (fun v _ => v = .bool true) := by
  obtain ⟨p0, c0, rfl⟩ := slv_sh hs
  refine ya Try.func5 rfl Try.ntmps5 (Nat.le_of_ble_eq_true rfl) hB ?_
  by_cases hl : 20 < ops.length
  · refine ze ?_; refine zb (id := 0) ?_; refine Zs2 ?_; refine zd ?_; refine zf ?_; refine ze ?_; refine ze ?_; refine zb (id := 1) ?_; refine Zs1 ?_; refine Zs35 ?_; refine Zs23 ?_; refine zd ?_; refine zf ?_; refine zw rfl ?_; refine ze ?_; refine zb (id := 2) ?_; refine z7 (zo L rfl rfl (zg rfl) rfl rfl rfl (fun u H hH _ _ => lives_law hH)) rfl ?_; refine Zs2 ?_; refine zd ?_; refine zf ?_
    refine qn L (rs := [.tmp 2]) rfl (fun _ _ h => h) Since.refl fun u H hH hle => ?_
    rfl
  refine V_seen 0 (SlV tyOp 6 (ops.flatMap opc) ops.length false) rfl SlV.mono hs ?_
  refine ze ?_; refine zb (id := 0) ?_; refine Zs2 ?_; refine zd ?_; refine zf ?_; refine ze ?_; refine ze ?_; refine zb (id := 1) ?_; refine Zs37 ?_; refine Zs31 ?_; refine Zs16 ?_; refine zd ?_; refine zf ?_; refine zm rfl ?_; refine zt ?_; refine zf ?_; refine ze ?_; refine zb (id := 3) ?_; refine Zs24 ?_; refine zd ?_; refine zf ?_; refine ze ?_; refine zb (id := 4) ?_; refine z7 (zn L (vs := [_, _]) (qe rfl) rfl rfl rfl rfl ⟨_, rfl⟩) rfl ?_; refine Zs24 ?_; refine Zs14 ?_; refine zd ?_; refine zf ?_; refine ze ?_; refine zb (id := 5) ?_; refine Zs2 ?_; refine zd ?_; refine zf ?_; refine ze ?_; refine zb (id := 6) ?_; refine Zs2 ?_; refine zd ?_; refine zf ?_; refine ze ?_; refine ze ?_; refine zb (id := 7) ?_; refine Zs2 ?_; refine zd ?_; refine zf ?_; refine zy ?_
  refine V_clsX 3 TbX.mono ((none, 0, 0) : SlX) (show TbX T0 (none, 0, 0) B from ⟨[], rfl, fsb_nil rfl⟩) (r := fun x : SlX => Cell (tbxC T0 x) tyT) rfl ?_
  refine V_clsX 4 TbX.mono ((none, 0, 0) : SlX) (show TbX T0 (none, 0, 0) B from ⟨[], rfl, fsb_nil rfl⟩) (r := fun x : SlX => Cell (tbxC T0 x) tyT) rfl ?_
  refine V_nilR 5 tyQ 6 rfl ?_
  refine V_nilR 6 tyI 5 rfl ?_
  refine V_loop (fun T : (Nat × Tb) × Wt => [(0, .sat (SlV tyOp 6 (ops.flatMap opc) ops.length false)), (2, .is (.bool false)), (3, .own (ExR (fun x : SlX => Cell (tbxC (T.1.2) x) tyT) (TbX (T.1.2)) TbX.mono)), (4, .own (ExR (fun x : SlX => Cell (tbxC (T.1.2) x) tyT) (TbX (T.1.2)) TbX.mono)), (5, .own (SlR tyQ 6 (T.2).length (aqC (T.2)))), (6, .own (SlR tyI 5 (T.2).length (itC (T.2)))), (7, .is (.int .i64 (T.1.1 : Nat)))]) (fun T => T.1.1 ≤ ops.length ∧ PInv T.1.1 T.1.2 T.2 ∧ TZ39 T.1.2) (fun T => ops.length - T.1.1) ((0, T0), []) ⟨Nat.zero_le _, pinv0, tz_zero⟩ ⟨rfl, rfl, rfl, rfl, rfl, rfl, rfl, trivial⟩ ?_
  rintro ⟨⟨i, t⟩, Q⟩ ⟨hi, hP, hT⟩
  dsimp only at hi hP hT ⊢
  by_cases hlt : i < ops.length
  · obtain ⟨o, hoi⟩ := get_some hlt
    have ho := hop o (List.mem_of_getElem? hoi)
    obtain ⟨how, hoq, hor, hoc, hok, hon⟩ := ho
    have ho : OpZ o := ⟨how, hoq, hor, hoc, hok, hon⟩
    have hc6 : ((ops.flatMap opc).drop (i * 6)).take 6 = [.int .u8 o.w, .int .u8 o.q, .int .u8 o.r, .int .u8 o.c, .int .u8 o.k, .int .u8 o.n] := flatMap_at opc_len _ i o hoi
    obtain ⟨hsm, hsl⟩ := hP.small
    have hWl := hP.len
    have hTs := tz_stp hT o i
    have e8 : Int.tmod (o.w : Int) 8 = ((o.w % 8 : Nat) : Int) := rfl
    have q3 : (i : Int).tdiv 3 = ((i / 3 : Nat) : Int) := rfl
    have d3 : IntKind.i64.wrap ((i : Int).tdiv 3) = ((i / 3 : Nat) : Int) := wrap_i64 (by omega) (by omega)
    have hms := TbR.mn (t := stp t o i)
    refine V_opnX 3 rfl fun ⟨p3, n3, c3⟩ H3 s3 ⟨zs3, hz3, hs3⟩ => ?_
    refine V_opnX 4 rfl fun ⟨p4o, n4o, c4o⟩ H4o s4o ⟨zs4o, hz4o, hs4o⟩ => ?_
    dsimp only [tbxC] at hs3 hs4o ⊢
    have hl4o := fls_len hz4o
    obtain ⟨pz3, cz3, ez3⟩ := hs3.shape
    cases ez3
    have hs3o := hs3.le s4o.le
    have hl3 := fls_len hz3
    refine V_box 3 rfl fun b3 _ => ?_
    refine ze ?_; refine ze ?_; refine zb (id := 8) ?_; refine Zs1 ?_; refine Zs37 ?_; refine Zs31 ?_; refine Zs11 ?_; refine zd ?_; refine zf ?_; refine zw rfl ?_; refine zt ?_; refine zf ?_; refine ze ?_; refine zy ?_; refine ze ?_; refine zz (id := 10) [] mixed (by kernel_rfl) ?_; refine z8 (zn L (vs := [_, _]) (qe rfl) rfl rfl rfl rfl ⟨_, rfl⟩) rfl ?_; refine Zs58 ?_; refine Zs7 ?_; refine z8 (qb L _ rfl rfl rfl rfl rfl rfl rfl (by first | omega | decide) (by assumption)) rfl ?_; refine z8 (y5 L (vs := [_, _, _, _, _, _]) rfl rfl rfl rfl rfl ⟨_, rfl⟩) rfl ?_; refine Zs7 ?_; refine z8 (ok_call (φ := TbR (stp t o i)) L rfl rfl (zg rfl) rfl rfl rfl TbR.mn (fun u H hH hle _ => step_law hz4o (hs4o.le hle) hT.q hT.x (by omega) (by omega) ho (by omega) hH)) rfl ?_; refine z8 (ok_storeX L (X := SlX) (tbxC (stp t o i)) (TbX (stp t o i)) TbX.mono tbx_st (fun _ => ⟨rfl, rfl⟩) rfl rfl rfl rfl rfl) rfl ?_; refine qk ?_; refine zf ?_; refine ze ?_
    refine V_opnX 4 rfl fun ⟨p4, n4, c4⟩ H4 s4 ⟨zs4, hz4, hs4⟩ => ?_
    dsimp only [tbxC] at hs4 ⊢
    have hs34 := hs3o.le s4.le
    refine zb (id := 11) ?_; refine Zs37 ?_; refine Zs1 ?_; refine z7 (qb L _ rfl rfl rfl rfl rfl rfl rfl (by first | omega | decide) (by assumption)) rfl ?_; refine z7 (y5 L (vs := [_, _, _, _, _, _]) rfl rfl rfl rfl rfl ⟨_, rfl⟩) rfl ?_; refine Zs1 ?_; refine z7 (zo L rfl rfl (zg rfl) rfl rfl rfl (fun u H hH _ _ => item_law (by omega) ho hH)) rfl ?_; refine Zs24 ?_; refine Zs14 ?_; refine zd ?_; refine zf ?_; refine ze ?_
    refine V_pub 8 rfl ?_
    refine zb (id := 12) ?_; refine Zs37 ?_; refine Zs1 ?_; refine z7 (qb L _ rfl rfl rfl rfl rfl rfl rfl (by first | omega | decide) (by assumption)) rfl ?_; refine Zs45 ?_; refine Zs43 ?_; refine z7 (zo L rfl rfl (zg rfl) rfl rfl rfl (fun u H hH _ _ => query_law (by omega) hH)) rfl ?_; refine Zs24 ?_; refine Zs14 ?_; refine zd ?_; refine zf ?_; refine ze ?_
    refine V_pub 9 rfl ?_
    refine zb (id := 13) ?_; refine Zs24 ?_; refine zd ?_; refine zf ?_; refine ze ?_
    refine zb (id := 14) ?_; refine Zs2 ?_; refine zd ?_
    refine zf ?_
    refine ze (zy ?_)
    refine V_midB (mid_last (fun W' : Wt => [(0, .sat (SlV tyOp 6 (ops.flatMap opc) ops.length false)), (2, .is (.bool false)), (3, .is (.pointer (some ⟨b3, 0, none⟩))), (4, .own (Cell [.int .i64 ((stp t o i)).nx, .slice p4 n4 c4] tyT)), (5, .own (SlR tyQ 6 (W').length (aqC (W')))), (6, .own (SlR tyI 5 (W').length (itC (W')))), (7, .is (.int .i64 (i : Nat))), (10, .own (ExR (fun x : SlX => Cell (tbxC ((stp t o i)) x) tyT) (TbX ((stp t o i))) TbX.mono)), (11, .is (.int .i64 0))]) (fun W' => PInv (i + 1) (stp t o i) W') (fun _ => [bx b3 [.int .i64 t.nx, .slice p3 zs3.length c3] tyT]) ?_) ?_
    rotate_left
    · -- the ways
      by_cases hw5 : o.w % 8 < 5
      · have hst := stp_join hP (by omega) hw5
        have hj0 := p_joinE hP (by omega) o
        have hPn := p_join hP (by omega) o
        rw [← hst] at hPn
        have hmj := TbR.mn (t := stp t o i)
        have hqz := qS_z o.q
        refine ze ?_; refine zb (id := 38) ?_; refine Zs37 ?_; refine Zs1 ?_; refine z7 (qb L _ rfl rfl rfl rfl rfl rfl rfl (by first | omega | decide) (by assumption)) rfl ?_; refine Zs45 ?_; refine Zs43 ?_; refine Zs26 ?_; refine Zs11 ?_; refine Zs2 ?_; refine zd ?_; refine zf ?_; refine zw rfl ?_; refine ze ?_; refine zb (id := 39) ?_; refine z7 (zn L (vs := [_, _]) (qy rfl (List.Mem.head _)) rfl rfl rfl rfl ⟨_, rfl⟩) rfl ?_; refine z7 (zn L (vs := [_, _, _, _, _, _]) (zl rfl) rfl rfl rfl rfl ⟨_, rfl⟩) rfl ?_; refine Zs5 ?_; refine Zs4 ?_; refine z7 (zn L (vs := [_, _, _, _, _]) (zl rfl) rfl rfl rfl rfl ⟨_, rfl⟩) rfl ?_; refine Zs1 ?_; refine Zs33 ?_; refine z7 (ok_call (φ := JoinS0 (stp t o i) (joinT t (qS o.q) (itS o i).rv (itS o i) ((i / 3 : Nat) : Int) false).2.1 (joinT t (qS o.q) (itS o i).rv (itS o i) ((i / 3 : Nat) : Int) false).2.2) L rfl rfl (zg rfl) rfl rfl rfl JoinS0.mono (fun u H hH hle _ => Ret.mono (join_ret hz3 (hs34.le hle) hT.q hqz (by omega) (by omega) hH) fun v H' _ h => (by have h9 := JoinP.tup h; rw [hj0] at h9; unfold JoinS at h9; rw [hst]; exact h9))) rfl ?_; refine Zs37 ?_; refine Zs46 ?_; refine Zs48 ?_; refine Zs48 ?_; refine Zs48 ?_; refine z7 (ok_storeX L (X := SlX) (tbxC (stp t o i)) (TbX (stp t o i)) TbX.mono tbx_st (fun _ => ⟨rfl, rfl⟩) rfl rfl rfl rfl rfl) rfl ?_; refine Zs2 ?_; refine zd ?_; refine zf ?_; refine ze ?_
        refine zb (id := 40) ?_; refine qh (ok_moveO (.inl rfl) rfl rfl rfl rfl) ?_; refine z7 (zn L (vs := [_, _, _, _, _, _]) (zl rfl) rfl rfl rfl rfl ⟨_, rfl⟩) rfl ?_; refine Zs25 ?_; refine qh (ok_append L rfl rfl rfl (apd_B rfl) rfl el30 rfl rfl (by omega) (by omega)) ?_; refine qh (ok_moveO (.inr rfl) rfl rfl rfl rfl) ?_; refine zd ?_; refine zf ?_; refine zb (id := 41) ?_; refine qh (ok_moveO (.inl rfl) rfl rfl rfl rfl) ?_; refine z7 (zn L (vs := [_, _, _, _, _]) (zl rfl) rfl rfl rfl rfl ⟨_, rfl⟩) rfl ?_; refine Zs25 ?_; refine qh (ok_append L rfl rfl rfl (apd_B rfl) rfl el33 rfl rfl (by omega) (by omega)) ?_; refine qh (ok_moveO (.inr rfl) rfl rfl rfl rfl) ?_; refine zd ?_; refine qm ?_
        exact N_mids (Q ++ [(qS o.q, itS o i)]) Since.refl hPn rfl ⟨rfl, rfl, rfl, rfl, aq_snoc rfl, iw_snoc rfl, rfl, rfl, rfl, trivial⟩
      by_cases hnil : t.fl = []
      · have hst := stp_nil (i := i) hw5 hnil
        have hl0 : zs3.length = 0 := by rw [hl3, hnil]; rfl
        have hPn := hP.more
        refine ze ?_; refine zb (id := 38) ?_; refine Zs37 ?_; refine Zs1 ?_; refine z7 (qb L _ rfl rfl rfl rfl rfl rfl rfl (by first | omega | decide) (by assumption)) rfl ?_; refine Zs45 ?_; refine Zs43 ?_; refine Zs26 ?_; refine Zs8 ?_; refine Zs2 ?_; refine zd ?_; refine zf ?_; refine zm rfl ?_; refine ze ?_; refine zb (id := 42) ?_; refine Zs19 ?_; refine z7 (zj L (qy rfl (List.Mem.head _)) rfl rfl rfl rfl) rfl ?_; refine Zs35 ?_; refine Zs15 ?_; refine Zs2 ?_; refine zd ?_; refine zf ?_; refine zw rfl ?_; refine y7 ?_; refine X_there rfl ?_; refine qg ?_; refine y6 ?_; refine zf ?_; refine zb (id := 9) ?_; refine Zs1 ?_; refine Zs13 ?_; refine Zs2 ?_; refine zd ?_
        rw [hst] at hz4
        rw [hst]
        refine N_unbox 3 [] rfl rfl ?_
        refine N_clsX 3 TbX.mono ((p3, zs3.length, c3) : SlX) ⟨zs3, hz3, hs34⟩ (r := fun x : SlX => Cell (tbxC t x) tyT) rfl ?_
        refine N_clsX 4 TbX.mono ((p4, n4, c4) : SlX) ⟨zs4, hz4, hs4⟩ (r := fun x : SlX => Cell (tbxC t x) tyT) rfl ?_
        exact N_roundS (x := ((i, t), Q)) ((i + 1, t), Q) (s3.trans (s4o.trans s4)) ⟨hlt, hPn, hT⟩ (by dsimp only; omega) ⟨rfl, rfl, rfl, rfl, rfl, rfl, rfl, trivial⟩
      obtain ⟨f, hf⟩ := get_some (Nat.mod_lt o.n (List.length_pos_iff.2 hnil))
      have hfm := fls_mem hf
      have hlp : 0 < t.fl.length := List.length_pos_iff.2 hnil
      have hmod : o.n % zs3.length < zs3.length := Nat.mod_lt _ (by omega)
      obtain ⟨f', pf, cf, hzf, hlf, hfv, hfl, hc14⟩ := hs34.at hz3 hmod
      rw [hl3, hf] at hlf
      cases hlf
      have hsl3 := hs34.sl
      have en : Int.tmod (o.n : Int) (zs3.length : Int) = ((o.n % zs3.length : Nat) : Int) := rfl
      have hwr : IntKind.i64.wrap (Int.tmod (o.n : Int) (zs3.length : Int)) = ((o.n % zs3.length : Nat) : Int) := wrap_i64 (by rw [en]; omega) (by rw [en]; omega)
      by_cases hw7 : o.w % 8 < 7
      · have hst := stp_cm hP (by omega) ho hw5 hnil hw7 hf
        have hPn := p_cm hP (by omega) hfm ho.n
        rw [← hst] at hPn
        have hc0 := p_cmE hP (by omega) hfm ho.n
        refine ze ?_; refine zb (id := 38) ?_; refine Zs37 ?_; refine Zs1 ?_; refine z7 (qb L _ rfl rfl rfl rfl rfl rfl rfl (by first | omega | decide) (by assumption)) rfl ?_; refine Zs45 ?_; refine Zs43 ?_; refine Zs26 ?_; refine Zs8 ?_; refine Zs2 ?_; refine zd ?_; refine zf ?_; refine zm rfl ?_; refine ze ?_; refine zb (id := 42) ?_; refine Zs19 ?_; refine z7 (StepOK.seeV (zj L (qy rfl (List.Mem.head _)) rfl rfl rfl rfl) (by assumption)) rfl ?_; refine Zs31 ?_; refine Zs9 ?_; refine Zs2 ?_; refine zd ?_; refine zf ?_; refine zm rfl ?_; refine ze ?_; refine zb (id := 43) ?_; refine Zs37 ?_; refine Zs1 ?_; refine z7 (qb L _ rfl rfl rfl rfl rfl rfl rfl (by first | omega | decide) (by assumption)) rfl ?_; refine Zs45 ?_; refine Zs43 ?_; refine Zs26 ?_; refine Zs11 ?_; refine Zs2 ?_; refine zd ?_; refine zf ?_; refine zw rfl ?_; refine ze ?_; refine ze ?_; refine zb (id := 44) ?_; refine Zs19 ?_; refine z7 (StepOK.seeV (zj L (qy rfl (List.Mem.head _)) rfl rfl rfl rfl) (by assumption)) rfl ?_; refine Zs31 ?_; refine Zs9 ?_; refine zd ?_; refine zf ?_; refine zm rfl ?_; refine zt ?_; refine zf ?_; refine zz (id := 46) [] mixed (by kernel_rfl) ?_; refine z8 (zn L (vs := [_, _]) (qy rfl (List.Mem.head _)) rfl rfl rfl rfl ⟨_, rfl⟩) rfl ?_; refine Zs38 ?_; refine z8 (StepOK.seeV (zj L (qy rfl (List.Mem.head _)) rfl rfl rfl rfl) (by assumption)) rfl ?_; refine Zs58 ?_; refine Zs7 ?_; refine z8 (qb L _ rfl rfl rfl rfl rfl rfl rfl (by first | omega | decide) (by assumption)) rfl ?_; refine Zs55 ?_; refine Zs51 ?_; refine z8 (ok_conv rfl rfl rfl cv5_3.1 cv5_3.2 (wrap_i64 (by omega) (by omega))) rfl ?_; refine Zs38 ?_; refine z8 (StepOK.seeV (zj L (qy rfl (List.Mem.head _)) rfl rfl rfl rfl) (by assumption)) rfl ?_; refine z8 (y3 L rfl rfl rfl rfl) rfl ?_; refine z8 (ok_rem rfl rfl rfl rfl (by omega) (by assumption)) rfl ?_; refine z8 (qb L _ rfl rfl rfl rfl rfl rfl rfl (by first | omega | decide) (by assumption)) rfl ?_; refine Zs55 ?_; refine Zs51 ?_; refine Zs58 ?_; refine Zs7 ?_; refine z8 (qb L _ rfl rfl rfl rfl rfl rfl rfl (by first | omega | decide) (by assumption)) rfl ?_; refine Zs55 ?_; refine Zs51 ?_; refine z8 (ok_conv rfl rfl rfl cv5_3.1 cv5_3.2 (wrap_i64 (by omega) (by omega))) rfl ?_; refine z8 (ok_call (φ := RTabS (stp t o i) 0) L rfl rfl (zg rfl) rfl rfl rfl RTabS.mono (fun u H hH hle _ => Ret.mono (commit_ret hz3 (hs34.le hle) hT.q (by omega) (by omega) ⟨by omega, by omega⟩ hH) fun v H' _ h => (by have h9 := TabP.tup h; rw [hc0, ← hst] at h9; exact h9))) rfl ?_; refine Zs58 ?_; refine Zs64 ?_; refine Zs61 ?_; refine z8 (ok_storeX L (X := SlX) (tbxC (stp t o i)) (TbX (stp t o i)) TbX.mono tbx_st (fun _ => ⟨rfl, rfl⟩) rfl rfl rfl rfl rfl) rfl ?_; refine Zs54 ?_; refine qk ?_; refine qm ?_
        exact N_mids Q Since.refl hPn rfl ⟨rfl, rfl, rfl, rfl, rfl, rfl, rfl, rfl, rfl, trivial⟩
      · have hst := stp_ld hP hw5 hnil hw7 hf
        have hPn := p_ld hP hfm
        have hPe := plE_at hP.ok hfm
        have hfe := findF_at hP.ok hfm
        rw [← hst] at hPn
        have hml := FlR.mn (f := f)
        refine ze ?_; refine zb (id := 38) ?_; refine Zs37 ?_; refine Zs1 ?_; refine z7 (qb L _ rfl rfl rfl rfl rfl rfl rfl (by first | omega | decide) (by assumption)) rfl ?_; refine Zs45 ?_; refine Zs43 ?_; refine Zs26 ?_; refine Zs8 ?_; refine Zs2 ?_; refine zd ?_; refine zf ?_; refine zm rfl ?_; refine ze ?_; refine zb (id := 42) ?_; refine Zs19 ?_; refine z7 (StepOK.seeV (zj L (qy rfl (List.Mem.head _)) rfl rfl rfl rfl) (by assumption)) rfl ?_; refine Zs31 ?_; refine Zs9 ?_; refine Zs2 ?_; refine zd ?_; refine zf ?_; refine zm rfl ?_; refine ze ?_; refine zb (id := 43) ?_; refine Zs37 ?_; refine Zs1 ?_; refine z7 (qb L _ rfl rfl rfl rfl rfl rfl rfl (by first | omega | decide) (by assumption)) rfl ?_; refine Zs45 ?_; refine Zs43 ?_; refine Zs26 ?_; refine Zs8 ?_; refine Zs2 ?_; refine zd ?_; refine zf ?_; refine zm rfl ?_; refine ze ?_; refine zb (id := 15) ?_; refine Zs24 ?_; refine zd ?_; refine zf ?_; refine ze ?_; refine ze ?_; refine zb (id := 16) ?_; refine Zs19 ?_; refine z7 (StepOK.seeV (zj L (qy rfl (List.Mem.head _)) rfl rfl rfl rfl) (by assumption)) rfl ?_; refine Zs31 ?_; refine Zs9 ?_; refine zd ?_; refine zf ?_; refine zm rfl ?_; refine zt ?_; refine zf ?_; refine ze ?_; refine zz (id := 18) [] mixed (by kernel_rfl) ?_; refine z8 (zn L (vs := [_, _]) (qy rfl (List.Mem.head _)) rfl rfl rfl rfl ⟨_, rfl⟩) rfl ?_; refine Zs38 ?_; refine z8 (StepOK.seeV (zj L (qy rfl (List.Mem.head _)) rfl rfl rfl rfl) (by assumption)) rfl ?_; refine Zs58 ?_; refine Zs7 ?_; refine z8 (qb L _ rfl rfl rfl rfl rfl rfl rfl (by first | omega | decide) (by assumption)) rfl ?_; refine Zs55 ?_; refine Zs51 ?_; refine z8 (ok_conv rfl rfl rfl cv5_3.1 cv5_3.2 (wrap_i64 (by omega) (by omega))) rfl ?_; refine Zs38 ?_; refine z8 (StepOK.seeV (zj L (qy rfl (List.Mem.head _)) rfl rfl rfl rfl) (by assumption)) rfl ?_; refine z8 (y3 L rfl rfl rfl rfl) rfl ?_; refine z8 (ok_rem rfl rfl rfl rfl (by omega) (by assumption)) rfl ?_; refine z8 (qb L _ rfl rfl rfl rfl rfl rfl rfl (by first | omega | decide) (by assumption)) rfl ?_; refine Zs55 ?_; refine Zs51 ?_; refine z8 (ok_call (φ := LandS (stp t o i) f 0) L rfl rfl (zg rfl) rfl rfl rfl LandS.mono (fun u H hH hle _ => Ret.mono (land_ret hz3 (hs34.le hle) hT.q (by omega) (by omega) hH) fun v H' _ h => (by have h9 := LandP.tup h; rw [hPe, hfe, ← hst] at h9; exact h9))) rfl ?_; refine Zs58 ?_; refine Zs64 ?_; refine Zs64 ?_; refine Zs61 ?_; refine z8 (ok_storeX L (X := SlX) (tbxC (stp t o i)) (TbX (stp t o i)) TbX.mono tbx_st (fun _ => ⟨rfl, rfl⟩) rfl rfl rfl rfl rfl) rfl ?_; refine z8 (ok_storeX L (X := SlX) (flxC f) (FlX f) FlX.mono flx_st flx_pl rfl rfl rfl rfl rfl) rfl ?_; refine Zs54 ?_; refine qk ?_; refine zf ?_; refine ze ?_
        refine V_opnX 12 rfl fun ⟨p12, n12, c12⟩ H12 s12 h12 => ?_
        unfold FlX at h12
        dsimp only at h12
        obtain ⟨py, cy, ey⟩ := slv_sh h12
        cases ey
        dsimp only [flxC, flc]
        have hfi : f.is.length ≤ Q.length := by have := p_len hP hfm; omega
        refine V_pub 12 rfl ?_
        refine V_pubR 5 rfl ?_
        refine V_pubR 6 rfl ?_
        refine zb (id := 19) ?_; refine Zs2 ?_; refine zd ?_; refine zf ?_; refine ze ?_; refine zb (id := 20) ?_; refine Zs2 ?_; refine zd ?_; refine zf ?_; refine ze ?_; refine ze ?_; refine zb (id := 21) ?_; refine Zs2 ?_; refine zd ?_; refine zf ?_; refine zy ?_
        refine V_nilR 13 tyQ 6 rfl ?_
        refine V_nilR 14 tyI 5 rfl ?_
        refine V_loop (fun k : Nat => [(0, .sat (SlV tyOp 6 (ops.flatMap opc) ops.length false)), (2, .is (.bool false)), (3, .is (.pointer (some ⟨b3, 0, none⟩))), (4, .own (Cell [.int .i64 ((stp t o i)).nx, .slice p4 n4 c4] tyT)), (5, .sat (SlV tyQ 6 (aqC Q) Q.length false)), (6, .sat (SlV tyI 5 (itC Q) Q.length false)), (7, .is (.int .i64 (i : Nat))), (10, .own (ExR (fun x : SlX => Cell (tbxC ((stp t o i)) x) tyT) (TbX ((stp t o i))) TbX.mono)), (11, .is (.int .i64 0)), (12, .sat (At [.int .i64 f.id, .int .u64 f.rv, .int .u8 f.q.kd, .string f.q.g.1.1, .string f.q.g.1.2, .string f.q.g.2, .string f.q.u.1, .string f.q.u.2, .int .i64 f.cl, .int .i64 f.cs, .int .i64 f.si, .int .i64 f.ve, .int .i64 f.sp, .slice p12 f.is.length c12] tyF 0)), (13, .own (SlR tyQ 6 (filW (Q.take k) f).length (aqC (filW (Q.take k) f)))), (14, .own (SlR tyI 5 (filW (Q.take k) f).length (itC (filW (Q.take k) f)))), (15, .is (.int .i64 k))]) (fun k => k ≤ Q.length) (fun k => Q.length - k) 0 (Nat.zero_le _) ⟨rfl, rfl, rfl, rfl, rfl, rfl, rfl, rfl, rfl, rfl, rfl, rfl, rfl, trivial⟩ ?_
        rintro k hk
        have hfil : (filW (Q.take k) f).length ≤ k := Nat.le_trans (List.length_filter_le _ _) (by rw [List.length_take]; omega)
        by_cases hkt : k < Q.length
        · obtain ⟨wt, hwk⟩ := get_some hkt
          have hcq := aq_at hwk
          have hci := itC_at hwk
          have hgh := gone_hit hP hfm hwk
          have hfs := filW_snoc (f := f) hwk
          refine ze ?_; refine ze ?_; refine zb (id := 22) ?_; refine Zs1 ?_; refine Zs37 ?_; refine Zs31 ?_; refine Zs11 ?_; refine zd ?_; refine zf ?_; refine zw rfl ?_; refine zt ?_; refine zf ?_; refine ze ?_; refine zy ?_; refine ze ?_; refine zb (id := 24) ?_; refine Zs2 ?_; refine zd ?_; refine zf ?_; refine ze ?_; refine ze ?_; refine zb (id := 25) ?_; refine Zs2 ?_; refine zd ?_; refine zf ?_; refine zy ?_
          refine V_midB (mid_last (fun _ : Unit => [(0, .sat (SlV tyOp 6 (ops.flatMap opc) ops.length false)), (2, .is (.bool false)), (3, .is (.pointer (some ⟨b3, 0, none⟩))), (4, .own (Cell [.int .i64 ((stp t o i)).nx, .slice p4 n4 c4] tyT)), (5, .sat (SlV tyQ 6 (aqC Q) Q.length false)), (6, .sat (SlV tyI 5 (itC Q) Q.length false)), (7, .is (.int .i64 (i : Nat))), (10, .own (ExR (fun x : SlX => Cell (tbxC ((stp t o i)) x) tyT) (TbX ((stp t o i))) TbX.mono)), (11, .is (.int .i64 0)), (12, .sat (At [.int .i64 f.id, .int .u64 f.rv, .int .u8 f.q.kd, .string f.q.g.1.1, .string f.q.g.1.2, .string f.q.g.2, .string f.q.u.1, .string f.q.u.2, .int .i64 f.cl, .int .i64 f.cs, .int .i64 f.si, .int .i64 f.ve, .int .i64 f.sp, .slice p12 f.is.length c12] tyF 0)), (13, .own (SlR tyQ 6 (filW (Q.take k) f).length (aqC (filW (Q.take k) f)))), (14, .own (SlR tyI 5 (filW (Q.take k) f).length (itC (filW (Q.take k) f)))), (15, .is (.int .i64 k)), (16, .is (.bool (hitW f wt)))]) (fun _ => True) (fun _ => [bx b3 [.int .i64 t.nx, .slice p3 zs3.length c3] tyT]) ?_) ?_
          rotate_left
          · refine V_loop (fun j : Nat => [(0, .sat (SlV tyOp 6 (ops.flatMap opc) ops.length false)), (2, .is (.bool false)), (3, .is (.pointer (some ⟨b3, 0, none⟩))), (4, .own (Cell [.int .i64 ((stp t o i)).nx, .slice p4 n4 c4] tyT)), (5, .sat (SlV tyQ 6 (aqC Q) Q.length false)), (6, .sat (SlV tyI 5 (itC Q) Q.length false)), (7, .is (.int .i64 (i : Nat))), (10, .own (ExR (fun x : SlX => Cell (tbxC ((stp t o i)) x) tyT) (TbX ((stp t o i))) TbX.mono)), (11, .is (.int .i64 0)), (12, .sat (At [.int .i64 f.id, .int .u64 f.rv, .int .u8 f.q.kd, .string f.q.g.1.1, .string f.q.g.1.2, .string f.q.g.2, .string f.q.u.1, .string f.q.u.2, .int .i64 f.cl, .int .i64 f.cs, .int .i64 f.si, .int .i64 f.ve, .int .i64 f.sp, .slice p12 f.is.length c12] tyF 0)), (13, .own (SlR tyQ 6 (filW (Q.take k) f).length (aqC (filW (Q.take k) f)))), (14, .own (SlR tyI 5 (filW (Q.take k) f).length (itC (filW (Q.take k) f)))), (15, .is (.int .i64 k)), (16, .is (.bool (goneB (f.is.take j) wt.2))), (17, .is (.int .i64 j))]) (fun j => j ≤ f.is.length) (fun j => f.is.length - j) 0 (Nat.zero_le _) ⟨rfl, rfl, rfl, rfl, rfl, rfl, rfl, rfl, rfl, rfl, rfl, rfl, rfl, rfl, rfl, trivial⟩ ?_
            rintro j hj
            by_cases hjt : j < f.is.length
            · obtain ⟨y, hy⟩ := get_some hjt
              have hcy := it_at hy
              have hgs := goneB_snoc (x := wt.2) hy
              cases hg : goneB (f.is.take j) wt.2 with
              | true =>
                rw [hg, Bool.true_or] at hgs
                refine ze ?_; refine ze ?_; refine zb (id := 26) ?_; refine Zs1 ?_; refine Zs5 ?_; refine Zs17 ?_; refine Zs31 ?_; refine Zs11 ?_; refine zd ?_; refine zf ?_; refine zw rfl ?_; refine zt ?_; refine zf ?_; refine ze ?_; refine zy ?_; refine zz (id := 28) [] mixed (by kernel_rfl) ?_; refine Zs7 ?_; refine Zs7 ?_; refine Zs12 ?_; refine Zs12 ?_; refine Zs12 ?_; refine Zs12 ?_; refine Zs12 ?_; refine Zs12 ?_; refine Zs12 ?_; refine Zs12 ?_; refine Zs12 ?_; refine Zs12 ?_; refine Zs28 ?_; refine Zs54 ?_; refine qk ?_; refine qm ?_; refine zf ?_; refine zb (id := 27) ?_; refine Zs1 ?_; refine Zs13 ?_; refine Zs2 ?_; refine zd ?_
                exact y1 (x := j) (j + 1) hjt (by omega) ⟨rfl, rfl, rfl, rfl, rfl, rfl, rfl, rfl, rfl, rfl, rfl, rfl, rfl, by rw [hgs]; rfl, rfl, trivial⟩
              | false =>
                rw [hg, Bool.false_or] at hgs
                have heq := eqIv (a := y) (b := wt.2) rfl
                refine ze ?_; refine ze ?_; refine zb (id := 26) ?_; refine Zs1 ?_; refine Zs5 ?_; refine Zs17 ?_; refine Zs31 ?_; refine Zs11 ?_; refine zd ?_; refine zf ?_; refine zw rfl ?_; refine zt ?_; refine zf ?_; refine ze ?_; refine zy ?_; refine zz (id := 28) [] mixed (by kernel_rfl) ?_; refine Zs7 ?_; refine Zs7 ?_; refine Zs32 ?_; refine Zs29 ?_; refine Zs7 ?_; refine z8 (qb L _ rfl rfl rfl rfl rfl rfl rfl (by first | omega | decide) (by assumption)) rfl ?_; refine z8 (y5 L (vs := [_, _, _, _, _]) rfl rfl rfl rfl rfl ⟨_, rfl⟩) rfl ?_; refine Zs58 ?_; refine Zs7 ?_; refine z8 (qb L _ rfl rfl rfl rfl rfl rfl rfl (by first | omega | decide) (by assumption)) rfl ?_; refine z8 (y5 L (vs := [_, _, _, _, _]) rfl rfl rfl rfl rfl ⟨_, rfl⟩) rfl ?_; refine z8 (ok_aeql rfl rfl rfl rfl eq33 (by assumption) rfl) rfl ?_; refine Zs28 ?_; refine Zs54 ?_; refine qk ?_; refine qm ?_; refine zf ?_; refine zb (id := 27) ?_; refine Zs1 ?_; refine Zs13 ?_; refine Zs2 ?_; refine zd ?_
                exact y1 (x := j) (j + 1) hjt (by omega) ⟨rfl, rfl, rfl, rfl, rfl, rfl, rfl, rfl, rfl, rfl, rfl, rfl, rfl, by rw [hgs]; rfl, rfl, trivial⟩
            · obtain rfl : j = f.is.length := by omega
              rw [List.take_length, hgh]
              refine ze ?_; refine ze ?_; refine zb (id := 26) ?_; refine Zs1 ?_; refine Zs5 ?_; refine Zs17 ?_; refine Zs31 ?_; refine Zs8 ?_; refine zd ?_; refine zf ?_; refine zm rfl ?_; refine y7 ?_; refine qg ?_; refine qg ?_; refine y6 ?_
              exact N_mids () Since.refl trivial rfl ⟨rfl, rfl, rfl, rfl, rfl, rfl, rfl, rfl, rfl, rfl, rfl, rfl, rfl, rfl, trivial⟩
          rintro _ _
          cases hh : hitW f wt with
          | true =>
            obtain ⟨hh1, hh2⟩ := hitW_iff.1 hh
            rw [hh, if_pos rfl, List.append_nil] at hfs
            have heq := eqQv (decide_eq_true hh1)
            refine ze ?_; refine ze ?_; refine zz (id := 29) [] mixed (by kernel_rfl) ?_; refine Zs7 ?_; refine Zs58 ?_; refine Zs7 ?_; refine z8 (qb L _ rfl rfl rfl rfl rfl rfl rfl (by first | omega | decide) (by assumption)) rfl ?_; refine z8 (y5 L (vs := [_, _, _, _, _, _]) rfl rfl rfl rfl rfl ⟨_, rfl⟩) rfl ?_; refine Zs32 ?_; refine z8 (zn L (vs := [_, _, _, _, _, _]) (zl rfl) rfl rfl rfl rfl ⟨_, rfl⟩) rfl ?_; refine Zs77 ?_; refine Zs7 ?_; refine Zs58 ?_; refine Zs7 ?_; refine z8 (qb L _ rfl rfl rfl rfl rfl rfl rfl (by first | omega | decide) (by assumption)) rfl ?_; refine Zs55 ?_; refine Zs51 ?_; refine Zs32 ?_; refine Zs39 ?_; refine Zs80 ?_; refine Zs28 ?_; refine z8 (ok_bneq rfl rfl rfl rfl bt4 rfl) rfl ?_; refine qk ?_; refine zf ?_; refine zm rfl ?_; refine zt ?_; refine zf ?_; refine ze ?_; refine zb (id := 31) ?_; refine Zs1 ?_; refine Zs49 ?_; refine zd ?_; refine zf ?_; refine zm rfl ?_; refine zt ?_; refine qm ?_; refine zf ?_; refine zb (id := 23) ?_; refine Zs1 ?_; refine Zs13 ?_; refine Zs2 ?_; refine zd ?_
            exact y1 (x := k) (k + 1) hkt (by omega) ⟨rfl, rfl, rfl, rfl, rfl, rfl, rfl, rfl, rfl, rfl, by rw [hfs]; rfl, by rw [hfs]; rfl, rfl, trivial⟩
          | false =>
            rw [hh, if_neg (by decide)] at hfs
            by_cases hh1 : wt.1 = f.q
            · have hh2 : wt.2.rv ≠ f.rv := fun e => by rw [hitW_iff.2 ⟨hh1, e⟩] at hh; cases hh
              have heq := eqQv (decide_eq_true hh1)
              refine ze ?_; refine ze ?_; refine zz (id := 29) [] mixed (by kernel_rfl) ?_; refine Zs7 ?_; refine Zs58 ?_; refine Zs7 ?_; refine z8 (qb L _ rfl rfl rfl rfl rfl rfl rfl (by first | omega | decide) (by assumption)) rfl ?_; refine z8 (y5 L (vs := [_, _, _, _, _, _]) rfl rfl rfl rfl rfl ⟨_, rfl⟩) rfl ?_; refine Zs32 ?_; refine z8 (zn L (vs := [_, _, _, _, _, _]) (zl rfl) rfl rfl rfl rfl ⟨_, rfl⟩) rfl ?_; refine Zs77 ?_; refine Zs7 ?_; refine Zs58 ?_; refine Zs7 ?_; refine z8 (qb L _ rfl rfl rfl rfl rfl rfl rfl (by first | omega | decide) (by assumption)) rfl ?_; refine Zs55 ?_; refine Zs51 ?_; refine Zs32 ?_; refine Zs39 ?_; refine Zs71 ?_; refine Zs28 ?_; refine z8 (ok_bneq rfl rfl rfl rfl bt4 rfl) rfl ?_; refine qk ?_; refine zf ?_; refine zm rfl ?_; refine zt ?_; refine zf ?_; refine ze ?_; refine zb (id := 31) ?_; refine Zs1 ?_; refine Zs49 ?_; refine zd ?_; refine zf ?_; refine zw rfl ?_; refine ze ?_; refine zb (id := 32) ?_; refine qh (ok_moveO (.inl rfl) rfl rfl rfl rfl) ?_; refine Zs37 ?_; refine Zs1 ?_; refine z7 (qb L _ rfl rfl rfl rfl rfl rfl rfl (by first | omega | decide) (by assumption)) rfl ?_; refine z7 (y5 L (vs := [_, _, _, _, _, _]) rfl rfl rfl rfl rfl ⟨_, rfl⟩) rfl ?_; refine Zs25 ?_; refine qh (ok_append L rfl rfl rfl (apd_B rfl) rfl el30 rfl rfl (by omega) (by omega)) ?_; refine qh (ok_moveO (.inr rfl) rfl rfl rfl rfl) ?_; refine zd ?_; refine zf ?_; refine zb (id := 33) ?_; refine qh (ok_moveO (.inl rfl) rfl rfl rfl rfl) ?_; refine Zs37 ?_; refine Zs1 ?_; refine z7 (qb L _ rfl rfl rfl rfl rfl rfl rfl (by first | omega | decide) (by assumption)) rfl ?_; refine z7 (y5 L (vs := [_, _, _, _, _]) rfl rfl rfl rfl rfl ⟨_, rfl⟩) rfl ?_; refine Zs25 ?_; refine qh (ok_append L rfl rfl rfl (apd_B rfl) rfl el33 rfl rfl (by omega) (by omega)) ?_; refine qh (ok_moveO (.inr rfl) rfl rfl rfl rfl) ?_; refine zd ?_; refine qm ?_; refine zf ?_; refine zb (id := 23) ?_; refine Zs1 ?_; refine Zs13 ?_; refine Zs2 ?_; refine zd ?_
              exact y1 (x := k) (k + 1) hkt (by omega) ⟨rfl, rfl, rfl, rfl, rfl, rfl, rfl, rfl, rfl, rfl, by rw [hfs]; exact aq_snoc rfl, by rw [hfs]; exact iw_snoc rfl, rfl, trivial⟩
            · have heq := eqQv (decide_eq_false hh1)
              refine ze ?_; refine ze ?_; refine zz (id := 29) [] mixed (by kernel_rfl) ?_; refine Zs7 ?_; refine Zs58 ?_; refine Zs7 ?_; refine z8 (qb L _ rfl rfl rfl rfl rfl rfl rfl (by first | omega | decide) (by assumption)) rfl ?_; refine z8 (y5 L (vs := [_, _, _, _, _, _]) rfl rfl rfl rfl rfl ⟨_, rfl⟩) rfl ?_; refine Zs32 ?_; refine z8 (zn L (vs := [_, _, _, _, _, _]) (zl rfl) rfl rfl rfl rfl ⟨_, rfl⟩) rfl ?_; refine Zs77 ?_; refine Zs7 ?_; refine Zs12 ?_; refine Zs12 ?_; refine Zs12 ?_; refine Zs12 ?_; refine Zs12 ?_; refine Zs12 ?_; refine Zs12 ?_; refine Zs12 ?_; refine Zs28 ?_; refine z8 (ok_bneq rfl rfl rfl rfl bt4 rfl) rfl ?_; refine qk ?_; refine zf ?_; refine zm rfl ?_; refine zt ?_; refine zf ?_; refine ze ?_; refine zb (id := 31) ?_; refine Zs1 ?_; refine Zs49 ?_; refine zd ?_; refine zf ?_; refine zw rfl ?_; refine ze ?_; refine zb (id := 32) ?_; refine qh (ok_moveO (.inl rfl) rfl rfl rfl rfl) ?_; refine Zs37 ?_; refine Zs1 ?_; refine z7 (qb L _ rfl rfl rfl rfl rfl rfl rfl (by first | omega | decide) (by assumption)) rfl ?_; refine z7 (y5 L (vs := [_, _, _, _, _, _]) rfl rfl rfl rfl rfl ⟨_, rfl⟩) rfl ?_; refine Zs25 ?_; refine qh (ok_append L rfl rfl rfl (apd_B rfl) rfl el30 rfl rfl (by omega) (by omega)) ?_; refine qh (ok_moveO (.inr rfl) rfl rfl rfl rfl) ?_; refine zd ?_; refine zf ?_; refine zb (id := 33) ?_; refine qh (ok_moveO (.inl rfl) rfl rfl rfl rfl) ?_; refine Zs37 ?_; refine Zs1 ?_; refine z7 (qb L _ rfl rfl rfl rfl rfl rfl rfl (by first | omega | decide) (by assumption)) rfl ?_; refine z7 (y5 L (vs := [_, _, _, _, _]) rfl rfl rfl rfl rfl ⟨_, rfl⟩) rfl ?_; refine Zs25 ?_; refine qh (ok_append L rfl rfl rfl (apd_B rfl) rfl el33 rfl rfl (by omega) (by omega)) ?_; refine qh (ok_moveO (.inr rfl) rfl rfl rfl rfl) ?_; refine zd ?_; refine qm ?_; refine zf ?_; refine zb (id := 23) ?_; refine Zs1 ?_; refine Zs13 ?_; refine Zs2 ?_; refine zd ?_
              exact y1 (x := k) (k + 1) hkt (by omega) ⟨rfl, rfl, rfl, rfl, rfl, rfl, rfl, rfl, rfl, rfl, by rw [hfs]; exact aq_snoc rfl, by rw [hfs]; exact iw_snoc rfl, rfl, trivial⟩
        · obtain rfl : k = Q.length := by omega
          rw [List.take_length] at hfil ⊢
          have hln := p_len hP hfm
          have hadd : IntKind.i64.wrap (((filW Q f).length : Int) + (f.is.length : Int)) = (Q.length : Int) := (wrap_i64 (by omega) (by omega)).trans (by unfold filW at *; omega)
          refine V_detach 14 914 (S := fun v => ∃ p c, v = .slice p (filW Q f).length c) rfl SlR.shapeN fun x14 hx14 => ?_
          obtain ⟨p14, c14, rfl⟩ := hx14
          refine ze ?_; refine ze ?_; refine zb (id := 22) ?_; refine Zs1 ?_; refine Zs37 ?_; refine Zs31 ?_; refine Zs8 ?_; refine zd ?_; refine zf ?_; refine zm rfl ?_; refine y7 ?_; refine qg ?_; refine qg ?_; refine y6 ?_; refine zf ?_; refine ze ?_; refine ze ?_; refine zb (id := 34) ?_; refine Zs1 ?_; refine Zs35 ?_; refine Zs5 ?_; refine Zs17 ?_; refine Zs31 ?_; refine Zs18 ?_; refine Zs37 ?_; refine Zs31 ?_; refine Zs10 ?_; refine zd ?_; refine zf ?_; refine zm rfl ?_; refine zt ?_; refine zf ?_; refine ze ?_; refine zb (id := 36) ?_; refine qh (ok_moveO (.inl rfl) rfl rfl rfl rfl) ?_; refine qh (ok_moveO (.inr rfl) rfl rfl rfl rfl) ?_; refine zd ?_; refine zf ?_; refine zb (id := 37) ?_; refine Zs1 ?_; refine Zs2 ?_; refine zd ?_; refine qm ?_
          refine N_attach 6 914 rfl rfl ?_
          exact N_mids (filW Q f) s12 hPn rfl ⟨rfl, rfl, rfl, rfl, rfl, rfl, rfl, rfl, rfl, trivial⟩
    -- behind it
    rintro W' hPn
    refine V_opnX 10 rfl fun ⟨p10, n10, c10⟩ H10 s10 ⟨zs10, hz10, hs10⟩ => ?_
    dsimp only [tbxC] at hs10 ⊢
    obtain ⟨pz10, cz10, ez10⟩ := hs10.shape
    cases ez10
    have hs410 := hs4.le s10.le
    obtain ⟨hsm', hsl'⟩ := hPn.small
    have hWl' := hPn.len
    have hits := hPn.its
    have hok' := chkE_iff.2 hPn.ok
    have hl10 := fls_len hz10
    refine V_detach 6 906 (S := fun v => ∃ p c, v = .slice p W'.length c) rfl SlR.shapeN fun x6 hx6 => ?_
    obtain ⟨p6, c6, rfl⟩ := hx6
    have hmp := @SlV.mono tyP 2 (pins (allI (stp t o i).fl)).length ((pins (allI (stp t o i).fl)).flatMap pnc) true
    refine ze ?_; refine ze ?_; refine zb (id := 47) ?_; refine Zs1 ?_; refine Zs10 ?_; refine Zs1 ?_; refine z7 (zn L (vs := [_, _]) (qe rfl) rfl rfl rfl rfl ⟨_, rfl⟩) rfl ?_; refine z7 (zn L (vs := [_, _]) (qe rfl) rfl rfl rfl rfl ⟨_, rfl⟩) rfl ?_; refine z7 (zo (r := .int .i64 1) L rfl rfl (zg rfl) rfl rfl rfl (fun u H hH hle _ => rsame_ret hz10 hz4 (if_pos ⟨rfl, rfl⟩) (hs10.le hle) (hs410.le hle) hH)) rfl ?_; refine Zs9 ?_; refine Zs6 ?_; refine Zs1 ?_; refine z7 (zn L (vs := [_, _]) (qe rfl) rfl rfl rfl rfl ⟨_, rfl⟩) rfl ?_; refine z7 (zo (r := .int .i64 (W'.length : Nat)) L rfl rfl (zg rfl) rfl rfl rfl (fun u H hH hle _ => (by rw [← hits]; exact ritems_ret hz10 (hs10.le hle) (by omega) hH))) rfl ?_; refine Zs1 ?_; refine Zs35 ?_; refine Zs10 ?_; refine Zs6 ?_; refine zd ?_; refine zf ?_; refine zm rfl ?_; refine zt ?_; refine zf ?_; refine ze ?_; refine zb (id := 49) ?_; refine z7 (zn L (vs := [_, _]) (qe rfl) rfl rfl rfl rfl ⟨_, rfl⟩) rfl ?_; refine box_store L (O1 := []) rfl rfl rfl rfl rfl rfl rfl rfl rfl ?_; refine zd ?_; refine zf ?_; refine ze ?_
    refine zb (id := 50) ?_; refine z7 (zn L (vs := [_, _]) (qy rfl (List.Mem.head _)) rfl rfl rfl rfl ⟨_, rfl⟩) rfl ?_; refine z7 (ok_call (φ := PinsS (pins (allI (stp t o i).fl)) 0) L rfl rfl (zg rfl) rfl rfl rfl PinsS.mono (fun u H hH hle _ => Ret.mono (pins_ret hz10 (hs10.le hle) hTs.q (by omega) hH) fun v H' _ h => (by have h9 := PinsP.tup h; rw [if_pos hok', hok'] at h9; exact h9))) rfl ?_; refine Zs37 ?_; refine Zs46 ?_; refine Zs48 ?_; refine Zs60 ?_; refine Zs2 ?_; refine zd ?_; refine zf ?_; refine ze ?_
    refine zb (id := 51) ?_; refine Zs2 ?_; refine zd ?_; refine zf ?_; refine ze ?_; refine ze ?_; refine zb (id := 52) ?_; refine Zs2 ?_; refine zd ?_; refine zf ?_; refine zy ?_
    have hps := pins_sum (allI (stp t o i).fl)
    rw [itsN_allI] at hps
    have hpl := pins_len (allI (stp t o i).fl)
    rw [itsN_allI] at hpl
    refine V_loop (fun k : Nat => [(0, .sat (SlV tyOp 6 (ops.flatMap opc) ops.length false)), (2, .is (.bool false)), (3, .is (.pointer (some ⟨b3, 0, none⟩))), (4, .own (Cell [.int .i64 ((stp t o i)).nx, .slice p4 n4 c4] tyT)), (5, .own (SlR tyQ 6 (W').length (aqC (W')))), (6, .is (.slice p6 W'.length c6)), (7, .is (.int .i64 (i : Nat))), (18, .sat (SlV tyP 2 ((pins (allI (stp t o i).fl)).flatMap pnc) (pins (allI (stp t o i).fl)).length true)), (19, .is (.int .i64 0)), (20, .is (.int .i64 ((((pins (allI (stp t o i).fl)).map Prod.snd).take k).sum : Nat))), (21, .is (.int .i64 k)), (906, .own (AtV (.slice p6 W'.length c6) (SlR tyI 5 W'.length (itC W'))))]) (fun k => k ≤ (pins (allI (stp t o i).fl)).length) (fun k => (pins (allI (stp t o i).fl)).length - k) 0 (Nat.zero_le _) ⟨rfl, rfl, rfl, rfl, rfl, rfl, rfl, rfl, rfl, rfl, rfl, rfl, trivial⟩ ?_
    rintro k hk
    by_cases hkt : k < (pins (allI (stp t o i).fl)).length
    · obtain ⟨p, hpk⟩ := get_some hkt
      have hcp : (((pins (allI (stp t o i).fl)).flatMap pnc).drop (k * 2)).take 2 = [.int .u64 p.1, .int .i64 p.2] := flatMap_at pnc_len _ k p hpk
      have hsum := pins_take_sum hpk
      have hsl2 := sum_take (l := (pins (allI (stp t o i).fl)).map Prod.snd) (k + 1)
      have hadd : IntKind.i64.wrap (((((pins (allI (stp t o i).fl)).map Prod.snd).take k).sum : Nat) + (p.2 : Int)) = (((((pins (allI (stp t o i).fl)).map Prod.snd).take (k + 1)).sum : Nat) : Int) := (wrap_i64 (by omega) (by omega)).trans (by omega)
      refine ze ?_; refine ze ?_; refine zb (id := 53) ?_; refine Zs1 ?_; refine Zs37 ?_; refine Zs31 ?_; refine Zs11 ?_; refine zd ?_; refine zf ?_; refine zw rfl ?_; refine zt ?_; refine zf ?_; refine ze ?_; refine zy ?_; refine zb (id := 55) ?_; refine Zs1 ?_; refine Zs37 ?_; refine Zs1 ?_; refine z7 (qb L _ rfl rfl rfl rfl rfl rfl rfl (by first | omega | decide) (by assumption)) rfl ?_; refine Zs45 ?_; refine Zs43 ?_; refine Zs18 ?_; refine Zs2 ?_; refine zd ?_; refine qm ?_; refine zf ?_; refine zb (id := 54) ?_; refine Zs1 ?_; refine Zs13 ?_; refine Zs2 ?_; refine zd ?_
      exact y1 (x := k) (k + 1) hkt (by omega) ⟨rfl, rfl, rfl, rfl, rfl, rfl, rfl, rfl, rfl, rfl, rfl, rfl, trivial⟩
    · obtain rfl : k = (pins (allI (stp t o i).fl)).length := by omega
      have htk : ((((pins (allI (stp t o i).fl)).map Prod.snd).take (pins (allI (stp t o i).fl)).length).sum : Nat) = W'.length := by rw [List.take_of_length_le (by simp), hps, hits]
      rw [htk]
      refine ze ?_; refine ze ?_; refine zb (id := 53) ?_; refine Zs1 ?_; refine Zs37 ?_; refine Zs31 ?_; refine Zs8 ?_; refine zd ?_; refine zf ?_; refine zm rfl ?_; refine y7 ?_; refine qg ?_; refine qg ?_; refine y6 ?_; refine zf ?_; refine ze ?_; refine zb (id := 56) ?_; refine Zs1 ?_; refine Zs10 ?_; refine Zs1 ?_; refine Zs1 ?_; refine Zs1 ?_; refine Zs35 ?_; refine Zs10 ?_; refine Zs6 ?_; refine zd ?_; refine zf ?_; refine zm rfl ?_; refine zt ?_; refine qm ?_; refine zf ?_
      refine V_attach 6 906 rfl rfl ?_
      refine zb (id := 9) ?_; refine Zs1 ?_; refine Zs13 ?_; refine Zs2 ?_; refine zd ?_
      refine N_unbox 3 [] rfl rfl ?_
      refine N_clsX 3 TbX.mono ((p10, zs10.length, c10) : SlX) ⟨zs10, hz10, hs10⟩ (r := fun x : SlX => Cell (tbxC (stp t o i) x) tyT) rfl ?_
      refine N_clsX 4 TbX.mono ((p4, n4, c4) : SlX) ⟨zs4, hz4, hs410⟩ (r := fun x : SlX => Cell (tbxC (stp t o i) x) tyT) rfl ?_
      exact N_roundS (x := ((i, t), Q)) ((i + 1, stp t o i), W') (s3.trans (s4o.trans (s4.trans s10))) ⟨hlt, hPn, hTs⟩ (by dsimp only; omega) ⟨rfl, rfl, rfl, rfl, rfl, rfl, rfl, trivial⟩
  · obtain rfl : i = ops.length := by omega
    refine ze ?_; refine ze ?_; refine zb (id := 8) ?_; refine Zs1 ?_; refine Zs37 ?_; refine Zs31 ?_; refine Zs8 ?_; refine zd ?_; refine zf ?_; refine zm rfl ?_; refine y7 ?_; refine qg ?_; refine qg ?_; refine y6 ?_; refine zf ?_; refine ze ?_; refine zb (id := 58) ?_; refine z7 (zo L rfl rfl (zg rfl) rfl rfl rfl (fun u H hH _ _ => lives_law hH)) rfl ?_; refine Zs2 ?_; refine zd ?_; refine zf ?_
    refine qn L (rs := [.tmp 2]) rfl (fun _ _ h => h) Since.refl fun u H hH hle => ?_
    rfl
end Go.V.L39
namespace Go.V.L39
open Go.Proofs Go.RowKit Go.V
def QuR (l : List Fl) (v : Value) (H : Heap) : Prop := ∃ sv, v = .agg #[sv] ∧ SlV tyE 3 (l.flatMap enc3) l.length true sv H
theorem QuR.mn {l : List Fl} : Kn.mono (.sat (QuR l)) := fun _ _ _ ⟨sv, h1, h2⟩ hle => ⟨sv, h1, h2.le hle⟩
abbrev QueS (l : List Fl) (e : Int) : Value → Heap → Prop := TupS [QuR l, fun v _ => v = .int .i64 e]
theorem QueS.mono {l : List Fl} {e : Int} : Kn.mono (.sat (QueS l e)) := TupS.mono fun φ h => by
  simp only [List.mem_cons, List.mem_nil_iff, or_false] at h
  rcases h with rfl | rfl
  · exact QuR.mn
  · exact eqv_mono
theorem QueP.tup {l : List Fl} {e : Int} {v : Value} {H : Heap} (h : QueP l e v H) : QueS l e v H := by
  obtain ⟨sv, rfl, h⟩ := h
  exact tup2 ⟨sv, rfl, h⟩ rfl
def quxC (x : SlX) : List Value := [.slice x.1 x.2.1 x.2.2]
def QuX (l : List Fl) (x : SlX) (H : Heap) : Prop := SlV tyE 3 (l.flatMap enc3) l.length true (.slice x.1 x.2.1 x.2.2) H
theorem QuX.mono {l : List Fl} : MonoX (QuX l) := fun _ _ _ h hle => SlV.mono _ _ _ h hle
theorem qux_st {l : List Fl} : ∀ v H, QuR l v H → ∃ x, QuX l x H ∧ cellsL v = quxC x := fun v H ⟨sv, h1, h2⟩ => by
  obtain ⟨p, c, hsv⟩ := slv_sh h2
  subst h1 hsv
  exact ⟨(p, l.length, c), h2, rfl⟩
attribute [local irreducible] V N X VO Par StepOK Has Ret RetL RetO RetT RetG Src
end Go.V.L39
namespace Go.V.L39
open Go.Proofs Go.RowKit Go.V
section
variable {P : Program} {F : Fr} {B : Heap} {n : Nat} {O : Boxes} {ops : Array Oper} {ex : Exs} {κ : Kap} {Q : Exit → Act → World → Prop} {o : Oper} {os : List Oper} {d : Nat} {k : Kn}
theorem _root_.Go.V.Zs82 (h : VO P F B n O ops (upd κ d k) os Q) (s : StepOK P F B n ops O κ o d k := by exact qd rfl rfl rfl rfl (wrap_u64 (by omega) (by omega))) (v : vd o = some d := by rfl) : VO P F B n O ops κ (o :: os) Q := z7 s v h
end
theorem JInv.small {n : Nat} {t : Tb} (h : JInv n t) : itsN t.fl = n ∧ t.fl.length ≤ n := by
  have h3 : t.fl.length ≤ itsN t.fl := fls_its fun f hf => by
    obtain ⟨k, hk⟩ := List.getElem?_of_mem hf
    exact ((chkE_iff.1 h.ok).fl k f hk).ne
  exact ⟨h.its, by rw [← h.its]; exact h3⟩
theorem k1_full {T : Tb} (h1 : JInv 1024 T) (h2 : lastS T.fl ≤ 1024) : joinE T (qS 1) 1 kx 2000 false = 3 := by
  refine jE4 h1.ok (qS_ok 1) ?_ (.inl h1.its)
  have h3 : itV kx = true := by decide
  rw [h3]
  rintro (h | h | h | h)
  · cases h
  · cases h
  · omega
  · exact absurd h (by decide)
def gI : It := ⟨0, 0, 2, 3, 1⟩
def gF : Fl := ⟨1, 1, qS 0, 2, 3, 0, 0, 0, [gI]⟩
def xF : Nat → Fl
  | 0 => { gF with id := 2 }
  | 1 => { gF with id := -1 }
  | 2 => { gF with rv := 0 }
  | 3 => { gF with si := -1 }
  | 4 => { gF with ve := 1048577 }
  | 5 => { gF with sp := -1 }
  | 6 => { gF with q := ⟨3, (qS 0).g, (qS 0).u⟩ }
  | 7 => { gF with q := ⟨(qS 0).kd, ((qS 0).g.1, ⟨#[]⟩), (qS 0).u⟩ }
  | 8 => { gF with q := ⟨2, (qS 0).g, (qS 0).u⟩ }
  | 9 => { gF with is := [] }
  | 10 => { gF with is := [⟨0, 8, 2, 3, 1⟩] }
  | 11 => { gF with cl := 1 }
  | 12 => { gF with cs := 2 }
  | _ => gF
def xE (k : Nat) : Int := ([4, 4, 4, 4, 4, 4, 10, 6, 5, 20, 4, 4, 4, 0][k]?).getD 0
theorem x_chk : ∀ k, k < 14 → chkE ⟨2, [xF k]⟩ = xE k := by decide +kernel
theorem x_len : ∀ k, k < 14 → (xF k).is.length ≤ 1 := by decide
theorem x_rv : ∀ k, k < 14 → ∀ x ∈ (xF k).is, 0 ≤ x.rv := by decide
theorem x_q : ∀ k, k < 14 → QuZ (xF k).q := by
  have h := qS_z 0
  intro k hk
  rcases (by omega : k = 6 ∨ k = 7 ∨ k = 8 ∨ (k ≠ 6 ∧ k ≠ 7 ∧ k ≠ 8)) with rfl | rfl | rfl | ⟨h6, h7, h8⟩
  · exact ⟨by decide, h.g1, h.g2, h.g3, h.u1, h.u2⟩
  · exact ⟨h.kd, h.g1, h.g2, by decide, h.u1, h.u2⟩
  · exact ⟨by decide, h.g1, h.g2, h.g3, h.u1, h.u2⟩
  · have e : (xF k).q = qS 0 := by
      unfold xF
      split <;> first | rfl | omega
    rw [e]; exact h
theorem x_tb {k : Nat} (hk : k < 14) {sv s : Value} {H : Heap} (hi : IsV (xF k).is false sv H) (hs : SlB (flc (xF k, sv)) tyF 1 s H) : TbI H ⟨2, [xF k]⟩ s [(xF k, sv)] := by
  refine ⟨rfl, (hs.toV (s := 14) rfl).nofu, fun i z hz => ?_, fun f hf => ?_, fun f hf => ?_, fun f hf x hx => ?_⟩
  · cases i with
    | zero => cases hz; exact hi
    | succ i => simp at hz
  · rw [List.mem_singleton.1 hf]; exact Nat.le_trans (x_len k hk) (by decide)
  · rw [List.mem_singleton.1 hf]; exact x_q k hk
  · rw [List.mem_singleton.1 hf] at hx; exact x_rv k hk x hx
theorem two_fs {f g : Fl} {sv : Value} {H : Heap} {b : Nat} (hb : H b = some (.cells (flc (f, sv) ++ flc (g, sv)).toArray tyF)) (hi : IsV f.is false sv H) (hj : IsV g.is false sv H) (hf : f.is.length ≤ 5) (hg : g.is.length ≤ 5) : FsB [(f, sv), (g, sv)] false false (.slice (some ⟨b, 0, none⟩) 2 2) H := by
  refine ⟨⟨rfl, .inr ⟨b, 0, 2, _, _, _, rfl, hb, by simp [flc], Nat.le_refl _, fun h => by cases h⟩⟩, fun i z hz => ?_, by simp, fun i z hz => ?_⟩
  all_goals
    match i, hz with
    | 0, hz => cases hz; first | exact hi | exact Nat.le_trans hf (by decide)
    | 1, hz => cases hz; first | exact hj | exact Nat.le_trans hg (by decide)
    | i + 2, hz => simp at hz
theorem two_chk : chkE ⟨9, [gF, gF]⟩ = 18 ∧ chkE ⟨9, [gF, { gF with id := 3 }]⟩ = 7 ∧ chkE ⟨9, [gF, { gF with id := 3, rv := 2 }]⟩ = 0 := by decide +kernel
attribute [local irreducible] V N X VO Par StepOK Has Ret RetL RetO RetT RetG Src
set_option maxHeartbeats 16000000 in
set_option maxRecDepth 20000 in
theorem known_law {w : World} {B : Heap} (hB : B.Le (hp w)) : Ret Try.prog 7 [] w B (fun v _ => v = .bool true) := by
  refine ya Try.func7 rfl Try.ntmps7 (Nat.le_of_ble_eq_true rfl) hB ?_
  refine ze ?_; refine zb (id := 0) ?_; refine Zs2 ?_; refine zd ?_; refine zf ?_; refine ze ?_; refine zb (id := 1) ?_; refine z7 (zo L rfl rfl (zg rfl) rfl rfl rfl (fun u H hH _ _ => pair_law hH)) rfl ?_; refine Zs1 ?_; refine Zs50 ?_; refine Zs50 ?_; refine Zs24 ?_; refine Zs24 ?_; refine Zs14 ?_; refine Zs14 ?_; refine zd ?_; refine zf ?_; refine ze ?_; refine zb (id := 2) ?_; refine Zs24 ?_; refine zd ?_; refine zf ?_; refine ze ?_; refine zb (id := 3) ?_; refine Zs2 ?_; refine zd ?_; refine zf ?_; refine ze ?_; refine ze ?_; refine zb (id := 4) ?_; refine Zs2 ?_; refine zd ?_; refine zf ?_; refine zy ?_
  refine V_clsX 3 TbX.mono ((none, 0, 0) : SlX) (show TbX (k1T 0) (none, 0, 0) B from ⟨[], rfl, fsb_nil rfl⟩) (r := fun x : SlX => Cell (tbxC (k1T 0) x) tyT) rfl ?_
  refine V_loop (fun i : Nat => [(0, .is (.bool false)), (1, .own (Cell [.int .u8 (qS 0).kd, .string (qS 0).g.1.1, .string (qS 0).g.1.2, .string (qS 0).g.2, .string (qS 0).u.1, .string (qS 0).u.2] tyQ)), (2, .own (Cell [.int .u8 (qS 1).kd, .string (qS 1).g.1.1, .string (qS 1).g.1.2, .string (qS 1).g.2, .string (qS 1).u.1, .string (qS 1).u.2] tyQ)), (3, .own (ExR (fun x : SlX => Cell (tbxC (k1T i) x) tyT) (TbX (k1T i)) TbX.mono)), (4, .is (.int .i64 0)), (5, .is (.int .i64 i))]) (fun i => i ≤ 1024) (fun i => 1024 - i) 0 (Nat.zero_le _) ⟨rfl, rfl, rfl, rfl, rfl, rfl, trivial⟩ ?_
  rintro i hi
  refine V_opnX 3 rfl fun ⟨p3, n3, c3⟩ H3 s3 ⟨zs, hz, hs⟩ => ?_
  dsimp only [tbxC] at hs ⊢
  have hlen := fls_len hz
  by_cases hlt : i < 1024
  · obtain ⟨hn, hl⟩ := (k1_inv i hi).1.small
    obtain ⟨hj, hjt⟩ := k1_join hlt
    have htz := k1_tz i hi
    have r3 : Int.tmod (i : Int) 3 = ((i % 3 : Nat) : Int) := rfl
    have r16 : Int.tmod (i : Int) 16 = ((i % 16 : Nat) : Int) := rfl
    have r8 : Int.tmod (i : Int) 8 = ((i % 8 : Nat) : Int) := rfl
    have hm := TbR.mn (t := k1T (i + 1))
    refine ze ?_; refine ze ?_; refine zb (id := 5) ?_; refine Zs1 ?_; refine Zs11 ?_; refine zd ?_; refine zf ?_; refine zw rfl ?_; refine zt ?_; refine zf ?_; refine ze ?_; refine zy ?_; refine ze ?_; refine zb (id := 7) ?_; refine z7 (zn L (vs := [_, _]) (qe rfl) rfl rfl rfl rfl ⟨_, rfl⟩) rfl ?_; refine z7 (zn L (vs := [_, _, _, _, _, _]) (qe rfl) rfl rfl rfl rfl ⟨_, rfl⟩) rfl ?_; refine Zs1 ?_; refine Zs26 ?_; refine z7 (ok_conv rfl rfl rfl cv3_31.1 cv3_31.2 (wrap_u64 (by omega) (by omega))) rfl ?_; refine Zs82 ?_; refine Zs1 ?_; refine Zs1 ?_; refine Zs26 ?_; refine Zs1 ?_; refine Zs26 ?_; refine Zs68 ?_; refine Zs1 ?_; refine Zs26 ?_; refine z7 (ok_conv rfl rfl rfl cv3_31.1 cv3_31.2 (wrap_u64 (by omega) (by omega))) rfl ?_; refine Zs82 ?_; refine z7 (qt (cs := [_, _, _, _, _]) rfl rfl pl33 rfl rfl) rfl ?_; refine Zs1 ?_; refine z7 (ok_call (φ := JoinS0 (k1T (i + 1)) (joinT (k1T i) (qS 0) (k1I i).rv (k1I i) i false).2.1 (joinT (k1T i) (qS 0) (k1I i).rv (k1I i) i false).2.2) L rfl rfl (zg rfl) rfl rfl rfl JoinS0.mono (fun u H hH hle _ => Ret.mono (join_ret (q := qS 0) (x := k1I i) (rv := (k1I i).rv) hz (hs.le hle) htz.q (qS_z _) (by omega) (by omega) hH) fun v H' _ h => (by have h9 := JoinP.tup h; unfold JoinS at h9; rw [hj, hjt] at h9; exact h9))) rfl ?_; refine Zs37 ?_; refine Zs46 ?_; refine Zs48 ?_; refine Zs48 ?_; refine Zs48 ?_; refine z7 (ok_storeX L (X := SlX) (tbxC (k1T (i + 1))) (TbX (k1T (i + 1))) TbX.mono tbx_st (fun _ => ⟨rfl, rfl⟩) rfl rfl rfl rfl rfl) rfl ?_; refine Zs2 ?_; refine zd ?_; refine zf ?_; refine ze ?_; refine zb (id := 8) ?_; refine Zs1 ?_; refine Zs10 ?_; refine zd ?_; refine zf ?_; refine zm rfl ?_; refine zt ?_; refine qm ?_; refine zf ?_; refine zb (id := 6) ?_; refine Zs1 ?_; refine Zs13 ?_; refine Zs2 ?_; refine zd ?_
    exact N_roundS (x := i) (i + 1) s3 hlt (by omega) ⟨rfl, rfl, rfl, rfl, rfl, rfl, trivial⟩
  obtain rfl : i = 1024 := by omega
  refine ze ?_; refine ze ?_; refine zb (id := 5) ?_; refine Zs1 ?_; refine Zs8 ?_; refine zd ?_; refine zf ?_; refine zm rfl ?_; refine y7 ?_; refine qg ?_; refine qg ?_; refine y6 ?_; refine zf ?_; refine ze ?_
  obtain ⟨hJ, hL⟩ := k1_inv 1024 (Nat.le_refl _)
  obtain ⟨e1, e2, e3, e4, e5, e6⟩ := k1_end
  have hT := k1_tz 1024 (Nat.le_refl _)
  generalize k1T 1024 = T at *
  obtain ⟨hn, hl⟩ := hJ.small
  have hE := k1_full hJ hL
  have hT0 := jT0 (by rw [hE]; decide)
  have hck := hJ.ok
  have hc5 : ckE T 5 = 0 := by unfold ckE; rw [if_neg (not_not_intro hck)]; rfl
  have hm0 := TbR.mn (t := T0)
  have hzl : zs.length = 3 := by rw [hlen, e1]
  obtain ⟨f0, q0, d0, g0z, g0, g0v, g0l, g0c⟩ := hs.at hz (i := 0) (by omega)
  obtain ⟨f1, q1, d1, g1z, g1, g1v, g1l, g1c⟩ := hs.at hz (i := 1) (by omega)
  rw [g0] at e5
  rw [g1] at e6
  have e5 : f0.cs = 0 := Option.some.inj e5
  have e6 : f1.cl = 1 := Option.some.inj e6
  obtain ⟨pz, cz, ez⟩ := hs.shape
  cases ez
  have hsl := hs.sl
  refine zb (id := 10) ?_; refine z7 (zn L (vs := [_, _]) (qe rfl) rfl rfl rfl rfl ⟨_, rfl⟩) rfl ?_; refine z7 (zn L (vs := [_, _, _, _, _, _]) (qe rfl) rfl rfl rfl rfl ⟨_, rfl⟩) rfl ?_; refine z7 (qt (cs := [_, _, _, _, _]) rfl rfl pl33 rfl rfl) rfl ?_; refine z7 (ok_call (φ := LvK T0 0 false 3) L rfl rfl (zg rfl) rfl rfl rfl LvK.mono (fun u H hH hle _ => Ret.mono (join_ret (q := qS 1) (x := kx) (rv := 1) hz (hs.le hle) hT.q (qS_z _) (by omega) (by omega) hH) fun v H' _ h => (by have h9 := JoinP.tup h; unfold JoinS at h9; rw [hT0, hE] at h9; exact h9))) rfl ?_; refine Zs37 ?_; refine Zs46 ?_; refine Zs48 ?_; refine Zs48 ?_; refine Zs48 ?_; refine Zs2 ?_; refine zd ?_; refine zf ?_; refine ze ?_
  have hmp := @SlV.mono tyP 2 3 ([((1 : Int), 342), (2, 341), (3, 341)].flatMap pnc) true
  have hp0 : (([((1 : Int), 342), (2, 341), (3, 341)].flatMap pnc).drop (0 * 2)).take 2 = [.int .u64 1, .int .i64 (342 : Nat)] := rfl
  have hp1 : (([((1 : Int), 342), (2, 341), (3, 341)].flatMap pnc).drop (1 * 2)).take 2 = [.int .u64 2, .int .i64 (341 : Nat)] := rfl
  have hp2 : (([((1 : Int), 342), (2, 341), (3, 341)].flatMap pnc).drop (2 * 2)).take 2 = [.int .u64 3, .int .i64 (341 : Nat)] := rfl
  refine zb (id := 11) ?_; refine z7 (zn L (vs := [_, _]) (qe rfl) rfl rfl rfl rfl ⟨_, rfl⟩) rfl ?_; refine z7 (ok_call (φ := PinsS [(1, 342), (2, 341), (3, 341)] 0) L rfl rfl (zg rfl) rfl rfl rfl PinsS.mono (fun u H hH hle _ => Ret.mono (pins_ret hz (hs.le hle) hT.q (by omega) hH) fun v H' _ h => (by have h9 := PinsP.tup h; rw [if_pos hck, hck, e3] at h9; exact h9))) rfl ?_; refine Zs37 ?_; refine Zs46 ?_; refine Zs48 ?_; refine Zs60 ?_; refine Zs2 ?_; refine zd ?_; refine zf ?_; refine ze ?_
  refine zb (id := 12) ?_; refine z7 (zn L (vs := [_, _]) (qe rfl) rfl rfl rfl rfl ⟨_, rfl⟩) rfl ?_; refine z7 (zo (r := .tuple #[.int .i64 64, .int .i64 0]) L rfl rfl (zg rfl) rfl rfl rfl (fun u H hH hle _ => (by have h9 := waiting_ret (cl := 5) hz (hs.le hle) hT.q (by omega) hH; rw [hc5, if_pos rfl, e4] at h9; exact h9))) rfl ?_; refine Zs1 ?_; refine Zs50 ?_; refine Zs50 ?_; refine Zs2 ?_; refine Zs2 ?_; refine zd ?_; refine zf ?_; refine ze ?_; refine ze ?_
  refine V_pub 3 rfl ?_
  refine zb (id := 13) ?_; refine Zs1 ?_; refine Zs10 ?_; refine Zs1 ?_; refine Zs1 ?_; refine Zs10 ?_; refine Zs6 ?_; refine Zs1 ?_; refine Zs1 ?_; refine Zs10 ?_; refine Zs6 ?_; refine Zs1 ?_; refine Zs5 ?_; refine Zs4 ?_; refine Zs35 ?_; refine Zs10 ?_; refine Zs6 ?_; refine Zs1 ?_; refine Zs37 ?_; refine Zs31 ?_; refine z7 (qf rfl rfl rfl rfl rfl) rfl ?_; refine Zs6 ?_; refine Zs1 ?_; refine Zs37 ?_; refine z7 (qb L _ rfl rfl rfl rfl rfl rfl rfl (by first | omega | decide) (by assumption)) rfl ?_; refine Zs45 ?_; refine Zs43 ?_; refine Zs10 ?_; refine Zs6 ?_; refine Zs1 ?_; refine Zs37 ?_; refine z7 (qb L _ rfl rfl rfl rfl rfl rfl rfl (by first | omega | decide) (by assumption)) rfl ?_; refine Zs45 ?_; refine Zs43 ?_; refine Zs10 ?_; refine Zs6 ?_; refine Zs1 ?_; refine Zs37 ?_; refine z7 (qb L _ rfl rfl rfl rfl rfl rfl rfl (by first | omega | decide) (by assumption)) rfl ?_; refine Zs45 ?_; refine Zs43 ?_; refine Zs10 ?_; refine Zs6 ?_; refine Zs1 ?_; refine Zs1 ?_; refine Zs10 ?_; refine Zs6 ?_; refine Zs1 ?_; refine Zs5 ?_; refine Zs17 ?_; refine z7 (qb L 0 rfl rfl rfl rfl rfl rfl rfl (by first | omega | decide) (by assumption)) rfl ?_; refine Zs45 ?_; refine Zs43 ?_; refine Zs10 ?_; refine Zs6 ?_; refine Zs1 ?_; refine Zs5 ?_; refine Zs17 ?_; refine z7 (qb L 1 rfl rfl rfl rfl rfl rfl rfl (by first | omega | decide) (by assumption)) rfl ?_; refine Zs45 ?_; refine Zs43 ?_; refine Zs10 ?_; refine Zs6 ?_; refine Zs1 ?_; refine Zs5 ?_; refine Zs4 ?_; refine Zs10 ?_; refine Zs6 ?_; refine zd ?_; refine zf ?_; refine zm rfl ?_; refine zt ?_; refine zf ?_; refine ze ?_; refine zb (id := 15) ?_; refine Zs24 ?_; refine zd ?_; refine zf ?_; refine ze ?_; refine ze ?_; refine zb (id := 16) ?_; refine Zs2 ?_; refine zd ?_; refine zf ?_; refine zy ?_
  refine V_clsX 10 TbX.mono ((none, 0, 0) : SlX) (show TbX (k2T 0) (none, 0, 0) H3 from ⟨[], rfl, fsb_nil rfl⟩) (r := fun x : SlX => Cell (tbxC (k2T 0) x) tyT) rfl ?_
  refine V_loop (fun i : Nat => [(0, .is (.bool false)), (1, .own (Cell [.int .u8 (qS 0).kd, .string (qS 0).g.1.1, .string (qS 0).g.1.2, .string (qS 0).g.2, .string (qS 0).u.1, .string (qS 0).u.2] tyQ)), (2, .own (Cell [.int .u8 (qS 1).kd, .string (qS 1).g.1.1, .string (qS 1).g.1.2, .string (qS 1).g.2, .string (qS 1).u.1, .string (qS 1).u.2] tyQ)), (10, .own (ExR (fun x : SlX => Cell (tbxC (k2T i) x) tyT) (TbX (k2T i)) TbX.mono)), (11, .is (.int .i64 i))]) (fun i => i ≤ 65) (fun i => 65 - i) 0 (Nat.zero_le _) ⟨rfl, rfl, rfl, rfl, rfl, trivial⟩ ?_
  rintro i hi
  refine V_opnX 10 rfl fun ⟨p10, n10, c10⟩ H10 s10 ⟨ys, hy, hys⟩ => ?_
  dsimp only [tbxC] at hys ⊢
  by_cases hlt : i < 65
  · obtain ⟨hn2, hl2⟩ := (k2_inv i hi).1.small
    obtain ⟨hj, hjt⟩ := k2_join hlt
    have htz := k2_tz i hi
    have htz' := k2_tz (i + 1) (by omega)
    have hly := fls_len hy
    obtain ⟨hn3, hl3⟩ := (k2_inv (i + 1) (by omega)).1.small
    obtain ⟨hq1, hq2, hq3⟩ := k2_queue (i := i + 1) (by omega)
    have hm := TbR.mn (t := k2T (i + 1))
    refine ze ?_; refine ze ?_; refine zb (id := 17) ?_; refine Zs1 ?_; refine Zs11 ?_; refine zd ?_; refine zf ?_; refine zw rfl ?_; refine zt ?_; refine zf ?_; refine ze ?_; refine zy ?_; refine ze ?_; refine zb (id := 19) ?_; refine z7 (zn L (vs := [_, _]) (qe rfl) rfl rfl rfl rfl ⟨_, rfl⟩) rfl ?_; refine z7 (zn L (vs := [_, _, _, _, _, _]) (qe rfl) rfl rfl rfl rfl ⟨_, rfl⟩) rfl ?_; refine Zs1 ?_; refine z7 (ok_conv rfl rfl rfl cv3_31.1 cv3_31.2 (wrap_u64 (by omega) (by omega))) rfl ?_; refine Zs82 ?_; refine Zs1 ?_; refine Zs1 ?_; refine z7 (ok_conv rfl rfl rfl cv3_31.1 cv3_31.2 (wrap_u64 (by omega) (by omega))) rfl ?_; refine Zs82 ?_; refine z7 (qt (cs := [_, _, _, _, _]) rfl rfl pl33 rfl rfl) rfl ?_; refine z7 (ok_call (φ := JoinS0 (k2T (i + 1)) (joinT (k2T i) (qS 0) (k2I i).rv (k2I i) 0 false).2.1 (joinT (k2T i) (qS 0) (k2I i).rv (k2I i) 0 false).2.2) L rfl rfl (zg rfl) rfl rfl rfl JoinS0.mono (fun u H hH hle _ => Ret.mono (join_ret (q := qS 0) (x := k2I i) (rv := (k2I i).rv) hy (hys.le hle) htz.q (qS_z _) (by omega) (by omega) hH) fun v H' _ h => (by have h9 := JoinP.tup h; unfold JoinS at h9; rw [hj, hjt] at h9; exact h9))) rfl ?_; refine Zs37 ?_; refine Zs46 ?_; refine Zs48 ?_; refine Zs48 ?_; refine Zs48 ?_; refine z7 (ok_storeX L (X := SlX) (tbxC (k2T (i + 1))) (TbX (k2T (i + 1))) TbX.mono tbx_st (fun _ => ⟨rfl, rfl⟩) rfl rfl rfl rfl rfl) rfl ?_; refine Zs2 ?_; refine zd ?_; refine zf ?_; refine ze ?_; refine ze ?_; refine zb (id := 20) ?_; refine Zs1 ?_; refine Zs10 ?_; refine zd ?_; refine zf ?_; refine zm rfl ?_; refine zt ?_; refine zf ?_; refine ze ?_
    refine V_opnX 10 rfl fun ⟨p11, n11, c11⟩ H11 s11 ⟨xs, hx, hxs⟩ => ?_
    dsimp only [tbxC] at hxs ⊢
    have hlx := fls_len hx
    by_cases h64 : i < 64
    · rw [if_pos (by omega)] at hq3
      have hmq := QuR.mn (l := quF (k2T (i + 1)) 0)
      refine zb (id := 22) ?_; refine z7 (zn L (vs := [_, _]) (qe rfl) rfl rfl rfl rfl ⟨_, rfl⟩) rfl ?_; refine z7 (ok_call (φ := QueS (quF (k2T (i + 1)) 0) 0) L rfl rfl (zg rfl) rfl rfl rfl QueS.mono (fun u H hH hle _ => Ret.mono (queue_ret (cl := 0) hx (hxs.le hle) htz'.q (by omega) (by omega) hH) fun v H' _ h => (by have h9 := QueP.tup h; rw [hq3] at h9; exact h9))) rfl ?_; refine Zs37 ?_; refine Zs46 ?_; refine Zs48 ?_; refine Zs24 ?_; refine z7 (ok_storeX L (X := SlX) quxC (QuX (quF (k2T (i + 1)) 0)) QuX.mono qux_st (fun _ => ⟨rfl, rfl⟩) rfl rfl rfl rfl rfl) rfl ?_; refine Zs2 ?_; refine zd ?_; refine zf ?_; refine ze ?_
      refine V_opnX 12 rfl fun ⟨p2, n2, c2⟩ H2 s2 h2 => ?_
      obtain ⟨p9, c9, e9⟩ := slv_sh h2
      obtain ⟨rfl, rfl, rfl⟩ : p2 = p9 ∧ n2 = (quF (k2T (i + 1)) 0).length ∧ c2 = c9 := by dsimp only at e9; cases e9; exact ⟨rfl, rfl, rfl⟩
      dsimp only [quxC]
      refine V_pub 12 rfl ?_
      refine zb (id := 23) ?_; refine Zs1 ?_; refine Zs11 ?_; refine Zs1 ?_; refine Zs1 ?_; refine Zs10 ?_; refine Zs1 ?_; refine Zs5 ?_; refine Zs4 ?_; refine Zs35 ?_; refine Zs1 ?_; refine Zs13 ?_; refine Zs10 ?_; refine Zs6 ?_; refine Zs6 ?_; refine Zs1 ?_; refine Zs1 ?_; refine Zs9 ?_; refine Zs1 ?_; refine Zs3 ?_; refine Zs3 ?_; refine Zs6 ?_; refine Zs6 ?_; refine zd ?_; refine zf ?_; refine zm rfl ?_; refine zt ?_; refine qm ?_; refine zf ?_; refine zb (id := 18) ?_; refine Zs1 ?_; refine Zs13 ?_; refine Zs2 ?_; refine zd ?_
      refine N_clsX 10 TbX.mono ((p11, n11, c11) : SlX) ⟨xs, hx, hxs.le s2.le⟩ (r := fun x : SlX => Cell (tbxC (k2T (i + 1)) x) tyT) rfl ?_
      exact N_roundS (x := i) (i + 1) (s10.trans (s11.trans s2)) hlt (by omega) ⟨rfl, rfl, rfl, rfl, rfl, trivial⟩
    · rw [if_neg (by omega)] at hq3
      have hmq := QuR.mn (l := [])
      refine zb (id := 22) ?_; refine z7 (zn L (vs := [_, _]) (qe rfl) rfl rfl rfl rfl ⟨_, rfl⟩) rfl ?_; refine z7 (ok_call (φ := QueS ([]) 3) L rfl rfl (zg rfl) rfl rfl rfl QueS.mono (fun u H hH hle _ => Ret.mono (queue_ret (cl := 0) hx (hxs.le hle) htz'.q (by omega) (by omega) hH) fun v H' _ h => (by have h9 := QueP.tup h; rw [hq3] at h9; exact h9))) rfl ?_; refine Zs37 ?_; refine Zs46 ?_; refine Zs48 ?_; refine Zs24 ?_; refine z7 (ok_storeX L (X := SlX) quxC (QuX ([])) QuX.mono qux_st (fun _ => ⟨rfl, rfl⟩) rfl rfl rfl rfl rfl) rfl ?_; refine Zs2 ?_; refine zd ?_; refine zf ?_; refine ze ?_
      refine V_opnX 12 rfl fun ⟨p2, n2, c2⟩ H2 s2 h2 => ?_
      refine V_pub 12 rfl ?_
      refine zb (id := 23) ?_; refine Zs1 ?_; refine Zs8 ?_; refine Zs1 ?_; refine Zs3 ?_; refine Zs3 ?_; refine Zs3 ?_; refine Zs3 ?_; refine Zs3 ?_; refine Zs3 ?_; refine Zs3 ?_; refine Zs3 ?_; refine Zs3 ?_; refine Zs3 ?_; refine Zs6 ?_; refine Zs1 ?_; refine Zs1 ?_; refine Zs15 ?_; refine Zs1 ?_; refine Zs1 ?_; refine Zs10 ?_; refine Zs6 ?_; refine Zs6 ?_; refine zd ?_; refine zf ?_; refine zm rfl ?_; refine zt ?_; refine qm ?_; refine zf ?_; refine zb (id := 18) ?_; refine Zs1 ?_; refine Zs13 ?_; refine Zs2 ?_; refine zd ?_
      refine N_clsX 10 TbX.mono ((p11, n11, c11) : SlX) ⟨xs, hx, hxs.le s2.le⟩ (r := fun x : SlX => Cell (tbxC (k2T (i + 1)) x) tyT) rfl ?_
      exact N_roundS (x := i) (i + 1) (s10.trans (s11.trans s2)) hlt (by omega) ⟨rfl, rfl, rfl, rfl, rfl, trivial⟩
  obtain rfl : i = 65 := by omega
  refine ze ?_; refine ze ?_; refine zb (id := 17) ?_; refine Zs1 ?_; refine Zs8 ?_; refine zd ?_; refine zf ?_; refine zm rfl ?_; refine y7 ?_; refine qg ?_; refine qg ?_; refine y6 ?_; refine zf ?_; refine ze ?_; refine zb (id := 25) ?_; refine z7 (qt (cs := [_, _]) rfl rfl pl24 rfl rfl) rfl ?_; refine Zs24 ?_; refine Zs14 ?_; refine zd ?_; refine zf ?_; refine ze ?_
  have hn0 : itsN ([] : List Fl) = 0 := rfl
  have hKL : itsN kL.fl = 0 ∧ itsN kM.fl = 0 := ⟨rfl, rfl⟩
  have hTL : TZ39 kL := ⟨fun f h => (by cases h), fun f h => (by cases h)⟩
  have hTM : TZ39 kM := ⟨fun f h => (by cases h), fun f h => (by cases h)⟩
  have hfs : ∀ H : Heap, FsB [] false false (.slice none 0 0) H := fun H => fsb_nil rfl
  have hTV : TZ39 kV := by rw [← kM_T]; exact tz_join hTM (qS_z 0) (by decide)
  have hTW : TZ39 kW := tz_cm hTV
  have hKV : itsN kV.fl = 1 ∧ kV.fl.length = 1 ∧ itsN kW.fl = 1 ∧ kW.fl.length = 1 ∧ kV.nx = 2147483647 := by decide +kernel
  refine V_box 14 rfl fun b14 _ => ?_
  refine zb (id := 26) ?_; refine z7 (zn L (vs := [_, _]) (qy rfl (List.Mem.head _)) rfl rfl rfl rfl ⟨_, rfl⟩) rfl ?_; refine z7 (zn L (vs := [_, _, _, _, _, _]) (qe rfl) rfl rfl rfl rfl ⟨_, rfl⟩) rfl ?_; refine z7 (qt (cs := [_, _, _, _, _]) rfl rfl pl33 rfl rfl) rfl ?_; refine z7 (ok_call (φ := LvK T0 0 false 3) L rfl rfl (zg rfl) rfl rfl rfl LvK.mono (fun u H hH hle _ => Ret.mono (join_ret (q := qS 0) (x := kx) (rv := 1) (t := kL) (zs := []) rfl (hfs H) hTL.q (qS_z _) (Nat.zero_le _) (Nat.zero_le _) hH) fun v H' _ h => (by have h9 := JoinP.tup h; unfold JoinS at h9; rw [jT0 (by rw [kL_E]; decide), kL_E] at h9; exact h9))) rfl ?_; refine Zs37 ?_; refine Zs46 ?_; refine Zs48 ?_; refine Zs48 ?_; refine Zs48 ?_; refine Zs2 ?_; refine zd ?_; refine zf ?_; refine ze ?_
  refine zb (id := 27) ?_; refine Zs19 ?_; refine box_store L (O1 := []) rfl rfl rfl rfl rfl rfl rfl rfl rfl ?_; refine zd ?_; refine zf ?_; refine ze ?_
  have hmV := TbR.mn (t := kV)
  have hmW := TbR.mn (t := kW)
  refine zb (id := 28) ?_; refine z7 (zn L (vs := [_, _]) (qy rfl (List.Mem.head _)) rfl rfl rfl rfl ⟨_, rfl⟩) rfl ?_; refine z7 (zn L (vs := [_, _, _, _, _, _]) (qe rfl) rfl rfl rfl rfl ⟨_, rfl⟩) rfl ?_; refine z7 (qt (cs := [_, _, _, _, _]) rfl rfl pl33 rfl rfl) rfl ?_; refine z7 (ok_call (φ := LvK kV 2147483646 true 0) L rfl rfl (zg rfl) rfl rfl rfl LvK.mono (fun u H hH hle _ => Ret.mono (join_ret (q := qS 0) (x := kx) (rv := 1) (t := kM) (zs := []) rfl (hfs H) hTM.q (qS_z _) (Nat.zero_le _) (Nat.zero_le _) hH) fun v H' _ h => (by have h9 := JoinP.tup h; unfold JoinS at h9; rw [kM_E.1, kM_T, kM_E.2.2] at h9; exact h9))) rfl ?_; refine Zs37 ?_; refine Zs46 ?_; refine Zs48 ?_; refine Zs48 ?_; refine Zs48 ?_; refine Zs24 ?_; refine z7 (ok_storeX L (X := SlX) (tbxC (kV)) (TbX (kV)) TbX.mono tbx_st (fun _ => ⟨rfl, rfl⟩) rfl rfl rfl rfl rfl) rfl ?_; refine Zs2 ?_; refine Zs2 ?_; refine Zs2 ?_; refine zd ?_; refine zf ?_; refine ze ?_; refine ze ?_
  refine V_opnX 15 rfl fun ⟨p15, n15, c15⟩ H15 s15 ⟨vs, hvz, hvs⟩ => ?_
  dsimp only [tbxC] at hvs ⊢
  have hlv := fls_len hvz
  refine V_pub 15 rfl ?_
  refine zb (id := 29) ?_; refine Zs1 ?_; refine Zs10 ?_; refine Zs1 ?_; refine Zs1 ?_; refine Zs10 ?_; refine Zs6 ?_; refine Zs1 ?_; refine Zs1 ?_; refine Zs10 ?_; refine Zs6 ?_; refine Zs1 ?_; refine Zs1 ?_; refine Zs49 ?_; refine Zs6 ?_; refine Zs1 ?_; refine Zs5 ?_; refine Zs4 ?_; refine Zs10 ?_; refine Zs6 ?_; refine zd ?_; refine zf ?_; refine zm rfl ?_; refine zt ?_; refine zf ?_; refine ze ?_
  refine zb (id := 31) ?_; refine z7 (zn L (vs := [_, _]) (zl rfl) rfl rfl rfl rfl ⟨_, rfl⟩) rfl ?_; refine Zs1 ?_; refine z7 (ok_call (φ := RTabS (kW) 0) L rfl rfl (zg rfl) rfl rfl rfl RTabS.mono (fun u H hH hle _ => Ret.mono (commit_ret hvz (hvs.le hle) hTV.q (by omega) (by omega) ⟨by decide, by decide⟩ hH) fun v H' _ h => (by have h9 := TabP.tup h; rw [kV_E.1] at h9; exact h9))) rfl ?_; refine Zs37 ?_; refine Zs46 ?_; refine Zs48 ?_; refine Zs24 ?_; refine z7 (ok_storeX L (X := SlX) (tbxC (kW)) (TbX (kW)) TbX.mono tbx_st (fun _ => ⟨rfl, rfl⟩) rfl rfl rfl rfl rfl) rfl ?_; refine Zs2 ?_; refine zd ?_; refine zf ?_; refine ze ?_
  refine V_opnX 18 rfl fun ⟨p18, n18, c18⟩ H18 s18 ⟨wsz, hwz, hws⟩ => ?_
  dsimp only [tbxC] at hws ⊢
  have hlw := fls_len hwz
  have hmA := TbR.mn (t := cmT kW 2147483646 1)
  have hmB := TbR.mn (t := cmT kW 2147483646 0)
  refine zb (id := 32) ?_; refine z7 (zn L (vs := [_, _]) (qe rfl) rfl rfl rfl rfl ⟨_, rfl⟩) rfl ?_; refine Zs1 ?_; refine z7 (ok_call (φ := RTabS (cmT kW 2147483646 1) 4) L rfl rfl (zg rfl) rfl rfl rfl RTabS.mono (fun u H hH hle _ => Ret.mono (commit_ret hwz (hws.le hle) hTW.q (by omega) (by omega) ⟨by decide, by decide⟩ hH) fun v H' _ h => (by have h9 := TabP.tup h; rw [kV_E.2.1] at h9; exact h9))) rfl ?_; refine Zs37 ?_; refine Zs46 ?_; refine Zs48 ?_; refine Zs2 ?_; refine zd ?_; refine zf ?_; refine ze ?_
  refine zb (id := 33) ?_; refine z7 (zn L (vs := [_, _]) (qe rfl) rfl rfl rfl rfl ⟨_, rfl⟩) rfl ?_; refine Zs1 ?_; refine z7 (ok_call (φ := RTabS (cmT kW 2147483646 0) 0) L rfl rfl (zg rfl) rfl rfl rfl RTabS.mono (fun u H hH hle _ => Ret.mono (commit_ret hwz (hws.le hle) hTW.q (by omega) (by omega) ⟨by decide, by decide⟩ hH) fun v H' _ h => (by have h9 := TabP.tup h; rw [kV_E.2.2] at h9; exact h9))) rfl ?_; refine Zs37 ?_; refine Zs46 ?_; refine Zs48 ?_; refine Zs2 ?_; refine zd ?_; refine zf ?_; refine ze ?_; refine ze ?_
  refine zb (id := 34) ?_; refine Zs1 ?_; refine Zs10 ?_; refine Zs1 ?_; refine Zs1 ?_; refine Zs10 ?_; refine Zs6 ?_; refine Zs1 ?_; refine Zs1 ?_; refine Zs10 ?_; refine Zs6 ?_; refine zd ?_; refine zf ?_; refine zm rfl ?_; refine zt ?_; refine zf ?_; refine ze ?_; refine zb (id := 36) ?_; refine z7 (zn L (vs := [_, _, _, _, _, _]) (qe rfl) rfl rfl rfl rfl ⟨_, rfl⟩) rfl ?_; refine z7 (qt (cs := [_, _, _, _, _]) rfl rfl pl33 rfl rfl) rfl ?_; refine z7 (ok_buildSliceN L rfl rfl rfl rfl rfl rfl rfl rfl rfl) rfl ?_; (refine vo_opn 263 rfl fun v263 H263 s263 ⟨bg, e263, hbg, hng⟩ => ?_; subst e263); refine z7 (qt (cs := [_, _, _, _, _, _, _, _, _, _, _, _, _, _]) rfl rfl pl49 rfl rfl) rfl ?_; refine Zs24 ?_; refine Zs14 ?_; refine zd ?_; refine zf ?_; refine ze ?_; refine ze ?_; refine zb (id := 37) ?_; refine Zs2 ?_; refine zd ?_; refine zf ?_; refine zy ?_
  have hgs : IsV [gI] false (.slice (some ⟨bg, 0, none⟩) 1 1) H263 := ⟨rfl, .inr ⟨bg, 0, 1, _, _, _, rfl, hbg, rfl, Nat.le_refl _, fun h => by cases h⟩⟩
  have hgc : ((([gI] : List It).flatMap itc).drop (0 * 5)).take 5 = [.int .i64 0, .int .i64 0, .int .i64 2, .int .i64 3, .int .u64 1] := rfl
  have hS263 := ((s3.trans s10).trans (s15.trans s18)).trans s263
  refine V_box 19 rfl fun b19 _ => ?_
  refine V_loop (fun i : Nat => [(0, .is (.bool false)), (2, .own (Cell [.int .u8 (qS 1).kd, .string (qS 1).g.1.1, .string (qS 1).g.1.2, .string (qS 1).g.2, .string (qS 1).u.1, .string (qS 1).u.2] tyQ)), (19, .is (.pointer (some ⟨b19, 0, none⟩))), (20, .is (.int .i64 i))]) (fun i => i ≤ 14) (fun i => 14 - i) 0 (Nat.zero_le _) ⟨rfl, rfl, rfl, rfl, trivial⟩ ?_
  rintro i hi
  by_cases hlt : i < 14
  · refine ze ?_; refine ze ?_; refine zb (id := 38) ?_; refine Zs1 ?_; refine Zs11 ?_; refine zd ?_; refine zf ?_; refine zw rfl ?_; refine zt ?_; refine zf ?_; refine ze ?_; refine zy ?_; refine ze ?_; refine zb (id := 40) ?_; refine z7 (zn L (vs := [_, _, _, _, _, _, _, _, _, _, _, _, _, _]) (qy rfl (List.Mem.head _)) rfl rfl rfl rfl ⟨_, rfl⟩) rfl ?_; refine Zs24 ?_; refine Zs14 ?_; refine zd ?_; refine zf ?_; refine ze ?_
    refine V_box 21 rfl fun b21 _ => ?_
    refine zb (id := 41) ?_; refine Zs19 ?_; refine z7 (StepOK.seeV (zj L (qy rfl (List.Mem.tail _ (List.Mem.head _))) rfl rfl rfl rfl) (by assumption)) rfl ?_; refine z7 (qb L _ rfl rfl rfl rfl rfl rfl rfl (by first | omega | decide) (by assumption)) rfl ?_; refine z7 (y5 L (vs := [_, _, _, _, _]) rfl rfl rfl rfl rfl ⟨_, rfl⟩) rfl ?_; refine z7 (ok_buildSliceN L rfl rfl rfl rfl rfl rfl rfl rfl rfl) rfl ?_; (refine vo_opn 274 rfl fun v274 H274 s274 ⟨bx1, e274, hbx, hnx⟩ => ?_; subst e274); refine Zs19 ?_; refine box_store L (O1 := []) rfl rfl rfl rfl rfl rfl rfl rfl rfl ?_; refine zd ?_; refine zf ?_; refine ze ?_; refine zb (id := 42) ?_; refine Zs2 ?_; refine zd ?_; refine zf ?_; refine ze ?_; refine ze ?_; refine zb (id := 43) ?_; refine Zs1 ?_; refine zd ?_; refine zf ?_; refine zy ?_; refine ze ?_
    have hxs : IsV [gI] false (.slice (some ⟨bx1, 0, none⟩) 1 1) H274 := ⟨rfl, .inr ⟨bx1, 0, 1, _, _, _, rfl, hbx, rfl, Nat.le_refl _, fun h => by cases h⟩⟩
    have hgs4 := hgs.le s274.le
    rcases (by omega : i = 0 ∨ i = 1 ∨ i = 2 ∨ i = 3 ∨ i = 4 ∨ i = 5 ∨ i = 6 ∨ i = 7 ∨ i = 8 ∨ i = 9 ∨ i = 10 ∨ i = 11 ∨ i = 12 ∨ i = 13) with rfl | rfl | rfl | rfl | rfl | rfl | rfl | rfl | rfl | rfl | rfl | rfl | rfl | rfl
    · refine zb (id := 45) ?_; refine Zs15 ?_; refine Zs2 ?_; refine zd ?_; refine zf ?_; refine zw rfl ?_; refine zb (id := 46) ?_; refine Zs19 ?_; refine box_store L (O1 := []) rfl rfl rfl rfl rfl rfl rfl rfl rfl ?_; refine zd ?_; refine qm ?_; refine zf ?_; refine ze ?_
      refine zb (id := 75) ?_; refine z7 (zn L (vs := [_, _, _, _, _, _, _, _, _, _, _, _, _, _]) (qy rfl (List.Mem.head _)) rfl rfl rfl rfl ⟨_, rfl⟩) rfl ?_; refine Zs25 ?_; (refine vo_opn 324 rfl fun v324 H324 s324 ⟨bf, e324, hbf⟩ => ?_; subst e324); refine z7 (qt (cs := [_, _]) rfl rfl pl24 rfl rfl) rfl ?_; refine Zs24 ?_; refine Zs14 ?_; refine zd ?_; refine zf ?_; refine ze ?_
      have hI : TbI H324 ⟨2, [xF 0]⟩ (.slice (some ⟨bf, 0, none⟩) 1 1) [(xF 0, (.slice (some ⟨bx1, 0, none⟩) 1 1))] := x_tb (by decide) (hxs.le s324.le) ⟨bf, rfl, hbf⟩
      obtain ⟨hIf, hIn⟩ := hI.fsb (by simp)
      have hgs5 := hgs4.le s324.le
      refine zz (id := 76) [] mixed (by kernel_rfl) ?_; refine z8 (zn L (vs := [_, _]) (qe rfl) rfl rfl rfl rfl ⟨_, rfl⟩) rfl ?_; refine z8 (zo (r := .int .i64 4) L rfl rfl (zg rfl) rfl rfl rfl (fun u H hH hle _ => check_ret (t := ⟨2, [xF 0]⟩) rfl (hIf.le hle) hI.tz.q (Nat.le_trans hIn (by decide)) (x_chk 0 (by decide)) hH)) rfl ?_; refine Zs7 ?_; refine Zs40 ?_; refine Zs7 ?_; refine z8 (zn L (vs := [_, _]) (qe rfl) rfl rfl rfl rfl ⟨_, rfl⟩) rfl ?_; refine z8 (zn L (vs := [_, _, _, _, _, _]) (qe rfl) rfl rfl rfl rfl ⟨_, rfl⟩) rfl ?_; refine Zs38 ?_; refine z8 (StepOK.seeV (zj L (qy rfl (List.Mem.tail _ (List.Mem.head _))) rfl rfl rfl rfl) (by assumption)) rfl ?_; refine z8 (qb L _ rfl rfl rfl rfl rfl rfl rfl (by first | omega | decide) (by assumption)) rfl ?_; refine z8 (y5 L (vs := [_, _, _, _, _]) rfl rfl rfl rfl rfl ⟨_, rfl⟩) rfl ?_; refine z8 (qt (cs := [_, _, _, _, _, _, _, _]) rfl rfl pl35 rfl rfl) rfl ?_; refine z8 (zo L rfl rfl (zg rfl) rfl rfl rfl (fun u H hH hle _ => join_law (q := qS 1) (x := gI) (qS_z 1) (by decide) (hI.le hle) hH)) rfl ?_; refine Zs47 ?_; refine Zs28 ?_; refine qk ?_; refine zf ?_; refine zm rfl ?_; refine zt ?_; refine qm ?_; refine zf ?_; refine zb (id := 39) ?_; refine Zs1 ?_; refine Zs13 ?_; refine Zs2 ?_; refine zd ?_
      refine N_drop (List.sublist_cons_self ..) ?_
      exact N_roundS (x := 0) (1) (s274.trans s324) (by decide) (by decide) ⟨rfl, rfl, rfl, rfl, trivial⟩
    · refine zb (id := 45) ?_; refine Zs9 ?_; refine Zs2 ?_; refine zd ?_; refine zf ?_; refine zm rfl ?_; refine ze ?_; refine zb (id := 47) ?_; refine Zs15 ?_; refine Zs2 ?_; refine zd ?_; refine zf ?_; refine zw rfl ?_; refine zb (id := 48) ?_; refine Zs19 ?_; refine box_store L (O1 := []) rfl rfl rfl rfl rfl rfl rfl rfl rfl ?_; refine zd ?_; refine qm ?_; refine zf ?_; refine ze ?_
      refine zb (id := 75) ?_; refine z7 (zn L (vs := [_, _, _, _, _, _, _, _, _, _, _, _, _, _]) (qy rfl (List.Mem.head _)) rfl rfl rfl rfl ⟨_, rfl⟩) rfl ?_; refine Zs25 ?_; (refine vo_opn 324 rfl fun v324 H324 s324 ⟨bf, e324, hbf⟩ => ?_; subst e324); refine z7 (qt (cs := [_, _]) rfl rfl pl24 rfl rfl) rfl ?_; refine Zs24 ?_; refine Zs14 ?_; refine zd ?_; refine zf ?_; refine ze ?_
      have hI : TbI H324 ⟨2, [xF 1]⟩ (.slice (some ⟨bf, 0, none⟩) 1 1) [(xF 1, (.slice (some ⟨bx1, 0, none⟩) 1 1))] := x_tb (by decide) (hxs.le s324.le) ⟨bf, rfl, hbf⟩
      obtain ⟨hIf, hIn⟩ := hI.fsb (by simp)
      have hgs5 := hgs4.le s324.le
      refine zz (id := 76) [] mixed (by kernel_rfl) ?_; refine z8 (zn L (vs := [_, _]) (qe rfl) rfl rfl rfl rfl ⟨_, rfl⟩) rfl ?_; refine z8 (zo (r := .int .i64 4) L rfl rfl (zg rfl) rfl rfl rfl (fun u H hH hle _ => check_ret (t := ⟨2, [xF 1]⟩) rfl (hIf.le hle) hI.tz.q (Nat.le_trans hIn (by decide)) (x_chk 1 (by decide)) hH)) rfl ?_; refine Zs7 ?_; refine Zs40 ?_; refine Zs7 ?_; refine z8 (zn L (vs := [_, _]) (qe rfl) rfl rfl rfl rfl ⟨_, rfl⟩) rfl ?_; refine z8 (zn L (vs := [_, _, _, _, _, _]) (qe rfl) rfl rfl rfl rfl ⟨_, rfl⟩) rfl ?_; refine Zs38 ?_; refine z8 (StepOK.seeV (zj L (qy rfl (List.Mem.tail _ (List.Mem.head _))) rfl rfl rfl rfl) (by assumption)) rfl ?_; refine z8 (qb L _ rfl rfl rfl rfl rfl rfl rfl (by first | omega | decide) (by assumption)) rfl ?_; refine z8 (y5 L (vs := [_, _, _, _, _]) rfl rfl rfl rfl rfl ⟨_, rfl⟩) rfl ?_; refine z8 (qt (cs := [_, _, _, _, _, _, _, _]) rfl rfl pl35 rfl rfl) rfl ?_; refine z8 (zo L rfl rfl (zg rfl) rfl rfl rfl (fun u H hH hle _ => join_law (q := qS 1) (x := gI) (qS_z 1) (by decide) (hI.le hle) hH)) rfl ?_; refine Zs47 ?_; refine Zs28 ?_; refine qk ?_; refine zf ?_; refine zm rfl ?_; refine zt ?_; refine qm ?_; refine zf ?_; refine zb (id := 39) ?_; refine Zs1 ?_; refine Zs13 ?_; refine Zs2 ?_; refine zd ?_
      refine N_drop (List.sublist_cons_self ..) ?_
      exact N_roundS (x := 1) (2) (s274.trans s324) (by decide) (by decide) ⟨rfl, rfl, rfl, rfl, trivial⟩
    · refine zb (id := 45) ?_; refine Zs9 ?_; refine Zs2 ?_; refine zd ?_; refine zf ?_; refine zm rfl ?_; refine ze ?_; refine zb (id := 47) ?_; refine Zs9 ?_; refine Zs2 ?_; refine zd ?_; refine zf ?_; refine zm rfl ?_; refine ze ?_; refine zb (id := 49) ?_; refine Zs15 ?_; refine Zs2 ?_; refine zd ?_; refine zf ?_; refine zw rfl ?_; refine zb (id := 50) ?_; refine Zs19 ?_; refine box_store L (O1 := []) rfl rfl rfl rfl rfl rfl rfl rfl rfl ?_; refine zd ?_; refine qm ?_; refine zf ?_; refine ze ?_
      refine zb (id := 75) ?_; refine z7 (zn L (vs := [_, _, _, _, _, _, _, _, _, _, _, _, _, _]) (qy rfl (List.Mem.head _)) rfl rfl rfl rfl ⟨_, rfl⟩) rfl ?_; refine Zs25 ?_; (refine vo_opn 324 rfl fun v324 H324 s324 ⟨bf, e324, hbf⟩ => ?_; subst e324); refine z7 (qt (cs := [_, _]) rfl rfl pl24 rfl rfl) rfl ?_; refine Zs24 ?_; refine Zs14 ?_; refine zd ?_; refine zf ?_; refine ze ?_
      have hI : TbI H324 ⟨2, [xF 2]⟩ (.slice (some ⟨bf, 0, none⟩) 1 1) [(xF 2, (.slice (some ⟨bx1, 0, none⟩) 1 1))] := x_tb (by decide) (hxs.le s324.le) ⟨bf, rfl, hbf⟩
      obtain ⟨hIf, hIn⟩ := hI.fsb (by simp)
      have hgs5 := hgs4.le s324.le
      refine zz (id := 76) [] mixed (by kernel_rfl) ?_; refine z8 (zn L (vs := [_, _]) (qe rfl) rfl rfl rfl rfl ⟨_, rfl⟩) rfl ?_; refine z8 (zo (r := .int .i64 4) L rfl rfl (zg rfl) rfl rfl rfl (fun u H hH hle _ => check_ret (t := ⟨2, [xF 2]⟩) rfl (hIf.le hle) hI.tz.q (Nat.le_trans hIn (by decide)) (x_chk 2 (by decide)) hH)) rfl ?_; refine Zs7 ?_; refine Zs40 ?_; refine Zs7 ?_; refine z8 (zn L (vs := [_, _]) (qe rfl) rfl rfl rfl rfl ⟨_, rfl⟩) rfl ?_; refine z8 (zn L (vs := [_, _, _, _, _, _]) (qe rfl) rfl rfl rfl rfl ⟨_, rfl⟩) rfl ?_; refine Zs38 ?_; refine z8 (StepOK.seeV (zj L (qy rfl (List.Mem.tail _ (List.Mem.head _))) rfl rfl rfl rfl) (by assumption)) rfl ?_; refine z8 (qb L _ rfl rfl rfl rfl rfl rfl rfl (by first | omega | decide) (by assumption)) rfl ?_; refine z8 (y5 L (vs := [_, _, _, _, _]) rfl rfl rfl rfl rfl ⟨_, rfl⟩) rfl ?_; refine z8 (qt (cs := [_, _, _, _, _, _, _, _]) rfl rfl pl35 rfl rfl) rfl ?_; refine z8 (zo L rfl rfl (zg rfl) rfl rfl rfl (fun u H hH hle _ => join_law (q := qS 1) (x := gI) (qS_z 1) (by decide) (hI.le hle) hH)) rfl ?_; refine Zs47 ?_; refine Zs28 ?_; refine qk ?_; refine zf ?_; refine zm rfl ?_; refine zt ?_; refine qm ?_; refine zf ?_; refine zb (id := 39) ?_; refine Zs1 ?_; refine Zs13 ?_; refine Zs2 ?_; refine zd ?_
      refine N_drop (List.sublist_cons_self ..) ?_
      exact N_roundS (x := 2) (3) (s274.trans s324) (by decide) (by decide) ⟨rfl, rfl, rfl, rfl, trivial⟩
    · refine zb (id := 45) ?_; refine Zs9 ?_; refine Zs2 ?_; refine zd ?_; refine zf ?_; refine zm rfl ?_; refine ze ?_; refine zb (id := 47) ?_; refine Zs9 ?_; refine Zs2 ?_; refine zd ?_; refine zf ?_; refine zm rfl ?_; refine ze ?_; refine zb (id := 49) ?_; refine Zs9 ?_; refine Zs2 ?_; refine zd ?_; refine zf ?_; refine zm rfl ?_; refine ze ?_; refine zb (id := 51) ?_; refine Zs15 ?_; refine Zs2 ?_; refine zd ?_; refine zf ?_; refine zw rfl ?_; refine zb (id := 52) ?_; refine Zs19 ?_; refine box_store L (O1 := []) rfl rfl rfl rfl rfl rfl rfl rfl rfl ?_; refine zd ?_; refine qm ?_; refine zf ?_; refine ze ?_
      refine zb (id := 75) ?_; refine z7 (zn L (vs := [_, _, _, _, _, _, _, _, _, _, _, _, _, _]) (qy rfl (List.Mem.head _)) rfl rfl rfl rfl ⟨_, rfl⟩) rfl ?_; refine Zs25 ?_; (refine vo_opn 324 rfl fun v324 H324 s324 ⟨bf, e324, hbf⟩ => ?_; subst e324); refine z7 (qt (cs := [_, _]) rfl rfl pl24 rfl rfl) rfl ?_; refine Zs24 ?_; refine Zs14 ?_; refine zd ?_; refine zf ?_; refine ze ?_
      have hI : TbI H324 ⟨2, [xF 3]⟩ (.slice (some ⟨bf, 0, none⟩) 1 1) [(xF 3, (.slice (some ⟨bx1, 0, none⟩) 1 1))] := x_tb (by decide) (hxs.le s324.le) ⟨bf, rfl, hbf⟩
      obtain ⟨hIf, hIn⟩ := hI.fsb (by simp)
      have hgs5 := hgs4.le s324.le
      refine zz (id := 76) [] mixed (by kernel_rfl) ?_; refine z8 (zn L (vs := [_, _]) (qe rfl) rfl rfl rfl rfl ⟨_, rfl⟩) rfl ?_; refine z8 (zo (r := .int .i64 4) L rfl rfl (zg rfl) rfl rfl rfl (fun u H hH hle _ => check_ret (t := ⟨2, [xF 3]⟩) rfl (hIf.le hle) hI.tz.q (Nat.le_trans hIn (by decide)) (x_chk 3 (by decide)) hH)) rfl ?_; refine Zs7 ?_; refine Zs40 ?_; refine Zs7 ?_; refine z8 (zn L (vs := [_, _]) (qe rfl) rfl rfl rfl rfl ⟨_, rfl⟩) rfl ?_; refine z8 (zn L (vs := [_, _, _, _, _, _]) (qe rfl) rfl rfl rfl rfl ⟨_, rfl⟩) rfl ?_; refine Zs38 ?_; refine z8 (StepOK.seeV (zj L (qy rfl (List.Mem.tail _ (List.Mem.head _))) rfl rfl rfl rfl) (by assumption)) rfl ?_; refine z8 (qb L _ rfl rfl rfl rfl rfl rfl rfl (by first | omega | decide) (by assumption)) rfl ?_; refine z8 (y5 L (vs := [_, _, _, _, _]) rfl rfl rfl rfl rfl ⟨_, rfl⟩) rfl ?_; refine z8 (qt (cs := [_, _, _, _, _, _, _, _]) rfl rfl pl35 rfl rfl) rfl ?_; refine z8 (zo L rfl rfl (zg rfl) rfl rfl rfl (fun u H hH hle _ => join_law (q := qS 1) (x := gI) (qS_z 1) (by decide) (hI.le hle) hH)) rfl ?_; refine Zs47 ?_; refine Zs28 ?_; refine qk ?_; refine zf ?_; refine zm rfl ?_; refine zt ?_; refine qm ?_; refine zf ?_; refine zb (id := 39) ?_; refine Zs1 ?_; refine Zs13 ?_; refine Zs2 ?_; refine zd ?_
      refine N_drop (List.sublist_cons_self ..) ?_
      exact N_roundS (x := 3) (4) (s274.trans s324) (by decide) (by decide) ⟨rfl, rfl, rfl, rfl, trivial⟩
    · refine zb (id := 45) ?_; refine Zs9 ?_; refine Zs2 ?_; refine zd ?_; refine zf ?_; refine zm rfl ?_; refine ze ?_; refine zb (id := 47) ?_; refine Zs9 ?_; refine Zs2 ?_; refine zd ?_; refine zf ?_; refine zm rfl ?_; refine ze ?_; refine zb (id := 49) ?_; refine Zs9 ?_; refine Zs2 ?_; refine zd ?_; refine zf ?_; refine zm rfl ?_; refine ze ?_; refine zb (id := 51) ?_; refine Zs9 ?_; refine Zs2 ?_; refine zd ?_; refine zf ?_; refine zm rfl ?_; refine ze ?_; refine zb (id := 53) ?_; refine Zs15 ?_; refine Zs2 ?_; refine zd ?_; refine zf ?_; refine zw rfl ?_; refine zb (id := 54) ?_; refine Zs19 ?_; refine box_store L (O1 := []) rfl rfl rfl rfl rfl rfl rfl rfl rfl ?_; refine zd ?_; refine qm ?_; refine zf ?_; refine ze ?_
      refine zb (id := 75) ?_; refine z7 (zn L (vs := [_, _, _, _, _, _, _, _, _, _, _, _, _, _]) (qy rfl (List.Mem.head _)) rfl rfl rfl rfl ⟨_, rfl⟩) rfl ?_; refine Zs25 ?_; (refine vo_opn 324 rfl fun v324 H324 s324 ⟨bf, e324, hbf⟩ => ?_; subst e324); refine z7 (qt (cs := [_, _]) rfl rfl pl24 rfl rfl) rfl ?_; refine Zs24 ?_; refine Zs14 ?_; refine zd ?_; refine zf ?_; refine ze ?_
      have hI : TbI H324 ⟨2, [xF 4]⟩ (.slice (some ⟨bf, 0, none⟩) 1 1) [(xF 4, (.slice (some ⟨bx1, 0, none⟩) 1 1))] := x_tb (by decide) (hxs.le s324.le) ⟨bf, rfl, hbf⟩
      obtain ⟨hIf, hIn⟩ := hI.fsb (by simp)
      have hgs5 := hgs4.le s324.le
      refine zz (id := 76) [] mixed (by kernel_rfl) ?_; refine z8 (zn L (vs := [_, _]) (qe rfl) rfl rfl rfl rfl ⟨_, rfl⟩) rfl ?_; refine z8 (zo (r := .int .i64 4) L rfl rfl (zg rfl) rfl rfl rfl (fun u H hH hle _ => check_ret (t := ⟨2, [xF 4]⟩) rfl (hIf.le hle) hI.tz.q (Nat.le_trans hIn (by decide)) (x_chk 4 (by decide)) hH)) rfl ?_; refine Zs7 ?_; refine Zs40 ?_; refine Zs7 ?_; refine z8 (zn L (vs := [_, _]) (qe rfl) rfl rfl rfl rfl ⟨_, rfl⟩) rfl ?_; refine z8 (zn L (vs := [_, _, _, _, _, _]) (qe rfl) rfl rfl rfl rfl ⟨_, rfl⟩) rfl ?_; refine Zs38 ?_; refine z8 (StepOK.seeV (zj L (qy rfl (List.Mem.tail _ (List.Mem.head _))) rfl rfl rfl rfl) (by assumption)) rfl ?_; refine z8 (qb L _ rfl rfl rfl rfl rfl rfl rfl (by first | omega | decide) (by assumption)) rfl ?_; refine z8 (y5 L (vs := [_, _, _, _, _]) rfl rfl rfl rfl rfl ⟨_, rfl⟩) rfl ?_; refine z8 (qt (cs := [_, _, _, _, _, _, _, _]) rfl rfl pl35 rfl rfl) rfl ?_; refine z8 (zo L rfl rfl (zg rfl) rfl rfl rfl (fun u H hH hle _ => join_law (q := qS 1) (x := gI) (qS_z 1) (by decide) (hI.le hle) hH)) rfl ?_; refine Zs47 ?_; refine Zs28 ?_; refine qk ?_; refine zf ?_; refine zm rfl ?_; refine zt ?_; refine qm ?_; refine zf ?_; refine zb (id := 39) ?_; refine Zs1 ?_; refine Zs13 ?_; refine Zs2 ?_; refine zd ?_
      refine N_drop (List.sublist_cons_self ..) ?_
      exact N_roundS (x := 4) (5) (s274.trans s324) (by decide) (by decide) ⟨rfl, rfl, rfl, rfl, trivial⟩
    · refine zb (id := 45) ?_; refine Zs9 ?_; refine Zs2 ?_; refine zd ?_; refine zf ?_; refine zm rfl ?_; refine ze ?_; refine zb (id := 47) ?_; refine Zs9 ?_; refine Zs2 ?_; refine zd ?_; refine zf ?_; refine zm rfl ?_; refine ze ?_; refine zb (id := 49) ?_; refine Zs9 ?_; refine Zs2 ?_; refine zd ?_; refine zf ?_; refine zm rfl ?_; refine ze ?_; refine zb (id := 51) ?_; refine Zs9 ?_; refine Zs2 ?_; refine zd ?_; refine zf ?_; refine zm rfl ?_; refine ze ?_; refine zb (id := 53) ?_; refine Zs9 ?_; refine Zs2 ?_; refine zd ?_; refine zf ?_; refine zm rfl ?_; refine ze ?_; refine zb (id := 55) ?_; refine Zs15 ?_; refine Zs2 ?_; refine zd ?_; refine zf ?_; refine zw rfl ?_; refine zb (id := 56) ?_; refine Zs19 ?_; refine box_store L (O1 := []) rfl rfl rfl rfl rfl rfl rfl rfl rfl ?_; refine zd ?_; refine qm ?_; refine zf ?_; refine ze ?_
      refine zb (id := 75) ?_; refine z7 (zn L (vs := [_, _, _, _, _, _, _, _, _, _, _, _, _, _]) (qy rfl (List.Mem.head _)) rfl rfl rfl rfl ⟨_, rfl⟩) rfl ?_; refine Zs25 ?_; (refine vo_opn 324 rfl fun v324 H324 s324 ⟨bf, e324, hbf⟩ => ?_; subst e324); refine z7 (qt (cs := [_, _]) rfl rfl pl24 rfl rfl) rfl ?_; refine Zs24 ?_; refine Zs14 ?_; refine zd ?_; refine zf ?_; refine ze ?_
      have hI : TbI H324 ⟨2, [xF 5]⟩ (.slice (some ⟨bf, 0, none⟩) 1 1) [(xF 5, (.slice (some ⟨bx1, 0, none⟩) 1 1))] := x_tb (by decide) (hxs.le s324.le) ⟨bf, rfl, hbf⟩
      obtain ⟨hIf, hIn⟩ := hI.fsb (by simp)
      have hgs5 := hgs4.le s324.le
      refine zz (id := 76) [] mixed (by kernel_rfl) ?_; refine z8 (zn L (vs := [_, _]) (qe rfl) rfl rfl rfl rfl ⟨_, rfl⟩) rfl ?_; refine z8 (zo (r := .int .i64 4) L rfl rfl (zg rfl) rfl rfl rfl (fun u H hH hle _ => check_ret (t := ⟨2, [xF 5]⟩) rfl (hIf.le hle) hI.tz.q (Nat.le_trans hIn (by decide)) (x_chk 5 (by decide)) hH)) rfl ?_; refine Zs7 ?_; refine Zs40 ?_; refine Zs7 ?_; refine z8 (zn L (vs := [_, _]) (qe rfl) rfl rfl rfl rfl ⟨_, rfl⟩) rfl ?_; refine z8 (zn L (vs := [_, _, _, _, _, _]) (qe rfl) rfl rfl rfl rfl ⟨_, rfl⟩) rfl ?_; refine Zs38 ?_; refine z8 (StepOK.seeV (zj L (qy rfl (List.Mem.tail _ (List.Mem.head _))) rfl rfl rfl rfl) (by assumption)) rfl ?_; refine z8 (qb L _ rfl rfl rfl rfl rfl rfl rfl (by first | omega | decide) (by assumption)) rfl ?_; refine z8 (y5 L (vs := [_, _, _, _, _]) rfl rfl rfl rfl rfl ⟨_, rfl⟩) rfl ?_; refine z8 (qt (cs := [_, _, _, _, _, _, _, _]) rfl rfl pl35 rfl rfl) rfl ?_; refine z8 (zo L rfl rfl (zg rfl) rfl rfl rfl (fun u H hH hle _ => join_law (q := qS 1) (x := gI) (qS_z 1) (by decide) (hI.le hle) hH)) rfl ?_; refine Zs47 ?_; refine Zs28 ?_; refine qk ?_; refine zf ?_; refine zm rfl ?_; refine zt ?_; refine qm ?_; refine zf ?_; refine zb (id := 39) ?_; refine Zs1 ?_; refine Zs13 ?_; refine Zs2 ?_; refine zd ?_
      refine N_drop (List.sublist_cons_self ..) ?_
      exact N_roundS (x := 5) (6) (s274.trans s324) (by decide) (by decide) ⟨rfl, rfl, rfl, rfl, trivial⟩
    · refine zb (id := 45) ?_; refine Zs9 ?_; refine Zs2 ?_; refine zd ?_; refine zf ?_; refine zm rfl ?_; refine ze ?_; refine zb (id := 47) ?_; refine Zs9 ?_; refine Zs2 ?_; refine zd ?_; refine zf ?_; refine zm rfl ?_; refine ze ?_; refine zb (id := 49) ?_; refine Zs9 ?_; refine Zs2 ?_; refine zd ?_; refine zf ?_; refine zm rfl ?_; refine ze ?_; refine zb (id := 51) ?_; refine Zs9 ?_; refine Zs2 ?_; refine zd ?_; refine zf ?_; refine zm rfl ?_; refine ze ?_; refine zb (id := 53) ?_; refine Zs9 ?_; refine Zs2 ?_; refine zd ?_; refine zf ?_; refine zm rfl ?_; refine ze ?_; refine zb (id := 55) ?_; refine Zs9 ?_; refine Zs2 ?_; refine zd ?_; refine zf ?_; refine zm rfl ?_; refine ze ?_; refine zb (id := 57) ?_; refine Zs15 ?_; refine Zs2 ?_; refine zd ?_; refine zf ?_; refine zw rfl ?_; refine ze ?_; refine zb (id := 58) ?_; refine Zs19 ?_; refine Zs19 ?_; refine box_store L (O1 := []) rfl rfl rfl rfl rfl rfl rfl rfl rfl ?_; refine zd ?_; refine zf ?_; refine zb (id := 59) ?_; refine Zs2 ?_; refine zd ?_; refine qm ?_; refine zf ?_; refine ze ?_
      refine zb (id := 75) ?_; refine z7 (zn L (vs := [_, _, _, _, _, _, _, _, _, _, _, _, _, _]) (qy rfl (List.Mem.head _)) rfl rfl rfl rfl ⟨_, rfl⟩) rfl ?_; refine Zs25 ?_; (refine vo_opn 324 rfl fun v324 H324 s324 ⟨bf, e324, hbf⟩ => ?_; subst e324); refine z7 (qt (cs := [_, _]) rfl rfl pl24 rfl rfl) rfl ?_; refine Zs24 ?_; refine Zs14 ?_; refine zd ?_; refine zf ?_; refine ze ?_
      have hI : TbI H324 ⟨2, [xF 6]⟩ (.slice (some ⟨bf, 0, none⟩) 1 1) [(xF 6, (.slice (some ⟨bx1, 0, none⟩) 1 1))] := x_tb (by decide) (hxs.le s324.le) ⟨bf, rfl, hbf⟩
      obtain ⟨hIf, hIn⟩ := hI.fsb (by simp)
      have hgs5 := hgs4.le s324.le
      refine zz (id := 76) [] mixed (by kernel_rfl) ?_; refine z8 (zn L (vs := [_, _]) (qe rfl) rfl rfl rfl rfl ⟨_, rfl⟩) rfl ?_; refine z8 (zo (r := .int .i64 10) L rfl rfl (zg rfl) rfl rfl rfl (fun u H hH hle _ => check_ret (t := ⟨2, [xF 6]⟩) rfl (hIf.le hle) hI.tz.q (Nat.le_trans hIn (by decide)) (x_chk 6 (by decide)) hH)) rfl ?_; refine Zs7 ?_; refine Zs40 ?_; refine Zs7 ?_; refine z8 (zn L (vs := [_, _]) (qe rfl) rfl rfl rfl rfl ⟨_, rfl⟩) rfl ?_; refine z8 (zn L (vs := [_, _, _, _, _, _]) (qe rfl) rfl rfl rfl rfl ⟨_, rfl⟩) rfl ?_; refine Zs38 ?_; refine z8 (StepOK.seeV (zj L (qy rfl (List.Mem.tail _ (List.Mem.head _))) rfl rfl rfl rfl) (by assumption)) rfl ?_; refine z8 (qb L _ rfl rfl rfl rfl rfl rfl rfl (by first | omega | decide) (by assumption)) rfl ?_; refine z8 (y5 L (vs := [_, _, _, _, _]) rfl rfl rfl rfl rfl ⟨_, rfl⟩) rfl ?_; refine z8 (qt (cs := [_, _, _, _, _, _, _, _]) rfl rfl pl35 rfl rfl) rfl ?_; refine z8 (zo L rfl rfl (zg rfl) rfl rfl rfl (fun u H hH hle _ => join_law (q := qS 1) (x := gI) (qS_z 1) (by decide) (hI.le hle) hH)) rfl ?_; refine Zs47 ?_; refine Zs28 ?_; refine qk ?_; refine zf ?_; refine zm rfl ?_; refine zt ?_; refine qm ?_; refine zf ?_; refine zb (id := 39) ?_; refine Zs1 ?_; refine Zs13 ?_; refine Zs2 ?_; refine zd ?_
      refine N_drop (List.sublist_cons_self ..) ?_
      exact N_roundS (x := 6) (7) (s274.trans s324) (by decide) (by decide) ⟨rfl, rfl, rfl, rfl, trivial⟩
    · refine zb (id := 45) ?_; refine Zs9 ?_; refine Zs2 ?_; refine zd ?_; refine zf ?_; refine zm rfl ?_; refine ze ?_; refine zb (id := 47) ?_; refine Zs9 ?_; refine Zs2 ?_; refine zd ?_; refine zf ?_; refine zm rfl ?_; refine ze ?_; refine zb (id := 49) ?_; refine Zs9 ?_; refine Zs2 ?_; refine zd ?_; refine zf ?_; refine zm rfl ?_; refine ze ?_; refine zb (id := 51) ?_; refine Zs9 ?_; refine Zs2 ?_; refine zd ?_; refine zf ?_; refine zm rfl ?_; refine ze ?_; refine zb (id := 53) ?_; refine Zs9 ?_; refine Zs2 ?_; refine zd ?_; refine zf ?_; refine zm rfl ?_; refine ze ?_; refine zb (id := 55) ?_; refine Zs9 ?_; refine Zs2 ?_; refine zd ?_; refine zf ?_; refine zm rfl ?_; refine ze ?_; refine zb (id := 57) ?_; refine Zs9 ?_; refine Zs2 ?_; refine zd ?_; refine zf ?_; refine zm rfl ?_; refine ze ?_; refine zb (id := 60) ?_; refine Zs15 ?_; refine Zs2 ?_; refine zd ?_; refine zf ?_; refine zw rfl ?_; refine ze ?_; refine zb (id := 61) ?_; refine Zs19 ?_; refine Zs19 ?_; refine Zs19 ?_; refine box_store L (O1 := []) rfl rfl rfl rfl rfl rfl rfl rfl rfl ?_; refine zd ?_; refine zf ?_; refine zb (id := 62) ?_; refine Zs2 ?_; refine zd ?_; refine qm ?_; refine zf ?_; refine ze ?_
      refine zb (id := 75) ?_; refine z7 (zn L (vs := [_, _, _, _, _, _, _, _, _, _, _, _, _, _]) (qy rfl (List.Mem.head _)) rfl rfl rfl rfl ⟨_, rfl⟩) rfl ?_; refine Zs25 ?_; (refine vo_opn 324 rfl fun v324 H324 s324 ⟨bf, e324, hbf⟩ => ?_; subst e324); refine z7 (qt (cs := [_, _]) rfl rfl pl24 rfl rfl) rfl ?_; refine Zs24 ?_; refine Zs14 ?_; refine zd ?_; refine zf ?_; refine ze ?_
      have hI : TbI H324 ⟨2, [xF 7]⟩ (.slice (some ⟨bf, 0, none⟩) 1 1) [(xF 7, (.slice (some ⟨bx1, 0, none⟩) 1 1))] := x_tb (by decide) (hxs.le s324.le) ⟨bf, rfl, hbf⟩
      obtain ⟨hIf, hIn⟩ := hI.fsb (by simp)
      have hgs5 := hgs4.le s324.le
      refine zz (id := 76) [] mixed (by kernel_rfl) ?_; refine z8 (zn L (vs := [_, _]) (qe rfl) rfl rfl rfl rfl ⟨_, rfl⟩) rfl ?_; refine z8 (zo (r := .int .i64 6) L rfl rfl (zg rfl) rfl rfl rfl (fun u H hH hle _ => check_ret (t := ⟨2, [xF 7]⟩) rfl (hIf.le hle) hI.tz.q (Nat.le_trans hIn (by decide)) (x_chk 7 (by decide)) hH)) rfl ?_; refine Zs7 ?_; refine Zs40 ?_; refine Zs7 ?_; refine z8 (zn L (vs := [_, _]) (qe rfl) rfl rfl rfl rfl ⟨_, rfl⟩) rfl ?_; refine z8 (zn L (vs := [_, _, _, _, _, _]) (qe rfl) rfl rfl rfl rfl ⟨_, rfl⟩) rfl ?_; refine Zs38 ?_; refine z8 (StepOK.seeV (zj L (qy rfl (List.Mem.tail _ (List.Mem.head _))) rfl rfl rfl rfl) (by assumption)) rfl ?_; refine z8 (qb L _ rfl rfl rfl rfl rfl rfl rfl (by first | omega | decide) (by assumption)) rfl ?_; refine z8 (y5 L (vs := [_, _, _, _, _]) rfl rfl rfl rfl rfl ⟨_, rfl⟩) rfl ?_; refine z8 (qt (cs := [_, _, _, _, _, _, _, _]) rfl rfl pl35 rfl rfl) rfl ?_; refine z8 (zo L rfl rfl (zg rfl) rfl rfl rfl (fun u H hH hle _ => join_law (q := qS 1) (x := gI) (qS_z 1) (by decide) (hI.le hle) hH)) rfl ?_; refine Zs47 ?_; refine Zs28 ?_; refine qk ?_; refine zf ?_; refine zm rfl ?_; refine zt ?_; refine qm ?_; refine zf ?_; refine zb (id := 39) ?_; refine Zs1 ?_; refine Zs13 ?_; refine Zs2 ?_; refine zd ?_
      refine N_drop (List.sublist_cons_self ..) ?_
      exact N_roundS (x := 7) (8) (s274.trans s324) (by decide) (by decide) ⟨rfl, rfl, rfl, rfl, trivial⟩
    · refine zb (id := 45) ?_; refine Zs9 ?_; refine Zs2 ?_; refine zd ?_; refine zf ?_; refine zm rfl ?_; refine ze ?_; refine zb (id := 47) ?_; refine Zs9 ?_; refine Zs2 ?_; refine zd ?_; refine zf ?_; refine zm rfl ?_; refine ze ?_; refine zb (id := 49) ?_; refine Zs9 ?_; refine Zs2 ?_; refine zd ?_; refine zf ?_; refine zm rfl ?_; refine ze ?_; refine zb (id := 51) ?_; refine Zs9 ?_; refine Zs2 ?_; refine zd ?_; refine zf ?_; refine zm rfl ?_; refine ze ?_; refine zb (id := 53) ?_; refine Zs9 ?_; refine Zs2 ?_; refine zd ?_; refine zf ?_; refine zm rfl ?_; refine ze ?_; refine zb (id := 55) ?_; refine Zs9 ?_; refine Zs2 ?_; refine zd ?_; refine zf ?_; refine zm rfl ?_; refine ze ?_; refine zb (id := 57) ?_; refine Zs9 ?_; refine Zs2 ?_; refine zd ?_; refine zf ?_; refine zm rfl ?_; refine ze ?_; refine zb (id := 60) ?_; refine Zs9 ?_; refine Zs2 ?_; refine zd ?_; refine zf ?_; refine zm rfl ?_; refine ze ?_; refine zb (id := 63) ?_; refine Zs15 ?_; refine Zs2 ?_; refine zd ?_; refine zf ?_; refine zw rfl ?_; refine ze ?_; refine zb (id := 64) ?_; refine Zs19 ?_; refine Zs19 ?_; refine box_store L (O1 := []) rfl rfl rfl rfl rfl rfl rfl rfl rfl ?_; refine zd ?_; refine zf ?_; refine zb (id := 65) ?_; refine Zs2 ?_; refine zd ?_; refine qm ?_; refine zf ?_; refine ze ?_
      refine zb (id := 75) ?_; refine z7 (zn L (vs := [_, _, _, _, _, _, _, _, _, _, _, _, _, _]) (qy rfl (List.Mem.head _)) rfl rfl rfl rfl ⟨_, rfl⟩) rfl ?_; refine Zs25 ?_; (refine vo_opn 324 rfl fun v324 H324 s324 ⟨bf, e324, hbf⟩ => ?_; subst e324); refine z7 (qt (cs := [_, _]) rfl rfl pl24 rfl rfl) rfl ?_; refine Zs24 ?_; refine Zs14 ?_; refine zd ?_; refine zf ?_; refine ze ?_
      have hI : TbI H324 ⟨2, [xF 8]⟩ (.slice (some ⟨bf, 0, none⟩) 1 1) [(xF 8, (.slice (some ⟨bx1, 0, none⟩) 1 1))] := x_tb (by decide) (hxs.le s324.le) ⟨bf, rfl, hbf⟩
      obtain ⟨hIf, hIn⟩ := hI.fsb (by simp)
      have hgs5 := hgs4.le s324.le
      refine zz (id := 76) [] mixed (by kernel_rfl) ?_; refine z8 (zn L (vs := [_, _]) (qe rfl) rfl rfl rfl rfl ⟨_, rfl⟩) rfl ?_; refine z8 (zo (r := .int .i64 5) L rfl rfl (zg rfl) rfl rfl rfl (fun u H hH hle _ => check_ret (t := ⟨2, [xF 8]⟩) rfl (hIf.le hle) hI.tz.q (Nat.le_trans hIn (by decide)) (x_chk 8 (by decide)) hH)) rfl ?_; refine Zs7 ?_; refine Zs40 ?_; refine Zs7 ?_; refine z8 (zn L (vs := [_, _]) (qe rfl) rfl rfl rfl rfl ⟨_, rfl⟩) rfl ?_; refine z8 (zn L (vs := [_, _, _, _, _, _]) (qe rfl) rfl rfl rfl rfl ⟨_, rfl⟩) rfl ?_; refine Zs38 ?_; refine z8 (StepOK.seeV (zj L (qy rfl (List.Mem.tail _ (List.Mem.head _))) rfl rfl rfl rfl) (by assumption)) rfl ?_; refine z8 (qb L _ rfl rfl rfl rfl rfl rfl rfl (by first | omega | decide) (by assumption)) rfl ?_; refine z8 (y5 L (vs := [_, _, _, _, _]) rfl rfl rfl rfl rfl ⟨_, rfl⟩) rfl ?_; refine z8 (qt (cs := [_, _, _, _, _, _, _, _]) rfl rfl pl35 rfl rfl) rfl ?_; refine z8 (zo L rfl rfl (zg rfl) rfl rfl rfl (fun u H hH hle _ => join_law (q := qS 1) (x := gI) (qS_z 1) (by decide) (hI.le hle) hH)) rfl ?_; refine Zs47 ?_; refine Zs28 ?_; refine qk ?_; refine zf ?_; refine zm rfl ?_; refine zt ?_; refine qm ?_; refine zf ?_; refine zb (id := 39) ?_; refine Zs1 ?_; refine Zs13 ?_; refine Zs2 ?_; refine zd ?_
      refine N_drop (List.sublist_cons_self ..) ?_
      exact N_roundS (x := 8) (9) (s274.trans s324) (by decide) (by decide) ⟨rfl, rfl, rfl, rfl, trivial⟩
    · refine zb (id := 45) ?_; refine Zs9 ?_; refine Zs2 ?_; refine zd ?_; refine zf ?_; refine zm rfl ?_; refine ze ?_; refine zb (id := 47) ?_; refine Zs9 ?_; refine Zs2 ?_; refine zd ?_; refine zf ?_; refine zm rfl ?_; refine ze ?_; refine zb (id := 49) ?_; refine Zs9 ?_; refine Zs2 ?_; refine zd ?_; refine zf ?_; refine zm rfl ?_; refine ze ?_; refine zb (id := 51) ?_; refine Zs9 ?_; refine Zs2 ?_; refine zd ?_; refine zf ?_; refine zm rfl ?_; refine ze ?_; refine zb (id := 53) ?_; refine Zs9 ?_; refine Zs2 ?_; refine zd ?_; refine zf ?_; refine zm rfl ?_; refine ze ?_; refine zb (id := 55) ?_; refine Zs9 ?_; refine Zs2 ?_; refine zd ?_; refine zf ?_; refine zm rfl ?_; refine ze ?_; refine zb (id := 57) ?_; refine Zs9 ?_; refine Zs2 ?_; refine zd ?_; refine zf ?_; refine zm rfl ?_; refine ze ?_; refine zb (id := 60) ?_; refine Zs9 ?_; refine Zs2 ?_; refine zd ?_; refine zf ?_; refine zm rfl ?_; refine ze ?_; refine zb (id := 63) ?_; refine Zs9 ?_; refine Zs2 ?_; refine zd ?_; refine zf ?_; refine zm rfl ?_; refine ze ?_; refine zb (id := 66) ?_; refine Zs15 ?_; refine Zs2 ?_; refine zd ?_; refine zf ?_; refine zw rfl ?_; refine ze ?_; refine zb (id := 67) ?_; refine Zs19 ?_; refine box_store L (O1 := []) rfl rfl rfl rfl rfl rfl rfl rfl rfl ?_; refine zd ?_; refine zf ?_; refine zb (id := 68) ?_; refine Zs2 ?_; refine zd ?_; refine qm ?_; refine zf ?_; refine ze ?_
      have hxs : IsV (xF 9).is false (.slice none 0 0) H274 := SlV.nil
      refine zb (id := 75) ?_; refine z7 (zn L (vs := [_, _, _, _, _, _, _, _, _, _, _, _, _, _]) (qy rfl (List.Mem.head _)) rfl rfl rfl rfl ⟨_, rfl⟩) rfl ?_; refine Zs25 ?_; (refine vo_opn 324 rfl fun v324 H324 s324 ⟨bf, e324, hbf⟩ => ?_; subst e324); refine z7 (qt (cs := [_, _]) rfl rfl pl24 rfl rfl) rfl ?_; refine Zs24 ?_; refine Zs14 ?_; refine zd ?_; refine zf ?_; refine ze ?_
      have hI : TbI H324 ⟨2, [xF 9]⟩ (.slice (some ⟨bf, 0, none⟩) 1 1) [(xF 9, (.slice none 0 0))] := x_tb (by decide) (hxs.le s324.le) ⟨bf, rfl, hbf⟩
      obtain ⟨hIf, hIn⟩ := hI.fsb (by simp)
      have hgs5 := hgs4.le s324.le
      refine zz (id := 76) [] mixed (by kernel_rfl) ?_; refine z8 (zn L (vs := [_, _]) (qe rfl) rfl rfl rfl rfl ⟨_, rfl⟩) rfl ?_; refine z8 (zo (r := .int .i64 20) L rfl rfl (zg rfl) rfl rfl rfl (fun u H hH hle _ => check_ret (t := ⟨2, [xF 9]⟩) rfl (hIf.le hle) hI.tz.q (Nat.le_trans hIn (by decide)) (x_chk 9 (by decide)) hH)) rfl ?_; refine Zs7 ?_; refine Zs40 ?_; refine Zs7 ?_; refine z8 (zn L (vs := [_, _]) (qe rfl) rfl rfl rfl rfl ⟨_, rfl⟩) rfl ?_; refine z8 (zn L (vs := [_, _, _, _, _, _]) (qe rfl) rfl rfl rfl rfl ⟨_, rfl⟩) rfl ?_; refine Zs38 ?_; refine z8 (StepOK.seeV (zj L (qy rfl (List.Mem.tail _ (List.Mem.head _))) rfl rfl rfl rfl) (by assumption)) rfl ?_; refine z8 (qb L _ rfl rfl rfl rfl rfl rfl rfl (by first | omega | decide) (by assumption)) rfl ?_; refine z8 (y5 L (vs := [_, _, _, _, _]) rfl rfl rfl rfl rfl ⟨_, rfl⟩) rfl ?_; refine z8 (qt (cs := [_, _, _, _, _, _, _, _]) rfl rfl pl35 rfl rfl) rfl ?_; refine z8 (zo L rfl rfl (zg rfl) rfl rfl rfl (fun u H hH hle _ => join_law (q := qS 1) (x := gI) (qS_z 1) (by decide) (hI.le hle) hH)) rfl ?_; refine Zs47 ?_; refine Zs28 ?_; refine qk ?_; refine zf ?_; refine zm rfl ?_; refine zt ?_; refine qm ?_; refine zf ?_; refine zb (id := 39) ?_; refine Zs1 ?_; refine Zs13 ?_; refine Zs2 ?_; refine zd ?_
      refine N_drop (List.sublist_cons_self ..) ?_
      exact N_roundS (x := 9) (10) (s274.trans s324) (by decide) (by decide) ⟨rfl, rfl, rfl, rfl, trivial⟩
    · refine zb (id := 45) ?_; refine Zs9 ?_; refine Zs2 ?_; refine zd ?_; refine zf ?_; refine zm rfl ?_; refine ze ?_; refine zb (id := 47) ?_; refine Zs9 ?_; refine Zs2 ?_; refine zd ?_; refine zf ?_; refine zm rfl ?_; refine ze ?_; refine zb (id := 49) ?_; refine Zs9 ?_; refine Zs2 ?_; refine zd ?_; refine zf ?_; refine zm rfl ?_; refine ze ?_; refine zb (id := 51) ?_; refine Zs9 ?_; refine Zs2 ?_; refine zd ?_; refine zf ?_; refine zm rfl ?_; refine ze ?_; refine zb (id := 53) ?_; refine Zs9 ?_; refine Zs2 ?_; refine zd ?_; refine zf ?_; refine zm rfl ?_; refine ze ?_; refine zb (id := 55) ?_; refine Zs9 ?_; refine Zs2 ?_; refine zd ?_; refine zf ?_; refine zm rfl ?_; refine ze ?_; refine zb (id := 57) ?_; refine Zs9 ?_; refine Zs2 ?_; refine zd ?_; refine zf ?_; refine zm rfl ?_; refine ze ?_; refine zb (id := 60) ?_; refine Zs9 ?_; refine Zs2 ?_; refine zd ?_; refine zf ?_; refine zm rfl ?_; refine ze ?_; refine zb (id := 63) ?_; refine Zs9 ?_; refine Zs2 ?_; refine zd ?_; refine zf ?_; refine zm rfl ?_; refine ze ?_; refine zb (id := 66) ?_; refine Zs9 ?_; refine Zs2 ?_; refine zd ?_; refine zf ?_; refine zm rfl ?_; refine ze ?_; refine zb (id := 69) ?_; refine Zs15 ?_; refine Zs2 ?_; refine zd ?_; refine zf ?_; refine zw rfl ?_
      refine V_unpub (B0 := H263) (κ1 := ofL [(0, .is (.bool false)), (2, .own (Cell [.int .u8 (qS 1).kd, .string (qS 1).g.1.1, .string (qS 1).g.1.2, .string (qS 1).g.2, .string (qS 1).u.1, .string (qS 1).u.2] tyQ)), (19, .is (.pointer (some ⟨b19, 0, none⟩))), (20, .is (.int .i64 (10 : Nat))), (21, .is (.pointer (some ⟨b21, 0, none⟩))), (22, .is (.int .i64 4))]) 900 [(bx1, _, tyI)] s274 (fun y hy => by rw [List.mem_singleton.1 hy]; exact ⟨hbx, hnx⟩) (hfree_of ⟨rfl, rfl, rfl, rfl, rfl, rfl, trivial⟩ (by intro p hp; simp only [List.mem_cons, List.mem_nil_iff, or_false] at hp; rcases hp with rfl | rfl | rfl | rfl | rfl | rfl <;> first | trivial | exact fun _ _ _ _ _ h => h)) ?_
      refine V_splitL 900 901 (by decide) (S := []) (fun y hy => by cases hy) rfl ?_
      refine zb (id := 70) ?_; refine Zs19 ?_; refine z7 (zj L (qy rfl (List.Mem.head _)) rfl rfl rfl rfl) rfl ?_; refine z7 (zp L 0 rfl rfl rfl rfl rfl rfl rfl (by decide)) rfl ?_; refine Zs19 ?_; refine vo_stepS (y2 L (q := 901) rfl rfl rfl rfl rfl rfl rfl rfl rfl) ?_; refine zd ?_; refine qm ?_; refine zf ?_; refine ze ?_
      refine V_pubH 901 rfl fun H70 s70 hn70 hb70 => ?_
      have hxs : IsV (xF 10).is false (.slice (some ⟨bx1, 0, none⟩) 1 1) H70 := ⟨rfl, .inr ⟨bx1, 0, 1, _, _, _, rfl, hb70, rfl, Nat.le_refl _, fun h => by cases h⟩⟩
      have s70' : Since (Fr.pure w) H263 H70 := (since_off s274 fun y hy => by rw [List.mem_singleton.1 hy]; exact hnx).trans s70
      have hgs4 := hgs.le s70'.le
      refine zb (id := 75) ?_; refine z7 (zn L (vs := [_, _, _, _, _, _, _, _, _, _, _, _, _, _]) (qy rfl (List.Mem.head _)) rfl rfl rfl rfl ⟨_, rfl⟩) rfl ?_; refine Zs25 ?_; (refine vo_opn 324 rfl fun v324 H324 s324 ⟨bf, e324, hbf⟩ => ?_; subst e324); refine z7 (qt (cs := [_, _]) rfl rfl pl24 rfl rfl) rfl ?_; refine Zs24 ?_; refine Zs14 ?_; refine zd ?_; refine zf ?_; refine ze ?_
      have hI : TbI H324 ⟨2, [xF 10]⟩ (.slice (some ⟨bf, 0, none⟩) 1 1) [(xF 10, (.slice (some ⟨bx1, 0, none⟩) 1 1))] := x_tb (by decide) (hxs.le s324.le) ⟨bf, rfl, hbf⟩
      obtain ⟨hIf, hIn⟩ := hI.fsb (by simp)
      have hgs5 := hgs4.le s324.le
      refine zz (id := 76) [] mixed (by kernel_rfl) ?_; refine z8 (zn L (vs := [_, _]) (qe rfl) rfl rfl rfl rfl ⟨_, rfl⟩) rfl ?_; refine z8 (zo (r := .int .i64 4) L rfl rfl (zg rfl) rfl rfl rfl (fun u H hH hle _ => check_ret (t := ⟨2, [xF 10]⟩) rfl (hIf.le hle) hI.tz.q (Nat.le_trans hIn (by decide)) (x_chk 10 (by decide)) hH)) rfl ?_; refine Zs7 ?_; refine Zs40 ?_; refine Zs7 ?_; refine z8 (zn L (vs := [_, _]) (qe rfl) rfl rfl rfl rfl ⟨_, rfl⟩) rfl ?_; refine z8 (zn L (vs := [_, _, _, _, _, _]) (qe rfl) rfl rfl rfl rfl ⟨_, rfl⟩) rfl ?_; refine Zs38 ?_; refine z8 (StepOK.seeV (zj L (qy rfl (List.Mem.tail _ (List.Mem.head _))) rfl rfl rfl rfl) (by assumption)) rfl ?_; refine z8 (qb L _ rfl rfl rfl rfl rfl rfl rfl (by first | omega | decide) (by assumption)) rfl ?_; refine z8 (y5 L (vs := [_, _, _, _, _]) rfl rfl rfl rfl rfl ⟨_, rfl⟩) rfl ?_; refine z8 (qt (cs := [_, _, _, _, _, _, _, _]) rfl rfl pl35 rfl rfl) rfl ?_; refine z8 (zo L rfl rfl (zg rfl) rfl rfl rfl (fun u H hH hle _ => join_law (q := qS 1) (x := gI) (qS_z 1) (by decide) (hI.le hle) hH)) rfl ?_; refine Zs47 ?_; refine Zs28 ?_; refine qk ?_; refine zf ?_; refine zm rfl ?_; refine zt ?_; refine qm ?_; refine zf ?_; refine zb (id := 39) ?_; refine Zs1 ?_; refine Zs13 ?_; refine Zs2 ?_; refine zd ?_
      refine N_drop (List.sublist_cons_self ..) ?_
      exact N_roundS (x := 10) (11) (s70'.trans s324) (by decide) (by decide) ⟨rfl, rfl, rfl, rfl, trivial⟩
    · refine zb (id := 45) ?_; refine Zs9 ?_; refine Zs2 ?_; refine zd ?_; refine zf ?_; refine zm rfl ?_; refine ze ?_; refine zb (id := 47) ?_; refine Zs9 ?_; refine Zs2 ?_; refine zd ?_; refine zf ?_; refine zm rfl ?_; refine ze ?_; refine zb (id := 49) ?_; refine Zs9 ?_; refine Zs2 ?_; refine zd ?_; refine zf ?_; refine zm rfl ?_; refine ze ?_; refine zb (id := 51) ?_; refine Zs9 ?_; refine Zs2 ?_; refine zd ?_; refine zf ?_; refine zm rfl ?_; refine ze ?_; refine zb (id := 53) ?_; refine Zs9 ?_; refine Zs2 ?_; refine zd ?_; refine zf ?_; refine zm rfl ?_; refine ze ?_; refine zb (id := 55) ?_; refine Zs9 ?_; refine Zs2 ?_; refine zd ?_; refine zf ?_; refine zm rfl ?_; refine ze ?_; refine zb (id := 57) ?_; refine Zs9 ?_; refine Zs2 ?_; refine zd ?_; refine zf ?_; refine zm rfl ?_; refine ze ?_; refine zb (id := 60) ?_; refine Zs9 ?_; refine Zs2 ?_; refine zd ?_; refine zf ?_; refine zm rfl ?_; refine ze ?_; refine zb (id := 63) ?_; refine Zs9 ?_; refine Zs2 ?_; refine zd ?_; refine zf ?_; refine zm rfl ?_; refine ze ?_; refine zb (id := 66) ?_; refine Zs9 ?_; refine Zs2 ?_; refine zd ?_; refine zf ?_; refine zm rfl ?_; refine ze ?_; refine zb (id := 69) ?_; refine Zs9 ?_; refine Zs2 ?_; refine zd ?_; refine zf ?_; refine zm rfl ?_; refine ze ?_; refine zb (id := 71) ?_; refine Zs15 ?_; refine Zs2 ?_; refine zd ?_; refine zf ?_; refine zw rfl ?_; refine zb (id := 72) ?_; refine Zs19 ?_; refine box_store L (O1 := []) rfl rfl rfl rfl rfl rfl rfl rfl rfl ?_; refine zd ?_; refine qm ?_; refine zf ?_; refine ze ?_
      refine zb (id := 75) ?_; refine z7 (zn L (vs := [_, _, _, _, _, _, _, _, _, _, _, _, _, _]) (qy rfl (List.Mem.head _)) rfl rfl rfl rfl ⟨_, rfl⟩) rfl ?_; refine Zs25 ?_; (refine vo_opn 324 rfl fun v324 H324 s324 ⟨bf, e324, hbf⟩ => ?_; subst e324); refine z7 (qt (cs := [_, _]) rfl rfl pl24 rfl rfl) rfl ?_; refine Zs24 ?_; refine Zs14 ?_; refine zd ?_; refine zf ?_; refine ze ?_
      have hI : TbI H324 ⟨2, [xF 11]⟩ (.slice (some ⟨bf, 0, none⟩) 1 1) [(xF 11, (.slice (some ⟨bx1, 0, none⟩) 1 1))] := x_tb (by decide) (hxs.le s324.le) ⟨bf, rfl, hbf⟩
      obtain ⟨hIf, hIn⟩ := hI.fsb (by simp)
      have hgs5 := hgs4.le s324.le
      refine zz (id := 76) [] mixed (by kernel_rfl) ?_; refine z8 (zn L (vs := [_, _]) (qe rfl) rfl rfl rfl rfl ⟨_, rfl⟩) rfl ?_; refine z8 (zo (r := .int .i64 4) L rfl rfl (zg rfl) rfl rfl rfl (fun u H hH hle _ => check_ret (t := ⟨2, [xF 11]⟩) rfl (hIf.le hle) hI.tz.q (Nat.le_trans hIn (by decide)) (x_chk 11 (by decide)) hH)) rfl ?_; refine Zs7 ?_; refine Zs40 ?_; refine Zs7 ?_; refine z8 (zn L (vs := [_, _]) (qe rfl) rfl rfl rfl rfl ⟨_, rfl⟩) rfl ?_; refine z8 (zn L (vs := [_, _, _, _, _, _]) (qe rfl) rfl rfl rfl rfl ⟨_, rfl⟩) rfl ?_; refine Zs38 ?_; refine z8 (StepOK.seeV (zj L (qy rfl (List.Mem.tail _ (List.Mem.head _))) rfl rfl rfl rfl) (by assumption)) rfl ?_; refine z8 (qb L _ rfl rfl rfl rfl rfl rfl rfl (by first | omega | decide) (by assumption)) rfl ?_; refine z8 (y5 L (vs := [_, _, _, _, _]) rfl rfl rfl rfl rfl ⟨_, rfl⟩) rfl ?_; refine z8 (qt (cs := [_, _, _, _, _, _, _, _]) rfl rfl pl35 rfl rfl) rfl ?_; refine z8 (zo L rfl rfl (zg rfl) rfl rfl rfl (fun u H hH hle _ => join_law (q := qS 1) (x := gI) (qS_z 1) (by decide) (hI.le hle) hH)) rfl ?_; refine Zs47 ?_; refine Zs28 ?_; refine qk ?_; refine zf ?_; refine zm rfl ?_; refine zt ?_; refine qm ?_; refine zf ?_; refine zb (id := 39) ?_; refine Zs1 ?_; refine Zs13 ?_; refine Zs2 ?_; refine zd ?_
      refine N_drop (List.sublist_cons_self ..) ?_
      exact N_roundS (x := 11) (12) (s274.trans s324) (by decide) (by decide) ⟨rfl, rfl, rfl, rfl, trivial⟩
    · refine zb (id := 45) ?_; refine Zs9 ?_; refine Zs2 ?_; refine zd ?_; refine zf ?_; refine zm rfl ?_; refine ze ?_; refine zb (id := 47) ?_; refine Zs9 ?_; refine Zs2 ?_; refine zd ?_; refine zf ?_; refine zm rfl ?_; refine ze ?_; refine zb (id := 49) ?_; refine Zs9 ?_; refine Zs2 ?_; refine zd ?_; refine zf ?_; refine zm rfl ?_; refine ze ?_; refine zb (id := 51) ?_; refine Zs9 ?_; refine Zs2 ?_; refine zd ?_; refine zf ?_; refine zm rfl ?_; refine ze ?_; refine zb (id := 53) ?_; refine Zs9 ?_; refine Zs2 ?_; refine zd ?_; refine zf ?_; refine zm rfl ?_; refine ze ?_; refine zb (id := 55) ?_; refine Zs9 ?_; refine Zs2 ?_; refine zd ?_; refine zf ?_; refine zm rfl ?_; refine ze ?_; refine zb (id := 57) ?_; refine Zs9 ?_; refine Zs2 ?_; refine zd ?_; refine zf ?_; refine zm rfl ?_; refine ze ?_; refine zb (id := 60) ?_; refine Zs9 ?_; refine Zs2 ?_; refine zd ?_; refine zf ?_; refine zm rfl ?_; refine ze ?_; refine zb (id := 63) ?_; refine Zs9 ?_; refine Zs2 ?_; refine zd ?_; refine zf ?_; refine zm rfl ?_; refine ze ?_; refine zb (id := 66) ?_; refine Zs9 ?_; refine Zs2 ?_; refine zd ?_; refine zf ?_; refine zm rfl ?_; refine ze ?_; refine zb (id := 69) ?_; refine Zs9 ?_; refine Zs2 ?_; refine zd ?_; refine zf ?_; refine zm rfl ?_; refine ze ?_; refine zb (id := 71) ?_; refine Zs9 ?_; refine Zs2 ?_; refine zd ?_; refine zf ?_; refine zm rfl ?_; refine ze ?_; refine zb (id := 73) ?_; refine Zs15 ?_; refine Zs2 ?_; refine zd ?_; refine zf ?_; refine zw rfl ?_; refine zb (id := 74) ?_; refine Zs19 ?_; refine box_store L (O1 := []) rfl rfl rfl rfl rfl rfl rfl rfl rfl ?_; refine zd ?_; refine qm ?_; refine zf ?_; refine ze ?_
      refine zb (id := 75) ?_; refine z7 (zn L (vs := [_, _, _, _, _, _, _, _, _, _, _, _, _, _]) (qy rfl (List.Mem.head _)) rfl rfl rfl rfl ⟨_, rfl⟩) rfl ?_; refine Zs25 ?_; (refine vo_opn 324 rfl fun v324 H324 s324 ⟨bf, e324, hbf⟩ => ?_; subst e324); refine z7 (qt (cs := [_, _]) rfl rfl pl24 rfl rfl) rfl ?_; refine Zs24 ?_; refine Zs14 ?_; refine zd ?_; refine zf ?_; refine ze ?_
      have hI : TbI H324 ⟨2, [xF 12]⟩ (.slice (some ⟨bf, 0, none⟩) 1 1) [(xF 12, (.slice (some ⟨bx1, 0, none⟩) 1 1))] := x_tb (by decide) (hxs.le s324.le) ⟨bf, rfl, hbf⟩
      obtain ⟨hIf, hIn⟩ := hI.fsb (by simp)
      have hgs5 := hgs4.le s324.le
      refine zz (id := 76) [] mixed (by kernel_rfl) ?_; refine z8 (zn L (vs := [_, _]) (qe rfl) rfl rfl rfl rfl ⟨_, rfl⟩) rfl ?_; refine z8 (zo (r := .int .i64 4) L rfl rfl (zg rfl) rfl rfl rfl (fun u H hH hle _ => check_ret (t := ⟨2, [xF 12]⟩) rfl (hIf.le hle) hI.tz.q (Nat.le_trans hIn (by decide)) (x_chk 12 (by decide)) hH)) rfl ?_; refine Zs7 ?_; refine Zs40 ?_; refine Zs7 ?_; refine z8 (zn L (vs := [_, _]) (qe rfl) rfl rfl rfl rfl ⟨_, rfl⟩) rfl ?_; refine z8 (zn L (vs := [_, _, _, _, _, _]) (qe rfl) rfl rfl rfl rfl ⟨_, rfl⟩) rfl ?_; refine Zs38 ?_; refine z8 (StepOK.seeV (zj L (qy rfl (List.Mem.tail _ (List.Mem.head _))) rfl rfl rfl rfl) (by assumption)) rfl ?_; refine z8 (qb L _ rfl rfl rfl rfl rfl rfl rfl (by first | omega | decide) (by assumption)) rfl ?_; refine z8 (y5 L (vs := [_, _, _, _, _]) rfl rfl rfl rfl rfl ⟨_, rfl⟩) rfl ?_; refine z8 (qt (cs := [_, _, _, _, _, _, _, _]) rfl rfl pl35 rfl rfl) rfl ?_; refine z8 (zo L rfl rfl (zg rfl) rfl rfl rfl (fun u H hH hle _ => join_law (q := qS 1) (x := gI) (qS_z 1) (by decide) (hI.le hle) hH)) rfl ?_; refine Zs47 ?_; refine Zs28 ?_; refine qk ?_; refine zf ?_; refine zm rfl ?_; refine zt ?_; refine qm ?_; refine zf ?_; refine zb (id := 39) ?_; refine Zs1 ?_; refine Zs13 ?_; refine Zs2 ?_; refine zd ?_
      refine N_drop (List.sublist_cons_self ..) ?_
      exact N_roundS (x := 12) (13) (s274.trans s324) (by decide) (by decide) ⟨rfl, rfl, rfl, rfl, trivial⟩
    · refine zb (id := 45) ?_; refine Zs9 ?_; refine Zs2 ?_; refine zd ?_; refine zf ?_; refine zm rfl ?_; refine ze ?_; refine zb (id := 47) ?_; refine Zs9 ?_; refine Zs2 ?_; refine zd ?_; refine zf ?_; refine zm rfl ?_; refine ze ?_; refine zb (id := 49) ?_; refine Zs9 ?_; refine Zs2 ?_; refine zd ?_; refine zf ?_; refine zm rfl ?_; refine ze ?_; refine zb (id := 51) ?_; refine Zs9 ?_; refine Zs2 ?_; refine zd ?_; refine zf ?_; refine zm rfl ?_; refine ze ?_; refine zb (id := 53) ?_; refine Zs9 ?_; refine Zs2 ?_; refine zd ?_; refine zf ?_; refine zm rfl ?_; refine ze ?_; refine zb (id := 55) ?_; refine Zs9 ?_; refine Zs2 ?_; refine zd ?_; refine zf ?_; refine zm rfl ?_; refine ze ?_; refine zb (id := 57) ?_; refine Zs9 ?_; refine Zs2 ?_; refine zd ?_; refine zf ?_; refine zm rfl ?_; refine ze ?_; refine zb (id := 60) ?_; refine Zs9 ?_; refine Zs2 ?_; refine zd ?_; refine zf ?_; refine zm rfl ?_; refine ze ?_; refine zb (id := 63) ?_; refine Zs9 ?_; refine Zs2 ?_; refine zd ?_; refine zf ?_; refine zm rfl ?_; refine ze ?_; refine zb (id := 66) ?_; refine Zs9 ?_; refine Zs2 ?_; refine zd ?_; refine zf ?_; refine zm rfl ?_; refine ze ?_; refine zb (id := 69) ?_; refine Zs9 ?_; refine Zs2 ?_; refine zd ?_; refine zf ?_; refine zm rfl ?_; refine ze ?_; refine zb (id := 71) ?_; refine Zs9 ?_; refine Zs2 ?_; refine zd ?_; refine zf ?_; refine zm rfl ?_; refine ze ?_; refine zb (id := 73) ?_; refine Zs9 ?_; refine Zs2 ?_; refine zd ?_; refine zf ?_; refine zm rfl ?_; refine zb (id := 44) ?_; refine Zs2 ?_; refine zd ?_; refine qm ?_; refine zf ?_; refine ze ?_
      refine zb (id := 75) ?_; refine z7 (zn L (vs := [_, _, _, _, _, _, _, _, _, _, _, _, _, _]) (qy rfl (List.Mem.head _)) rfl rfl rfl rfl ⟨_, rfl⟩) rfl ?_; refine Zs25 ?_; (refine vo_opn 324 rfl fun v324 H324 s324 ⟨bf, e324, hbf⟩ => ?_; subst e324); refine z7 (qt (cs := [_, _]) rfl rfl pl24 rfl rfl) rfl ?_; refine Zs24 ?_; refine Zs14 ?_; refine zd ?_; refine zf ?_; refine ze ?_
      have hI : TbI H324 ⟨2, [xF 13]⟩ (.slice (some ⟨bf, 0, none⟩) 1 1) [(xF 13, (.slice (some ⟨bx1, 0, none⟩) 1 1))] := x_tb (by decide) (hxs.le s324.le) ⟨bf, rfl, hbf⟩
      obtain ⟨hIf, hIn⟩ := hI.fsb (by simp)
      have hgs5 := hgs4.le s324.le
      refine zz (id := 76) [] mixed (by kernel_rfl) ?_; refine z8 (zn L (vs := [_, _]) (qe rfl) rfl rfl rfl rfl ⟨_, rfl⟩) rfl ?_; refine z8 (zo (r := .int .i64 0) L rfl rfl (zg rfl) rfl rfl rfl (fun u H hH hle _ => check_ret (t := ⟨2, [xF 13]⟩) rfl (hIf.le hle) hI.tz.q (Nat.le_trans hIn (by decide)) (x_chk 13 (by decide)) hH)) rfl ?_; refine Zs7 ?_; refine Zs40 ?_; refine Zs7 ?_; refine z8 (zn L (vs := [_, _]) (qe rfl) rfl rfl rfl rfl ⟨_, rfl⟩) rfl ?_; refine z8 (zn L (vs := [_, _, _, _, _, _]) (qe rfl) rfl rfl rfl rfl ⟨_, rfl⟩) rfl ?_; refine Zs38 ?_; refine z8 (StepOK.seeV (zj L (qy rfl (List.Mem.tail _ (List.Mem.head _))) rfl rfl rfl rfl) (by assumption)) rfl ?_; refine z8 (qb L _ rfl rfl rfl rfl rfl rfl rfl (by first | omega | decide) (by assumption)) rfl ?_; refine z8 (y5 L (vs := [_, _, _, _, _]) rfl rfl rfl rfl rfl ⟨_, rfl⟩) rfl ?_; refine z8 (qt (cs := [_, _, _, _, _, _, _, _]) rfl rfl pl35 rfl rfl) rfl ?_; refine z8 (zo L rfl rfl (zg rfl) rfl rfl rfl (fun u H hH hle _ => join_law (q := qS 1) (x := gI) (qS_z 1) (by decide) (hI.le hle) hH)) rfl ?_; refine Zs47 ?_; refine Zs28 ?_; refine qk ?_; refine zf ?_; refine zm rfl ?_; refine zt ?_; refine qm ?_; refine zf ?_; refine zb (id := 39) ?_; refine Zs1 ?_; refine Zs13 ?_; refine Zs2 ?_; refine zd ?_
      refine N_drop (List.sublist_cons_self ..) ?_
      exact N_roundS (x := 13) (14) (s274.trans s324) (by decide) (by decide) ⟨rfl, rfl, rfl, rfl, trivial⟩
  · obtain rfl : i = 14 := by omega
    refine ze ?_; refine ze ?_; refine zb (id := 38) ?_; refine Zs1 ?_; refine Zs8 ?_; refine zd ?_; refine zf ?_; refine zm rfl ?_; refine y7 ?_; refine qg ?_; refine qg ?_; refine y6 ?_; refine zf ?_; refine ze ?_; refine zb (id := 78) ?_; refine z7 (zn L (vs := [_, _, _, _, _, _, _, _, _, _, _, _, _, _]) (qy rfl (List.Mem.head _)) rfl rfl rfl rfl ⟨_, rfl⟩) rfl ?_; refine z7 (zn L (vs := [_, _, _, _, _, _, _, _, _, _, _, _, _, _]) (qy rfl (List.Mem.head _)) rfl rfl rfl rfl ⟨_, rfl⟩) rfl ?_; refine z7 (ok_buildSliceN L rfl rfl rfl rfl rfl rfl rfl rfl rfl) rfl ?_; (refine vo_opn 343 rfl fun v343 H343 s343 ⟨bt, e343, hbt, hnt⟩ => ?_; subst e343); refine z7 (qt (cs := [_, _]) rfl rfl pl24 rfl rfl) rfl ?_; refine Zs24 ?_; refine Zs14 ?_; refine zd ?_; refine zf ?_; refine ze ?_
    refine V_box 24 rfl fun b24 _ => ?_
    have hgt := hgs.le s343.le
    have hnb : bt ≠ bg := fun e => by subst e; rw [hbg] at hnt; cases hnt
    have hit : itsN [gF, gF] = 2 ∧ itsN [gF, { gF with id := 3 }] = 2 ∧ itsN [gF, { gF with id := 3, rv := 2 }] = 2 := by decide
    have hqz : ∀ f ∈ [gF, gF], QuZ f.q := fun f hf => by simp only [List.mem_cons, List.mem_nil_iff, or_false, or_self] at hf; rw [hf]; exact qS_z 0
    have hqz2 : ∀ f ∈ [gF, { gF with id := 3 }], QuZ f.q := fun f hf => by simp only [List.mem_cons, List.mem_nil_iff, or_false] at hf; rcases hf with rfl | rfl <;> exact qS_z 0
    have hqz3 : ∀ f ∈ [gF, { gF with id := 3, rv := 2 }], QuZ f.q := fun f hf => by simp only [List.mem_cons, List.mem_nil_iff, or_false] at hf; rcases hf with rfl | rfl <;> exact qS_z 0
    have hf1 := two_fs (f := gF) (g := gF) hbt hgt hgt (by decide) (by decide)
    refine zb (id := 79) ?_; refine z7 (zn L (vs := [_, _]) (qy rfl (List.Mem.head _)) rfl rfl rfl rfl ⟨_, rfl⟩) rfl ?_; refine z7 (zo (r := .int .i64 18) L rfl rfl (zg rfl) rfl rfl rfl (fun u H hH hle _ => check_ret (t := ⟨9, [gF, gF]⟩) rfl (hf1.le hle) hqz (Nat.le_trans (Nat.le_of_eq (hit.1)) (by decide)) two_chk.1 hH)) rfl ?_; refine Zs2 ?_; refine zd ?_; refine zf ?_; refine ze ?_
    refine V_unpub (B0 := H263) (κ1 := ofL [(4, .is (.int .i64 18)), (24, .is (.pointer (some ⟨b24, 0, none⟩)))]) 900 [(bt, _, tyF)] s343 (fun y hy => by rw [List.mem_singleton.1 hy]; exact ⟨hbt, hnt⟩) (hfree_of ⟨rfl, rfl, trivial⟩ (by intro p hp; simp only [List.mem_cons, List.mem_nil_iff, or_false] at hp; rcases hp with rfl | rfl <;> trivial)) ?_
    refine V_splitL 900 901 (by decide) (S := []) (fun y hy => by cases hy) rfl ?_
    refine zb (id := 80) ?_; refine Zs19 ?_; refine z7 (zj L (qy rfl (List.Mem.head _)) rfl rfl rfl rfl) rfl ?_; refine z7 (zp L 1 rfl rfl rfl rfl rfl rfl rfl (by decide)) rfl ?_; refine Zs19 ?_; refine vo_stepS (y2 L (q := 901) rfl rfl rfl rfl rfl rfl rfl rfl rfl) ?_; refine zd ?_; refine zf ?_; refine ze ?_
    refine V_pubH 901 rfl fun H80 s80 hn80 hb80 => ?_
    have hg80 := (hgs.le (Heap.le_off s343.le fun y hy => by rw [List.mem_singleton.1 hy]; exact hnt)).le s80.le
    have hf2 := two_fs (f := gF) (g := { gF with id := 3 }) hb80 hg80 hg80 (by decide) (by decide)
    refine zb (id := 81) ?_; refine z7 (zn L (vs := [_, _]) (qy rfl (List.Mem.head _)) rfl rfl rfl rfl ⟨_, rfl⟩) rfl ?_; refine z7 (zo (r := .int .i64 7) L rfl rfl (zg rfl) rfl rfl rfl (fun u H hH hle _ => check_ret (t := ⟨9, [gF, { gF with id := 3 }]⟩) rfl (hf2.le hle) hqz2 (Nat.le_trans (Nat.le_of_eq (hit.2.1)) (by decide)) two_chk.2.1 hH)) rfl ?_; refine Zs2 ?_; refine zd ?_; refine zf ?_; refine ze ?_
    have s80' : Since (Fr.pure w) H263 H80 := (since_off s343 fun y hy => by rw [List.mem_singleton.1 hy]; exact hnt).trans s80
    refine V_unpub (B0 := H263) (κ1 := ofL [(4, .is (.int .i64 18)), (7, .is (.int .i64 7)), (24, .is (.pointer (some ⟨b24, 0, none⟩)))]) 900 [(bt, _, tyF)] s80' (fun y hy => by rw [List.mem_singleton.1 hy]; exact ⟨hb80, hnt⟩) (hfree_of ⟨rfl, rfl, rfl, trivial⟩ (by intro p hp; simp only [List.mem_cons, List.mem_nil_iff, or_false] at hp; rcases hp with rfl | rfl | rfl <;> trivial)) ?_
    refine V_splitL 900 901 (by decide) (S := []) (fun y hy => by cases hy) rfl ?_
    refine zb (id := 82) ?_; refine Zs19 ?_; refine z7 (zj L (qy rfl (List.Mem.head _)) rfl rfl rfl rfl) rfl ?_; refine z7 (zp L 1 rfl rfl rfl rfl rfl rfl rfl (by decide)) rfl ?_; refine Zs19 ?_; refine vo_stepS (y2 L (q := 901) rfl rfl rfl rfl rfl rfl rfl rfl rfl) ?_; refine zd ?_; refine zf ?_; refine ze ?_
    refine V_pubH 901 rfl fun H82 s82 hn82 hb82 => ?_
    have hg82 := (hgs.le (Heap.le_off s80'.le fun y hy => by rw [List.mem_singleton.1 hy]; exact hnt)).le s82.le
    have hf3 := two_fs (f := gF) (g := { gF with id := 3, rv := 2 }) hb82 hg82 hg82 (by decide) (by decide)
    refine zb (id := 83) ?_; refine z7 (zn L (vs := [_, _]) (qy rfl (List.Mem.head _)) rfl rfl rfl rfl ⟨_, rfl⟩) rfl ?_; refine z7 (zo (r := .int .i64 0) L rfl rfl (zg rfl) rfl rfl rfl (fun u H hH hle _ => check_ret (t := ⟨9, [gF, { gF with id := 3, rv := 2 }]⟩) rfl (hf3.le hle) hqz3 (Nat.le_trans (Nat.le_of_eq (hit.2.2)) (by decide)) two_chk.2.2 hH)) rfl ?_; refine Zs2 ?_; refine zd ?_; refine zf ?_; refine ze ?_; refine zb (id := 84) ?_; refine Zs1 ?_; refine Zs15 ?_; refine Zs1 ?_; refine Zs1 ?_; refine Zs15 ?_; refine Zs6 ?_; refine Zs1 ?_; refine Zs1 ?_; refine Zs15 ?_; refine Zs6 ?_; refine Zs1 ?_; refine z7 (zo L rfl rfl (zg rfl) rfl rfl rfl (fun u H hH hle _ => play_law (ops := []) (fun o h => by cases h) SlV.nil hH)) rfl ?_; refine Zs6 ?_; refine Zs1 ?_; refine z7 (zo L rfl rfl (zg rfl) rfl rfl rfl (fun u H hH _ _ => lives_law hH)) rfl ?_; refine Zs6 ?_; refine Zs2 ?_; refine zd ?_; refine zf ?_
    refine qn L (rs := [.tmp 0]) rfl (fun _ _ h => h) (hS263.trans ((since_off s80' fun y hy => by rw [List.mem_singleton.1 hy]; exact hnt).trans s82)) fun u H hH hle => ?_
    rfl
end Go.V.L39
namespace Go.V
open Go.RowKit
inductive LeafK where
  | s
  | b
  | i (k : IntKind)
def LeafOK : LeafK → Value → Prop
  | .s, v => ∃ a : ByteArray, v = .string a ∧ a.size ≤ maxLen
  | .b, v => ∃ c, v = .bool c
  | .i k, v => ∃ n, v = .int k n ∧ (Lit.int k n).wf = true
def LeafsOK : List LeafK → List Value → Prop
  | [], [] => True
  | l :: ls, v :: vs => LeafOK l v ∧ LeafsOK ls vs
  | _, _ => False
theorem LeafsOK.append : ∀ {a b : List LeafK} {x y : List Value}, LeafsOK a x → LeafsOK b y → LeafsOK (a ++ b) (x ++ y)
  | [], _, [], _, _, h => h
  | [], _, _ :: _, _, h, _ => h.elim
  | _ :: _, _, [], _, h, _ => h.elim
  | _ :: _, _, _ :: _, _, h, k => ⟨h.1, LeafsOK.append h.2 k⟩
theorem LeafsOK.length : ∀ {a : List LeafK} {x : List Value}, LeafsOK a x → x.length = a.length
  | [], [], _ => rfl
  | [], _ :: _, h => h.elim
  | _ :: _, [], h => h.elim
  | _ :: _, _ :: _, h => by simp [LeafsOK.length h.2]
section
variable {P : Program} {H : Type} {enc : TypeId × Value → H} {W : World} {sp : Nat → Bool} {held : Bool} {base : Nat}
end
end Go.V
namespace Go.Proofs.Ytfihdmobfmkclaa.flightsKnown
open Go.ChangeShapes Go.WideShapes Go.ChangeAt Go.ChangeMaps Go.RowKit Go.V
theorem own : ownKnob Try.prog.godebug = none := by kernel_rfl
theorem laidOut : laidOutB Try.prog = true := by kernel_rfl
set_option maxRecDepth 100000 in
theorem lifted (os : Os) (started : os.Started) (H : Type) (enc : TypeId × Value → H) :
    ReturnsInHanded {} Try.checked os 7 .any (Rows.flightsKnownSpec.pre6 enc Try.prog Try.f7 Rows.flightsKnownRow.domain false) (Rows.flightsKnownSpec.post enc Try.prog Try.f7 false true false false) := by
  refine returnsInHanded_of_change_shaped (C := Try.checked) own started (by kernel_rfl) Try.func7
    (ChangeSpec.witness6 (enc := enc) (C := Try.checked) false ⟨#[], #[], []⟩ 8 (by kernel_rfl) (by kernel_rfl) (by kernel_rfl) (by kernel_rfl)) ?_
  intro W base args ds gs before hval0 hW hcnd _ hsh _
  have hval : ∀ (j : Nat) t v, Try.f7.params[j]? = some t → args[j]? = some v → Value.okWide Try.prog W .any base t v := hval0
  have hW' := hW
  obtain ⟨p, q, hA0, hV, rfl, hfz, hnd⟩ := hW
  have hA : DataW.TrodAll enc Try.prog W 0 (fun _ => true) true Try.f7.params.toList args.toList ds p := hA0
  rw [Try.params7] at hA hval
  obtain ⟨rfl, rfl, rfl⟩ := trodAll_none hA
  obtain ⟨rfl, rfl⟩ := trodVars_none hV
  clear hA0 hval0
  have hplc := hW'.lt
  simp only [List.append_nil] at hW'
  have hlaw := Go.V.L39.known_law (w := W) (B := hp W) (Heap.Le.refl _)
  unfold Ret at hlaw
  refine hlaw.mono fun e W' hp => ?_
  obtain ⟨v, rfl, H', g, rfl⟩ := hp
  exact ⟨_, rfl, _, _, _, [], [], [], hW', trodAll_cons_mk (shut_bool Try.underlying4 _) trodAll_mk0, trodAll_mk0, rfl, g.below.frame _, fun h => by cases h⟩
theorem proved : Rows.FlightsKnownSaid :=
  OpenClaim.holds_of_wide 7 Try.f7 rfl rfl rfl rfl rfl rfl rfl ⟨rfl, rfl, rfl, rfl, rfl⟩ rfl rfl rfl rfl rfl (by kernel_rfl) Try.func7 (by kernel_rfl)
    (of_decide_eq_true (by kernel_rfl)) (by unfold Func.isWrapper; first | (rw [if_pos (by decide +kernel)]; kernel_rfl) | (rw [if_neg (by decide +kernel)]; exact ⟨rfl, rfl⟩))
    (fun os started H enc _ => lifted os started H enc)
#print axioms proved
end Go.Proofs.Ytfihdmobfmkclaa.flightsKnown
