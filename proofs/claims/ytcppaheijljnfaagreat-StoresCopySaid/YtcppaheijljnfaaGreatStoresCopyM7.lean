/- StoresCopy returns true for every input, and leaves it as it was: no condition. -/
import Derived.Test.YtcppaheijljnfaaGreatStoresCopyM6
import Derived.ProofKit
import Derived.HandedShaped
import Derived.OpenShut
import Derived.Carry
import Derived.Deep.Slices
import Derived.SizedLaws
import Derived.Test.YtcppaheijljnfaaGreatRows
set_option linter.unusedVariables false
set_option linter.unusedSimpArgs false
set_option maxRecDepth 20000
namespace Go.V.L10
open Go.Proofs Go.RowKit Go.V Go.V.L2 Go.V.L8 Go.V.L6
theorem zmc {S:Sto} {b:Nat} {r:Int} (hn:S.R.length ≠ 0) {w:World} {B:Heap} {C:Nat → Prop} (hB:B.Le (hp w)) (hr:(StG b S).P B w C) (hC:∀ k, C k → k < w.heap.size ∧ B k = none) :
  RetY Tryz.prog 13 [zdg b, .int .u64 r] w B C (StG b S) (WithP (atS S r).1 (atS S r).2) :=
 RetY.ex hr fun _ ⟨hm, hes, _⟩ hr => zfz hm hn hes hB hr hC
theorem zua {S:Sto} {b:Nat} (hn:S.R.length ≠ 0) (hz:(za1 S.R).length ≤ 100000) {w:World} {B:Heap} {C:Nat → Prop} (hB:B.Le (hp w)) (hr:(StG b S).P B w C) (hC:∀ k, C k → k < w.heap.size ∧ B k = none) :
  RetY Tryz.prog 12 [zdg b] w B C (StG b S) (RsV (za1 S.R) true) :=
 RetY.ex hr fun _ ⟨hm, _, _⟩ hr => (zfh hm hn (by rw [hm.len]; exact hz) hB hr hC).pubY zet
attribute [local irreducible] V N X VO Par StepOK Has Ret RetL RetO RetT zce zd7 RetY Src
abbrev s1:Sto:=⟨[some [], some [d0]], []⟩
abbrev s2:Sto:=⟨[some [], some [d0], some [d2]], []⟩
abbrev s3:Sto:=⟨[some [], some [d0], some [d2]], [2]⟩
abbrev s4:Sto:=⟨[none, some [d0], some [d2]], [2]⟩
abbrev s5:Sto:=⟨[none, some [d0], some [d2], some [d2]], [2]⟩
abbrev s6:Sto:=⟨[none, some [d0], some [d2], some [d2]], []⟩
abbrev s7:Sto:=⟨[none, none, none, some [d2]], []⟩
theorem z3i:ze0 newS [] [(d0, false)] = (s1, 2, 0):=by kernel_rfl
theorem z3h:ze0 s1 [(d0, false)] [(d2, false), (d0, true)] = (s2, 3, 0):=by kernel_rfl
theorem z5b:ze0 s2 [(d0, false)] [] = (s2, 0, 13):=by kernel_rfl
theorem z5f:atS s2 2 = ([d0], 0):=by kernel_rfl
theorem z5h:atS s2 0 = ([d2], 0):=by kernel_rfl
theorem z5e:atS s2 4 = ([], 14):=by kernel_rfl
theorem z58:zn9 s2 2 false = (s3, 0):=by kernel_rfl
theorem z3l:zdp s3 1 = (s4, [1], 0):=by kernel_rfl
theorem z6n:za1 s4.R = [2, 3]:=by kernel_rfl
theorem z5g:atS s4 1 = ([], 14):=by kernel_rfl
theorem z3g:ze0 s4 [] [] = (s5, 4, 0):=by kernel_rfl
theorem z3j:zn9 s5 2 true = (s6, 0):=by kernel_rfl
theorem z5c:zn9 s6 2 true = (s6, 8):=by kernel_rfl
theorem z3k:zdp s6 1 = (s7, [2, 3], 0):=by kernel_rfl
theorem z6o:zro s7 4 0 = ([], 0):=by kernel_rfl
theorem z5d:zdp s7 0 = (s7, [], 4):=by kernel_rfl
theorem z6m:zn9 s7 0 false = (s7, 14):=by kernel_rfl
theorem z5i {n:Nat} {S S':Sto} {l cs:List CH} {r e:Int} (h:JJ n S) (hn:n ≤ 100) (hc:∀ c ∈ cs, TZ c.1 ∧ tE c.1 = 0) (hl:cs.length ≤ 30) (hw:ze0 S l cs = (S', r, e)):JJ (n + 1) S':=by
 have h1:=zre h hn (l:=l) hc hl
 rw [hw] at h1
 exact h1
theorem z59 {n:Nat} {S S':Sto} {r e:Int} {un:Bool} (h:JJ n S) (hw:zn9 S r un = (S', e)):JJ (n + 1) S':=by
 have h1:=zv1 h r un
 rw [hw] at h1
 exact h1
theorem z6a {n:Nat} {S S':Sto} {k e:Int} {g:List Int} (h:JJ n S) (hw:zdp S k = (S', g, e)):JJ (n + 1) S':=by
 have h1:=zv3 h k
 rw [hw] at h1
 exact h1
set_option maxHeartbeats 8000000 in
set_option maxRecDepth 20000 in
theorem zg5 {w:World} {B:Heap} (hB:B.Le (hp w)):Ret Tryz.prog 17 [] w B (fun v _ => v = .bool true):=by
 have p0:ptA ⟨#[100, 111, 99, 58, 97, 35, 118, 105, 101, 119, 101, 114, 64, 117, 115, 101, 114, 58, 120]⟩ = (d0, 0):=by decide +kernel
 have p2:ptA ⟨#[100, 111, 99, 58, 98, 35, 118, 105, 101, 119, 101, 114, 64, 117, 115, 101, 114, 58, 120]⟩ = (d2, 0):=by decide +kernel
 have z0:TZ d0:=zzi (by decide)
 have z2:TZ d2:=zzi (by decide)
 have m0:=z0j z0
 have m2:=z0j z2
 have e0:tE d0 = 0:=by decide +kernel
 have e2:tE d2 = 0:=by decide +kernel
 have all:∀ l:List CH, (∀ c ∈ l, c.1 = d0 ∨ c.1 = d2) → ∀ c ∈ l, TM c.1:=fun l h c hc => by
  rcases h c hc with e | e
  ·rw [e]; exact m0
  ·rw [e]; exact m2
 have ok:∀ l:List CH, (∀ c ∈ l, c.1 = d0 ∨ c.1 = d2) → ∀ c ∈ l, TZ c.1 ∧ tE c.1 = 0:=fun l h c hc => by
  rcases h c hc with e | e
  ·rw [e]; exact ⟨z0, e0⟩
  ·rw [e]; exact ⟨z2, e2⟩
 have j0:=zv2
 have j1:=z5i j0 (by decide) (ok _ (by simp)) (by decide) z3i
 have j2:=z5i j1 (by decide) (ok _ (by simp)) (by decide) z3h
 have j3:=z59 j2 z58
 have j4:=z6a j3 z3l
 have j5:=z5i j4 (by decide) (ok _ (by simp)) (by decide) z3g
 have j6:=z59 j5 z3j
 have j7:=z6a j6 z3k
 have k1:Kn.mono (.sat (RsV [1] true)):=SlV.mono
 have k2:Kn.mono (.sat (RsV [2, 3] true)):=SlV.mono
 have k3:Kn.mono (.sat (RsV [] true)):=SlV.mono
 have k4:Kn.mono (.sat (KS tyC [] true)):=SlV.mono
 refine yg Tryz.func17 rfl Tryz.ntmps17 (Nat.le_of_ble_eq_true rfl) hB ?_
 refine Z194 ?_; refine z7 (zp L rfl rfl (zk rfl) rfl rfl rfl (fun u H hH _ _ => zj1 p0 (Nat.le_of_ble_eq_true rfl) hH)) rfl ?_; refine Z183 ?_; refine Z210 ?_; refine Z151 ?_; refine Z32 ?_; refine z7 (zp L rfl rfl (zk rfl) rfl rfl rfl (fun u H hH _ _ => zj1 p2 (Nat.le_of_ble_eq_true rfl) hH)) rfl ?_; refine Z183 ?_; refine Z210 ?_; refine Z151 ?_; refine Z29 ?_; refine z7 (qd L (vs:=[_, _, _, _, _, _]) (ym rfl) rfl rfl rfl rfl ⟨_, rfl⟩) rfl ?_; refine z7 (yx (cs:=[_, _, _, _, _, _, _]) rfl rfl z2y rfl rfl) rfl ?_; refine Z39 ?_; refine Z412 ?_; refine Z31 ?_; refine z7 (zeq L rfl rfl (zk rfl) rfl rfl rfl (fun u H hH hle _ => zqq hH)) rfl ?_; refine qq (yo (.inr rfl) rfl rfl rfl rfl) ?_; refine Z166 ?_
 refine zgq 6 900 rfl fun b => ?_
 refine Z188 ?_; refine z7 (qd L (vs:=[_, _, _, _, _, _]) (ym rfl) rfl rfl rfl rfl ⟨_, rfl⟩) rfl ?_; refine z7 (yx (cs:=[_, _, _, _, _, _, _]) rfl rfl zpm rfl rfl) rfl ?_; refine Z39 ?_; refine qq (zai L 900 (StG b s1) (.tuple #[.int .u64 2, .int .i64 0]) (r:=StG b newS) rfl rfl rfl rfl rfl (fun u H2 C2 hH hle hr2 hC2 v1 h1 => zdw (ze2 (l:=[]) (cs:=[(d0, false)]) (j0.I (by decide)) (by decide) j0.ne (all _ (by simp)) (all _ (by simp)) (by decide) (by decide) z3i hH (SlV.nil (fu:=false)) (h1.toV (n:=1) rfl) hr2 hC2))) ?_; refine Z250 ?_
 refine Z198 ?_; refine Z5 ?_; refine z7 (qd L (vs:=[_, _, _, _, _, _]) (ym rfl) rfl rfl rfl rfl ⟨_, rfl⟩) rfl ?_; refine z7 (yx (cs:=[_, _, _, _, _, _, _]) rfl rfl zpm rfl rfl) rfl ?_; refine z7 (qd L (vs:=[_, _, _, _, _, _]) (ym rfl) rfl rfl rfl rfl ⟨_, rfl⟩) rfl ?_; refine z7 (yx (cs:=[_, _, _, _, _, _, _]) rfl rfl zpm rfl rfl) rfl ?_; refine Z39 ?_; refine qq (zai L 900 (StG b s2) (.tuple #[.int .u64 3, .int .i64 0]) (r:=StG b s1) rfl rfl rfl rfl rfl (fun u H2 C2 hH hle hr2 hC2 v1 h1 v2 h2 => zdw (ze2 (l:=[(d0, false)]) (cs:=[(d2, false), (d0, true)]) (j1.I (by decide)) (by decide) j1.ne (all _ (by simp)) (all _ (by simp)) (by decide) (by decide) z3h hH (h1.toV (n:=1) rfl) (h2.toV (n:=2) rfl) hr2 hC2))) ?_; refine Z250 ?_
 refine Z204 ?_; refine Z5 ?_; refine qq (zai L 900 (StG b s2) (.tuple #[.int .u64 0, .int .i64 13]) (r:=StG b s2) rfl rfl rfl rfl rfl (fun u H2 C2 hH hle hr2 hC2 v1 h1 => zdw (ze2 (l:=[(d0, false)]) (cs:=[]) (j2.I (by decide)) (by decide) j2.ne (all _ (by simp)) (all _ (by simp)) (by decide) (by decide) z5b hH (h1.toV (n:=1) rfl) (SlV.nil (fu:=false)) hr2 hC2))) ?_; refine Z250 ?_
 refine Z233 ?_; refine yt (zbm L 900 (WithP [d0] 0) (r:=StG b s2) rfl rfl rfl rfl rfl WithP.mono (fun u H2 C2 hH hle hr2 hC2 => by have h:=zmc (r:=2) j2.ne hH hr2 hC2; rw [z5f] at h; exact h)) ?_; refine zbx 62 rfl fun vx Kx hx hpx => ?_; obtain ⟨svx, rfl, hsvx⟩:=hpx; obtain ⟨fx, px, gx, qx, rfl, hplx⟩:=hsvx.shape; refine Z315 ?_; refine Z151 ?_; refine Z60 ?_; refine Z1 ?_; refine yt (zbm L 900 (WithP [d2] 0) (r:=StG b s2) rfl rfl rfl rfl rfl WithP.mono (fun u H2 C2 hH hle hr2 hC2 => by have h:=zmc (r:=0) j2.ne hH hr2 hC2; rw [z5h] at h; exact h)) ?_; refine zbx 67 rfl fun vy Ky hy hpy => ?_; obtain ⟨svy, rfl, hsvy⟩:=hpy; obtain ⟨fy, py, gy, qy, rfl, hply⟩:=hsvy.shape; refine Z315 ?_; refine Z151 ?_; refine Z292 ?_; refine yt (zbm L 900 (WithP [] 14) (r:=StG b s2) rfl rfl rfl rfl rfl WithP.mono (fun u H2 C2 hH hle hr2 hC2 => by have h:=zmc (r:=4) j2.ne hH hr2 hC2; rw [z5e] at h; exact h)) ?_; refine zbx 72 rfl fun vz Kz hz hpz => ?_; obtain ⟨svz, rfl, hsvz⟩:=hpz; obtain ⟨fz, pz, gz, qz, rfl, hplz⟩:=hsvz.shape; refine Z315 ?_; refine Z155 ?_
 have hsvx2:=hsvx.le (hy.le.trans hz.le)
 have hsvy2:=hsvy.le hz.le
 refine Z67 ?_; refine Z300 ?_; refine Z414 ?_; refine Z414 ?_; refine Z24 ?_; refine Z148 ?_; refine Z24 ?_; refine Z242 ?_; refine Z24 ?_; refine Z242 ?_; refine Z24 ?_; refine Z8 ?_; refine Z1 ?_; refine z7 (qd L (vs:=[_, _, _, _]) (ym rfl) rfl rfl rfl rfl ⟨_, rfl⟩) rfl ?_; refine z7 (zp L rfl rfl (zk rfl) rfl rfl rfl (fun u H hH hle _ => zd1 (n:=1) rfl hH (hsvx2.le hle))) rfl ?_; refine Z24 ?_; refine Z8 ?_; refine Z1 ?_; refine z7 (qd L (vs:=[_, _, _, _]) (ym rfl) rfl rfl rfl rfl ⟨_, rfl⟩) rfl ?_; refine z7 (qd L (vs:=[_, _, _, _, _, _]) (ym rfl) rfl rfl rfl rfl ⟨_, rfl⟩) rfl ?_; refine z7 (zp L rfl rfl (zk rfl) rfl rfl rfl (fun u H hH hle _ => zc3 (b:=true) (by decide) hH (hsvx2.le hle))) rfl ?_; refine Z325 ?_; refine Z1 ?_; refine z7 (qd L (vs:=[_, _, _, _]) (ym rfl) rfl rfl rfl rfl ⟨_, rfl⟩) rfl ?_; refine z7 (zp L rfl rfl (zk rfl) rfl rfl rfl (fun u H hH hle _ => zd1 (n:=1) rfl hH (hsvy2.le hle))) rfl ?_; refine Z24 ?_; refine Z8 ?_; refine Z1 ?_; refine z7 (qd L (vs:=[_, _, _, _]) (ym rfl) rfl rfl rfl rfl ⟨_, rfl⟩) rfl ?_; refine z7 (qd L (vs:=[_, _, _, _, _, _]) (ym rfl) rfl rfl rfl rfl ⟨_, rfl⟩) rfl ?_; refine z7 (zp L rfl rfl (zk rfl) rfl rfl rfl (fun u H hH hle _ => zc3 (b:=true) (by decide) hH (hsvy2.le hle))) rfl ?_; refine Z52 ?_; refine Z242 ?_; refine Z24 ?_; refine Z242 ?_; refine qq (zai L 900 (StG b s3) (.int .i64 0) (r:=StG b s2) rfl rfl rfl rfl rfl (fun u H2 C2 hH hle hr2 hC2 => zdw (zl9 j2.ne (by decide) z58 hH hr2 hC2))) ?_; refine Z24 ?_; refine Z8 ?_; refine Z169 ?_; refine Z324 ?_; refine qq (zhe L 900 (StG b s4) (zwy [1] 0) (r:=StG b s3) rfl rfl rfl rfl rfl (zf3 SlV.mono) (fun u H2 C2 hH hle hr2 hC2 => by have h:=zem (keep:=1) j3.ne (by decide) (by decide) hH hr2 hC2; rw [z3l] at h; exact h)) ?_; refine Z359 ?_; refine Z155 ?_
 refine Z280 ?_; refine Z24 ?_; refine Z1 ?_; refine Z5 ?_; refine Z39 ?_; refine z7 (zp L rfl rfl (zk rfl) rfl rfl rfl (fun u H hH hle _ v1 h1 v2 h2 => zdv (a:=[1]) (b:=[1]) (f:=true) (fb:=true) rfl (by decide) (by decide) hH h1 (h2.toV rfl))) rfl ?_; refine Z139 ?_; refine Z242 ?_; refine yt (zbm L 900 (RsV [2, 3] true) (r:=StG b s4) rfl rfl rfl rfl rfl SlV.mono (fun u H2 C2 hH hle hr2 hC2 => by have h:=zua j4.ne (by decide) hH hr2 hC2; rw [z6n] at h; exact h)) ?_; refine Z39 ?_; refine z7 (zp L rfl rfl (zk rfl) rfl rfl rfl (fun u H hH hle _ v1 h1 v2 h2 => zdv (a:=[2, 3]) (b:=[2, 3]) (f:=true) (fb:=true) rfl (by decide) (by decide) hH h1 (h2.toV rfl))) rfl ?_; refine Z139 ?_; refine Z8 ?_; refine Z169 ?_; refine Z105 ?_; refine Z1 ?_; refine yt (zbm L 900 (WithP [] 14) (r:=StG b s4) rfl rfl rfl rfl rfl WithP.mono (fun u H2 C2 hH hle hr2 hC2 => by have h:=zmc (r:=1) j4.ne hH hr2 hC2; rw [z5g] at h; exact h)) ?_; refine zbx 148 rfl fun vw Kw hw hpw => ?_; obtain ⟨svw, rfl, hsvw⟩:=hpw; obtain ⟨fw, pw, gw, qw, rfl, hplw⟩:=hsvw.shape; refine Z183 ?_; refine Z151 ?_; refine Z115 ?_; refine Z1 ?_; refine qq (zai L 900 (StG b s5) (.tuple #[.int .u64 4, .int .i64 0]) (r:=StG b s4) rfl rfl rfl rfl rfl (fun u H2 C2 hH hle hr2 hC2 => zdw (ze2 (l:=[]) (cs:=[]) (j4.I (by decide)) (by decide) j4.ne (all _ (by simp)) (all _ (by simp)) (by decide) (by decide) z3g hH (SlV.nil (fu:=false)) (SlV.nil (fu:=false)) hr2 hC2))) ?_; refine Z250 ?_; refine Z304 ?_; refine qq (zai L 900 (StG b s6) (.int .i64 0) (r:=StG b s5) rfl rfl rfl rfl rfl (fun u H2 C2 hH hle hr2 hC2 => zdw (zhz j5.ne (by decide) z3j hH hr2 hC2))) ?_; refine Z151 ?_; refine Z127 ?_; refine Z1 ?_; refine qq (zai L 900 (StG b s6) (.int .i64 8) (r:=StG b s6) rfl rfl rfl rfl rfl (fun u H2 C2 hH hle hr2 hC2 => zdw (zhz j6.ne (by decide) z5c hH hr2 hC2))) ?_; refine Z151 ?_; refine Z101 ?_; refine Z1 ?_; refine qq (zhe L 900 (StG b s7) (zwy [2, 3] 0) (r:=StG b s6) rfl rfl rfl rfl rfl (zf3 SlV.mono) (fun u H2 C2 hH hle hr2 hC2 => by have h:=zem (keep:=1) j6.ne (by decide) (by decide) hH hr2 hC2; rw [z3k] at h; exact h)) ?_; refine Z359 ?_; refine Z151 ?_; refine Z416 ?_; refine yt (zbm L 900 (z6f [] 0) (r:=StG b s7) rfl rfl rfl rfl rfl (zf3 SlV.mono) (fun u H2 C2 hH hle hr2 hC2 => by have h:=zsc (p:=4) (q:=0) (j7.I (by decide)) j7.ne hH hr2 hC2; rw [z6o] at h; exact h)) ?_; refine Z359 ?_; refine Z317 ?_; refine Z1 ?_; refine qq (zhe L 900 (StG b s7) (zwy [] 4) (r:=StG b s7) rfl rfl rfl rfl rfl (zf3 SlV.mono) (fun u H2 C2 hH hle hr2 hC2 => by have h:=zem (keep:=0) j7.ne (by decide) (by decide) hH hr2 hC2; rw [z5d] at h; exact h)) ?_; refine Z359 ?_; refine Z151 ?_
 refine Z318 ?_; refine Z28 ?_; refine Z148 ?_; refine Z28 ?_; refine Z242 ?_; refine Z28 ?_; refine Z242 ?_; refine Z28 ?_; refine Z242 ?_; refine Z28 ?_; refine Z242 ?_; refine Z28 ?_; refine Z8 ?_; refine Z1 ?_; refine Z5 ?_; refine Z39 ?_; refine z7 (zp L rfl rfl (zk rfl) rfl rfl rfl (fun u H hH hle _ v1 h1 v2 h2 => zdv (a:=[2, 3]) (b:=[2, 3]) (f:=true) (fb:=true) rfl (by decide) (by decide) hH h1 (h2.toV rfl))) rfl ?_; refine Z139 ?_; refine Z242 ?_; refine Z28 ?_; refine Z8 ?_; refine Z356 ?_; refine Z139 ?_; refine Z242 ?_; refine Z28 ?_; refine Z242 ?_; refine qq (zai L 900 (StG b s7) (.int .i64 14) (r:=StG b s7) rfl rfl rfl rfl rfl (fun u H2 C2 hH hle hr2 hC2 => zdw (zl9 j7.ne (by decide) z6m hH hr2 hC2))) ?_; refine Z28 ?_; refine Z8 ?_; refine Z146 ?_
 refine yd L (rs:=[.tmp 0]) rfl (fun _ _ h => h) (hx.trans (hy.trans (hz.trans hw))) fun u H hH hle => ?_
 rfl
end Go.V.L10
set_option maxRecDepth 20000
namespace Go.V.L10
open Go.Proofs Go.RowKit Go.V Go.V.L2 Go.V.L8 Go.V.L6
abbrev ZO:=OO × Value × Value
def ooc (z:ZO):List Value:=[.int .u8 z.1.wh, z.2.1, z.2.2, .int .u8 z.1.rv, .int .i64 z.1.kp]
theorem z01 (z:ZO):(ooc z).length = 5:=rfl
def OzOK (zs:List ZO) (H:Heap):Prop:=∀ z ∈ zs, OOK z.1 ∧ PS3 z.1.ms false z.2.1 H ∧ PS3 z.1.cs false z.2.2 H
theorem OzOK.le {zs:List ZO} {H H':Heap} (h:OzOK zs H) (hle:H.Le H'):OzOK zs H':=fun z hz => ⟨(h z hz).1, (h z hz).2.1.le hle, (h z hz).2.2.le hle⟩
abbrev WsV (zs:List ZO):Value → Heap → Prop:=SlV z16 5 (zs.flatMap ooc) zs.length false
theorem z45 {zs:List ZO} {i:Nat} {z:ZO} (h:zs[i]? = some z):((zs.flatMap ooc).drop (i * 5)).take 5 = [.int .u8 z.1.wh, z.2.1, z.2.2, .int .u8 z.1.rv, .int .i64 z.1.kp]:=zdo z01 zs i z h
def zh4 (S:Sto) (zs:List ZO) (i:Nat):Sto:=(zs.take i).foldl (fun S z => doS S z.1) S
theorem zll {S:Sto} {zs:List ZO} {i:Nat} {z:ZO} (h:zs[i]? = some z):zh4 S zs (i + 1) = doS (zh4 S zs i) z.1:=by
 unfold zh4; rw [zbl h, List.foldl_append]; rfl
theorem zm0 {n:Nat} {S:Sto} {zs:List ZO} (h:JJ n S):∀ {i:Nat}, n + i ≤ 101 → JJ (n + i) (zh4 S zs i)
 | 0, _ => h
 | i + 1, hi => by
  have ih:=zm0 h (zs:=zs) (i:=i) (by omega)
  rcases Nat.lt_or_ge i zs.length with hl | hl
  ·obtain ⟨z, hz⟩:=zaf hl
   rw [zll hz]
   exact z5j ih (by omega) _
  ·have:zh4 S zs (i + 1) = zh4 S zs i:=by unfold zh4; rw [List.take_of_length_le hl, List.take_of_length_le (by omega)]
   rw [this]
   exact ih.mono (by omega)
def zmm (S:Sto) (zs:List ZO):Sto:=zh4 S zs (min zs.length 25)
theorem zpy {n:Nat} {S:Sto} {zs:List ZO} (h:JJ n S) (hn:n ≤ 75):JJ (n + 25) (zmm S zs):=(zm0 h (by omega)).mono (by omega)
attribute [local irreducible] V N X VO Par StepOK Has Ret RetL RetO RetT zce zd7 RetY Src
set_option maxHeartbeats 2000000 in
set_option maxRecDepth 20000 in
theorem zml {S:Sto} {n pb b:Nat} {zs:List ZO} (hj:JJ n S) (hn:n ≤ 75) {xv:Value} {w:World} {B:Heap} {C:Nat → Prop} (hB:B.Le (hp w)) (hx:WsV zs xv B) (ho:OzOK zs B) (hr:(BoG pb b S).P B w C) (hC:∀ k, C k → k < w.heap.size ∧ B k = none) :
  RetY Tryz.prog 11 [zdg pb, .agg #[xv]] w B C (BoG pb b (zmm S zs)) (fun v _ => v = .int .i64 1):=by
 obtain ⟨p, c, rfl⟩:=zaq hx
 unfold RetY
 refine zat 900 (BoG pb b S) Tryz.func11 rfl Tryz.ntmps11 (Nat.le_of_ble_eq_true rfl) hB hr hC ?_
 refine Z349 ?_; refine Z208 ?_
 refine zal (fun i:Nat => [(0, .is (zdg pb)), (3, .sat (At [.slice p zs.length c] 24 0)), (5, .is (.int .i64 i)), (900, .own (BoG pb b (zh4 S zs i)).res)]) (fun i => i ≤ zs.length ∧ i ≤ 25) (fun i => 25 - i) 0 ⟨Nat.zero_le _, Nat.zero_le _⟩ ⟨rfl, rfl, rfl, rfl, trivial⟩ ?_
 rintro i ⟨h1, h2⟩
 dsimp only at h1 h2 ⊢
 have hji:=zm0 hj (zs:=zs) (i:=i) (by omega)
 by_cases hl:i < zs.length
 ·by_cases h25:i < 25
  ·obtain ⟨z, hz⟩:=zaf hl
   obtain ⟨o, mv, cv⟩:=z
   have hoz:=ho _ (List.mem_of_getElem? hz)
   have hc:=z45 hz
   have hps:=zll (S:=S) hz
   have hwk:IntKind.i64.wrap ((i:Int) + 1) = ((i + 1:Nat):Int):=zaa (by omega) (by omega)
   refine Z298 ?_; refine Z283 ?_; refine Z332 ?_; refine Z7 ?_; refine Z258 ?_; refine Z178 ?_; refine Z173 ?_; refine Z225 ?_; refine Z1 ?_; refine z7 (qu L _ rfl rfl rfl rfl rfl rfl rfl (by first | omega | decide) (by assumption)) rfl ?_; refine z7 (yh L (vs:=[_, _, _, _, _]) rfl rfl rfl rfl rfl ⟨_, rfl⟩) rfl ?_; refine qq (zai L 900 (BoG pb b (doS (zh4 S zs i) o)) (.int .i64 1) (r:=BoG pb b (zh4 S zs i)) rfl rfl rfl rfl rfl (fun u H2 C2 hH hle hr2 hC2 => zdw (z3y hji (by omega) hoz.1 hH ⟨mv, cv, rfl, hoz.2.1.le hle, hoz.2.2.le hle⟩ hr2 hC2))) ?_; refine Z14 ?_; refine Z228 ?_; refine Z181 ?_; refine Z217 ?_
   exact yj (x:=i) (i + 1) ⟨hl, h25⟩ (by omega) ⟨rfl, rfl, rfl, by rw [hps]; rfl, trivial⟩
  ·obtain rfl:i = 25:=by omega
   refine Z298 ?_; refine Z283 ?_; refine Z7 ?_; refine Z281 ?_; refine Z8 ?_; refine Z328 ?_; refine Z43 ?_; refine Z146 ?_
   exact zbr L 900 (r:=BoG pb b (zh4 S zs 25)) (rs:=[.tmp 4]) rfl (fun _ _ h => h) Since.refl rfl (by unfold zmm; rw [Nat.min_eq_right (by omega)]) (fun H hle => rfl)
 ·obtain rfl:i = zs.length:=by omega
  refine Z298 ?_; refine Z283 ?_; refine Z10 ?_; refine Z193 ?_; refine Z8 ?_; refine Z328 ?_; refine Z43 ?_; refine Z146 ?_
  exact zbr L 900 (r:=BoG pb b (zh4 S zs zs.length)) (rs:=[.tmp 4]) rfl (fun _ _ h => h) Since.refl rfl (by unfold zmm; rw [Nat.min_eq_left (by omega)]) (fun H hle => rfl)
end Go.V.L10
set_option maxRecDepth 20000
namespace Go.V
open Go.RowKit
inductive zhu where
 | s
 | b
 | i (k:IntKind)
def z4k:zhu → Value → Prop
 | .s, v => ∃ a:ByteArray, v = .string a ∧ a.size ≤ maxLen
 | .b, v => ∃ c, v = .bool c
 | .i k, v => ∃ n, v = .int k n ∧ (Lit.int k n).wf = true
def LeafsOK:List zhu → List Value → Prop
 | [], [] => True
 | l :: ls, v :: vs => z4k l v ∧ LeafsOK ls vs
 | _, _ => False
theorem LeafsOK.append:∀ {a b:List zhu} {x y:List Value}, LeafsOK a x → LeafsOK b y → LeafsOK (a ++ b) (x ++ y)
 | [], _, [], _, _, h => h
 | [], _, _ :: _, _, h, _ => h.elim
 | _ :: _, _, [], _, h, _ => h.elim
 | _ :: _, _, _ :: _, _, h, k => ⟨h.1, LeafsOK.append h.2 k⟩
theorem LeafsOK.length:∀ {a:List zhu} {x:List Value}, LeafsOK a x → x.length = a.length
 | [], [], _ => rfl
 | [], _ :: _, h => h.elim
 | _ :: _, [], h => h.elim
 | _ :: _, _ :: _, h => by simp [LeafsOK.length h.2]
theorem zrc {k:IntKind} {ls:List zhu} {vs:List Value} (h:LeafsOK (.i k :: ls) vs):∃ n r, vs = .int k n :: r ∧ (Lit.int k n).wf = true ∧ LeafsOK ls r:=by
 cases vs with
 | nil => exact h.elim
 | cons v vs => obtain ⟨⟨a, rfl, ha⟩, h⟩:=h; exact ⟨a, vs, rfl, ha, h⟩
theorem zrb {vs:List Value} (h:LeafsOK [] vs):vs = []:=by
 cases vs with
 | nil => rfl
 | cons _ _ => exact h.elim
def zx6 (P:Program) (rec:TypeId → Option (List zhu)):List Field → Nat → Option (List zhu)
 | [], _ => some []
 | f :: fs, off => match rec f.type with
  | some ls => if f.offset = off ∧ P.cellsOf f.type = ls.length then
    match zx6 P rec fs (off + ls.length) with
    | some r => some (ls ++ r)
    | none => none
   else none
  | none => none
def zzq (ls:List zhu):Nat → List zhu
 | 0 => []
 | n + 1 => ls ++ zzq ls n
def zpx (P:Program):Nat → TypeId → Option (List zhu)
 | 0, _ => none
 | d + 1, t => match P.underlying t with
  | some .string => some [.s]
  | some (.int k) => some [.i k]
  | some .bool => some [.b]
  | some (.struct fs) => match zx6 P (zpx P d) fs.toList 0 with
   | some ls => if P.cellsOf t = ls.length then some ls else none
   | none => none
  | some (.array n e) => match zpx P d e with
   | some ls => if P.cellsOf e = ls.length ∧ P.cellsOf t = (zzq ls n).length then some (zzq ls n) else none
   | none => none
  | _ => none
theorem zmv {α β:Type} {f:α → Option β}:∀ {l:List α} {ys:List β}, l.mapM f = some ys → ∃ g:List β, g = ys ∧ (∀ x ∈ l, ∃ y, f x = some y ∧ y ∈ ys) ∧ (∀ y ∈ ys, ∃ x ∈ l, f x = some y)
 | [], ys, h => by
  simp at h; subst h
  exact ⟨_, rfl, by simp, by simp⟩
 | x :: l, ys, h => by
  rw [List.mapM_cons] at h
  cases hx:f x with
  | none => rw [hx] at h; cases h
  | some y =>
   rw [hx] at h
   cases hl:l.mapM f with
   | none => rw [hl] at h; cases h
   | some zs =>
    rw [hl] at h
    cases h
    obtain ⟨_, _, h1, h2⟩:=zmv hl
    refine ⟨_, rfl, fun z hz => ?_, fun z hz => ?_⟩
    ·rcases List.mem_cons.1 hz with rfl | hz
     ·exact ⟨y, hx, List.mem_cons_self ..⟩
     ·obtain ⟨w, hw, hm⟩:=h1 z hz; exact ⟨w, hw, List.mem_cons_of_mem _ hm⟩
    ·rcases List.mem_cons.1 hz with rfl | hz
     ·exact ⟨x, List.mem_cons_self .., hx⟩
     ·obtain ⟨w, hw, hm⟩:=h2 z hz; exact ⟨w, List.mem_cons_of_mem _ hw, hm⟩
theorem zhy (cs:List Value) (off m r:Nat):(cs.drop off).take (m + r) = (cs.drop off).take m ++ (cs.drop (off + m)).take r:=by
 rw [List.take_add, List.drop_drop]
section
variable {P:Program} {H:Type} {enc:TypeId × Value → H} {W:World} {sp:Nat → Bool} {held:Bool} {base:Nat}
theorem zf7:∀ (d:Nat) {t:TypeId} {ls:List zhu}, zpx P d t = some ls → ∀ {fuel:Nat} {cs:List Value} {x:DataW H × List MemPlace},
  DataW.trod enc P W base sp held fuel t cs = some x → LeafsOK ls cs ∧ x.2 = []
 | 0, _, _, h, _, _, _, _ => by cases h
 | d + 1, t, ls, h, fuel, cs, x, hx => by
  have ih:=@zf7 d
  cases fuel with
  | zero => simp [DataW.trod] at hx
  | succ fuel =>
   rw [zpx] at h
   unfold DataW.trod at hx
   cases hu:P.underlying t with
   | none => rw [hu] at h; cases h
   | some ds =>
    rw [hu] at h hx
    cases ds <;> first | (cases h; done) | skip
    ·cases h
     match cs, hx with
     | [.bool b], hx => cases hx; exact ⟨⟨⟨b, rfl⟩, trivial⟩, rfl⟩
    ·rename_i k
     cases h
     match cs, hx with
     | [.int k' m], hx =>
      simp only at hx
      split at hx
      ·rename_i hk
       obtain ⟨rfl, hw⟩:=hk
       cases hx; exact ⟨⟨⟨m, rfl, hw⟩, trivial⟩, rfl⟩
      ·cases hx
    ·cases h
     match cs, hx with
     | [.string s], hx =>
      simp only at hx
      split at hx
      ·rename_i hs; cases hx; exact ⟨⟨⟨s, rfl, hs⟩, trivial⟩, rfl⟩
      ·cases hx
    ·rename_i n e
     simp only at h hx
     split at h
     ·rename_i l1 hl1
      split at h
      ·rename_i hc
       cases h
       split at hx
       ·rename_i hlen
        obtain ⟨xs, hxs, rfl⟩:=Option.map_eq_some_iff.1 hx
        obtain ⟨_, _, hall, hback⟩:=zmv hxs
        have each:∀ i, i < n → LeafsOK l1 ((cs.drop (i * P.cellsOf e)).take (P.cellsOf e)):=fun i hi => by
         obtain ⟨y, hy, _⟩:=hall i (List.mem_range.2 hi)
         exact (ih hl1 hy).1
        have gen:∀ m k, k + m = n → LeafsOK (zzq l1 m) ((cs.drop (k * P.cellsOf e)).take (m * P.cellsOf e)):=by
         intro m
         induction m with
         | zero => intro k _; simp [zzq, LeafsOK]
         | succ m ihm =>
          intro k hk
          rw [show (m + 1) * P.cellsOf e = P.cellsOf e + m * P.cellsOf e by rw [Nat.succ_mul]; omega, zhy]
          refine LeafsOK.append (each k (by omega)) ?_
          rw [show k * P.cellsOf e + P.cellsOf e = (k + 1) * P.cellsOf e by rw [Nat.succ_mul]]
          exact ihm (k + 1) (by omega)
        refine ⟨?_, ?_⟩
        ·have:=gen n 0 (by omega)
         have hrl:∀ m, (zzq l1 m).length = m * P.cellsOf e:=by
          intro m
          induction m with
          | zero => simp [zzq]
          | succ m ihm => simp only [zzq, List.length_append, ihm, hc.1]; rw [Nat.succ_mul]; omega
         rw [← hrl n, ← hc.2, ← hlen] at this
         simpa using this
        ·refine List.flatMap_eq_nil_iff.2 fun y hy => ?_
         obtain ⟨i, _, hi⟩:=hback y hy
         exact (ih hl1 hi).2
       ·cases hx
      ·cases h
     ·cases h
    ·rename_i fs
     simp only at h hx
     split at h
     ·rename_i l1 hl1
      split at h
      ·rename_i hc
       cases h
       split at hx
       ·rename_i hlen
        obtain ⟨xs, hxs, rfl⟩:=Option.map_eq_some_iff.1 hx
        obtain ⟨_, _, hall, hback⟩:=zmv hxs
        have gen:∀ (fl:List Field) (off:Nat) (ls:List zhu), (∀ f ∈ fl, f ∈ fs.toList) → zx6 P (zpx P d) fl off = some ls →
          LeafsOK ls ((cs.drop off).take ls.length) ∧ ∀ f ∈ fl, ∃ l, zpx P d f.type = some l:=by
         intro fl
         induction fl with
         | nil => intro off ls _ h; cases h; simp [LeafsOK]
         | cons f fl ihf =>
          intro off ls hm h
          simp only [zx6] at h
          split at h
          ·rename_i l2 hl2
           split at h
           ·rename_i hc2
            obtain ⟨rfl, hc3⟩:=hc2
            split at h
            ·rename_i r hr
             cases h
             obtain ⟨g1, g2⟩:=ihf _ _ (fun g hg => hm g (List.mem_cons_of_mem _ hg)) hr
             refine ⟨?_, fun g hg => ?_⟩
             ·rw [List.length_append, zhy]
              refine LeafsOK.append ?_ g1
              obtain ⟨y, hy, _⟩:=hall f (hm f (List.mem_cons_self ..))
              rw [← hc3]
              exact (ih hl2 hy).1
             ·rcases List.mem_cons.1 hg with rfl | hg
              ·exact ⟨l2, hl2⟩
              ·exact g2 g hg
            ·cases h
           ·cases h
          ·cases h
        obtain ⟨g1, g2⟩:=gen fs.toList 0 _ (fun _ h => h) hl1
        refine ⟨?_, ?_⟩
        ·rw [← hc, ← hlen] at g1; simpa using g1
        ·refine List.flatMap_eq_nil_iff.2 fun y hy => ?_
         obtain ⟨f, hf, hi⟩:=hback y hy
         obtain ⟨l, hl⟩:=g2 f hf
         exact (ih hl hi).2
       ·cases hx
      ·cases h
     ·cases h
end
end Go.V
set_option maxRecDepth 20000
namespace Go.V
open Go.ChangeShapes Go.WideShapes Go.ChangeAt Go.ChangeMaps Go.RowKit
section
variable {P:Program} {H:Type} {enc:TypeId × Value → H} {W:World} {held:Bool}
end
end Go.V
set_option maxRecDepth 20000
namespace Go.V
open Go.ChangeShapes Go.WideShapes Go.ChangeAt Go.ChangeMaps Go.RowKit
section
variable {P:Program} {H:Type} {enc:TypeId × Value → H} {W:World} {held:Bool}
def zhr (enc:TypeId × Value → H) (P:Program) (W:World) (held:Bool) (t:TypeId) (n:Nat) (Φ:List Value → Prop):Prop :=
 P.cellsOf t = n ∧ ∀ (fuel:Nat) (cs:List Value) (x:DataW H × List MemPlace), DataW.trod enc P W 0 (fun _ => true) held fuel t cs = some x → (x.1.weights P t).all (· ≤ reachBytes) = true → cs.length = n ∧ Φ cs
theorem zh3 {t:TypeId} {ls:List zhu} (h:zpx P 20 t = some ls) (hc:P.cellsOf t = ls.length):zhr enc P W held t ls.length (LeafsOK ls) :=
 ⟨hc, fun _ _ _ hx _ => ⟨(zf7 20 h hx).1.length, (zf7 20 h hx).1⟩⟩
def SlD (e:TypeId) (n by_:Nat) (Φ:List Value → Prop) (Hh:Heap) (v:Value):Prop:=∃ cs:List (List Value), (∀ c ∈ cs, c.length = n ∧ Φ c) ∧ cs.length ≤ maxLen ∧ cs.length * by_ ≤ reachBytes ∧ SlV e n cs.flatten cs.length false v Hh
theorem zfu {e:TypeId}:∀ {l:List (DataW H)} {d:DataW H}, d ∈ l → ∀ n ∈ d.weights P e, n ∈ DataW.weightsAll P e l
 | d0 :: l, d, hd, n, hn => by
  simp only [DataW.weightsAll, List.mem_append]
  rcases List.mem_cons.1 hd with rfl | hd
  ·exact .inl hn
  ·exact .inr (zfu hd n hn)
theorem zzf {l m:List Nat} (h:l.all (· ≤ reachBytes) = true) (hs:∀ n ∈ m, n ∈ l):m.all (· ≤ reachBytes) = true :=
 List.all_eq_true.2 fun n hn => List.all_eq_true.1 h n (hs n hn)
theorem wt_at {ts:List TypeId} {ds:List (DataW H)} (h:(DataW.weightsEach P ts ds).all (· ≤ reachBytes) = true) (j:Nat) {t:TypeId} {d:DataW H} (ht:ts[j]? = some t) (hd:ds[j]? = some d):(d.weights P t).all (· ≤ reachBytes) = true :=
 zzf h (DataW.weights_mem_each ht hd)
theorem zj5 {t e:TypeId} {n:Nat} {Φ:List Value → Prop} (ht:P.underlying t = some (.slice e)) (hct:P.cellsOf t = 1) (he:zhr enc P W held e n Φ) (hn:0 < n) :
  zhr enc P W held t 1 (fun vs => ∃ v, vs = [v] ∧ SlD e n (P.bytesOf e) Φ (hp W) v):=by
 refine ⟨hct, fun fuel cs x hf hw => ?_⟩
 rcases Deep.open_slice ht hf with ⟨rfl, _⟩ | ⟨a, len, cap, m, nn, D, Pl, rfl, _, h1, h2, hm, rfl, hx⟩
 ·exact ⟨rfl, _, rfl, [], fun c h => (nomatch h), Nat.zero_le _, by simp, SlV.nil⟩
 refine ⟨rfl, _, rfl, ?_⟩
 simp only [if_true] at hm
 subst hm
 have hwe:(DataW.weights P t (DataW.slice ((List.range len).map D) ((List.range (m - len)).map fun j => D (len + j)))) = (len + (m - len)) * P.bytesOf e :: (DataW.weightsAll P e ((List.range len).map D) ++ DataW.weightsAll P e ((List.range (m - len)).map fun j => D (len + j))):=by
  rw [DataW.weights, ht]; simp
 simp only at hw
 rw [hwe] at hw
 have hb:(len + (m - len)) * P.bytesOf e ≤ reachBytes:=by
  have:=List.all_eq_true.1 hw _ (List.mem_cons_self ..)
  simpa using this
 have hwD:∀ i, i < len → ((D i).weights P e).all (· ≤ reachBytes) = true:=fun i hi => zzf hw fun k hk =>
  List.mem_cons_of_mem _ (List.mem_append_left _ (zfu (List.mem_map.2 ⟨i, List.mem_range.2 hi, rfl⟩) k hk))
 rcases Nat.eq_zero_or_pos m with h0 | h0
 ·obtain rfl:len = 0:=by omega
  subst h0
  exact ⟨[], fun c h => (nomatch h), Nat.zero_le _, by simp, by simp, .inl ⟨rfl, _, rfl⟩⟩
 obtain ⟨he1, he2⟩:=he
 have hsp:a.spot = none ∧ ∃ c0 ty fr, W.heap[a.block]? = some (.cells c0 ty fr):=by
  obtain ⟨c, g1, _⟩:=hx 0 h0
  obtain ⟨_, g2, g3⟩:=World.cells?_some g1
  have g4:=g3 0 (by omega)
  have hc0:∃ v, c[0]? = some v:=⟨_, List.getElem?_eq_getElem (by omega)⟩
  obtain ⟨v, hv⟩:=hc0
  rw [hv] at g4
  have hadd:((a.add (0 * P.cellsOf e)).add 0) = a:=by
   rw [Nat.zero_mul]
   unfold Addr.add
   simp
  rw [hadd] at g4
  unfold World.cell? at g4
  split at g4
  ·rename_i c1 ty fr hh
   split at g4
   ·cases g4
   ·rename_i hs
    exact ⟨by simpa using hs, _, _, _, hh⟩
  ·cases g4
 obtain ⟨h3, cs, ty, fr, h4⟩:=hsp
 obtain ⟨C, hC⟩:=Deep.choose_lt (α:=List Value) (n:=m) (p:=fun i c => W.cells? 0 (a.add (i * P.cellsOf e)) (P.cellsOf e) = some c ∧ (i < len → c.length = n ∧ Φ c)) (fun i hi => by
  obtain ⟨c, g1, g2⟩:=hx i hi
  exact ⟨c, g1, fun hl => he2 _ _ _ g2 (hwD i hl)⟩)
 have hln:∀ i, i < len → (C i).length = n:=fun i hi => ((hC i (by omega)).2 hi).1
 refine ⟨(List.range len).map C, fun c hc => ?_, by simp; omega, ?_, ?_⟩
 ·obtain ⟨i, hi, rfl⟩:=List.mem_map.1 hc
  exact (hC i (by have:=List.mem_range.1 hi; omega)).2 (List.mem_range.1 hi)
 ·rw [List.length_map, List.length_range]
  exact Nat.le_trans (Nat.mul_le_mul_right _ (by omega)) hb
 ·have hfl:∀ k, k ≤ len → ((List.range k).map C).flatten.length = k * n:=by
   intro k
   induction k with
   | zero => simp
   | succ k ih =>
    intro hk
    rw [List.range_succ, List.map_append, List.flatten_append, List.length_append, ih (by omega), Nat.succ_mul]
    simp [hln k (by omega)]
  refine ⟨by rw [hfl len (Nat.le_refl _), List.length_map, List.length_range], .inr ⟨a.block, a.off, m, cs, ty, fr, ?_, h4, ?_, by simpa using h1, fun h => by cases h⟩⟩
  ·obtain ⟨ab, ao, asp⟩:=a
   simp only at h3
   subst h3
   simp
  ·rw [hfl len (Nat.le_refl _)]
   have key:∀ k, k ≤ len → (cs.toList.drop a.off).take (k * n) = ((List.range k).map C).flatten:=by
    intro k
    induction k with
    | zero => simp
    | succ k ih =>
     intro hk
     rw [Nat.succ_mul, zhy, ih (by omega), List.range_succ, List.map_append, List.flatten_append]
     congr 1
     obtain ⟨_, g2, g3⟩:=World.cells?_some (hC k (by omega)).1
     simp only [List.map_cons, List.map_nil, List.flatten_cons, List.flatten_nil, List.append_nil]
     apply List.ext_getElem?
     intro j
     rcases Nat.lt_or_ge j n with hj | hj
     ·have:=g3 j (by omega)
      rw [← this, List.getElem?_take_of_lt hj, List.getElem?_drop]
      obtain ⟨ab, ao, asp⟩:=a
      simp only at h3
      subst h3
      rw [zc5, zc5, za2 h4]
      simp only [he1]
      rw [Array.getElem?_toList]
     ·rw [List.getElem?_eq_none (by rw [List.length_take]; omega), List.getElem?_eq_none (by rw [hln k (by omega)]; exact hj)]
   exact key len (Nat.le_refl _)
def zgg:List (Nat × (List Value → Prop)) → List Value → Prop
 | [], vs => vs = []
 | (n, Φ) :: r, vs => ∃ a b, vs = a ++ b ∧ a.length = n ∧ Φ a ∧ zgg r b
inductive zk2 (enc:TypeId × Value → H) (P:Program) (W:World) (held:Bool):List Field → Nat → List (Nat × (List Value → Prop)) → Prop
 | nil {off:Nat}:zk2 enc P W held [] off []
 | cons {f:Field} {fs:List Field} {off n:Nat} {Φ:List Value → Prop} {r:List (Nat × (List Value → Prop))} (ho:f.offset = off) (hr:zhr enc P W held f.type n Φ) (h:zk2 enc P W held fs (off + n) r):zk2 enc P W held (f :: fs) off ((n, Φ) :: r)
def z18:List (Nat × (List Value → Prop)) → Nat
 | [] => 0
 | p :: r => p.1 + z18 r
theorem zeo {t:TypeId} {fs:Array Field} {ps:List (Nat × (List Value → Prop))} (hu:P.underlying t = some (.struct fs)) (h:zk2 enc P W held fs.toList 0 ps) (hc:P.cellsOf t = z18 ps):zhr enc P W held t (z18 ps) (zgg ps):=by
 refine ⟨hc, fun fuel cs x hf hw => ?_⟩
 obtain ⟨xs, n, rfl, rfl, hl, hxl, hx⟩:=DataW.trod_struct hu hf
 have hwe:DataW.weights P t (DataW.agg (H:=H) (xs.map (·.1))) = DataW.weightsEach P (fs.toList.map (·.type)) (xs.map (·.1)):=by
  rw [DataW.weights, hu]
 simp only at hw
 rw [hwe] at hw
 refine ⟨by rw [hl, hc], ?_⟩
 have gen:∀ (fl:List Field) (i off:Nat) (ps:List (Nat × (List Value → Prop))), (∀ (j:Nat) f, fl[j]? = some f → fs[i + j]? = some f) → zk2 enc P W held fl off ps → off + z18 ps = cs.length → zgg ps (cs.drop off):=by
  intro fl
  induction fl with
  | nil => intro i off ps _ h ho; cases h; simp only [z18] at ho; simp only [zgg]; rw [List.drop_eq_nil_of_le (by omega)]
  | cons f fl ihf =>
   intro i off ps hm h ho
   cases h with
   | @cons _ _ _ n' Φ r h1 h2 h3 =>
   simp only [z18] at ho
   have g0:=hm 0 f rfl
   rw [Nat.add_zero] at g0
   have g1:=hx i f g0
   have hi:i < xs.length:=by
    rw [hxl]
    rcases Nat.lt_or_ge i fs.size with h | h
    ·exact h
    ·rw [Array.getElem?_eq_none h] at g0; cases g0
   rw [List.getElem?_eq_getElem hi, h1, h2.1] at g1
   have hwi:(xs[i].1.weights P f.type).all (· ≤ reachBytes) = true:=wt_at hw i (by rw [List.getElem?_map, Array.getElem?_toList, g0]; rfl) (by rw [List.getElem?_map, List.getElem?_eq_getElem hi]; rfl)
   obtain ⟨g2, g3⟩:=h2.2 _ _ _ g1 hwi
   refine ⟨(cs.drop off).take n', cs.drop (off + n'), ?_, g2, g3, ihf (i + 1) (off + n') r (fun j f' hj => ?_) h3 (by omega)⟩
   ·rw [← List.drop_drop, List.take_append_drop]
   ·have:=hm (j + 1) f' (by simpa using hj)
    rw [← this]; congr 1; omega
 have g:=gen fs.toList 0 0 ps (fun j f hj => by rw [Nat.zero_add, ← Array.getElem?_toList]; exact hj) h (by rw [hl, hc]; omega)
 simpa using g
theorem open_agD {t:TypeId} {n b0:Nat} {Φ:List Value → Prop} {v:Value} {dd:DataW H} {ps:List MemPlace} (h:zhr enc P W held t n Φ) (ha:(match P.underlying t with | some (.struct _) | some (.array _ _) => true | _ => false) = true)
  (hval:Value.okWide P W .any b0 t v) (hd:DataW.Trod enc P W 0 (fun _ => true) held t v dd ps) (hw:(dd.weights P t).all (· ≤ reachBytes) = true):∃ cs:List Value, v = .agg cs.toArray ∧ Φ cs:=by
 obtain ⟨fuel, hf⟩:=hd
 have key:∃ cs, v = .agg cs:=by
  unfold Value.okWide at hval
  split at hval
  ·obtain ⟨cs, h1, _⟩:=hval; exact ⟨cs, h1⟩
  ·obtain ⟨cs, h1, _⟩:=hval; exact ⟨cs, h1⟩
  ·rename_i h1 h2
   exfalso
   split at ha
   ·rename_i x hx; exact h1 _ hx
   ·rename_i x y hx; exact h2 _ _ hx
   ·cases ha
 obtain ⟨cs, rfl⟩:=key
 exact ⟨cs.toList, by simp, (h.2 _ _ _ hf hw).2⟩
end
end Go.V
set_option maxRecDepth 20000
namespace Go.V.L10
open Go.Proofs Go.ChangeShapes Go.WideShapes Go.ChangeAt Go.ChangeMaps Go.RowKit Go.V Go.V.L2 Go.V.L6
abbrev C3L:List zhu:=[.i .u8, .i .u8, .i .u8]
abbrev C3P (H:Heap):List Value → Prop:=fun vs => ∃ v, vs = [v] ∧ SlD ty3 3 (Tryz.prog.bytesOf ty3) (LeafsOK C3L) H v
abbrev DdP (H:Heap):List (Nat × (List Value → Prop)):=[(1, C3P H)]
abbrev MmP (H:Heap):List (Nat × (List Value → Prop)):=[(1, zgg (DdP H))]
abbrev OoP (H:Heap):List (Nat × (List Value → Prop)):=[(1, LeafsOK [.i .u8]), (1, zgg (MmP H)), (1, zgg (DdP H)), (1, LeafsOK [.i .u8]), (1, LeafsOK [.i .i64])]
abbrev OsP (H:Heap):List Value → Prop:=fun vs => ∃ v, vs = [v] ∧ SlD z16 5 (Tryz.prog.bytesOf z16) (zgg (OoP H)) H v
abbrev WwP (H:Heap):List (Nat × (List Value → Prop)):=[(1, OsP H)]
section
variable {H:Type} {enc:TypeId × Value → H} {W:World} {held:Bool}
theorem zuh:zhr enc Tryz.prog W held 64 1 (C3P (hp W)):=zj5 Tryz.underlying64 (by kernel_rfl) (zh3 (ls:=C3L) (by kernel_rfl) (by kernel_rfl)) (by decide)
theorem zqx:zhr enc Tryz.prog W held 66 1 (zgg (DdP (hp W))):=zeo Tryz.underlying66 (.cons rfl zuh .nil) (by kernel_rfl)
theorem zxn:zhr enc Tryz.prog W held 68 1 (zgg (MmP (hp W))):=zeo Tryz.underlying68 (.cons rfl zqx .nil) (by kernel_rfl)
theorem zqw:zhr enc Tryz.prog W held 5 1 (LeafsOK [.i .u8]):=zh3 (ls:=[.i .u8]) (by kernel_rfl) (by kernel_rfl)
theorem zug:zhr enc Tryz.prog W held 3 1 (LeafsOK [.i .i64]):=zh3 (ls:=[.i .i64]) (by kernel_rfl) (by kernel_rfl)
theorem zxm:zhr enc Tryz.prog W held z16 5 (zgg (OoP (hp W))):=zeo Tryz.underlying70 (.cons rfl zqw (.cons rfl zxn (.cons rfl zqx (.cons rfl zqw (.cons rfl zug .nil))))) (by kernel_rfl)
theorem zxl:zhr enc Tryz.prog W held 22 1 (OsP (hp W)):=zj5 Tryz.underlying22 (by kernel_rfl) zxm (by decide)
theorem reads_ww:zhr enc Tryz.prog W held 24 1 (zgg (WwP (hp W))):=zeo Tryz.underlying24 (.cons rfl zxl .nil) (by kernel_rfl)
end
theorem zmx {k:IntKind} {a:List Value} (h:LeafsOK [.i k] a):∃ z, a = [.int k z] ∧ (Lit.int k z).wf = true:=by
 obtain ⟨z, r, rfl, h1, h2⟩:=zrc h
 obtain rfl:=zrb h2
 exact ⟨z, rfl, h1⟩
theorem zp4 {α:Type} {f:α → List Value} {Φ:List Value → Prop} {Ψ:α → Prop} (hf:∀ c, Φ c → ∃ x, c = f x ∧ Ψ x):∀ (cs:List (List Value)), (∀ c ∈ cs, Φ c) → ∃ l:List α, cs.flatten = l.flatMap f ∧ l.length = cs.length ∧ ∀ x ∈ l, Ψ x
 | [], _ => ⟨[], rfl, rfl, fun x h => by cases h⟩
 | c :: cs, h => by
  obtain ⟨x, rfl, hx⟩:=hf c (h c (List.mem_cons_self ..))
  obtain ⟨l, h1, h2, h3⟩:=zp4 hf cs fun d hd => h d (List.mem_cons_of_mem _ hd)
  exact ⟨x :: l, by rw [List.flatten_cons, List.flatMap_cons, h1], by rw [List.length_cons, List.length_cons, h2], fun y hy => by
   rcases List.mem_cons.1 hy with rfl | hy
   ·exact hx
   ·exact h3 y hy⟩
theorem znj {z:Int} (h:(Lit.int .u8 z).wf = true):∃ n:Nat, z = (n:Int) ∧ n ≤ 255:=by
 have:=Go.bounds_u8 h
 exact ⟨z.toNat, by omega, by omega⟩
theorem z5r {a:List Value} (h:LeafsOK C3L a):∃ x:C3, a = qcs x ∧ x.1 ≤ 255 ∧ x.2.1 ≤ 255 ∧ x.2.2 ≤ 255:=by
 obtain ⟨z1, r, rfl, h1, h⟩:=zrc h
 obtain ⟨z2, r, rfl, h2, h⟩:=zrc h
 obtain ⟨z3, r, rfl, h3, h⟩:=zrc h
 obtain rfl:=zrb h
 obtain ⟨n1, rfl, b1⟩:=znj h1
 obtain ⟨n2, rfl, b2⟩:=znj h2
 obtain ⟨n3, rfl, b3⟩:=znj h3
 exact ⟨(n1, n2, n3), rfl, b1, b2, b3⟩
theorem zz6 {H:Heap} {v:Value} (h:SlD ty3 3 (Tryz.prog.bytesOf ty3) (LeafsOK C3L) H v):∃ l:List C3, PS3 l false v H ∧ l.length ≤ 9223372036854775807 ∧ ∀ c ∈ l, c.1 ≤ 255 ∧ c.2.1 ≤ 255 ∧ c.2.2 ≤ 255:=by
 obtain ⟨cs, h1, h2, h3, h4⟩:=h
 obtain ⟨l, g1, g2, g3⟩:=zp4 (f:=qcs) (Ψ:=fun x:C3 => x.1 ≤ 255 ∧ x.2.1 ≤ 255 ∧ x.2.2 ≤ 255) (fun c hc => z5r hc) cs fun c hc => (h1 c hc).2
 rw [g1, ← g2] at h4
 exact ⟨l, h4, by rw [g2]; exact h2, g3⟩
theorem z44 {H:Heap} {c:List Value} (h:zgg (OoP H) c):∃ z:ZO, c = ooc z ∧ OOK z.1 ∧ PS3 z.1.ms false z.2.1 H ∧ PS3 z.1.cs false z.2.2 H:=by
 obtain ⟨a1, b, rfl, -, h1, h⟩:=h
 obtain ⟨a2, b, rfl, -, ⟨_, _, rfl, -, ⟨_, _, rfl, -, ⟨mv, rfl, hm⟩, rfl⟩, rfl⟩, h⟩:=h
 obtain ⟨a3, b, rfl, -, ⟨_, _, rfl, -, ⟨cv, rfl, hc⟩, rfl⟩, h⟩:=h
 obtain ⟨a4, b, rfl, -, h4, h⟩:=h
 obtain ⟨a5, b, rfl, -, h5, rfl⟩:=h
 obtain ⟨z1, rfl, w1⟩:=zmx h1
 obtain ⟨z4, rfl, w4⟩:=zmx h4
 obtain ⟨z5, rfl, w5⟩:=zmx h5
 obtain ⟨n1, rfl, b1⟩:=znj w1
 obtain ⟨n4, rfl, b4⟩:=znj w4
 obtain ⟨ms, g1, g2, g3⟩:=zz6 hm
 obtain ⟨cs, k1, k2, k3⟩:=zz6 hc
 exact ⟨(⟨n1, ms, cs, n4, z5⟩, mv, cv), rfl, ⟨b1, b4, g3, k3, g2, k2⟩, g1, k1⟩
theorem z0g {H:Heap} {c:List Value} (h:zgg (WwP H) c):∃ (xv:Value) (zs:List ZO), c = [xv] ∧ WsV zs xv H ∧ OzOK zs H:=by
 obtain ⟨a1, b, rfl, -, ⟨v, rfl, cs, g1, g2, g3, g4⟩, rfl⟩:=h
 obtain ⟨zs, e1, e2, e3⟩:=zp4 (f:=ooc) (Ψ:=fun z:ZO => OOK z.1 ∧ PS3 z.1.ms false z.2.1 H ∧ PS3 z.1.cs false z.2.2 H) (fun c hc => z44 hc) cs fun c hc => (g1 c hc).2
 rw [e1, ← e2] at g4
 exact ⟨v, zs, rfl, g4, e3⟩
end Go.V.L10
set_option maxRecDepth 20000
namespace Go.V.L10
open Go.Proofs Go.RowKit Go.V Go.V.L2 Go.V.L8 Go.V.L6
attribute [local irreducible] V N X VO Par StepOK Has Ret RetL RetO RetT zce zd7 RetY Src
end Go.V.L10
set_option maxRecDepth 20000
namespace Go.V
open Go.RowKit
theorem RetY.frame {P:Program} {f:FuncId} {args:List Value} {w:World} {B:Heap} {C:Nat → Prop} {r1 r1' r2:GR} {φ:Value → Heap → Prop} (hr:(zb6 r1 r2).P B w C) (hC:∀ k, C k → k < w.heap.size ∧ B k = none)
  (h:∀ C1, r1.P B w C1 → (∀ k, C1 k → k < w.heap.size ∧ B k = none) → RetY P f args w B C1 r1' φ):RetY P f args w B C (zb6 r1' r2) φ:=by
 obtain ⟨C1, C2, h1, h2, h3, h4⟩:=hr
 refine Calls.mono (h C1 h1 fun k hk => hC k ((h3 k).2 (.inl hk))) fun e u ⟨v, he, H, g, hp, C', hv, hC'⟩ => ?_
 have hsub:∀ k, C1 k → C k:=fun k hk => (h3 k).2 (.inl hk)
 have g2:Grow C w B u H:=⟨⟨g.keep.os, g.keep.tape, g.keep.output, g.keep.size, fun k hk hn => g.keep.block k hk fun h => hn (hsub k h), g.keep.dr⟩, g.sub, g.le, fun k hk hn => g.fresh k hk fun h => hn (hsub k h)⟩
 refine ⟨v, he, H, g2, hp, fun k => C' k ∨ C2 k, ⟨C', C2, hv, r2.st h2 g.le g.sub ⟨g.keep.os, g.keep.tape, g.keep.output, g.keep.size, g.keep.dr⟩ (fun k hk => g.keep.block k (hC k ((h3 k).2 (.inr hk))).1 fun h => h4 k h hk), fun _ => Iff.rfl, fun k hk h2k => ?_⟩, fun k hk => ?_⟩
 ·rcases (hC' k hk).1 with h | h
  ·exact h4 k h h2k
  ·have:=(hC k ((h3 k).2 (.inr h2k))).1; omega
 ·rcases hk with hk | hk
  ·obtain ⟨a, b, c⟩:=hC' k hk
   exact ⟨a.imp (hsub k) id, b, c⟩
  ·obtain ⟨a, b⟩:=hC k ((h3 k).2 (.inr hk))
   exact ⟨.inl ((h3 k).2 (.inr hk)), Nat.lt_of_lt_of_le a g.keep.size, (g.fresh k a fun h => h4 k h hk).trans b⟩
theorem RetY.conv {P:Program} {f:FuncId} {args:List Value} {w:World} {B:Heap} {C:Nat → Prop} {r r':GR} {φ:Value → Heap → Prop} (h:RetY P f args w B C r φ) (hi:∀ H u C, r.P H u C → r'.P H u C):RetY P f args w B C r' φ :=
 Calls.mono h fun _ _ ⟨v, he, H, g, hp, C', hv, hC'⟩ => ⟨v, he, H, g, hp, C', hi _ _ _ hv, hC'⟩
theorem zfm {r1 r2:GR} {H:Heap} {u:World} {C:Nat → Prop} (h:(zb6 r1 r2).P H u C):(zb6 r2 r1).P H u C :=
 let ⟨C1, C2, h1, h2, h3, h4⟩:=h
 ⟨C2, C1, h2, h1, fun k => (h3 k).trans or_comm, fun k a b => h4 k b a⟩
theorem zrh {r1 r2 r3 r4:GR} {H:Heap} {u:World} {C:Nat → Prop} (h:(zb6 (zb6 r1 r2) (zb6 r3 r4)).P H u C):(zb6 (zb6 r2 r4) (zb6 r1 r3)).P H u C:=by
 obtain ⟨C1, C2, ⟨D1, D2, a1, a2, a3, a4⟩, ⟨E1, E2, b1, b2, b3, b4⟩, h3, h4⟩:=h
 have hx:∀ k, D1 k → ¬ E1 k:=fun k h1 h2 => h4 k ((a3 k).2 (.inl h1)) ((b3 k).2 (.inl h2))
 have hy:∀ k, D1 k → ¬ E2 k:=fun k h1 h2 => h4 k ((a3 k).2 (.inl h1)) ((b3 k).2 (.inr h2))
 have hz:∀ k, D2 k → ¬ E1 k:=fun k h1 h2 => h4 k ((a3 k).2 (.inr h1)) ((b3 k).2 (.inl h2))
 have hw:∀ k, D2 k → ¬ E2 k:=fun k h1 h2 => h4 k ((a3 k).2 (.inr h1)) ((b3 k).2 (.inr h2))
 refine ⟨fun k => D2 k ∨ E2 k, fun k => D1 k ∨ E1 k, ⟨D2, E2, a2, b2, fun _ => Iff.rfl, hw⟩, ⟨D1, E1, a1, b1, fun _ => Iff.rfl, hx⟩, fun k => ?_, fun k h1 h2 => ?_⟩
 ·rw [h3, a3, b3]
  constructor
  ·rintro ((h | h) | (h | h))
   ·exact .inr (.inl h)
   ·exact .inl (.inl h)
   ·exact .inr (.inr h)
   ·exact .inl (.inr h)
  ·rintro ((h | h) | (h | h))
   ·exact .inl (.inr h)
   ·exact .inr (.inr h)
   ·exact .inl (.inl h)
   ·exact .inr (.inl h)
 ·rcases h1 with h1 | h1
  ·rcases h2 with h2 | h2
   ·exact a4 k h2 h1
   ·exact hz k h1 h2
  ·rcases h2 with h2 | h2
   ·exact hy k h2 h1
   ·exact b4 k h2 h1
section
variable {P:Program} {F:Fr} {B:Heap} {O:Boxes} {n:Nat} {ops:Array Oper} {κ:Kap} {d:Nat} {ty:TypeId} {pos:String} {aft:Array Edge} {g:Option (Nat × Bool)} {Q:Exit → Act → World → Prop} {a:Act} {u:World} {os:List Oper}
theorem zvd (L:Tabs P) (q:Nat) {r:GR} {r1:Res} {f:Nat} {args:Array Operand} {at_:Array TypeId} {cap:List Value} {fo:Operand}
  (hn:Nat.blt d n = true) (hg:gK ops κ ⟨some d, .call { callee:=.value fo, args:=args, argTypes:=at_ }, ty, pos, aft, g⟩ = some true)
  (hf:evK κ fo = some (.func (.func f) #[] cap.toArray)) (hfn:L.fn f = some ()) (hq:κ q = some (.own r.res)) (hne:Nat.beq d q = false)
  (h:∀ u H C, H.Le (hp u) → B.Le H → r.P H u C → (∀ k, C k → k < u.heap.size ∧ H k = none) → Args κ H args.toList [] (fun vs => RetT P f (vs ++ cap) u H C (zfp r1 r.res))) :
  StepOK2 P F B n ops O κ ⟨some d, .call { callee:=.value fo, args:=args, argTypes:=at_ }, ty, pos, aft, g⟩ q (.own r.res) d (.own r1):=fun κ' a u hl hqk hh => by
 have hne':d ≠ q:=Nat.ne_of_beq_eq_false hne
 refine After.mono (fun a' u' h2 => ?_) (zve L q (r':=zfp r1 r.res) hn hg hf hfn hq h κ' a u hl hqk hh)
 have h3:=h2.part (q:=d) (g1:=q) hne' (zaj r) (zae ..)
 have he:upd (upd (upd (upd κ' q zd2) d (.own (zfp r1 r.res))) d (.own r1)) q (.own r.res) = upd (upd κ' q (.own r.res)) d (.own r1):=by
  funext k
  by_cases h5:k = q
  ·subst h5; rw [zae, zab _ _ (Ne.symm hne'), zae]
  ·rw [zab _ _ h5]
   by_cases h6:k = d
   ·subst h6; rw [zae, zae]
   ·rw [zab _ _ h6, zab _ _ h6, zab _ _ h5, zab _ _ h6, zab _ _ h5]
 rw [he] at h3
 exact h3
theorem zkd (L:Tabs P) {x:Operand} {q b:Nat} {t t':TypeId} {s off:Nat} {v:Value} {r:Res} (hx:evK κ x = some (.pointer (some ⟨b, off, none⟩))) (hq:κ q = some (.own r)) (hcell:∀ y H u C, r.P y H u C → ∃ cs rest:List Value, u.heap[b]? = some (.cells cs.toArray t') ∧ cs.drop off = v :: rest) (hn:Nat.blt d n = true) (hg:gK ops κ ⟨some d, .load t x, ty, pos, aft, g⟩ = some true)
  (hl:L.ld t = some (false, s)):zc8 P F B n ops O κ ⟨some d, .load t x, ty, pos, aft, g⟩ q d (.is v):=by
 rintro κ' a u hlk hqk ⟨H, fp, hh⟩
 unfold After
 rw [if_pos (zag hh hlk hg)]
 have e:=hh.env hlk
 have h1:=e.is_ x _ (by simp [Op.operands]) hx
 obtain ⟨hown, hM⟩:=hh.slot q _ (hqk.trans hq)
 obtain ⟨cs, rest, h2, hc⟩:=hcell _ _ _ _ hown
 have h3:cs[off]? = some v:=by
  have:=congrArg (·[0]?) hc
  simpa using this
 have hrun:(execOp a.eval ⟨some d, .load t x, ty, pos, aft, g⟩).run P u = .ok (.value v) u:=by
  simp only [execOp, h1, Instr.loadAt, Instr.sureAddr, Sem.run_bind, Sem.run_pure, Result.andThen_ok]
  rw [zch (Tabs.ld_spec hl) u _ v (by rw [za2 h2]; simpa using h3)]
  rfl
 rw [hrun]
 simp only [Upon]
 exact ⟨H, fp, hh.put (k:=.is v) (zk hn) trivial rfl⟩
end
end Go.V
set_option maxRecDepth 20000
namespace Go.V.L10
open Go.Proofs Go.RowKit Go.V Go.V.L2 Go.V.L8 Go.V.L6
def is0 (A D:Sto):Bool:=decide (A.R.length = D.R.length) && decide (A.P.length = D.P.length) && decide (za1 A.R = za1 D.R)
def rwS (S:Sto) (i:Nat):List U:=((S.R[i]?).join).getD []
def isN (A D:Sto):Nat → Bool
 | 0 => is0 A D
 | i + 1 => isN A D i && (decide (rwS A i = rwS D i) && decide (A.P.count ((i + 1:Nat):Int) = D.P.count ((i + 1:Nat):Int)))
theorem zkl {A D:Sto}:∀ {i:Nat}, isN A D i = true ↔ is0 A D = true ∧ ∀ j < i, rwS A j = rwS D j ∧ A.P.count ((j + 1:Nat):Int) = D.P.count ((j + 1:Nat):Int)
 | 0 => by
  unfold isN
  exact ⟨fun h => ⟨h, fun j hj => absurd hj (Nat.not_lt_zero j)⟩, fun h => h.1⟩
 | i + 1 => by
  unfold isN
  simp only [Bool.and_eq_true, decide_eq_true_eq, zkl (i:=i)]
  constructor
  ·rintro ⟨⟨h1, h2⟩, h3, h4⟩
   refine ⟨h1, fun j hj => ?_⟩
   rcases Nat.lt_or_ge j i with hl | hl
   ·exact h2 j hl
   ·have:j = i:=by omega
    subst this; exact ⟨h3, h4⟩
  ·rintro ⟨h1, h2⟩
   exact ⟨⟨h1, fun j hj => h2 j (by omega)⟩, h2 i (by omega)⟩
theorem zlm {P Q:List Int}:zad P = zad Q ↔ ∀ r, P.count r = Q.count r:=by
 constructor
 ·intro h r
  have hm:∀ L:List Int, r ∈ L → (r, (L.count r:Int)) ∈ zad L:=fun L hr => List.mem_map.2 ⟨r, zay.2 hr, rfl⟩
  have hc:∀ (L M:List Int), zad L = zad M → r ∈ L → L.count r = M.count r:=fun L M e hr => by
   have:=hm L hr
   rw [e] at this
   obtain ⟨x, _, hx⟩:=List.mem_map.1 this
   have h1:=congrArg Prod.fst hx
   have h2:=congrArg Prod.snd hx
   dsimp only at h1 h2
   rw [h1] at h2
   omega
  by_cases hp:r ∈ P
  ·exact hc P Q h hp
  ·by_cases hq:r ∈ Q
   ·exact (hc Q P h.symm hq).symm
   ·rw [List.count_eq_zero.2 hp, List.count_eq_zero.2 hq]
 ·intro h
  have hh:zar P = zar Q:=zew zcd (za7 _) (za7 _) fun z => by
   rw [zay, zay, ← List.count_pos_iff, ← List.count_pos_iff, h z]
  unfold zad
  rw [hh]
  exact List.map_congr_left fun x _ => by rw [h x]
theorem zv4 {n m:Nat} {A D:Sto} (ha:JJ n A) (hd:JJ m D):isN A D A.R.length = ze5 A D:=by
 rw [Bool.eq_iff_iff, zkl]
 unfold is0 ze5
 simp only [Bool.and_eq_true, decide_eq_true_eq]
 constructor
 ·rintro ⟨⟨⟨h1, h2⟩, h3⟩, h4⟩
  refine ⟨zt3 h1 (fun r hr => ?_) h3, zlm.2 fun r => ?_⟩
  ·have k1:=zcn.1 hr
   have k2:=zcn.1 (h3 ▸ hr)
   have k3:=zeg k1
   obtain ⟨j, rfl⟩:∃ j:Nat, r = ((j + 1:Nat):Int):=⟨(r - 1).toNat, by omega⟩
   have h5:=(h4 j (by omega)).1
   rw [zdm] at k1 k2 ⊢
   rw [zdm]
   unfold rwS at h5
   obtain ⟨x, hx⟩:=Option.isSome_iff_exists.1 k1
   obtain ⟨y, hy⟩:=Option.isSome_iff_exists.1 k2
   rw [hx, hy] at h5 ⊢
   exact congrArg some h5
  ·by_cases hr:0 < r ∧ r ≤ A.R.length
   ·obtain ⟨j, rfl⟩:∃ j:Nat, r = ((j + 1:Nat):Int):=⟨(r - 1).toNat, by omega⟩
    exact (h4 j (by omega)).2
   ·rw [List.count_eq_zero.2 fun hm => hr (zeg (ha.pin r hm)), List.count_eq_zero.2 fun hm => hr (by have:=zeg (hd.pin r hm); omega)]
 ·rintro ⟨h1, h2⟩
  have hc:=zlm.1 h2
  refine ⟨⟨⟨by rw [h1], (List.perm_iff_count.2 hc).length_eq⟩, by rw [h1]⟩, fun j _ => ⟨by unfold rwS; rw [h1], hc _⟩⟩
theorem zxi (A D:Sto):ze5 A D = ze5 D A:=by
 unfold ze5
 rw [Bool.eq_iff_iff]
 simp only [Bool.and_eq_true, decide_eq_true_eq]
 exact ⟨fun h => ⟨h.1.symm, h.2.symm⟩, fun h => ⟨h.1.symm, h.2.symm⟩⟩
theorem zsd (A:Sto):ze5 A A = true:=by unfold ze5; simp
end Go.V.L10
set_option maxRecDepth 20000
namespace Go.V.L10
open Go.Proofs Go.RowKit Go.V Go.V.L2 Go.V.L8 Go.V.L6
theorem _root_.Go.V.Z108 {A B:Prop} (h:B) (t:Wr B → A:=by intro h; refine qf (id:=7) [(200073, [900]), (200079, [902]), (200087, [900]), (200093, [902]), (200101, [900]), (200106, [902])] mixed (by kernel_rfl) ?_; exact h.h):A:=t ⟨h⟩
theorem _root_.Go.V.Z121 {A B:Prop} (h:B) (t:Wr B → A:=by intro h; refine qf (id:=12) [(200168, [900]), (200172, [902]), (200173, [901]), (200180, [902]), (200184, [900]), (200185, [901])] mixed (by kernel_rfl) ?_; exact h.h):A:=t ⟨h⟩
theorem _root_.Go.V.Z131 {A B:Prop} (h:B) (t:Wr B → A:=by intro h; refine qf (id:=11) [(200128, [900]), (200137, [902]), (200149, [900]), (200158, [902])] mixed (by kernel_rfl) ?_; exact h.h):A:=t ⟨h⟩
theorem z3p {r1 r2 r1' r2':GR} (h1:∀ H u C, r1.P H u C → r1'.P H u C) (h2:∀ H u C, r2.P H u C → r2'.P H u C) {H:Heap} {u:World} {C:Nat → Prop} (h:(zb6 r1 r2).P H u C):(zb6 r1' r2').P H u C :=
 let ⟨C1, C2, a, b, c, d⟩:=h
 ⟨C1, C2, h1 _ _ _ a, h2 _ _ _ b, c, d⟩
abbrev G2 (pb b:Nat) (A:Sto) (qb c:Nat) (D:Sto):GR:=zb6 (BoG pb b A) (BoG qb c D)
theorem z1j {r1 r2 r3 r4:GR} {H:Heap} {u:World} {C:Nat → Prop} (h:(zb6 (zb6 r2 r4) (zb6 r1 r3)).P H u C):(zb6 (zb6 r1 r2) (zb6 r3 r4)).P H u C :=
 z3p (fun _ _ _ => zfm) (fun _ _ _ => zfm) (zfm (zrh h))
theorem zru {pb b:Nat} {A:Sto}:∀ H u C, (BoG pb b A).P H u C → ∃ cs rest:List Value, u.heap[pb]? = some (.cells cs.toArray znl) ∧ cs.drop 0 = zdg b :: rest :=
 fun _ _ _ ⟨_, _, ⟨⟨lv, pv⟩, _, h, _⟩, _⟩ => ⟨_, [lv, pv], h, rfl⟩
theorem z6r {pb b qb c:Nat} {A D:Sto}:∀ (_:Value) H u C, (G2 pb b A qb c D).res.P undef H u C → ∃ cs rest:List Value, u.heap[pb]? = some (.cells cs.toArray znl) ∧ cs.drop 0 = zdg b :: rest :=
 fun _ _ _ _ ⟨_, _, h, _⟩ => zru _ _ _ h
theorem z6c {pb b qb c:Nat} {A D:Sto}:∀ (_:Value) H u C, (G2 pb b A qb c D).res.P undef H u C → ∃ cs rest:List Value, u.heap[qb]? = some (.cells cs.toArray znl) ∧ cs.drop 0 = zdg c :: rest :=
 fun _ _ _ _ ⟨_, _, _, h, _⟩ => zru _ _ _ h
section
variable {n m pb b qb c:Nat} {A D:Sto} {w:World} {B:Heap} {C:Nat → Prop}
theorem JJ.sz {n:Nat} {S:Sto} (h:JJ n S) (hn:n ≤ 100):(za1 S.R).length ≤ 100000 ∧ S.P.length ≤ 100000 ∧ ∀ r t, kpt S.R r = some t → t.length ≤ 100000:=by
 have h1:=h.hR
 have h2:=h.hP
 have h3:=zco S.R
 exact ⟨by omega, by omega, fun r t ht => by have:=(h.so r t ht).2; omega⟩
theorem zs7 (ha:JJ n A) (hn:n ≤ 100) (hd:JJ m D) (hm:m ≤ 100) (hB:B.Le (hp w)) (hr:(G2 pb b A qb c D).P B w C) (hC:∀ k, C k → k < w.heap.size ∧ B k = none) :
  RetY Tryz.prog 33 [zdg b, zdg c] w B C (G2 pb b A qb c D) (fun v _ => v = .bool (ze5 A D)):=by
 obtain ⟨a1, a2, a3⟩:=ha.sz hn
 obtain ⟨d1, d2, d3⟩:=hd.sz hm
 exact RetY.conv (RetY.frame (zrh hr) hC fun C1 h1 hC1 => zlg ha.ne hd.ne a1 d1 a2 d2 a3 d3 hB h1 hC1) fun _ _ _ => z1j
theorem zfd (ha:JJ n A) (hn:n ≤ 100) (hd:JJ m D) (hm:m ≤ 100) (hB:B.Le (hp w)) (hr:(zb6 (StG b A) (StG c D)).P B w C) (hC:∀ k, C k → k < w.heap.size ∧ B k = none) :
  RetY Tryz.prog 33 [zdg b, zdg c] w B C (zb6 (StG b A) (StG c D)) (fun v _ => v = .bool (ze5 A D)):=by
 obtain ⟨a1, a2, a3⟩:=ha.sz hn
 obtain ⟨d1, d2, d3⟩:=hd.sz hm
 exact zlg ha.ne hd.ne a1 d1 a2 d2 a3 d3 hB hr hC
theorem zh0 (ha:JJ n A) (hn:n ≤ 100) (hd:JJ m D) (hm:m ≤ 100) (hB:B.Le (hp w)) (hr:(zb6 (StG b A) (StG c D)).P B w C) (hC:∀ k, C k → k < w.heap.size ∧ B k = none) :
  RetY Tryz.prog 33 [zdg c, zdg b] w B C (zb6 (StG b A) (StG c D)) (fun v _ => v = .bool (ze5 A D)):=by
 have h:=RetY.conv (zfd hd hm ha hn hB (zfm hr) hC) fun _ _ _ => zfm
 rw [zxi D A] at h
 exact h
theorem zyl (ha:JJ n A) (hn:n ≤ 100) (hB:B.Le (hp w)) (hr:(G2 pb b A qb c D).P B w C) (hC:∀ k, C k → k < w.heap.size ∧ B k = none) :
  RetY Tryz.prog 24 [zdg pb] w B C (G2 pb b A qb c D) (fun v _ => v = .int .i64 1) :=
 RetY.frame hr hC fun C1 h1 hC1 => zo4 ha hn hB h1 hC1
theorem zrj (hd:JJ m D) (hm:m ≤ 100) (hB:B.Le (hp w)) (hr:(G2 pb b A qb c D).P B w C) (hC:∀ k, C k → k < w.heap.size ∧ B k = none) :
  RetY Tryz.prog 24 [zdg qb] w B C (G2 pb b A qb c D) (fun v _ => v = .int .i64 1) :=
 RetY.conv (RetY.frame (zfm hr) hC fun C1 h1 hC1 => zo4 hd hm hB h1 hC1) fun _ _ _ => zfm
theorem zyk {zs:List ZO} {xv:Value} (ha:JJ n A) (hn:n ≤ 75) (hB:B.Le (hp w)) (hx:WsV zs xv B) (ho:OzOK zs B) (hr:(G2 pb b A qb c D).P B w C) (hC:∀ k, C k → k < w.heap.size ∧ B k = none) :
  RetY Tryz.prog 11 [zdg pb, .agg #[xv]] w B C (G2 pb b (zmm A zs) qb c D) (fun v _ => v = .int .i64 1) :=
 RetY.frame hr hC fun C1 h1 hC1 => zml ha hn hB hx ho h1 hC1
theorem zyj {zs:List ZO} {xv:Value} (hd:JJ m D) (hm:m ≤ 75) (hB:B.Le (hp w)) (hx:WsV zs xv B) (ho:OzOK zs B) (hr:(G2 pb b A qb c D).P B w C) (hC:∀ k, C k → k < w.heap.size ∧ B k = none) :
  RetY Tryz.prog 11 [zdg qb, .agg #[xv]] w B C (G2 pb b A qb c (zmm D zs)) (fun v _ => v = .int .i64 1) :=
 RetY.conv (RetY.frame (zfm hr) hC fun C1 h1 hC1 => zml hd hm hB hx ho h1 hC1) fun _ _ _ => zfm
end
theorem zzo {n:Nat} {S:Sto} (hj:JJ n S) (hn:n ≤ 100) (i:Nat):(rwS S i).length ≤ 100000:=by
 unfold rwS
 cases h:(S.R[i]?).join with
 | none => exact Nat.zero_le _
 | some t =>
  rw [← zdm] at h
  have:=(hj.so _ _ h).2
  have:=hj.hR
  show t.length ≤ 100000
  omega
theorem ze3 {P:Program} {F:Fr} {B:Heap} {O:Boxes} {n d q:Nat} {ops:Array Oper} {κ:Kap} {o:Oper} {v:Value} {e:TypeId} {s m:Nat} {xs:List Value} {fu:Bool} (h:zc8 P F B n ops O κ o q d (.is v)) (hv:SlV e s xs m fu v B):zc8 P F B n ops O κ o q d (.sat (SlV e s xs m fu)):=fun κ' a u hl hq hh =>
 After.mono (fun a' u' hh' => by
  have h2:=hh'.seen (t:=d) (SlV e s xs m fu) (zae _ _ _) SlV.mono hv
  rwa [zbe] at h2) (h κ' a u hl hq hh)
theorem z4c {P:Program} {F:Fr} {B:Heap} {O:Boxes} {n:Nat} {κ:Kap} {Q:Exit → Act → World → Prop} {T:Type} (Fk:T → List (Nat × Kn)) (I:T → Prop) {x y:Code} (hy:∀ t, I t → V P F B n O (ofL (Fk t)) y Q)
  (h:V P F B n O κ x (Exit.then (fun a u => ∃ t, I t ∧ Has F B O n (ofL (Fk t)) a u) Q)):V P F B n O κ x (Exit.then (fun a u => y.wpIn (FW F.r) 0 P Q a u) Q):=fun a u hh => by
 refine Go.wpIn_mono (h a u hh) fun e a u he => ?_
 cases e with
 | normal => obtain ⟨t, hI, hh'⟩:=he; exact hy t hI a u hh'
 | _ => exact he
attribute [local irreducible] V N X VO Par StepOK Has Ret RetL RetO RetT zce zd7 RetY Src
set_option maxHeartbeats 8000000 in
set_option maxRecDepth 20000 in
theorem zk4 {xs ys zs:List ZO} {xv yv zv:Value} {w:World} {B:Heap} (hB:B.Le (hp w)) (hx:WsV xs xv B) (hox:OzOK xs B) (hy:WsV ys yv B) (hoy:OzOK ys B) (hz:WsV zs zv B) (hoz:OzOK zs B) :
  Ret Tryz.prog 7 [.agg #[xv], .agg #[yv], .agg #[zv]] w B (fun v _ => v = .bool true):=by
 obtain ⟨px, cx, rfl⟩:=zaq hx
 obtain ⟨py, cy, rfl⟩:=zaq hy
 obtain ⟨pz, cz, rfl⟩:=zaq hz
 have hj:=zpy zv2 (zs:=xs) (by omega)
 obtain ⟨S, hS⟩:∃ S, zmm newS xs = S:=⟨_, rfl⟩
 refine yg Tryz.func7 rfl Tryz.ntmps7 (Nat.le_of_ble_eq_true rfl) hB ?_
 refine Z213 ?_; refine Z17 ?_; refine Z168 ?_; refine z7 (zeq L rfl rfl (zk rfl) rfl rfl rfl (fun u H hH hle _ => zxz hH)) rfl ?_; refine qq (yo (.inr rfl) rfl rfl rfl rfl) ?_; refine Z199 ?_
 refine zgq 7 900 rfl fun x => ?_
 obtain ⟨pb, b⟩:=x
 refine Z182 ?_; refine z7 (qd L (vs:=[_]) (qp rfl) rfl rfl rfl rfl ⟨_, rfl⟩) rfl ?_; refine qq (zai L 900 (BoG pb b S) (.int .i64 1) (r:=BoG pb b newS) rfl rfl rfl rfl rfl (fun u H2 C2 hH hle hr2 hC2 => by have h:=zml zv2 (by omega) hH (hx.le hle) (hox.le hle) hr2 hC2; rw [hS] at h; exact zdw h)) ?_; refine Z249 ?_
 rw [hS] at hj
 have hne:=hj.ne
 rw [zqa pb b S]
 refine zde 900 901 rfl (zaj (StG b S)) ?_
 rw [zkz pb b S]
 refine zdf 900 rfl fun x H0 hs0 hφ => ?_
 obtain ⟨lv, pv⟩:=x
 obtain ⟨hl, hpv⟩:=hφ
 dsimp only at hl hpv ⊢
 obtain ⟨q1, c1, rfl⟩:=zn3 hl
 obtain ⟨q2, c2, rfl⟩:=zaq hpv
 refine qf (id:=4) [(200019, [900]), (20, [901]), (200024, [900]), (25, [20]), (26, [25]), (8, [26])] mixed (by kernel_rfl) ?_; refine Z305 ?_; refine zau (zvd L 901 (r:=StG b S) (r1:=z10 S) rfl rfl rfl rfl rfl rfl (fun u H2 C2 hH hle hr2 hC2 => zub hne hH hr2 hC2)) rfl rfl ?_; refine Z176 ?_; refine qg (zao L (q:=900) (vs:=[_, _]) rfl rfl rfl rfl rfl rfl ⟨_, rfl⟩) rfl rfl ?_; refine zau (zgl (q:=20) (X:=Nat) (fun x => [(0, zdg x), (1, .agg #[.slice q1 S.R.length c1, .slice q2 S.P.length c2])]) (fun x => [zdg x, .slice q1 S.R.length c1, .slice q2 S.P.length c2]) rfl rfl rfl rfl z54 (fun _ => rfl) (fun _ => by rfl)) rfl rfl ?_; refine zau (zq2 rfl rfl rfl rfl) rfl rfl ?_; refine zau (yo (.inr rfl) rfl rfl rfl rfl) rfl rfl ?_; refine Z157 ?_; refine Z147 ?_
 refine zgq 8 902 rfl fun x => ?_
 obtain ⟨qb, c⟩:=x
 refine zde (r1:=zan qb [zdg c, .slice q1 S.R.length c1, .slice q2 S.P.length c2] znl) (r2:=(StG c S).res) 902 903 rfl (zaj (StG c S)) ?_
 refine zbf 900 (BhG pb b S).res rfl (ziv hl hpv) ?_
 refine za6 900 901 rfl rfl (zaj (StG b S)) ?_
 refine zbf 902 (BhG qb c S).res rfl (ziv hl hpv) ?_
 refine za6 902 903 rfl rfl (zaj (StG c S)) ?_
 refine za6 900 902 rfl rfl (zaj (BoG qb c S)) ?_
 have hd:=zpy hj (zs:=ys) (by omega)
 have ha:=zpy hj (zs:=zs) (by omega)
 obtain ⟨D, hD⟩:∃ D, zmm S ys = D:=⟨_, rfl⟩
 obtain ⟨A, hA⟩:∃ A, zmm S zs = A:=⟨_, rfl⟩
 rw [hD] at hd
 rw [hA] at ha
 have hyB:=hy.le hs0.le
 have hoyB:=hoy.le hs0.le
 have hzB:=hz.le hs0.le
 have hozB:=hoz.le hs0.le
 have hself:=zsd S
 refine qf (id:=5) [(200030, [900]), (200036, [900]), (200040, [900]), (200041, [900]), (200046, [900]), (52, [900]), (58, [900]), (200063, [900]), (200065, [900])] mixed (by kernel_rfl) ?_; refine Z176 ?_; refine qg (zkd L (q:=900) (t':=znl) rfl rfl z6c rfl rfl rfl) rfl rfl ?_; refine z8 (zf4 rfl rfl rfl rfl z57 rfl) rfl ?_; refine Z251 ?_; refine qg (zkd L (q:=900) (t':=znl) rfl rfl z6r rfl rfl rfl) rfl rfl ?_; refine Z176 ?_; refine qg (zkd L (q:=900) (t':=znl) rfl rfl z6c rfl rfl rfl) rfl rfl ?_; refine qg (zb8 L 900 (.bool true) (r:=G2 pb b S qb c S) rfl rfl rfl rfl rfl (fun u H2 C2 hH hle hr2 hC2 => by have h:=zs7 hj (by omega) hj (by omega) hH hr2 hC2; rw [hself] at h; exact h)) rfl rfl ?_; refine Z62 ?_; refine Z30 ?_; refine Z153 ?_; refine qg (zb8 L 900 (.int .i64 1) (r:=G2 pb b S qb c S) rfl rfl rfl rfl rfl (fun u H2 C2 hH hle hr2 hC2 => zrj hj (by omega) hH hr2 hC2)) rfl rfl ?_; refine Z66 ?_; refine Z30 ?_; refine Z153 ?_; refine z8 (qd L (vs:=[_]) (qp rfl) rfl rfl rfl rfl ⟨_, rfl⟩) rfl ?_; refine zau (zai L 900 (G2 pb b S qb c D) (.int .i64 1) (r:=G2 pb b S qb c S) rfl rfl rfl rfl rfl (fun u H2 C2 hH hle hr2 hC2 => zdw (by have h:=zyj hj (by omega) hH (hyB.le hle) (hoyB.le hle) hr2 hC2; rw [hD] at h; exact h))) rfl rfl ?_; refine Z66 ?_; refine Z30 ?_; refine Z153 ?_; refine z8 (qd L (vs:=[_]) (qp rfl) rfl rfl rfl rfl ⟨_, rfl⟩) rfl ?_; refine zau (zai L 900 (G2 pb b A qb c D) (.int .i64 1) (r:=G2 pb b S qb c D) rfl rfl rfl rfl rfl (fun u H2 C2 hH hle hr2 hC2 => zdw (by have h:=zyk hj (by omega) hH (hzB.le hle) (hozB.le hle) hr2 hC2; rw [hA] at h; exact h))) rfl rfl ?_; refine Z66 ?_; refine Z30 ?_; refine Z153 ?_; refine qg (zb8 L 900 (.int .i64 1) (r:=G2 pb b A qb c D) rfl rfl rfl rfl rfl (fun u H2 C2 hH hle hr2 hC2 => zyl ha (by omega) hH hr2 hC2)) rfl rfl ?_; refine Z3 ?_; refine qg (zb8 L 900 (.int .i64 1) (r:=G2 pb b A qb c D) rfl rfl rfl rfl rfl (fun u H2 C2 hH hle hr2 hC2 => zrj hd (by omega) hH hr2 hC2)) rfl rfl ?_; refine z8 (zqz rfl rfl rfl rfl (zaa (by omega) (by omega))) rfl ?_; refine Z66 ?_; refine Z388 ?_
 refine zde (r1:=(BoG pb b A).res) (r2:=(BoG qb c D).res) 900 902 rfl (zaj (BoG qb c D)) ?_
 refine zde (r1:=(BhG pb b A).res) (r2:=(StG b A).res) 900 901 rfl (zaj (StG b A)) ?_
 refine zde (r1:=(BhG qb c D).res) (r2:=(StG c D).res) 902 903 rfl (zaj (StG c D)) ?_
 rw [zkz pb b A, zkz qb c D]
 refine zdf 900 rfl fun x H1 hs1 hφ => ?_
 obtain ⟨lv1, pv1⟩:=x
 obtain ⟨hl1, hv1⟩:=hφ
 dsimp only at hl1 hv1 ⊢
 refine zdf 902 rfl fun x H2 hs2 hψ => ?_
 obtain ⟨lv2, pv2⟩:=x
 obtain ⟨hl2, hv2⟩:=hψ
 dsimp only at hl2 hv2 ⊢
 replace hl1:=hl1.le hs2.le
 replace hv1:=hv1.le hs2.le
 have hsf:=hs0.trans (hs1.trans hs2)
 obtain ⟨u1, d1, rfl⟩:=zn3 hl1
 obtain ⟨u2, d2, rfl⟩:=zaq hv1
 obtain ⟨u3, d3, rfl⟩:=zn3 hl2
 obtain ⟨u4, d4, rfl⟩:=zaq hv2
 obtain ⟨z1, hz1, ho1, hr1⟩:=hl1
 obtain ⟨z2, hz2, ho2, hr2⟩:=hl2
 have a1:=ha.hR
 have a2:=ha.hP
 have a3:=hd.hR
 have a4:=hd.hP
 have a5:=zco A.R
 have a6:=zco D.R
 have y1:z1.length = A.R.length:=by rw [← hz1, List.length_map]
 have y2:z2.length = D.R.length:=by rw [← hz2, List.length_map]
 have hr1':SlV z4o 2 (z1.flatMap rrc) A.R.length false (.slice u1 A.R.length d1) H2:=by have h:=hr1; unfold RwV at h; rw [y1] at h; exact h
 have hr2':SlV z4o 2 (z2.flatMap rrc) D.R.length false (.slice u3 D.R.length d3) H2:=by have h:=hr2; unfold RwV at h; rw [y2] at h; exact h
 refine z4c (fun _:Unit => [(7, .is (zdg pb)), (8, .is (zdg qb)), (9, .is (.bool (is0 A D))), (900, .own (zan pb [zdg b, .slice u1 A.R.length d1, .slice u2 A.P.length d2] znl)), (901, .own (StG b A).res), (902, .own (zan qb [zdg c, .slice u3 D.R.length d3, .slice u4 D.P.length d4] znl)), (903, .own (StG c D).res)]) (fun _ => True) ?rest ?first
 case first =>
  unfold is0
  by_cases h1:A.R.length = D.R.length
  ·by_cases h2:A.P.length = D.P.length
   ·by_cases h3:za1 A.R = za1 D.R
    ·rw [decide_eq_true h1, decide_eq_true h2, decide_eq_true h3]
     refine Z108 ?_; refine Z224 ?_; refine Z51 ?_; refine Z93 ?_; refine Z224 ?_; refine Z74 ?_; refine Z93 ?_; refine Z70 ?_; refine Z251 ?_; refine Z12 ?_; refine Z51 ?_; refine Z93 ?_; refine Z224 ?_; refine Z74 ?_; refine Z93 ?_; refine Z70 ?_; refine Z30 ?_; refine Z251 ?_; refine qg (zao L (q:=900) (vs:=[_, _]) rfl rfl rfl rfl rfl rfl ⟨_, rfl⟩) rfl rfl ?_; refine z8 (yr (φ:=RsV (za1 A.R) false) L rfl rfl (zk rfl) rfl rfl rfl SlV.mono (fun u H hH hle _ => zci hz1 (by omega) ⟨_, _, _, rfl⟩ hH (hr1.le hle))) rfl ?_; refine Z176 ?_; refine qg (zao L (q:=902) (vs:=[_, _]) rfl rfl rfl rfl rfl rfl ⟨_, rfl⟩) rfl rfl ?_; refine z8 (yr (φ:=RsV (za1 D.R) false) L rfl rfl (zk rfl) rfl rfl rfl SlV.mono (fun u H hH hle _ => zci hz2 (by omega) ⟨_, _, _, rfl⟩ hH (hr2.le hle))) rfl ?_; refine z8 (zp L rfl rfl (zk rfl) rfl rfl rfl (fun u H hH hle _ v1 h1 v2 h2 => zdv (f:=true) (decide_eq_true h3) (by omega) (by omega) hH h1 h2)) rfl ?_; refine z8 (ya rfl rfl rfl rfl rfl) rfl ?_; refine Z30 ?_; refine Z36 ?_; refine qs ?_
     exact za5 () Since.refl trivial rfl ⟨rfl, rfl, rfl, rfl, rfl, rfl, rfl, trivial⟩
    ·rw [decide_eq_true h1, decide_eq_true h2, decide_eq_false h3]
     refine Z108 ?_; refine Z224 ?_; refine Z51 ?_; refine Z93 ?_; refine Z224 ?_; refine Z74 ?_; refine Z93 ?_; refine Z70 ?_; refine Z251 ?_; refine Z12 ?_; refine Z51 ?_; refine Z93 ?_; refine Z224 ?_; refine Z74 ?_; refine Z93 ?_; refine Z70 ?_; refine Z30 ?_; refine Z251 ?_; refine qg (zao L (q:=900) (vs:=[_, _]) rfl rfl rfl rfl rfl rfl ⟨_, rfl⟩) rfl rfl ?_; refine z8 (yr (φ:=RsV (za1 A.R) false) L rfl rfl (zk rfl) rfl rfl rfl SlV.mono (fun u H hH hle _ => zci hz1 (by omega) ⟨_, _, _, rfl⟩ hH (hr1.le hle))) rfl ?_; refine Z176 ?_; refine qg (zao L (q:=902) (vs:=[_, _]) rfl rfl rfl rfl rfl rfl ⟨_, rfl⟩) rfl rfl ?_; refine z8 (yr (φ:=RsV (za1 D.R) false) L rfl rfl (zk rfl) rfl rfl rfl SlV.mono (fun u H hH hle _ => zci hz2 (by omega) ⟨_, _, _, rfl⟩ hH (hr2.le hle))) rfl ?_; refine z8 (zp L rfl rfl (zk rfl) rfl rfl rfl (fun u H hH hle _ v1 h1 v2 h2 => zdv (f:=false) (decide_eq_false h3) (by omega) (by omega) hH h1 h2)) rfl ?_; refine z8 (ya rfl rfl rfl rfl rfl) rfl ?_; refine Z30 ?_; refine Z36 ?_; refine qs ?_
     exact za5 () Since.refl trivial rfl ⟨rfl, rfl, rfl, rfl, rfl, rfl, rfl, trivial⟩
   ·rw [decide_eq_true h1, decide_eq_false h2]
    refine Z108 ?_; refine Z224 ?_; refine Z51 ?_; refine Z93 ?_; refine Z224 ?_; refine Z74 ?_; refine Z93 ?_; refine Z70 ?_; refine Z251 ?_; refine Z12 ?_; refine Z51 ?_; refine Z93 ?_; refine Z224 ?_; refine Z74 ?_; refine Z93 ?_; refine Z66 ?_; refine Z30 ?_; refine Z240 ?_; refine Z187 ?_; refine Z30 ?_; refine Z36 ?_; refine qs ?_
    exact za5 () Since.refl trivial rfl ⟨rfl, rfl, rfl, rfl, rfl, rfl, rfl, trivial⟩
  ·rw [decide_eq_false h1]
   refine Z108 ?_; refine Z224 ?_; refine Z51 ?_; refine Z93 ?_; refine Z224 ?_; refine Z74 ?_; refine Z93 ?_; refine Z66 ?_; refine Z240 ?_; refine Z187 ?_; refine Z4 ?_; refine Z30 ?_; refine Z240 ?_; refine Z187 ?_; refine Z30 ?_; refine Z36 ?_; refine qs ?_
   exact za5 () Since.refl trivial rfl ⟨rfl, rfl, rfl, rfl, rfl, rfl, rfl, trivial⟩
 rintro _ _
 refine Z147 ?_; refine Z58 ?_; refine Z208 ?_
 refine zal (fun i:Nat => [(7, .is (zdg pb)), (8, .is (zdg qb)), (9, .is (.bool (isN A D i))), (10, .is (.int .i64 i)), (900, .own (zan pb [zdg b, .slice u1 A.R.length d1, .slice u2 A.P.length d2] znl)), (901, .own (StG b A).res), (902, .own (zan qb [zdg c, .slice u3 D.R.length d3, .slice u4 D.P.length d4] znl)), (903, .own (StG c D).res)]) (fun i => i ≤ A.R.length) (fun i => A.R.length - i) 0 (Nat.zero_le _) ⟨rfl, rfl, rfl, rfl, rfl, rfl, rfl, rfl, trivial⟩ ?_
 rintro i hi
 dsimp only
 by_cases hlt:i < A.R.length
 ·cases hb:isN A D i with
  | false =>
   have hfin:ze5 A D = false:=by
    rw [← zv4 ha hd]
    cases h:isN A D A.R.length with
    | false => rfl
    | true =>
     have h2:=zkl.1 h
     have h3:isN A D i = true:=zkl.2 ⟨h2.1, fun j hj => h2.2 j (by omega)⟩
     rw [h3] at hb; cases hb
   refine Z301 ?_; refine Z148 ?_; refine Z205 ?_; refine Z40 ?_; refine Z65 ?_; refine Z79 ?_; refine Z332 ?_; refine Z8 ?_; refine Z328 ?_
   refine za6 901 903 rfl rfl (zaj (StG c D)) ?_
   refine Z121 ?_; refine Z305 ?_; refine Z176 ?_; refine Z74 ?_; refine qg (zb8 L 901 (.bool false) (r:=zb6 (StG b A) (StG c D)) rfl rfl rfl rfl rfl (fun u H2 C2 hH hle hr2 hC2 => by have h:=zfd ha (by omega) hd (by omega) hH hr2 hC2; rw [hfin] at h; exact h)) rfl rfl ?_; refine Z3 ?_; refine Z111 ?_; refine Z251 ?_; refine Z74 ?_; refine Z305 ?_; refine qg (zb8 L 901 (.bool false) (r:=zb6 (StG b A) (StG c D)) rfl rfl rfl rfl rfl (fun u H2 C2 hH hle hr2 hC2 => by have h:=zh0 ha (by omega) hd (by omega) hH hr2 hC2; rw [hfin] at h; exact h)) rfl rfl ?_; refine Z3 ?_; refine Z111 ?_; refine Z30 ?_; refine Z3 ?_; refine z8 (zp L rfl rfl (zk rfl) rfl rfl rfl (fun u H hH _ _ => zg5 hH)) rfl ?_; refine Z387 ?_
   refine yd L (rs:=[.tmp 6]) rfl (fun _ _ h => h) hsf fun u H hH hle => ?_
   rfl
  | true =>
   have hi0:=(zkl.1 hb).1
   have hll:A.R.length = D.R.length:=by
    unfold is0 at hi0
    simp only [Bool.and_eq_true, decide_eq_true_eq] at hi0
    exact hi0.1.1
   have hwk:IntKind.i64.wrap ((i:Int) + 1) = ((i + 1:Nat):Int):=zaa (by omega) (by omega)
   have hwu:IntKind.u64.wrap ((i + 1:Nat):Int) = ((i + 1:Nat):Int):=wrap_u64 (by omega) (by omega)
   obtain ⟨o1, k1⟩:=zaf hlt
   obtain ⟨o2, k2⟩:=zaf (show i < D.R.length by omega)
   obtain ⟨w1, g1⟩:=zir hz1 k1
   obtain ⟨w2, g2⟩:=zir hz2 k2
   have hc1:=zn2 g1
   have hc2:=zn2 g2
   have e1:o1.getD [] = rwS A i:=by unfold rwS; rw [k1]; rfl
   have e2:o2.getD [] = rwS D i:=by unfold rwS; rw [k2]; rfl
   have hu1:US (rwS A i) false w1 H2:=by have:=ho1 (o1, w1) (List.mem_of_getElem? g1); dsimp only at this; rw [e1] at this; exact this
   have hu2:US (rwS D i) false w2 H2:=by have:=ho2 (o2, w2) (List.mem_of_getElem? g2); dsimp only at this; rw [e2] at this; exact this
   have b1:(rwS A i).length ≤ 100000:=zzo ha (by omega) i
   have b2:(rwS D i).length ≤ 100000:=zzo hd (by omega) i
   obtain ⟨t1, s1, rfl⟩:=zaq hu1
   obtain ⟨t2, s2, rfl⟩:=zaq hu2
   have hnx:isN A D (i + 1) = (isN A D i && (decide (rwS A i = rwS D i) && decide (A.P.count ((i + 1:Nat):Int) = D.P.count ((i + 1:Nat):Int)))):=rfl
   rw [hb] at hnx
   refine Z301 ?_; refine Z148 ?_; refine Z205 ?_; refine Z40 ?_; refine Z65 ?_; refine Z79 ?_; refine Z332 ?_; refine Z258 ?_; refine Z243 ?_
   by_cases h5:rwS A i = rwS D i
   ·by_cases h6:A.P.count ((i + 1:Nat):Int) = D.P.count ((i + 1:Nat):Int)
    ·rw [decide_eq_true h5, decide_eq_true h6] at hnx
     refine Z131 ?_; refine Z224 ?_; refine qg (ze3 (qn L (q:=900) rfl rfl rfl rfl rfl rfl) hr1') rfl rfl ?_; refine Z3 ?_; refine z8 (qu L _ rfl rfl rfl rfl rfl rfl rfl (by first | omega | decide) (by assumption)) rfl ?_; refine Z125 ?_; refine Z90 ?_; refine Z224 ?_; refine qg (ze3 (qn L (q:=902) rfl rfl rfl rfl rfl rfl) hr2') rfl rfl ?_; refine Z3 ?_; refine z8 (qu L _ rfl rfl rfl rfl rfl rfl rfl (by first | omega | decide) (by assumption)) rfl ?_; refine Z125 ?_; refine Z90 ?_; refine z8 (zp L rfl rfl (zk rfl) rfl rfl rfl (fun u H hH hle _ => zd8 (e:=1) (by omega) (by omega) (if_pos h5) hH (hu1.le hle) (hu2.le hle))) rfl ?_; refine Z70 ?_; refine Z251 ?_; refine Z12 ?_; refine Z51 ?_; refine Z339 ?_; refine z8 (zav rfl rfl rfl za9.1 za9.2 (wrap_u64 (by omega) (by omega))) rfl ?_; refine z8 (zp L rfl rfl (zk rfl) rfl rfl rfl (fun u H hH hle _ => zca rfl (by omega) hH (hv1.le hle))) rfl ?_; refine Z224 ?_; refine Z74 ?_; refine Z339 ?_; refine z8 (zav rfl rfl rfl za9.1 za9.2 (wrap_u64 (by omega) (by omega))) rfl ?_; refine z8 (zp L rfl rfl (zk rfl) rfl rfl rfl (fun u H hH hle _ => zca rfl (by omega) hH (hv2.le hle))) rfl ?_; refine Z70 ?_; refine Z30 ?_; refine Z398 ?_; refine Z292 ?_; refine Z217 ?_
     exact yj (x:=i) (i + 1) hlt (by omega) ⟨rfl, rfl, by rw [hnx]; rfl, rfl, rfl, rfl, rfl, rfl, trivial⟩
    ·rw [decide_eq_true h5, decide_eq_false h6] at hnx
     refine Z131 ?_; refine Z224 ?_; refine qg (ze3 (qn L (q:=900) rfl rfl rfl rfl rfl rfl) hr1') rfl rfl ?_; refine Z3 ?_; refine z8 (qu L _ rfl rfl rfl rfl rfl rfl rfl (by first | omega | decide) (by assumption)) rfl ?_; refine Z125 ?_; refine Z90 ?_; refine Z224 ?_; refine qg (ze3 (qn L (q:=902) rfl rfl rfl rfl rfl rfl) hr2') rfl rfl ?_; refine Z3 ?_; refine z8 (qu L _ rfl rfl rfl rfl rfl rfl rfl (by first | omega | decide) (by assumption)) rfl ?_; refine Z125 ?_; refine Z90 ?_; refine z8 (zp L rfl rfl (zk rfl) rfl rfl rfl (fun u H hH hle _ => zd8 (e:=1) (by omega) (by omega) (if_pos h5) hH (hu1.le hle) (hu2.le hle))) rfl ?_; refine Z70 ?_; refine Z251 ?_; refine Z12 ?_; refine Z51 ?_; refine Z339 ?_; refine z8 (zav rfl rfl rfl za9.1 za9.2 (wrap_u64 (by omega) (by omega))) rfl ?_; refine z8 (zp L rfl rfl (zk rfl) rfl rfl rfl (fun u H hH hle _ => zca rfl (by omega) hH (hv1.le hle))) rfl ?_; refine Z224 ?_; refine Z74 ?_; refine Z339 ?_; refine z8 (zav rfl rfl rfl za9.1 za9.2 (wrap_u64 (by omega) (by omega))) rfl ?_; refine z8 (zp L rfl rfl (zk rfl) rfl rfl rfl (fun u H hH hle _ => zca rfl (by omega) hH (hv2.le hle))) rfl ?_; refine Z66 ?_; refine Z30 ?_; refine Z398 ?_; refine Z292 ?_; refine Z217 ?_
     exact yj (x:=i) (i + 1) hlt (by omega) ⟨rfl, rfl, by rw [hnx]; rfl, rfl, rfl, rfl, rfl, rfl, trivial⟩
   ·rw [decide_eq_false h5] at hnx
    refine Z131 ?_; refine Z224 ?_; refine qg (ze3 (qn L (q:=900) rfl rfl rfl rfl rfl rfl) hr1') rfl rfl ?_; refine Z3 ?_; refine z8 (qu L _ rfl rfl rfl rfl rfl rfl rfl (by first | omega | decide) (by assumption)) rfl ?_; refine Z125 ?_; refine Z90 ?_; refine Z224 ?_; refine qg (ze3 (qn L (q:=902) rfl rfl rfl rfl rfl rfl) hr2') rfl rfl ?_; refine Z3 ?_; refine z8 (qu L _ rfl rfl rfl rfl rfl rfl rfl (by first | omega | decide) (by assumption)) rfl ?_; refine Z125 ?_; refine Z90 ?_; refine z8 (zp L rfl rfl (zk rfl) rfl rfl rfl (fun u H hH hle _ => zd8 (e:=0) (by omega) (by omega) (if_neg h5) hH (hu1.le hle) (hu2.le hle))) rfl ?_; refine Z66 ?_; refine Z240 ?_; refine Z187 ?_; refine Z187 ?_; refine Z159 ?_; refine Z4 ?_; refine Z30 ?_; refine Z398 ?_; refine Z292 ?_; refine Z217 ?_
    exact yj (x:=i) (i + 1) hlt (by omega) ⟨rfl, rfl, by rw [hnx]; rfl, rfl, rfl, rfl, rfl, rfl, trivial⟩
 ·obtain rfl:i = A.R.length:=by omega
  have hfin:=zv4 ha hd
  cases hb:isN A D A.R.length with
  | false =>
   rw [hb] at hfin
   replace hfin:=hfin.symm
   refine Z301 ?_; refine Z148 ?_; refine Z205 ?_; refine Z40 ?_; refine Z65 ?_; refine Z79 ?_; refine Z10 ?_; refine Z279 ?_; refine Z328 ?_
   refine za6 901 903 rfl rfl (zaj (StG c D)) ?_
   refine Z121 ?_; refine Z305 ?_; refine Z176 ?_; refine Z74 ?_; refine qg (zb8 L 901 (.bool false) (r:=zb6 (StG b A) (StG c D)) rfl rfl rfl rfl rfl (fun u H2 C2 hH hle hr2 hC2 => by have h:=zfd ha (by omega) hd (by omega) hH hr2 hC2; rw [hfin] at h; exact h)) rfl rfl ?_; refine Z3 ?_; refine Z111 ?_; refine Z251 ?_; refine Z74 ?_; refine Z305 ?_; refine qg (zb8 L 901 (.bool false) (r:=zb6 (StG b A) (StG c D)) rfl rfl rfl rfl rfl (fun u H2 C2 hH hle hr2 hC2 => by have h:=zh0 ha (by omega) hd (by omega) hH hr2 hC2; rw [hfin] at h; exact h)) rfl rfl ?_; refine Z3 ?_; refine Z111 ?_; refine Z30 ?_; refine Z3 ?_; refine z8 (zp L rfl rfl (zk rfl) rfl rfl rfl (fun u H hH _ _ => zg5 hH)) rfl ?_; refine Z387 ?_
   refine yd L (rs:=[.tmp 6]) rfl (fun _ _ h => h) hsf fun u H hH hle => ?_
   rfl
  | true =>
   rw [hb] at hfin
   replace hfin:=hfin.symm
   refine Z301 ?_; refine Z148 ?_; refine Z205 ?_; refine Z40 ?_; refine Z65 ?_; refine Z79 ?_; refine Z10 ?_; refine Z279 ?_; refine Z328 ?_
   refine za6 901 903 rfl rfl (zaj (StG c D)) ?_
   refine Z121 ?_; refine Z305 ?_; refine Z176 ?_; refine Z74 ?_; refine qg (zb8 L 901 (.bool true) (r:=zb6 (StG b A) (StG c D)) rfl rfl rfl rfl rfl (fun u H2 C2 hH hle hr2 hC2 => by have h:=zfd ha (by omega) hd (by omega) hH hr2 hC2; rw [hfin] at h; exact h)) rfl rfl ?_; refine Z3 ?_; refine Z111 ?_; refine Z251 ?_; refine Z74 ?_; refine Z305 ?_; refine qg (zb8 L 901 (.bool true) (r:=zb6 (StG b A) (StG c D)) rfl rfl rfl rfl rfl (fun u H2 C2 hH hle hr2 hC2 => by have h:=zh0 ha (by omega) hd (by omega) hH hr2 hC2; rw [hfin] at h; exact h)) rfl rfl ?_; refine Z3 ?_; refine Z111 ?_; refine Z30 ?_; refine Z3 ?_; refine z8 (zp L rfl rfl (zk rfl) rfl rfl rfl (fun u H hH _ _ => zg5 hH)) rfl ?_; refine Z387 ?_
   refine yd L (rs:=[.tmp 6]) rfl (fun _ _ h => h) hsf fun u H hH hle => ?_
   rfl
end Go.V.L10
set_option maxRecDepth 20000
namespace Go.V.L10
open Go.Proofs Go.ChangeShapes Go.RowKit Go.V
theorem storesCopy_in {W:World} {cs ds es:List Value} (l0:zgg (WwP (hp W)) cs) (l1:zgg (WwP (hp W)) ds) (l2:zgg (WwP (hp W)) es):Ret Tryz.prog 7 [.agg cs.toArray, .agg ds.toArray, .agg es.toArray] W (hp W) (fun v _ => v = .bool true):=by
 obtain ⟨xv, xs, rfl, hx, ho⟩:=z0g l0
 obtain ⟨yv, ys, rfl, hy, hoy⟩:=z0g l1
 obtain ⟨zv, zs, rfl, hz, hoz⟩:=z0g l2
 exact zk4 (Heap.Le.refl _) hx ho hy hoy hz hoz
end Go.V.L10
set_option maxRecDepth 20000
namespace Go.Proofs.YtcppaheijljnfaaGreat.storesCopy
open Go.ChangeShapes Go.WideShapes Go.ChangeAt Go.ChangeMaps Go.RowKit Go.V Go.V.L10
theorem own : ownKnob Tryz.prog.godebug = none := by kernel_rfl
theorem laidOut : laidOutB Tryz.prog = true := by kernel_rfl
theorem la0 : (match Tryz.prog.underlying 24 with | some (.struct _) | some (.array _ _) => true | _ => false) = true := by kernel_rfl
theorem lr1 : Tryz.prog.readableRec 24 = true := by kernel_rfl
theorem lt1 : 24 < Tryz.prog.types.size := of_decide_eq_true (by kernel_rfl)
set_option maxRecDepth 100000 in
theorem lifted (os : Os) (started : os.Started) (H : Type) (enc : TypeId × Value → H) :
    ReturnsInHanded {} Tryz.checked os 7 .any (Rows.storesCopySpec.pre6 enc Tryz.prog Tryz.f7 Rows.storesCopyRow.domain false) (Rows.storesCopySpec.post enc Tryz.prog Tryz.f7 false true false false) := by
  refine returnsInHanded_of_change_shaped (C := Tryz.checked) own started (by kernel_rfl) Tryz.func7
    (ChangeSpec.witness6 (enc := enc) (C := Tryz.checked) false ⟨#[], #[.agg #[.slice none 0 0], .agg #[.slice none 0 0], .agg #[.slice none 0 0]], []⟩ 8 (by kernel_rfl) (by kernel_rfl) (by kernel_rfl) (by kernel_rfl)) ?_
  intro W base args ds gs before hval0 hW hcnd hsz hsh _
  have hval : ∀ (j : Nat) t v, Tryz.f7.params[j]? = some t → args[j]? = some v → Value.okWide Tryz.prog W .any base t v := hval0
  have hW' := hW
  obtain ⟨p, q, hA0, hV, rfl, hfz, hnd⟩ := hW
  have hA : DataW.TrodAll enc Tryz.prog W 0 (fun _ => true) true Tryz.f7.params.toList args.toList ds p := hA0
  rw [Tryz.params7] at hA hval hsz
  obtain ⟨v0, v1, v2, d0, d1, d2, p0, p1, p2, rfl, rfl, rfl, h0, h1, h2⟩ := trodAll_three hA
  obtain ⟨rfl, rfl⟩ := trodVars_none hV
  clear hA0 hval0
  obtain ⟨c0, rfl, l0⟩ := open_agD reads_ww la0 (hval 0 24 v0 rfl rfl) h0 (wt_at hsz 0 rfl rfl)
  obtain ⟨c1, rfl, l1⟩ := open_agD reads_ww la0 (hval 1 24 v1 rfl rfl) h1 (wt_at hsz 1 rfl rfl)
  obtain ⟨c2, rfl, l2⟩ := open_agD reads_ww la0 (hval 2 24 v2 rfl rfl) h2 (wt_at hsz 2 rfl rfl)
  have hplc := hW'.lt
  simp only [List.append_nil] at hW'
  have hlaw := Go.V.L10.storesCopy_in l0 l1 l2
  unfold Ret at hlaw
  refine hlaw.mono fun e W' hp => ?_
  obtain ⟨v, rfl, H', g, rfl⟩ := hp
  refine ⟨_, rfl, _, _, _, [], p0 ++ (p1 ++ (p2 ++ ([]))), [], hW', trodAll_cons_mk (shut_bool Tryz.underlying4 _) trodAll_mk0, ?_, rfl, g.below.frame _, fun h => by cases h⟩
  exact trodAll_cons_mk (Below.trod laidOut lr1 lt1 h0 g.below (fun x hx => hplc x (by simp [hx]))) (trodAll_cons_mk (Below.trod laidOut lr1 lt1 h1 g.below (fun x hx => hplc x (by simp [hx]))) (trodAll_cons_mk (Below.trod laidOut lr1 lt1 h2 g.below (fun x hx => hplc x (by simp [hx]))) trodAll_mk0))
theorem proved : Rows.StoresCopySaid :=
  OpenClaim.holds_of_wide 7 Tryz.f7 rfl rfl rfl rfl rfl rfl rfl ⟨rfl, rfl, rfl, rfl, rfl⟩ rfl rfl rfl rfl rfl (by kernel_rfl) Tryz.func7 (by kernel_rfl)
    (of_decide_eq_true (by kernel_rfl)) (by unfold Func.isWrapper; first | (rw [if_pos (by decide +kernel)]; kernel_rfl) | (rw [if_neg (by decide +kernel)]; exact ⟨rfl, rfl⟩))
    (fun os started H enc _ => lifted os started H enc)
#print axioms proved
end Go.Proofs.YtcppaheijljnfaaGreat.storesCopy
