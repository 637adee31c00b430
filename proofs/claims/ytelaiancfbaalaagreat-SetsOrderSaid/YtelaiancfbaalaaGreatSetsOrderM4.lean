/- Texts on the way to SetsOrder, part 4: one behind another. -/
import Derived.Test.YtelaiancfbaalaaGreatSetsOrderM3
set_option linter.unusedVariables false
set_option linter.unusedSimpArgs false
/- The kit: fields of no size. -/
namespace Go.V
open Go.RowKit
/-- A field of no size can be pointed to. -/
def fzI (P : Program) (t' st : TypeId) (off i : Nat) : Bool :=
  match P.underlying st with
  | some (.struct fs) => match fs[i]? with
    | some f => (match P.info? f.type with | some j => j.size == 0 | none => false) && (!(P.cellsOf t' == 0) && ((byteOfCell P P.depth t' (off % P.cellsOf t')).isSome && (byteOfCell P P.depth t' ((off + f.offset) % P.cellsOf t')).isSome))
    | none => false
  | _ => false
def PtrS : Value → Heap → Prop := fun v _ => ∃ a, v = .pointer (some a)
theorem PtrS.mono : Kn.mono (.sat PtrS) := fun _ _ _ h _ => h
section
variable {P : Program} {F : Fr} {B : Heap} {O : Boxes} {n : Nat} {ops : Array Oper} {κ : Kap} {d : Nat} {ty : TypeId} {pos : String} {aft : Array Edge} {g : Option (Nat × Bool)}
theorem run_byteOf {u : World} {b off k : Nat} {cs : Array Value} {e : TypeId} {fr : Nat × Nat} (h : u.heap[b]? = some (.cells cs e fr)) (hs : P.cellsOf e ≠ 0) (hb : byteOfCell P P.depth e (off % P.cellsOf e) = some k) :
    (byteOf ⟨b, off, none⟩).run P u = .ok (off / P.cellsOf e * P.bytesOf e + k) u := by
  have hsh : u.shape? b = some (e, cs.size) := by unfold World.shape?; rw [h]
  simp only [byteOf, Sem.run_bind, run_program, Result.andThen_ok, noView, viewAt, shape, Sem.run, hsh, Option.isSome_some, if_true, Sem.run_pure, Option.isSome_none, Bool.false_eq_true, if_false, Option.isSome]
  simp [hs, hb, hsh]
theorem run_fieldZ {u : World} {st t' : TypeId} {b off i : Nat} {cs : Array Value} {fr : Nat × Nat} (hz : fzI P t' st off i = true) (hb : u.heap[b]? = some (.cells cs t' fr)) :
    ∃ a, (Instr.fieldAt st (.pointer (some ⟨b, off, none⟩)) i).run P u = .ok (.pointer (some a)) u := by
  unfold fzI at hz
  split at hz
  · rename_i fs hu
    split at hz
    · rename_i f hf
      split at hz
      · rename_i j hj
        simp only [Bool.and_eq_true, beq_iff_eq, Bool.not_eq_true', beq_eq_false_iff_ne, ne_eq, Option.isSome_iff_exists] at hz
        obtain ⟨hj0, hc, ⟨k1, h1⟩, k2, h2⟩ := hz
        have r1 := run_byteOf (P := P) hb hc h1
        have r2 := run_byteOf (P := P) hb hc h2
        have hsz : (sizeOf f.type).run P u = .ok 0 u := by simp [sizeOf, typeInfo, hj, hj0]
        have hun := run_underlying (P := P) (w := u) hu
        have hfp : ∃ a, (fieldPlace ⟨b, off, none⟩ f).run P u = .ok a u := by
          simp only [fieldPlace, Sem.run_bind, hsz, Result.andThen_ok, if_true, partAt, r1, r2, Sem.run_pure]
          exact ⟨_, rfl⟩
        obtain ⟨a, ha⟩ := hfp
        refine ⟨a, ?_⟩
        simp only [Instr.fieldAt, Sem.run_bind, hun, Result.andThen_ok, hf, Instr.sureAddr, Sem.run_pure, ha]
      · simp at hz
    · cases hz
  · cases hz
theorem built_of {t : TypeId} {places : List (Nat × Nat)} {z cs : List Value} {vs : List (Nat × Value)} (hp : PL P t places z) (hc : buildL places z vs = some cs) : P.built t vs = some cs.toArray := by
  obtain ⟨zv, hz1, hz2⟩ := hp.zr
  have hpl := hp.pl
  unfold plI at hpl
  unfold zrI at hz1
  split at hz1
  · rename_i it hit
    unfold Program.built
    split at hpl
    · rename_i fs hu
      simp only [hit, hu, hz1, hpl]
      rw [cellsL_eq, hz2]
      exact fill_buildL (fun i p h => by simpa using h) vs z cs hc
    · rename_i m el hu
      split at hpl
      · rename_i ie hie
        simp only [hit, hu, hz1, hie]
        cases hpl
        rw [cellsL_eq, hz2]
        exact fill_buildL (fun i p h => by
          rw [List.getElem?_map] at h
          cases hr : (List.range m)[i]? with
          | none => rw [hr] at h; cases h
          | some j =>
            rw [hr] at h
            have : j = i := by
              have := List.getElem?_eq_some_iff.1 hr
              obtain ⟨h1, h2⟩ := this
              simpa using h2.symm
            subst this
            simpa using h) vs z cs hc
      · cases hpl
    · cases hpl
  · cases hz1
/-- The address of a field of no size, of a block that is seen. -/
theorem ok_fieldZA {t : Nat} {t' st : TypeId} {i off : Nat} {cs : List Value} (hx : κ t = some (.sat (At cs t' off))) (hn : Nat.blt d n = true) (hg : gK ops κ ⟨some d, .fieldAddr st (.tmp t) i, ty, pos, aft, g⟩ = some true)
    (hz : fzI P t' st off i = true) : StepOK P F B n ops O κ ⟨some d, .fieldAddr st (.tmp t) i, ty, pos, aft, g⟩ d (.sat PtrS) :=
  ok_pure rfl (blt_lt hn) hg PtrS.mono fun a u H fp e => by
    obtain ⟨b, hv, hb⟩ := e.sat_ t _ (by simp [Op.operands]) hx
    obtain ⟨ad, hr⟩ := run_fieldZ hz (e.sub _ _ hb)
    refine ⟨_, ?_, ad, rfl⟩
    simp only [execOp, hv, Sem.run_bind, hr, Result.andThen_ok]
    rfl
/-- .. of a block of the base. -/
theorem ok_fieldZP {x : Operand} {t' st : TypeId} {i b off : Nat} {cs : Array Value} {fr : Nat × Nat} (hb : B b = some (.cells cs t' fr)) (hx : evK κ x = some (.pointer (some ⟨b, off, none⟩))) (hn : Nat.blt d n = true) (hg : gK ops κ ⟨some d, .fieldAddr st x i, ty, pos, aft, g⟩ = some true)
    (hz : fzI P t' st off i = true) : StepOK P F B n ops O κ ⟨some d, .fieldAddr st x i, ty, pos, aft, g⟩ d (.sat PtrS) :=
  ok_pure rfl (blt_lt hn) hg PtrS.mono fun a u H fp e => by
    have hv := e.is_ x _ (by simp [Op.operands]) hx
    obtain ⟨ad, hr⟩ := run_fieldZ hz (e.sub _ _ (e.base _ _ hb))
    refine ⟨_, ?_, ad, rfl⟩
    simp only [execOp, hv, Sem.run_bind, hr, Result.andThen_ok]
    rfl
/-- A load of no size. -/
theorem ok_loadZ (L : Tabs P) {q : Nat} {t : TypeId} (hx : κ q = some (.sat PtrS)) (hn : Nat.blt d n = true) (hg : gK ops κ ⟨some d, .load t (.tmp q), ty, pos, aft, g⟩ = some true) (ht : L.ld t = some (true, 0)) :
    StepOK P F B n ops O κ ⟨some d, .load t (.tmp q), ty, pos, aft, g⟩ d (.is (.agg #[])) :=
  ok_pure rfl (blt_lt hn) hg trivial fun a u H fp e => by
    obtain ⟨ad, hv⟩ := e.sat_ q _ (by simp [Op.operands]) hx
    refine ⟨.agg #[], ?_, rfl⟩
    simp only [execOp, hv, Instr.loadAt, Instr.sureAddr, Sem.run_bind, Sem.run_pure, Result.andThen_ok]
    rw [run_loadVar_agg (Tabs.ld_spec ht) u ad [] rfl (fun j v hj => by simp at hj)]
    rfl
/-- A struct is put together of parts that are known by what they satisfy. -/
theorem ok_buildS {t : TypeId} {parts : Array (Nat × Operand)} {places : List (Nat × Nat)} {z : List Value} {ψ : Value → Heap → Prop} (hn : Nat.blt d n = true) (hg : gK ops κ ⟨some d, .build t parts, ty, pos, aft, g⟩ = some true)
    (hp : PL P t places z) (hm : Kn.mono (.sat ψ)) (h : ∀ H, B.Le H → Args κ H (parts.toList.map (·.2)) [] (fun vs => ∃ cs, buildL places z ((parts.toList.map (·.1)).zip vs) = some cs ∧ ψ (.agg cs.toArray) H)) :
    StepOK P F B n ops O κ ⟨some d, .build t parts, ty, pos, aft, g⟩ d (.sat ψ) := by
  rintro κ' a u hl ⟨H, fp, hh⟩
  unfold After
  rw [if_pos (wanted_gK hh hl hg)]
  have e := hh.env (o := ⟨some d, .build t parts, ty, pos, aft, g⟩) hl
  have hc := Args.use e (parts.toList.map (·.2)) [] (fun x hx => by
    simp only [Op.operands]
    obtain ⟨q, hq, rfl⟩ := List.mem_map.1 hx
    simp
    exact ⟨q.1, by simpa using hq⟩) (h H e.base)
  obtain ⟨cs, hb, hψ⟩ := hc
  simp only [List.reverse_nil, List.nil_append, List.map_map] at hb
  have hz : (parts.toList.map (·.1)).zip (parts.toList.map (a.eval ∘ (·.2))) = parts.toList.map fun p => (p.1, a.eval p.2) := by
    generalize parts.toList = l
    induction l with
    | nil => rfl
    | cons x l ih => simp only [List.map_cons, List.zip_cons_cons, ih]; rfl
  rw [hz] at hb
  have hbt := built_of hp hb
  have hr := run_build (P := P) u t (parts.toList.map fun p => (p.1, a.eval p.2)).toArray cs.toArray (by simpa using hbt)
  have harr : (parts.map fun (p : Nat × Operand) => (p.1, a.eval p.2)) = (parts.toList.map fun p => (p.1, a.eval p.2)).toArray := by
    rw [← List.map_toArray, Array.toArray_toList]
  have hrun : (execOp a.eval ⟨some d, .build t parts, ty, pos, aft, g⟩).run P u = .ok (.value (.agg cs.toArray)) u := by
    simp only [execOp, Sem.run_bind]
    show Result.andThen ((Instr.build t (parts.map fun (p : Nat × Operand) => (p.1, a.eval p.2))).run P u) _ = _
    rw [harr, hr]
    rfl
  rw [hrun]
  simp only [Upon]
  exact ⟨H, fp, hh.put (blt_lt hn) hm hψ⟩
end
end Go.V
/- The walks of trees at countersign/api.Tuple, struct{}: nodes, their balance. -/
namespace Go.V.UT
open Go.Proofs Go.RowKit Go.V
abbrev KT := ((ByteArray × ByteArray) × ByteArray) × ((ByteArray × ByteArray) × ByteArray)
abbrev VT := Unit
abbrev kv (k : KT) : Value := .agg #[.string k.1.1.1, .string k.1.1.2, .string k.1.2, .string k.2.1.1, .string k.2.1.2, .string k.2.2]
abbrev vv (x : VT) : Value := .agg #[]
abbrev pl (k : KT) (x : VT) : List Value := [.string k.1.1.1, .string k.1.1.2, .string k.1.2, .string k.2.1.1, .string k.2.1.2, .string k.2.2]
abbrev nl (k : KT) (x : VT) (l r : Value) (s d : Int) : List Value := [.string k.1.1.1, .string k.1.1.2, .string k.1.2, .string k.2.1.1, .string k.2.1.2, .string k.2.2] ++ [l, r, .int .i64 s, .int .i64 d]
abbrev TA (t : Tr KT VT) : Value → Heap → Prop := Tr.TreeAt nl 116 t
theorem TA.mono {t : Tr KT VT} : Kn.mono (.sat (TA t)) := Tr.TreeAt.mono
theorem TA.le {t : Tr KT VT} {v : Value} {H H' : Heap} (h : TA t v H) (hle : H.Le H') : TA t v H' := Tr.TreeAt.le h hle
theorem TA.ptr {t : Tr KT VT} {v : Value} {H : Heap} (h : TA t v H) : ∃ p, v = .pointer p := by
  cases t with
  | nil => exact ⟨_, h⟩
  | node k x l r => obtain ⟨b, lv, rv, h, _⟩ := h; exact ⟨_, h⟩
attribute [local irreducible] V N X VO Par StepOK Has Ret RetL Src
theorem size_ret (t : Tr KT VT) {v : Value} {w : World} {B : Heap} (hB : B.Le (hp w)) (hv : TA t v B) : Ret Tryz.prog 85 [v] w B (fun v _ => v = .int .i64 t.size) := by
  cases t with
  | nil =>
    obtain rfl : v = .pointer none := hv
    refine V_enter Tryz.func85 rfl Tryz.ntmps85 (Nat.le_of_ble_eq_true rfl) hB ?_
    refine V_seq ?_; refine V_region (id := 0) ?_; refine vo_step (ok_assign rfl rfl rfl) rfl ?_; refine vo_nil ?_; refine N_seq ?_; refine V_seq ?_; refine V_seq ?_; refine V_region (id := 1) ?_; refine vo_step (ok_move rfl rfl rfl) rfl ?_; refine vo_step (ok_neql rfl rfl rfl rfl nk34 rfl) rfl ?_; refine vo_nil ?_; refine N_seq ?_; refine V_true rfl ?_; refine V_seq ?_; refine V_region (id := 2) ?_; refine vo_step (ok_assign rfl rfl rfl) rfl ?_; refine vo_nil ?_; refine N_seq ?_
    refine V_ret L (rs := [.tmp 2]) rfl (fun _ _ h => h) Since.refl fun u H hH hle => ?_
    rfl
  | node k x l r =>
    obtain ⟨b, lv, rv, rfl, hb, _, _⟩ := hv
    refine V_enter Tryz.func85 rfl Tryz.ntmps85 (Nat.le_of_ble_eq_true rfl) hB ?_
    refine V_seq ?_; refine V_region (id := 0) ?_; refine vo_step (ok_assign rfl rfl rfl) rfl ?_; refine vo_nil ?_; refine N_seq ?_; refine V_seq ?_; refine V_seq ?_; refine V_region (id := 1) ?_; refine vo_step (ok_move rfl rfl rfl) rfl ?_; refine vo_step (ok_neql rfl rfl rfl rfl nk34 rfl) rfl ?_; refine vo_nil ?_; refine N_seq ?_; refine V_false rfl ?_; refine V_skip ?_; refine N_seq ?_; refine V_seq ?_; refine V_region (id := 3) ?_; refine vo_step (ok_move rfl rfl rfl) rfl ?_; refine vo_step (ok_nil rfl rfl rfl) rfl ?_; refine vo_step (ok_fieldP L rfl rfl rfl rfl) rfl ?_; refine vo_step (ok_load1 L (src_base rfl (by assumption)) rfl rfl rfl rfl) rfl ?_; refine vo_step (ok_assign rfl rfl rfl) rfl ?_; refine vo_nil ?_; refine N_seq ?_
    refine V_ret L (rs := [.tmp 2]) rfl (fun _ _ h => h) Since.refl fun u H hH hle => ?_
    rfl
theorem deep_ret (t : Tr KT VT) {v : Value} {w : World} {B : Heap} (hB : B.Le (hp w)) (hv : TA t v B) : Ret Tryz.prog 124 [v] w B (fun v _ => v = .int .i64 t.deep) := by
  cases t with
  | nil =>
    obtain rfl : v = .pointer none := hv
    refine V_enter Tryz.func124 rfl Tryz.ntmps124 (Nat.le_of_ble_eq_true rfl) hB ?_
    refine V_seq ?_; refine V_region (id := 0) ?_; refine vo_step (ok_assign rfl rfl rfl) rfl ?_; refine vo_nil ?_; refine N_seq ?_; refine V_seq ?_; refine V_seq ?_; refine V_region (id := 1) ?_; refine vo_step (ok_move rfl rfl rfl) rfl ?_; refine vo_step (ok_neql rfl rfl rfl rfl nk34 rfl) rfl ?_; refine vo_nil ?_; refine N_seq ?_; refine V_true rfl ?_; refine V_seq ?_; refine V_region (id := 2) ?_; refine vo_step (ok_assign rfl rfl rfl) rfl ?_; refine vo_nil ?_; refine N_seq ?_
    refine V_ret L (rs := [.tmp 2]) rfl (fun _ _ h => h) Since.refl fun u H hH hle => ?_
    rfl
  | node k x l r =>
    obtain ⟨b, lv, rv, rfl, hb, _, _⟩ := hv
    refine V_enter Tryz.func124 rfl Tryz.ntmps124 (Nat.le_of_ble_eq_true rfl) hB ?_
    refine V_seq ?_; refine V_region (id := 0) ?_; refine vo_step (ok_assign rfl rfl rfl) rfl ?_; refine vo_nil ?_; refine N_seq ?_; refine V_seq ?_; refine V_seq ?_; refine V_region (id := 1) ?_; refine vo_step (ok_move rfl rfl rfl) rfl ?_; refine vo_step (ok_neql rfl rfl rfl rfl nk34 rfl) rfl ?_; refine vo_nil ?_; refine N_seq ?_; refine V_false rfl ?_; refine V_skip ?_; refine N_seq ?_; refine V_seq ?_; refine V_region (id := 3) ?_; refine vo_step (ok_move rfl rfl rfl) rfl ?_; refine vo_step (ok_nil rfl rfl rfl) rfl ?_; refine vo_step (ok_fieldP L rfl rfl rfl rfl) rfl ?_; refine vo_step (ok_load1 L (src_base rfl (by assumption)) rfl rfl rfl rfl) rfl ?_; refine vo_step (ok_assign rfl rfl rfl) rfl ?_; refine vo_nil ?_; refine N_seq ?_
    refine V_ret L (rs := [.tmp 2]) rfl (fun _ _ h => h) Since.refl fun u H hH hle => ?_
    rfl
theorem max_int (a b : Nat) : (if ((b : Nat) : Int) > (a : Int) then ((b : Nat) : Int) else (a : Int)) = ((max a b : Nat) : Int) := by
  split <;> omega
theorem join_ret (k : KT) (x : VT) (l r : Tr KT VT) {lv rv : Value} {w : World} {B : Heap} (hB : B.Le (hp w)) (hl : TA l lv B) (hr : TA r rv B) (hs : l.size + r.size < 1099511627776) :
    Ret Tryz.prog 113 [.agg (pl k x).toArray, lv, rv] w B (TA (.node k x l r)) := by
  obtain ⟨pl', rfl⟩ := hl.ptr
  obtain ⟨pr, rfl⟩ := hr.ptr
  have hdl := l.deep_le
  have hdr := r.deep_le
  refine V_enter Tryz.func113 rfl Tryz.ntmps113 (Nat.le_of_ble_eq_true rfl) hB ?_
  refine V_seq ?_; refine V_region (id := 0) ?_; refine vo_step (ok_box rfl rfl rfl rfl) rfl ?_; refine vo_step (ok_assign rfl rfl rfl) rfl ?_; refine vo_nil ?_; refine N_seq ?_; refine V_seq ?_; refine V_regionD (id := 1) [] mixed (by kernel_rfl) ?_; refine par_step (ok_loadA L (vs := [_, _, _, _, _, _]) (src_at rfl) rfl rfl rfl rfl ⟨_, rfl⟩) rfl ?_; refine par_step (ok_move rfl rfl rfl) rfl ?_; refine par_step (ok_move rfl rfl rfl) rfl ?_; refine par_step (ok_move rfl rfl rfl) rfl ?_; refine par_step (ok_callx L rfl rfl (blt_lt rfl) rfl rfl rfl (fun u H hH hle _ => UT.size_ret _ hH (UT.TA.le (by assumption) hle))) rfl ?_; refine par_step (ok_add rfl rfl rfl rfl (wrap_i64 (by omega) (by omega))) rfl ?_; refine par_step (ok_move rfl rfl rfl) rfl ?_; refine par_step (ok_callx L rfl rfl (blt_lt rfl) rfl rfl rfl (fun u H hH hle _ => UT.size_ret _ hH (UT.TA.le (by assumption) hle))) rfl ?_; refine par_step (ok_add rfl rfl rfl rfl (wrap_i64 (by omega) (by omega))) rfl ?_; refine par_step (ok_move rfl rfl rfl) rfl ?_; refine par_step (ok_callx L rfl rfl (blt_lt rfl) rfl rfl rfl (fun u H hH hle _ => UT.deep_ret _ hH (UT.TA.le (by assumption) hle))) rfl ?_; refine par_step (ok_move rfl rfl rfl) rfl ?_; refine par_step (ok_callx L rfl rfl (blt_lt rfl) rfl rfl rfl (fun u H hH hle _ => UT.deep_ret _ hH (UT.TA.le (by assumption) hle))) rfl ?_; refine par_step (ok_max rfl rfl rfl rfl rfl) rfl ?_; refine par_step (ok_add rfl rfl rfl rfl (wrap_i64 (by omega) (by omega))) rfl ?_; refine par_step (ok_build (cs := [_, _, _, _, _, _, _, _, _, _]) rfl rfl pl116 rfl rfl) rfl ?_; refine par_step (ok_box rfl rfl rfl rfl) rfl ?_; refine par_step (ok_assigns' rfl rfl rfl) rfl ?_; refine par_nil ?_; refine N_seq ?_
  refine V_ret L (rs := [.tmp 6]) rfl (fun _ _ h => h) Since.refl fun u H hH hle => ?_
  rintro _ ⟨b, rfl, hb⟩
  refine ⟨b, _, _, rfl, ?_, TA.le hl hle, TA.le hr hle⟩
  rw [max_int] at hb
  simpa [Tr.size_node, Tr.deep_node] using hb
theorem bal_ret (k : KT) (x : VT) (l r : Tr KT VT) {lv rv : Value} {w : World} {B : Heap} (hB : B.Le (hp w)) (hl : TA l lv B) (hr : TA r rv B) (hs : l.size + r.size < 1099511627776) :
    Ret Tryz.prog 111 [.agg (pl k x).toArray, lv, rv] w B (TA (Tr.bal k x l r)) := by
  have hdl := l.deep_le
  have hdr := r.deep_le
  refine V_enter Tryz.func111 rfl Tryz.ntmps111 (Nat.le_of_ble_eq_true rfl) hB ?_
  unfold Tr.bal
  by_cases h1 : l.deep > r.deep + 1
  · rw [if_pos h1]
    cases l with
    | nil => simp [Tr.deep] at h1
    | node lk lx ll lr =>
      have hl0 := hl; obtain ⟨b1, v1, v2, rfl, hb1, hll, hlr⟩ := hl
      have hd1 := ll.deep_le
      have hd2 := lr.deep_le
      simp only [Tr.size_node] at hs hdl
      dsimp only
      by_cases h2 : ll.deep ≥ lr.deep
      · rw [if_pos h2]
        refine V_seq ?_; refine V_region (id := 0) ?_; refine vo_step (ok_box rfl rfl rfl rfl) rfl ?_; refine vo_step (ok_assign rfl rfl rfl) rfl ?_; refine vo_nil ?_; refine N_seq ?_; refine V_seq ?_; refine V_seq ?_; refine V_region (id := 1) ?_; refine vo_step (ok_move rfl rfl rfl) rfl ?_; refine vo_step (ok_callx L rfl rfl (blt_lt rfl) rfl rfl rfl (fun u H hH hle _ => UT.deep_ret _ hH (UT.TA.le (by assumption) hle))) rfl ?_; refine vo_step (ok_move rfl rfl rfl) rfl ?_; refine vo_step (ok_callx L rfl rfl (blt_lt rfl) rfl rfl rfl (fun u H hH hle _ => UT.deep_ret _ hH (UT.TA.le (by assumption) hle))) rfl ?_; refine vo_step (ok_sub rfl rfl rfl rfl (wrap_i64 (by omega) (by omega))) rfl ?_; refine vo_step (ok_assign rfl rfl rfl) rfl ?_; refine vo_nil ?_; refine N_seq ?_; refine V_block ?_; refine V_seq ?_; refine V_regionD (id := 2) [] mixed (by kernel_rfl) ?_; refine par_step (ok_move rfl rfl rfl) rfl ?_; refine par_step (ok_gtr rfl rfl rfl rfl (decide_eq_true (by omega))) rfl ?_; refine par_step (ok_move rfl rfl rfl) rfl ?_; refine par_step (ok_move rfl rfl rfl) rfl ?_; refine par_step (ok_nil rfl rfl rfl) rfl ?_; refine par_step (ok_fieldP L rfl rfl rfl rfl) rfl ?_; refine par_step (ok_load1 L (src_base rfl (by assumption)) rfl rfl rfl rfl) rfl ?_; refine par_step (ok_callx L rfl rfl (blt_lt rfl) rfl rfl rfl (fun u H hH hle _ => UT.deep_ret _ hH (UT.TA.le (by assumption) hle))) rfl ?_; refine par_step (ok_move rfl rfl rfl) rfl ?_; refine par_step (ok_nil rfl rfl rfl) rfl ?_; refine par_step (ok_fieldP L rfl rfl rfl rfl) rfl ?_; refine par_step (ok_load1 L (src_base rfl (by assumption)) rfl rfl rfl rfl) rfl ?_; refine par_step (ok_callx L rfl rfl (blt_lt rfl) rfl rfl rfl (fun u H hH hle _ => UT.deep_ret _ hH (UT.TA.le (by assumption) hle))) rfl ?_; refine par_step (ok_geq rfl rfl rfl rfl (decide_eq_true (by omega))) rfl ?_; refine par_step (ok_pick rfl rfl rfl rfl) rfl ?_; refine par_step (ok_assign rfl rfl rfl) rfl ?_; refine par_nil ?_; refine N_seq ?_; refine V_true rfl ?_; refine V_seq ?_; refine V_regionD (id := 3) [] mixed (by kernel_rfl) ?_; refine par_step (ok_move rfl rfl rfl) rfl ?_; refine par_step (ok_nil rfl rfl rfl) rfl ?_; refine par_step (ok_fieldP L rfl rfl rfl rfl) rfl ?_; refine par_step (ok_loadA L (vs := [_, _, _, _, _, _]) (src_base rfl (by assumption)) rfl rfl rfl rfl ⟨_, rfl⟩) rfl ?_; refine par_step (ok_move rfl rfl rfl) rfl ?_; refine par_step (ok_nil rfl rfl rfl) rfl ?_; refine par_step (ok_fieldP L rfl rfl rfl rfl) rfl ?_; refine par_step (ok_load1 L (src_base rfl (by assumption)) rfl rfl rfl rfl) rfl ?_; refine par_step (ok_loadA L (vs := [_, _, _, _, _, _]) (src_at rfl) rfl rfl rfl rfl ⟨_, rfl⟩) rfl ?_; refine par_step (ok_move rfl rfl rfl) rfl ?_; refine par_step (ok_nil rfl rfl rfl) rfl ?_; refine par_step (ok_fieldP L rfl rfl rfl rfl) rfl ?_; refine par_step (ok_load1 L (src_base rfl (by assumption)) rfl rfl rfl rfl) rfl ?_; refine par_step (ok_move rfl rfl rfl) rfl ?_; refine par_step (ok_call L rfl rfl (blt_lt rfl) rfl rfl rfl UT.TA.mono (fun u H hH hle _ => UT.join_ret _ () _ _ hH (UT.TA.le (by assumption) hle) (UT.TA.le (by assumption) hle) (by first | omega | (simp only [Tr.size_node]; omega)))) rfl ?_; refine par_step (ok_call L rfl rfl (blt_lt rfl) rfl rfl rfl UT.TA.mono (fun u H hH hle _ v1 hv1 => UT.join_ret _ () _ _ hH (UT.TA.le (by assumption) hle) hv1 (by first | omega | (simp only [Tr.size_node]; omega)))) rfl ?_; refine par_step (ok_assigns' rfl rfl rfl) rfl ?_; refine par_nil ?_; refine N_seq ?_
        refine V_ret L (rs := [.tmp 6]) rfl (fun _ _ h => h) Since.refl fun u H hH hle => ?_
        exact fun v hv => hv
      · rw [if_neg h2]
        cases lr with
        | nil => simp [Tr.deep] at h2
        | node mk mx ml mr =>
          have hlr0 := hlr; obtain ⟨b2, v3, v4, rfl, hb2, hml, hmr⟩ := hlr
          simp only [Tr.size_node] at hs hdl hd2
          refine V_seq ?_; refine V_region (id := 0) ?_; refine vo_step (ok_box rfl rfl rfl rfl) rfl ?_; refine vo_step (ok_assign rfl rfl rfl) rfl ?_; refine vo_nil ?_; refine N_seq ?_; refine V_seq ?_; refine V_seq ?_; refine V_region (id := 1) ?_; refine vo_step (ok_move rfl rfl rfl) rfl ?_; refine vo_step (ok_callx L rfl rfl (blt_lt rfl) rfl rfl rfl (fun u H hH hle _ => UT.deep_ret _ hH (UT.TA.le (by assumption) hle))) rfl ?_; refine vo_step (ok_move rfl rfl rfl) rfl ?_; refine vo_step (ok_callx L rfl rfl (blt_lt rfl) rfl rfl rfl (fun u H hH hle _ => UT.deep_ret _ hH (UT.TA.le (by assumption) hle))) rfl ?_; refine vo_step (ok_sub rfl rfl rfl rfl (wrap_i64 (by omega) (by omega))) rfl ?_; refine vo_step (ok_assign rfl rfl rfl) rfl ?_; refine vo_nil ?_; refine N_seq ?_; refine V_block ?_; refine V_seq ?_; refine V_regionD (id := 2) [] mixed (by kernel_rfl) ?_; refine par_step (ok_move rfl rfl rfl) rfl ?_; refine par_step (ok_gtr rfl rfl rfl rfl (decide_eq_true (by omega))) rfl ?_; refine par_step (ok_move rfl rfl rfl) rfl ?_; refine par_step (ok_move rfl rfl rfl) rfl ?_; refine par_step (ok_nil rfl rfl rfl) rfl ?_; refine par_step (ok_fieldP L rfl rfl rfl rfl) rfl ?_; refine par_step (ok_load1 L (src_base rfl (by assumption)) rfl rfl rfl rfl) rfl ?_; refine par_step (ok_callx L rfl rfl (blt_lt rfl) rfl rfl rfl (fun u H hH hle _ => UT.deep_ret _ hH (UT.TA.le (by assumption) hle))) rfl ?_; refine par_step (ok_move rfl rfl rfl) rfl ?_; refine par_step (ok_nil rfl rfl rfl) rfl ?_; refine par_step (ok_fieldP L rfl rfl rfl rfl) rfl ?_; refine par_step (ok_load1 L (src_base rfl (by assumption)) rfl rfl rfl rfl) rfl ?_; refine par_step (ok_callx L rfl rfl (blt_lt rfl) rfl rfl rfl (fun u H hH hle _ => UT.deep_ret _ hH (UT.TA.le (by assumption) hle))) rfl ?_; refine par_step (ok_geq rfl rfl rfl rfl (decide_eq_false (by omega))) rfl ?_; refine par_step (ok_pick rfl rfl rfl rfl) rfl ?_; refine par_step (ok_assign rfl rfl rfl) rfl ?_; refine par_nil ?_; refine N_seq ?_; refine V_false rfl ?_; refine V_seq ?_; refine V_region (id := 4) ?_; refine vo_step (ok_move rfl rfl rfl) rfl ?_; refine vo_step (ok_gtr rfl rfl rfl rfl (decide_eq_true (by omega))) rfl ?_; refine vo_step (ok_assign rfl rfl rfl) rfl ?_; refine vo_nil ?_; refine N_seq ?_; refine V_true rfl ?_; refine V_seq ?_; refine V_region (id := 5) ?_; refine vo_step (ok_move rfl rfl rfl) rfl ?_; refine vo_step (ok_nil rfl rfl rfl) rfl ?_; refine vo_step (ok_fieldP L rfl rfl rfl rfl) rfl ?_; refine vo_step (ok_load1 L (src_base rfl (by assumption)) rfl rfl rfl rfl) rfl ?_; refine vo_step (ok_assign rfl rfl rfl) rfl ?_; refine vo_nil ?_; refine N_seq ?_; refine V_seq ?_; refine V_regionD (id := 6) [] mixed (by kernel_rfl) ?_; refine par_step (ok_move rfl rfl rfl) rfl ?_; refine par_step (ok_nil rfl rfl rfl) rfl ?_; refine par_step (ok_fieldP L rfl rfl rfl rfl) rfl ?_; refine par_step (ok_loadA L (vs := [_, _, _, _, _, _]) (src_base rfl (by assumption)) rfl rfl rfl rfl ⟨_, rfl⟩) rfl ?_; refine par_step (ok_move rfl rfl rfl) rfl ?_; refine par_step (ok_nil rfl rfl rfl) rfl ?_; refine par_step (ok_fieldP L rfl rfl rfl rfl) rfl ?_; refine par_step (ok_loadA L (vs := [_, _, _, _, _, _]) (src_base rfl (by assumption)) rfl rfl rfl rfl ⟨_, rfl⟩) rfl ?_; refine par_step (ok_move rfl rfl rfl) rfl ?_; refine par_step (ok_nil rfl rfl rfl) rfl ?_; refine par_step (ok_fieldP L rfl rfl rfl rfl) rfl ?_; refine par_step (ok_load1 L (src_base rfl (by assumption)) rfl rfl rfl rfl) rfl ?_; refine par_step (ok_move rfl rfl rfl) rfl ?_; refine par_step (ok_nil rfl rfl rfl) rfl ?_; refine par_step (ok_fieldP L rfl rfl rfl rfl) rfl ?_; refine par_step (ok_load1 L (src_base rfl (by assumption)) rfl rfl rfl rfl) rfl ?_; refine par_step (ok_call L rfl rfl (blt_lt rfl) rfl rfl rfl UT.TA.mono (fun u H hH hle _ => UT.join_ret _ () _ _ hH (UT.TA.le (by assumption) hle) (UT.TA.le (by assumption) hle) (by first | omega | (simp only [Tr.size_node]; omega)))) rfl ?_; refine par_step (ok_loadA L (vs := [_, _, _, _, _, _]) (src_at rfl) rfl rfl rfl rfl ⟨_, rfl⟩) rfl ?_; refine par_step (ok_move rfl rfl rfl) rfl ?_; refine par_step (ok_nil rfl rfl rfl) rfl ?_; refine par_step (ok_fieldP L rfl rfl rfl rfl) rfl ?_; refine par_step (ok_load1 L (src_base rfl (by assumption)) rfl rfl rfl rfl) rfl ?_; refine par_step (ok_move rfl rfl rfl) rfl ?_; refine par_step (ok_call L rfl rfl (blt_lt rfl) rfl rfl rfl UT.TA.mono (fun u H hH hle _ => UT.join_ret _ () _ _ hH (UT.TA.le (by assumption) hle) (UT.TA.le (by assumption) hle) (by first | omega | (simp only [Tr.size_node]; omega)))) rfl ?_; refine par_step (ok_call L rfl rfl (blt_lt rfl) rfl rfl rfl UT.TA.mono (fun u H hH hle _ v1 hv1 v2 hv2 => UT.join_ret _ () _ _ hH hv1 hv2 (by first | omega | (simp only [Tr.size_node]; omega)))) rfl ?_; refine par_step (ok_assigns' rfl rfl rfl) rfl ?_; refine par_nil ?_; refine N_seq ?_
          refine V_ret L (rs := [.tmp 6]) rfl (fun _ _ h => h) Since.refl fun u H hH hle => ?_
          exact fun v hv => hv
  · rw [if_neg h1]
    by_cases h3 : r.deep > l.deep + 1
    · rw [if_pos h3]
      cases r with
      | nil => simp [Tr.deep] at h3
      | node rk rx rl rr =>
        have hr0 := hr; obtain ⟨b1, v1, v2, rfl, hb1, hrl, hrr⟩ := hr
        have hd1 := rl.deep_le
        have hd2 := rr.deep_le
        simp only [Tr.size_node] at hs hdr
        dsimp only
        by_cases h2 : rr.deep ≥ rl.deep
        · rw [if_pos h2]
          refine V_seq ?_; refine V_region (id := 0) ?_; refine vo_step (ok_box rfl rfl rfl rfl) rfl ?_; refine vo_step (ok_assign rfl rfl rfl) rfl ?_; refine vo_nil ?_; refine N_seq ?_; refine V_seq ?_; refine V_seq ?_; refine V_region (id := 1) ?_; refine vo_step (ok_move rfl rfl rfl) rfl ?_; refine vo_step (ok_callx L rfl rfl (blt_lt rfl) rfl rfl rfl (fun u H hH hle _ => UT.deep_ret _ hH (UT.TA.le (by assumption) hle))) rfl ?_; refine vo_step (ok_move rfl rfl rfl) rfl ?_; refine vo_step (ok_callx L rfl rfl (blt_lt rfl) rfl rfl rfl (fun u H hH hle _ => UT.deep_ret _ hH (UT.TA.le (by assumption) hle))) rfl ?_; refine vo_step (ok_sub rfl rfl rfl rfl (wrap_i64 (by omega) (by omega))) rfl ?_; refine vo_step (ok_assign rfl rfl rfl) rfl ?_; refine vo_nil ?_; refine N_seq ?_; refine V_block ?_; refine V_seq ?_; refine V_regionD (id := 2) [] mixed (by kernel_rfl) ?_; refine par_step (ok_move rfl rfl rfl) rfl ?_; refine par_step (ok_gtr rfl rfl rfl rfl (decide_eq_false (by omega))) rfl ?_; refine par_step (ok_move rfl rfl rfl) rfl ?_; refine par_step (ok_skip rfl (blt_lt rfl) rfl) rfl ?_; refine par_step (ok_skip rfl (blt_lt rfl) rfl) rfl ?_; refine par_step (ok_skip rfl (blt_lt rfl) rfl) rfl ?_; refine par_step (ok_skip rfl (blt_lt rfl) rfl) rfl ?_; refine par_step (ok_skip rfl (blt_lt rfl) rfl) rfl ?_; refine par_step (ok_skip rfl (blt_lt rfl) rfl) rfl ?_; refine par_step (ok_skip rfl (blt_lt rfl) rfl) rfl ?_; refine par_step (ok_skip rfl (blt_lt rfl) rfl) rfl ?_; refine par_step (ok_skip rfl (blt_lt rfl) rfl) rfl ?_; refine par_step (ok_skip rfl (blt_lt rfl) rfl) rfl ?_; refine par_step (ok_skip rfl (blt_lt rfl) rfl) rfl ?_; refine par_step (ok_pick rfl rfl rfl rfl) rfl ?_; refine par_step (ok_assign rfl rfl rfl) rfl ?_; refine par_nil ?_; refine N_seq ?_; refine V_false rfl ?_; refine V_seq ?_; refine V_region (id := 4) ?_; refine vo_step (ok_move rfl rfl rfl) rfl ?_; refine vo_step (ok_gtr rfl rfl rfl rfl (decide_eq_false (by omega))) rfl ?_; refine vo_step (ok_assign rfl rfl rfl) rfl ?_; refine vo_nil ?_; refine N_seq ?_; refine V_false rfl ?_; refine V_seq ?_; refine V_regionD (id := 7) [] mixed (by kernel_rfl) ?_; refine par_step (ok_move rfl rfl rfl) rfl ?_; refine par_step (ok_lss rfl rfl rfl rfl (decide_eq_true (by omega))) rfl ?_; refine par_step (ok_move rfl rfl rfl) rfl ?_; refine par_step (ok_move rfl rfl rfl) rfl ?_; refine par_step (ok_nil rfl rfl rfl) rfl ?_; refine par_step (ok_fieldP L rfl rfl rfl rfl) rfl ?_; refine par_step (ok_load1 L (src_base rfl (by assumption)) rfl rfl rfl rfl) rfl ?_; refine par_step (ok_callx L rfl rfl (blt_lt rfl) rfl rfl rfl (fun u H hH hle _ => UT.deep_ret _ hH (UT.TA.le (by assumption) hle))) rfl ?_; refine par_step (ok_move rfl rfl rfl) rfl ?_; refine par_step (ok_nil rfl rfl rfl) rfl ?_; refine par_step (ok_fieldP L rfl rfl rfl rfl) rfl ?_; refine par_step (ok_load1 L (src_base rfl (by assumption)) rfl rfl rfl rfl) rfl ?_; refine par_step (ok_callx L rfl rfl (blt_lt rfl) rfl rfl rfl (fun u H hH hle _ => UT.deep_ret _ hH (UT.TA.le (by assumption) hle))) rfl ?_; refine par_step (ok_geq rfl rfl rfl rfl (decide_eq_true (by omega))) rfl ?_; refine par_step (ok_pick rfl rfl rfl rfl) rfl ?_; refine par_step (ok_assign rfl rfl rfl) rfl ?_; refine par_nil ?_; refine N_seq ?_; refine V_true rfl ?_; refine V_seq ?_; refine V_regionD (id := 8) [] mixed (by kernel_rfl) ?_; refine par_step (ok_move rfl rfl rfl) rfl ?_; refine par_step (ok_nil rfl rfl rfl) rfl ?_; refine par_step (ok_fieldP L rfl rfl rfl rfl) rfl ?_; refine par_step (ok_loadA L (vs := [_, _, _, _, _, _]) (src_base rfl (by assumption)) rfl rfl rfl rfl ⟨_, rfl⟩) rfl ?_; refine par_step (ok_loadA L (vs := [_, _, _, _, _, _]) (src_at rfl) rfl rfl rfl rfl ⟨_, rfl⟩) rfl ?_; refine par_step (ok_move rfl rfl rfl) rfl ?_; refine par_step (ok_move rfl rfl rfl) rfl ?_; refine par_step (ok_nil rfl rfl rfl) rfl ?_; refine par_step (ok_fieldP L rfl rfl rfl rfl) rfl ?_; refine par_step (ok_load1 L (src_base rfl (by assumption)) rfl rfl rfl rfl) rfl ?_; refine par_step (ok_call L rfl rfl (blt_lt rfl) rfl rfl rfl UT.TA.mono (fun u H hH hle _ => UT.join_ret _ () _ _ hH (UT.TA.le (by assumption) hle) (UT.TA.le (by assumption) hle) (by first | omega | (simp only [Tr.size_node]; omega)))) rfl ?_; refine par_step (ok_move rfl rfl rfl) rfl ?_; refine par_step (ok_nil rfl rfl rfl) rfl ?_; refine par_step (ok_fieldP L rfl rfl rfl rfl) rfl ?_; refine par_step (ok_load1 L (src_base rfl (by assumption)) rfl rfl rfl rfl) rfl ?_; refine par_step (ok_call L rfl rfl (blt_lt rfl) rfl rfl rfl UT.TA.mono (fun u H hH hle _ v1 hv1 => UT.join_ret _ () _ _ hH hv1 (UT.TA.le (by assumption) hle) (by first | omega | (simp only [Tr.size_node]; omega)))) rfl ?_; refine par_step (ok_assigns' rfl rfl rfl) rfl ?_; refine par_nil ?_; refine N_seq ?_
          refine V_ret L (rs := [.tmp 6]) rfl (fun _ _ h => h) Since.refl fun u H hH hle => ?_
          exact fun v hv => hv
        · rw [if_neg h2]
          cases rl with
          | nil => simp [Tr.deep] at h2
          | node mk mx ml mr =>
            have hrl0 := hrl; obtain ⟨b2, v3, v4, rfl, hb2, hml, hmr⟩ := hrl
            simp only [Tr.size_node] at hs hdr hd1
            refine V_seq ?_; refine V_region (id := 0) ?_; refine vo_step (ok_box rfl rfl rfl rfl) rfl ?_; refine vo_step (ok_assign rfl rfl rfl) rfl ?_; refine vo_nil ?_; refine N_seq ?_; refine V_seq ?_; refine V_seq ?_; refine V_region (id := 1) ?_; refine vo_step (ok_move rfl rfl rfl) rfl ?_; refine vo_step (ok_callx L rfl rfl (blt_lt rfl) rfl rfl rfl (fun u H hH hle _ => UT.deep_ret _ hH (UT.TA.le (by assumption) hle))) rfl ?_; refine vo_step (ok_move rfl rfl rfl) rfl ?_; refine vo_step (ok_callx L rfl rfl (blt_lt rfl) rfl rfl rfl (fun u H hH hle _ => UT.deep_ret _ hH (UT.TA.le (by assumption) hle))) rfl ?_; refine vo_step (ok_sub rfl rfl rfl rfl (wrap_i64 (by omega) (by omega))) rfl ?_; refine vo_step (ok_assign rfl rfl rfl) rfl ?_; refine vo_nil ?_; refine N_seq ?_; refine V_block ?_; refine V_seq ?_; refine V_regionD (id := 2) [] mixed (by kernel_rfl) ?_; refine par_step (ok_move rfl rfl rfl) rfl ?_; refine par_step (ok_gtr rfl rfl rfl rfl (decide_eq_false (by omega))) rfl ?_; refine par_step (ok_move rfl rfl rfl) rfl ?_; refine par_step (ok_skip rfl (blt_lt rfl) rfl) rfl ?_; refine par_step (ok_skip rfl (blt_lt rfl) rfl) rfl ?_; refine par_step (ok_skip rfl (blt_lt rfl) rfl) rfl ?_; refine par_step (ok_skip rfl (blt_lt rfl) rfl) rfl ?_; refine par_step (ok_skip rfl (blt_lt rfl) rfl) rfl ?_; refine par_step (ok_skip rfl (blt_lt rfl) rfl) rfl ?_; refine par_step (ok_skip rfl (blt_lt rfl) rfl) rfl ?_; refine par_step (ok_skip rfl (blt_lt rfl) rfl) rfl ?_; refine par_step (ok_skip rfl (blt_lt rfl) rfl) rfl ?_; refine par_step (ok_skip rfl (blt_lt rfl) rfl) rfl ?_; refine par_step (ok_skip rfl (blt_lt rfl) rfl) rfl ?_; refine par_step (ok_pick rfl rfl rfl rfl) rfl ?_; refine par_step (ok_assign rfl rfl rfl) rfl ?_; refine par_nil ?_; refine N_seq ?_; refine V_false rfl ?_; refine V_seq ?_; refine V_region (id := 4) ?_; refine vo_step (ok_move rfl rfl rfl) rfl ?_; refine vo_step (ok_gtr rfl rfl rfl rfl (decide_eq_false (by omega))) rfl ?_; refine vo_step (ok_assign rfl rfl rfl) rfl ?_; refine vo_nil ?_; refine N_seq ?_; refine V_false rfl ?_; refine V_seq ?_; refine V_regionD (id := 7) [] mixed (by kernel_rfl) ?_; refine par_step (ok_move rfl rfl rfl) rfl ?_; refine par_step (ok_lss rfl rfl rfl rfl (decide_eq_true (by omega))) rfl ?_; refine par_step (ok_move rfl rfl rfl) rfl ?_; refine par_step (ok_move rfl rfl rfl) rfl ?_; refine par_step (ok_nil rfl rfl rfl) rfl ?_; refine par_step (ok_fieldP L rfl rfl rfl rfl) rfl ?_; refine par_step (ok_load1 L (src_base rfl (by assumption)) rfl rfl rfl rfl) rfl ?_; refine par_step (ok_callx L rfl rfl (blt_lt rfl) rfl rfl rfl (fun u H hH hle _ => UT.deep_ret _ hH (UT.TA.le (by assumption) hle))) rfl ?_; refine par_step (ok_move rfl rfl rfl) rfl ?_; refine par_step (ok_nil rfl rfl rfl) rfl ?_; refine par_step (ok_fieldP L rfl rfl rfl rfl) rfl ?_; refine par_step (ok_load1 L (src_base rfl (by assumption)) rfl rfl rfl rfl) rfl ?_; refine par_step (ok_callx L rfl rfl (blt_lt rfl) rfl rfl rfl (fun u H hH hle _ => UT.deep_ret _ hH (UT.TA.le (by assumption) hle))) rfl ?_; refine par_step (ok_geq rfl rfl rfl rfl (decide_eq_false (by omega))) rfl ?_; refine par_step (ok_pick rfl rfl rfl rfl) rfl ?_; refine par_step (ok_assign rfl rfl rfl) rfl ?_; refine par_nil ?_; refine N_seq ?_; refine V_false rfl ?_; refine V_seq ?_; refine V_region (id := 9) ?_; refine vo_step (ok_move rfl rfl rfl) rfl ?_; refine vo_step (ok_lss rfl rfl rfl rfl (decide_eq_true (by omega))) rfl ?_; refine vo_step (ok_assign rfl rfl rfl) rfl ?_; refine vo_nil ?_; refine N_seq ?_; refine V_true rfl ?_; refine V_seq ?_; refine V_region (id := 10) ?_; refine vo_step (ok_move rfl rfl rfl) rfl ?_; refine vo_step (ok_nil rfl rfl rfl) rfl ?_; refine vo_step (ok_fieldP L rfl rfl rfl rfl) rfl ?_; refine vo_step (ok_load1 L (src_base rfl (by assumption)) rfl rfl rfl rfl) rfl ?_; refine vo_step (ok_assign rfl rfl rfl) rfl ?_; refine vo_nil ?_; refine N_seq ?_; refine V_seq ?_; refine V_regionD (id := 11) [] mixed (by kernel_rfl) ?_; refine par_step (ok_move rfl rfl rfl) rfl ?_; refine par_step (ok_nil rfl rfl rfl) rfl ?_; refine par_step (ok_fieldP L rfl rfl rfl rfl) rfl ?_; refine par_step (ok_loadA L (vs := [_, _, _, _, _, _]) (src_base rfl (by assumption)) rfl rfl rfl rfl ⟨_, rfl⟩) rfl ?_; refine par_step (ok_loadA L (vs := [_, _, _, _, _, _]) (src_at rfl) rfl rfl rfl rfl ⟨_, rfl⟩) rfl ?_; refine par_step (ok_move rfl rfl rfl) rfl ?_; refine par_step (ok_move rfl rfl rfl) rfl ?_; refine par_step (ok_nil rfl rfl rfl) rfl ?_; refine par_step (ok_fieldP L rfl rfl rfl rfl) rfl ?_; refine par_step (ok_load1 L (src_base rfl (by assumption)) rfl rfl rfl rfl) rfl ?_; refine par_step (ok_call L rfl rfl (blt_lt rfl) rfl rfl rfl UT.TA.mono (fun u H hH hle _ => UT.join_ret _ () _ _ hH (UT.TA.le (by assumption) hle) (UT.TA.le (by assumption) hle) (by first | omega | (simp only [Tr.size_node]; omega)))) rfl ?_; refine par_step (ok_move rfl rfl rfl) rfl ?_; refine par_step (ok_nil rfl rfl rfl) rfl ?_; refine par_step (ok_fieldP L rfl rfl rfl rfl) rfl ?_; refine par_step (ok_loadA L (vs := [_, _, _, _, _, _]) (src_base rfl (by assumption)) rfl rfl rfl rfl ⟨_, rfl⟩) rfl ?_; refine par_step (ok_move rfl rfl rfl) rfl ?_; refine par_step (ok_nil rfl rfl rfl) rfl ?_; refine par_step (ok_fieldP L rfl rfl rfl rfl) rfl ?_; refine par_step (ok_load1 L (src_base rfl (by assumption)) rfl rfl rfl rfl) rfl ?_; refine par_step (ok_move rfl rfl rfl) rfl ?_; refine par_step (ok_nil rfl rfl rfl) rfl ?_; refine par_step (ok_fieldP L rfl rfl rfl rfl) rfl ?_; refine par_step (ok_load1 L (src_base rfl (by assumption)) rfl rfl rfl rfl) rfl ?_; refine par_step (ok_call L rfl rfl (blt_lt rfl) rfl rfl rfl UT.TA.mono (fun u H hH hle _ => UT.join_ret _ () _ _ hH (UT.TA.le (by assumption) hle) (UT.TA.le (by assumption) hle) (by first | omega | (simp only [Tr.size_node]; omega)))) rfl ?_; refine par_step (ok_call L rfl rfl (blt_lt rfl) rfl rfl rfl UT.TA.mono (fun u H hH hle _ v1 hv1 v2 hv2 => UT.join_ret _ () _ _ hH hv1 hv2 (by first | omega | (simp only [Tr.size_node]; omega)))) rfl ?_; refine par_step (ok_assigns' rfl rfl rfl) rfl ?_; refine par_nil ?_; refine N_seq ?_
            refine V_ret L (rs := [.tmp 6]) rfl (fun _ _ h => h) Since.refl fun u H hH hle => ?_
            exact fun v hv => hv
    · rw [if_neg h3]
      refine V_seq ?_; refine V_region (id := 0) ?_; refine vo_step (ok_box rfl rfl rfl rfl) rfl ?_; refine vo_step (ok_assign rfl rfl rfl) rfl ?_; refine vo_nil ?_; refine N_seq ?_; refine V_seq ?_; refine V_seq ?_; refine V_region (id := 1) ?_; refine vo_step (ok_move rfl rfl rfl) rfl ?_; refine vo_step (ok_callx L rfl rfl (blt_lt rfl) rfl rfl rfl (fun u H hH hle _ => UT.deep_ret _ hH (UT.TA.le (by assumption) hle))) rfl ?_; refine vo_step (ok_move rfl rfl rfl) rfl ?_; refine vo_step (ok_callx L rfl rfl (blt_lt rfl) rfl rfl rfl (fun u H hH hle _ => UT.deep_ret _ hH (UT.TA.le (by assumption) hle))) rfl ?_; refine vo_step (ok_sub rfl rfl rfl rfl (wrap_i64 (by omega) (by omega))) rfl ?_; refine vo_step (ok_assign rfl rfl rfl) rfl ?_; refine vo_nil ?_; refine N_seq ?_; refine V_block ?_; refine V_seq ?_; refine V_regionD (id := 2) [] mixed (by kernel_rfl) ?_; refine par_step (ok_move rfl rfl rfl) rfl ?_; refine par_step (ok_gtr rfl rfl rfl rfl (decide_eq_false (by omega))) rfl ?_; refine par_step (ok_move rfl rfl rfl) rfl ?_; refine par_step (ok_skip rfl (blt_lt rfl) rfl) rfl ?_; refine par_step (ok_skip rfl (blt_lt rfl) rfl) rfl ?_; refine par_step (ok_skip rfl (blt_lt rfl) rfl) rfl ?_; refine par_step (ok_skip rfl (blt_lt rfl) rfl) rfl ?_; refine par_step (ok_skip rfl (blt_lt rfl) rfl) rfl ?_; refine par_step (ok_skip rfl (blt_lt rfl) rfl) rfl ?_; refine par_step (ok_skip rfl (blt_lt rfl) rfl) rfl ?_; refine par_step (ok_skip rfl (blt_lt rfl) rfl) rfl ?_; refine par_step (ok_skip rfl (blt_lt rfl) rfl) rfl ?_; refine par_step (ok_skip rfl (blt_lt rfl) rfl) rfl ?_; refine par_step (ok_skip rfl (blt_lt rfl) rfl) rfl ?_; refine par_step (ok_pick rfl rfl rfl rfl) rfl ?_; refine par_step (ok_assign rfl rfl rfl) rfl ?_; refine par_nil ?_; refine N_seq ?_; refine V_false rfl ?_; refine V_seq ?_; refine V_region (id := 4) ?_; refine vo_step (ok_move rfl rfl rfl) rfl ?_; refine vo_step (ok_gtr rfl rfl rfl rfl (decide_eq_false (by omega))) rfl ?_; refine vo_step (ok_assign rfl rfl rfl) rfl ?_; refine vo_nil ?_; refine N_seq ?_; refine V_false rfl ?_; refine V_seq ?_; refine V_regionD (id := 7) [] mixed (by kernel_rfl) ?_; refine par_step (ok_move rfl rfl rfl) rfl ?_; refine par_step (ok_lss rfl rfl rfl rfl (decide_eq_false (by omega))) rfl ?_; refine par_step (ok_move rfl rfl rfl) rfl ?_; refine par_step (ok_skip rfl (blt_lt rfl) rfl) rfl ?_; refine par_step (ok_skip rfl (blt_lt rfl) rfl) rfl ?_; refine par_step (ok_skip rfl (blt_lt rfl) rfl) rfl ?_; refine par_step (ok_skip rfl (blt_lt rfl) rfl) rfl ?_; refine par_step (ok_skip rfl (blt_lt rfl) rfl) rfl ?_; refine par_step (ok_skip rfl (blt_lt rfl) rfl) rfl ?_; refine par_step (ok_skip rfl (blt_lt rfl) rfl) rfl ?_; refine par_step (ok_skip rfl (blt_lt rfl) rfl) rfl ?_; refine par_step (ok_skip rfl (blt_lt rfl) rfl) rfl ?_; refine par_step (ok_skip rfl (blt_lt rfl) rfl) rfl ?_; refine par_step (ok_skip rfl (blt_lt rfl) rfl) rfl ?_; refine par_step (ok_pick rfl rfl rfl rfl) rfl ?_; refine par_step (ok_assign rfl rfl rfl) rfl ?_; refine par_nil ?_; refine N_seq ?_; refine V_false rfl ?_; refine V_seq ?_; refine V_region (id := 9) ?_; refine vo_step (ok_move rfl rfl rfl) rfl ?_; refine vo_step (ok_lss rfl rfl rfl rfl (decide_eq_false (by omega))) rfl ?_; refine vo_step (ok_assign rfl rfl rfl) rfl ?_; refine vo_nil ?_; refine N_seq ?_; refine V_false rfl ?_; refine V_skip ?_; refine N_block ?_; refine N_seq ?_; refine V_seq ?_; refine V_region (id := 12) ?_; refine vo_step (ok_loadA L (vs := [_, _, _, _, _, _]) (src_at rfl) rfl rfl rfl rfl ⟨_, rfl⟩) rfl ?_; refine vo_step (ok_move rfl rfl rfl) rfl ?_; refine vo_step (ok_move rfl rfl rfl) rfl ?_; refine vo_step (ok_call L rfl rfl (blt_lt rfl) rfl rfl rfl UT.TA.mono (fun u H hH hle _ => UT.join_ret _ () _ _ hH (UT.TA.le (by assumption) hle) (UT.TA.le (by assumption) hle) (by first | omega | (simp only [Tr.size_node]; omega)))) rfl ?_; refine vo_step (ok_assigns' rfl rfl rfl) rfl ?_; refine vo_nil ?_; refine N_seq ?_
      refine V_ret L (rs := [.tmp 6]) rfl (fun _ _ h => h) Since.refl fun u H hH hle => ?_
      exact fun v hv => hv
end Go.V.UT
/- The walks of trees at countersign/api.Tuple, struct{}: what is put in, what is dropped. -/
namespace Go.V.UT
open Go.Proofs Go.RowKit Go.V
structure Cmp (cf : Nat) (c : KT → KT → Int) : Prop where
  fn : L.fn cf = some ()
  ret : ∀ (a b : KT) (u : World) (H : Heap), H.Le (hp u) → Ret Tryz.prog cf [kv a, kv b] u H (fun v _ => v = .int .i64 (c a b))
abbrev mv (cf : Nat) (root : Value) : Value := .agg #[.func (.func cf) #[] #[], root]
attribute [local irreducible] V N X VO Par StepOK Has Ret RetL Src
theorem put_ret {cf : Nat} {c : KT → KT → Int} (hc : Cmp cf c) (root : Value) (k : KT) (x : VT) : ∀ (t : Tr KT VT) {rv : Value} {w : World} {B : Heap}, B.Le (hp w) → TA t rv B → t.size + 1 < 1099511627776 →
    Ret Tryz.prog 95 [mv cf root, rv, .agg (pl k x).toArray] w B (TA (Tr.put c k x t)) := by
  intro t
  induction t with
  | nil =>
    intro rv w B hB hv hs
    obtain rfl : rv = .pointer none := hv
    have hn : TA .nil (.pointer none) B := rfl
    have hz : (Tr.nil : Tr KT VT).size = 0 := rfl
    refine V_enter Tryz.func95 rfl Tryz.ntmps95 (Nat.le_of_ble_eq_true rfl) hB ?_
    refine V_seq ?_; refine V_region (id := 0) ?_; refine vo_step (ok_box rfl rfl rfl rfl) rfl ?_; refine vo_step (ok_box rfl rfl rfl rfl) rfl ?_; refine vo_step (ok_assign rfl rfl rfl) rfl ?_; refine vo_nil ?_; refine N_seq ?_; refine V_seq ?_; refine V_seq ?_; refine V_region (id := 1) ?_; refine vo_step (ok_move rfl rfl rfl) rfl ?_; refine vo_step (ok_neql rfl rfl rfl rfl nk34 rfl) rfl ?_; refine vo_nil ?_; refine N_seq ?_; refine V_true rfl ?_; refine V_seq ?_; refine V_region (id := 2) ?_; refine vo_step (ok_loadA L (vs := [_, _, _, _, _, _]) (src_at rfl) rfl rfl rfl rfl ⟨_, rfl⟩) rfl ?_; refine vo_step (ok_call L rfl rfl (blt_lt rfl) rfl rfl rfl UT.TA.mono (fun u H hH hle _ => UT.join_ret _ () _ _ hH (UT.TA.le (by assumption) hle) (UT.TA.le (by assumption) hle) (by first | omega | (simp only [Tr.size_node]; omega)))) rfl ?_; refine vo_step (ok_assigns' rfl rfl rfl) rfl ?_; refine vo_nil ?_; refine N_seq ?_
    refine V_ret L (rs := [.tmp 6]) rfl (fun _ _ h => h) Since.refl fun u H hH hle => ?_
    exact fun v hv => hv
  | node nk nx l r ihl ihr =>
    intro rv w B hB hv hs
    obtain ⟨b, lv, rv', rfl, hb, hl, hr⟩ := hv
    have hpl := Tr.size_put c k x l
    have hpr := Tr.size_put c k x r
    simp only [Tr.size_node] at hs
    refine V_enter Tryz.func95 rfl Tryz.ntmps95 (Nat.le_of_ble_eq_true rfl) hB ?_
    unfold Tr.put
    by_cases h1 : c k nk < 0
    · rw [if_pos h1]
      refine V_seq ?_; refine V_region (id := 0) ?_; refine vo_step (ok_box rfl rfl rfl rfl) rfl ?_; refine vo_step (ok_box rfl rfl rfl rfl) rfl ?_; refine vo_step (ok_assign rfl rfl rfl) rfl ?_; refine vo_nil ?_; refine N_seq ?_; refine V_seq ?_; refine V_seq ?_; refine V_region (id := 1) ?_; refine vo_step (ok_move rfl rfl rfl) rfl ?_; refine vo_step (ok_neql rfl rfl rfl rfl nk34 rfl) rfl ?_; refine vo_nil ?_; refine N_seq ?_; refine V_false rfl ?_; refine V_skip ?_; refine N_seq ?_; refine V_seq ?_; refine V_seq ?_; refine V_regionD (id := 3) [] mixed (by kernel_rfl) ?_; refine par_step (ok_fieldAt L rfl rfl rfl rfl) rfl ?_; refine par_step (ok_load1 L (src_at rfl) rfl rfl rfl rfl) rfl ?_; refine par_step (ok_fieldAt L rfl rfl rfl rfl) rfl ?_; refine par_step (ok_loadA L (vs := [_, _, _, _, _, _]) (src_at rfl) rfl rfl rfl rfl ⟨_, rfl⟩) rfl ?_; refine par_step (ok_move rfl rfl rfl) rfl ?_; refine par_step (ok_nil rfl rfl rfl) rfl ?_; refine par_step (ok_fieldP L rfl rfl rfl rfl) rfl ?_; refine par_step (ok_fieldP L rfl rfl rfl rfl) rfl ?_; refine par_step (ok_loadA L (vs := [_, _, _, _, _, _]) (src_base rfl (by assumption)) rfl rfl rfl rfl ⟨_, rfl⟩) rfl ?_; refine par_step (ok_callx L rfl rfl (blt_lt rfl) rfl rfl hc.fn (fun u H hH _ _ => hc.ret _ _ u H hH)) rfl ?_; refine par_step (ok_assign rfl rfl rfl) rfl ?_; refine par_nil ?_; refine N_seq ?_; refine V_block ?_; refine V_seq ?_; refine V_region (id := 4) ?_; refine vo_step (ok_move rfl rfl rfl) rfl ?_; refine vo_step (ok_lss rfl rfl rfl rfl (decide_eq_true (by omega))) rfl ?_; refine vo_step (ok_assign rfl rfl rfl) rfl ?_; refine vo_nil ?_; refine N_seq ?_; refine V_true rfl ?_; refine V_seq ?_; refine V_regionD (id := 5) [] mixed (by kernel_rfl) ?_; refine par_step (ok_move rfl rfl rfl) rfl ?_; refine par_step (ok_nil rfl rfl rfl) rfl ?_; refine par_step (ok_fieldP L rfl rfl rfl rfl) rfl ?_; refine par_step (ok_loadA L (vs := [_, _, _, _, _, _]) (src_base rfl (by assumption)) rfl rfl rfl rfl ⟨_, rfl⟩) rfl ?_; refine par_step (ok_loadA L (vs := [_, _]) (src_at rfl) rfl rfl rfl rfl ⟨_, rfl⟩) rfl ?_; refine par_step (ok_move rfl rfl rfl) rfl ?_; refine par_step (ok_nil rfl rfl rfl) rfl ?_; refine par_step (ok_fieldP L rfl rfl rfl rfl) rfl ?_; refine par_step (ok_load1 L (src_base rfl (by assumption)) rfl rfl rfl rfl) rfl ?_; refine par_step (ok_loadA L (vs := [_, _, _, _, _, _]) (src_at rfl) rfl rfl rfl rfl ⟨_, rfl⟩) rfl ?_; refine par_step (ok_call L rfl rfl (blt_lt rfl) rfl rfl rfl TA.mono (fun u H hH hle _ => ihl hH (hl.le hle) (by omega))) rfl ?_; refine par_step (ok_move rfl rfl rfl) rfl ?_; refine par_step (ok_nil rfl rfl rfl) rfl ?_; refine par_step (ok_fieldP L rfl rfl rfl rfl) rfl ?_; refine par_step (ok_load1 L (src_base rfl (by assumption)) rfl rfl rfl rfl) rfl ?_; refine par_step (ok_call L rfl rfl (blt_lt rfl) rfl rfl rfl UT.TA.mono (fun u H hH hle _ v1 hv1 => UT.bal_ret _ () _ _ hH hv1 (UT.TA.le (by assumption) hle) (by first | omega | (simp only [Tr.size_node]; omega)))) rfl ?_; refine par_step (ok_assigns' rfl rfl rfl) rfl ?_; refine par_nil ?_; refine N_seq ?_
      refine V_ret L (rs := [.tmp 6]) rfl (fun _ _ h => h) Since.refl fun u H hH hle => ?_
      exact fun v hv => hv
    · rw [if_neg h1]
      by_cases h2 : c k nk > 0
      · rw [if_pos h2]
        refine V_seq ?_; refine V_region (id := 0) ?_; refine vo_step (ok_box rfl rfl rfl rfl) rfl ?_; refine vo_step (ok_box rfl rfl rfl rfl) rfl ?_; refine vo_step (ok_assign rfl rfl rfl) rfl ?_; refine vo_nil ?_; refine N_seq ?_; refine V_seq ?_; refine V_seq ?_; refine V_region (id := 1) ?_; refine vo_step (ok_move rfl rfl rfl) rfl ?_; refine vo_step (ok_neql rfl rfl rfl rfl nk34 rfl) rfl ?_; refine vo_nil ?_; refine N_seq ?_; refine V_false rfl ?_; refine V_skip ?_; refine N_seq ?_; refine V_seq ?_; refine V_seq ?_; refine V_regionD (id := 3) [] mixed (by kernel_rfl) ?_; refine par_step (ok_fieldAt L rfl rfl rfl rfl) rfl ?_; refine par_step (ok_load1 L (src_at rfl) rfl rfl rfl rfl) rfl ?_; refine par_step (ok_fieldAt L rfl rfl rfl rfl) rfl ?_; refine par_step (ok_loadA L (vs := [_, _, _, _, _, _]) (src_at rfl) rfl rfl rfl rfl ⟨_, rfl⟩) rfl ?_; refine par_step (ok_move rfl rfl rfl) rfl ?_; refine par_step (ok_nil rfl rfl rfl) rfl ?_; refine par_step (ok_fieldP L rfl rfl rfl rfl) rfl ?_; refine par_step (ok_fieldP L rfl rfl rfl rfl) rfl ?_; refine par_step (ok_loadA L (vs := [_, _, _, _, _, _]) (src_base rfl (by assumption)) rfl rfl rfl rfl ⟨_, rfl⟩) rfl ?_; refine par_step (ok_callx L rfl rfl (blt_lt rfl) rfl rfl hc.fn (fun u H hH _ _ => hc.ret _ _ u H hH)) rfl ?_; refine par_step (ok_assign rfl rfl rfl) rfl ?_; refine par_nil ?_; refine N_seq ?_; refine V_block ?_; refine V_seq ?_; refine V_region (id := 4) ?_; refine vo_step (ok_move rfl rfl rfl) rfl ?_; refine vo_step (ok_lss rfl rfl rfl rfl (decide_eq_false (by omega))) rfl ?_; refine vo_step (ok_assign rfl rfl rfl) rfl ?_; refine vo_nil ?_; refine N_seq ?_; refine V_false rfl ?_; refine V_seq ?_; refine V_region (id := 6) ?_; refine vo_step (ok_move rfl rfl rfl) rfl ?_; refine vo_step (ok_gtr rfl rfl rfl rfl (decide_eq_true (by omega))) rfl ?_; refine vo_step (ok_assign rfl rfl rfl) rfl ?_; refine vo_nil ?_; refine N_seq ?_; refine V_true rfl ?_; refine V_seq ?_; refine V_regionD (id := 7) [] mixed (by kernel_rfl) ?_; refine par_step (ok_move rfl rfl rfl) rfl ?_; refine par_step (ok_nil rfl rfl rfl) rfl ?_; refine par_step (ok_fieldP L rfl rfl rfl rfl) rfl ?_; refine par_step (ok_loadA L (vs := [_, _, _, _, _, _]) (src_base rfl (by assumption)) rfl rfl rfl rfl ⟨_, rfl⟩) rfl ?_; refine par_step (ok_move rfl rfl rfl) rfl ?_; refine par_step (ok_nil rfl rfl rfl) rfl ?_; refine par_step (ok_fieldP L rfl rfl rfl rfl) rfl ?_; refine par_step (ok_load1 L (src_base rfl (by assumption)) rfl rfl rfl rfl) rfl ?_; refine par_step (ok_loadA L (vs := [_, _]) (src_at rfl) rfl rfl rfl rfl ⟨_, rfl⟩) rfl ?_; refine par_step (ok_move rfl rfl rfl) rfl ?_; refine par_step (ok_nil rfl rfl rfl) rfl ?_; refine par_step (ok_fieldP L rfl rfl rfl rfl) rfl ?_; refine par_step (ok_load1 L (src_base rfl (by assumption)) rfl rfl rfl rfl) rfl ?_; refine par_step (ok_loadA L (vs := [_, _, _, _, _, _]) (src_at rfl) rfl rfl rfl rfl ⟨_, rfl⟩) rfl ?_; refine par_step (ok_call L rfl rfl (blt_lt rfl) rfl rfl rfl TA.mono (fun u H hH hle _ => ihr hH (hr.le hle) (by omega))) rfl ?_; refine par_step (ok_call L rfl rfl (blt_lt rfl) rfl rfl rfl UT.TA.mono (fun u H hH hle _ v1 hv1 => UT.bal_ret _ () _ _ hH (UT.TA.le (by assumption) hle) hv1 (by first | omega | (simp only [Tr.size_node]; omega)))) rfl ?_; refine par_step (ok_assigns' rfl rfl rfl) rfl ?_; refine par_nil ?_; refine N_seq ?_
        refine V_ret L (rs := [.tmp 6]) rfl (fun _ _ h => h) Since.refl fun u H hH hle => ?_
        exact fun v hv => hv
      · rw [if_neg h2]
        refine V_seq ?_; refine V_region (id := 0) ?_; refine vo_step (ok_box rfl rfl rfl rfl) rfl ?_; refine vo_step (ok_box rfl rfl rfl rfl) rfl ?_; refine vo_step (ok_assign rfl rfl rfl) rfl ?_; refine vo_nil ?_; refine N_seq ?_; refine V_seq ?_; refine V_seq ?_; refine V_region (id := 1) ?_; refine vo_step (ok_move rfl rfl rfl) rfl ?_; refine vo_step (ok_neql rfl rfl rfl rfl nk34 rfl) rfl ?_; refine vo_nil ?_; refine N_seq ?_; refine V_false rfl ?_; refine V_skip ?_; refine N_seq ?_; refine V_seq ?_; refine V_seq ?_; refine V_regionD (id := 3) [] mixed (by kernel_rfl) ?_; refine par_step (ok_fieldAt L rfl rfl rfl rfl) rfl ?_; refine par_step (ok_load1 L (src_at rfl) rfl rfl rfl rfl) rfl ?_; refine par_step (ok_fieldAt L rfl rfl rfl rfl) rfl ?_; refine par_step (ok_loadA L (vs := [_, _, _, _, _, _]) (src_at rfl) rfl rfl rfl rfl ⟨_, rfl⟩) rfl ?_; refine par_step (ok_move rfl rfl rfl) rfl ?_; refine par_step (ok_nil rfl rfl rfl) rfl ?_; refine par_step (ok_fieldP L rfl rfl rfl rfl) rfl ?_; refine par_step (ok_fieldP L rfl rfl rfl rfl) rfl ?_; refine par_step (ok_loadA L (vs := [_, _, _, _, _, _]) (src_base rfl (by assumption)) rfl rfl rfl rfl ⟨_, rfl⟩) rfl ?_; refine par_step (ok_callx L rfl rfl (blt_lt rfl) rfl rfl hc.fn (fun u H hH _ _ => hc.ret _ _ u H hH)) rfl ?_; refine par_step (ok_assign rfl rfl rfl) rfl ?_; refine par_nil ?_; refine N_seq ?_; refine V_block ?_; refine V_seq ?_; refine V_region (id := 4) ?_; refine vo_step (ok_move rfl rfl rfl) rfl ?_; refine vo_step (ok_lss rfl rfl rfl rfl (decide_eq_false (by omega))) rfl ?_; refine vo_step (ok_assign rfl rfl rfl) rfl ?_; refine vo_nil ?_; refine N_seq ?_; refine V_false rfl ?_; refine V_seq ?_; refine V_region (id := 6) ?_; refine vo_step (ok_move rfl rfl rfl) rfl ?_; refine vo_step (ok_gtr rfl rfl rfl rfl (decide_eq_false (by omega))) rfl ?_; refine vo_step (ok_assign rfl rfl rfl) rfl ?_; refine vo_nil ?_; refine N_seq ?_; refine V_false rfl ?_; refine V_skip ?_; refine N_block ?_; refine N_seq ?_; refine V_seq ?_; refine V_regionD (id := 8) [] mixed (by kernel_rfl) ?_; refine par_step (ok_move rfl rfl rfl) rfl ?_; refine par_step (ok_nil rfl rfl rfl) rfl ?_; refine par_step (ok_fieldP L rfl rfl rfl rfl) rfl ?_; refine par_step (ok_fieldP L rfl rfl rfl rfl) rfl ?_; refine par_step (ok_loadA L (vs := [_, _, _, _, _, _]) (src_base rfl (by assumption)) rfl rfl rfl rfl ⟨_, rfl⟩) rfl ?_; refine par_step (ok_fieldZA rfl rfl rfl (by kernel_rfl)) rfl ?_; refine par_step (ok_loadZ L rfl rfl rfl rfl) rfl ?_; refine par_step (ok_build (cs := [_, _, _, _, _, _]) rfl rfl pl104 rfl rfl) rfl ?_; refine par_step (ok_move rfl rfl rfl) rfl ?_; refine par_step (ok_nil rfl rfl rfl) rfl ?_; refine par_step (ok_fieldP L rfl rfl rfl rfl) rfl ?_; refine par_step (ok_load1 L (src_base rfl (by assumption)) rfl rfl rfl rfl) rfl ?_; refine par_step (ok_move rfl rfl rfl) rfl ?_; refine par_step (ok_nil rfl rfl rfl) rfl ?_; refine par_step (ok_fieldP L rfl rfl rfl rfl) rfl ?_; refine par_step (ok_load1 L (src_base rfl (by assumption)) rfl rfl rfl rfl) rfl ?_; refine par_step (ok_call L rfl rfl (blt_lt rfl) rfl rfl rfl UT.TA.mono (fun u H hH hle _ => UT.join_ret _ () _ _ hH (UT.TA.le (by assumption) hle) (UT.TA.le (by assumption) hle) (by first | omega | (simp only [Tr.size_node]; omega)))) rfl ?_; refine par_step (ok_assigns' rfl rfl rfl) rfl ?_; refine par_nil ?_; refine N_seq ?_
        refine V_ret L (rs := [.tmp 6]) rfl (fun _ _ h => h) Since.refl fun u H hH hle => ?_
        exact fun v hv => hv
abbrev FirstS (y : (KT × VT) × Tr KT VT) : Value → Heap → Prop := TupS [fun v _ => v = .agg (pl y.1.1 y.1.2).toArray, TA y.2]
theorem FirstS.mono {y : (KT × VT) × Tr KT VT} : Kn.mono (.sat (FirstS y)) := TupS.mono fun φ hφ => by
  simp only [List.mem_cons, List.mem_nil_iff, or_false] at hφ
  rcases hφ with rfl | rfl
  · exact fun _ _ _ h _ => h
  · exact TA.mono
theorem tupS2 {φ ψ : Value → Heap → Prop} {v w : Value} {H : Heap} (h1 : φ v H) (h2 : ψ w H) : TupS [φ, ψ] (tup [v, w]) H := ⟨[v, w], rfl, rfl, fun i χ x hi hx => by
  match i with
  | 0 => cases hi; cases hx; exact h1
  | 1 => cases hi; cases hx; exact h2
  | _ + 2 => cases hi⟩
theorem first_ret : ∀ (k : KT) (x : VT) (l r : Tr KT VT) {v : Value} {w : World} {B : Heap}, B.Le (hp w) → TA (.node k x l r) v B → l.size + r.size < 1099511627776 →
    Ret Tryz.prog 112 [v] w B (FirstS (Tr.first k x l r)) := by
  intro k x l
  induction l generalizing k x with
  | nil =>
    intro r v w B hB hv hs
    obtain ⟨b, lv, rv, rfl, hb, hl, hr⟩ := hv
    obtain rfl : lv = .pointer none := hl
    refine V_enter Tryz.func112 rfl Tryz.ntmps112 (Nat.le_of_ble_eq_true rfl) hB ?_
    refine V_seq ?_; refine V_region (id := 0) ?_; refine vo_step (ok_alloc L rfl rfl rfl rfl) rfl ?_; refine vo_step (ok_assign rfl rfl rfl) rfl ?_; refine vo_nil ?_; refine N_seq ?_; refine V_seq ?_; refine V_seq ?_; refine V_region (id := 1) ?_; refine vo_step (ok_move rfl rfl rfl) rfl ?_; refine vo_step (ok_nil rfl rfl rfl) rfl ?_; refine vo_step (ok_fieldP L rfl rfl rfl rfl) rfl ?_; refine vo_step (ok_load1 L (src_base rfl (by assumption)) rfl rfl rfl rfl) rfl ?_; refine vo_step (ok_neql rfl rfl rfl rfl nk34 rfl) rfl ?_; refine vo_nil ?_; refine N_seq ?_; refine V_true rfl ?_; refine V_seq ?_; refine V_regionD (id := 2) [] mixed (by kernel_rfl) ?_; refine par_step (ok_move rfl rfl rfl) rfl ?_; refine par_step (ok_nil rfl rfl rfl) rfl ?_; refine par_step (ok_fieldP L rfl rfl rfl rfl) rfl ?_; refine par_step (ok_loadA L (vs := [_, _, _, _, _, _]) (src_base rfl (by assumption)) rfl rfl rfl rfl ⟨_, rfl⟩) rfl ?_; refine par_step (ok_move rfl rfl rfl) rfl ?_; refine par_step (ok_nil rfl rfl rfl) rfl ?_; refine par_step (ok_fieldP L rfl rfl rfl rfl) rfl ?_; refine par_step (ok_load1 L (src_base rfl (by assumption)) rfl rfl rfl rfl) rfl ?_; refine par_step (ok_store L rfl rfl rfl rfl rfl rfl rfl rfl) rfl ?_; refine par_step (ok_assign rfl rfl rfl) rfl ?_; refine par_nil ?_; refine N_seq ?_
    refine V_ret L (rs := [.cell 2 104, .tmp 3]) rfl (fun _ _ h => h) Since.refl fun u H hH hle => ?_
    refine resK_cellA (src_own rfl) rfl rfl ?_
    exact tupS2 rfl (TA.le hr hle)
  | node lk lx ll lr ih _ =>
    intro r v w B hB hv hs
    obtain ⟨b, lv, rv, rfl, hb, hl, hr⟩ := hv
    have hl0 := hl
    obtain ⟨b2, v3, v4, rfl, hb2, _, _⟩ := hl
    have hz := Tr.size_first lk lx ll lr
    simp only [Tr.size_node] at hs
    have hm := TA.mono (t := (Tr.first lk lx ll lr).2)
    refine V_enter Tryz.func112 rfl Tryz.ntmps112 (Nat.le_of_ble_eq_true rfl) hB ?_
    refine V_seq ?_; refine V_region (id := 0) ?_; refine vo_step (ok_alloc L rfl rfl rfl rfl) rfl ?_; refine vo_step (ok_assign rfl rfl rfl) rfl ?_; refine vo_nil ?_; refine N_seq ?_; refine V_seq ?_; refine V_seq ?_; refine V_region (id := 1) ?_; refine vo_step (ok_move rfl rfl rfl) rfl ?_; refine vo_step (ok_nil rfl rfl rfl) rfl ?_; refine vo_step (ok_fieldP L rfl rfl rfl rfl) rfl ?_; refine vo_step (ok_load1 L (src_base rfl (by assumption)) rfl rfl rfl rfl) rfl ?_; refine vo_step (ok_neql rfl rfl rfl rfl nk34 rfl) rfl ?_; refine vo_nil ?_; refine N_seq ?_; refine V_false rfl ?_; refine V_skip ?_; refine N_seq ?_; refine V_seq ?_; refine V_region (id := 3) ?_; refine vo_step (ok_move rfl rfl rfl) rfl ?_; refine vo_step (ok_nil rfl rfl rfl) rfl ?_; refine vo_step (ok_fieldP L rfl rfl rfl rfl) rfl ?_; refine vo_step (ok_load1 L (src_base rfl (by assumption)) rfl rfl rfl rfl) rfl ?_; refine vo_step (ok_call L rfl rfl (blt_lt rfl) rfl rfl rfl FirstS.mono (fun u H hH hle _ => ih lk lx lr hH (TA.le hl0 hle) (by omega))) rfl ?_; refine vo_step (ok_moves' rfl rfl rfl) rfl ?_; refine vo_step (ok_extractx rfl rfl rfl rfl) rfl ?_; refine vo_step (ok_extracts rfl rfl rfl rfl (by assumption)) rfl ?_; refine vo_step (ok_alloc L rfl rfl rfl rfl) rfl ?_; refine vo_step (ok_store L rfl rfl rfl rfl rfl rfl rfl rfl) rfl ?_; refine vo_step (ok_assigns' rfl rfl rfl) rfl ?_; refine vo_nil ?_; refine N_seq ?_; refine V_seq ?_; refine V_regionD (id := 4) [] mixed (by kernel_rfl) ?_; refine par_step (ok_loadA L (vs := [_, _, _, _, _, _]) (src_own rfl) rfl rfl rfl rfl ⟨_, rfl⟩) rfl ?_; refine par_step (ok_move rfl rfl rfl) rfl ?_; refine par_step (ok_nil rfl rfl rfl) rfl ?_; refine par_step (ok_fieldP L rfl rfl rfl rfl) rfl ?_; refine par_step (ok_loadA L (vs := [_, _, _, _, _, _]) (src_base rfl (by assumption)) rfl rfl rfl rfl ⟨_, rfl⟩) rfl ?_; refine par_step (ok_moves' rfl rfl rfl) rfl ?_; refine par_step (ok_move rfl rfl rfl) rfl ?_; refine par_step (ok_nil rfl rfl rfl) rfl ?_; refine par_step (ok_fieldP L rfl rfl rfl rfl) rfl ?_; refine par_step (ok_load1 L (src_base rfl (by assumption)) rfl rfl rfl rfl) rfl ?_; refine par_step (ok_call L rfl rfl (blt_lt rfl) rfl rfl rfl UT.TA.mono (fun u H hH hle _ v1 hv1 => UT.bal_ret _ () _ _ hH hv1 (UT.TA.le (by assumption) hle) (by first | omega | (simp only [Tr.size_node]; omega)))) rfl ?_; refine par_step (ok_store L rfl rfl rfl rfl rfl rfl rfl rfl) rfl ?_; refine par_step (ok_assigns' rfl rfl rfl) rfl ?_; refine par_nil ?_; refine N_seq ?_
    refine V_ret L (rs := [.cell 2 104, .tmp 3]) rfl (fun _ _ h => h) Since.refl fun u H hH hle => ?_
    refine resK_cellA (src_own rfl) rfl rfl ?_
    exact fun v hv => tupS2 rfl hv
abbrev DropS (y : Tr KT VT × Bool) : Value → Heap → Prop := TupS [TA y.1, fun v _ => v = .bool y.2]
theorem DropS.mono {y : Tr KT VT × Bool} : Kn.mono (.sat (DropS y)) := TupS.mono fun φ hφ => by
  simp only [List.mem_cons, List.mem_nil_iff, or_false] at hφ
  rcases hφ with rfl | rfl
  · exact TA.mono
  · exact fun _ _ _ h _ => h
theorem drop_ret {cf : Nat} {c : KT → KT → Int} (hc : Cmp cf c) (root : Value) (k : KT) : ∀ (t : Tr KT VT) {rv : Value} {w : World} {B : Heap}, B.Le (hp w) → TA t rv B → t.size < 1099511627776 →
    Ret Tryz.prog 94 [mv cf root, rv, kv k] w B (DropS (Tr.drop c k t)) := by
  intro t
  induction t with
  | nil =>
    intro rv w B hB hv hs
    obtain rfl : rv = .pointer none := hv
    have hn : TA .nil (.pointer none) B := rfl
    refine V_enter Tryz.func94 rfl Tryz.ntmps94 (Nat.le_of_ble_eq_true rfl) hB ?_
    refine V_seq ?_; refine V_region (id := 0) ?_; refine vo_step (ok_box rfl rfl rfl rfl) rfl ?_; refine vo_step (ok_box rfl rfl rfl rfl) rfl ?_; refine vo_step (ok_assign rfl rfl rfl) rfl ?_; refine vo_step (ok_assign rfl rfl rfl) rfl ?_; refine vo_nil ?_; refine N_seq ?_; refine V_seq ?_; refine V_seq ?_; refine V_region (id := 1) ?_; refine vo_step (ok_move rfl rfl rfl) rfl ?_; refine vo_step (ok_neql rfl rfl rfl rfl nk34 rfl) rfl ?_; refine vo_nil ?_; refine N_seq ?_; refine V_true rfl ?_; refine V_seq ?_; refine V_region (id := 2) ?_; refine vo_step (ok_assign rfl rfl rfl) rfl ?_; refine vo_step (ok_assign rfl rfl rfl) rfl ?_; refine vo_nil ?_; refine N_seq ?_
    refine V_ret L (rs := [.tmp 6, .tmp 7]) rfl (fun _ _ h => h) Since.refl fun u H hH hle => ?_
    exact tupS2 rfl rfl
  | node nk nx l r ihl ihr =>
    intro rv w B hB hv hs
    obtain ⟨b, lv, rv', rfl, hb, hl, hr⟩ := hv
    have hpl := Tr.size_drop c k l
    have hpr := Tr.size_drop c k r
    simp only [Tr.size_node] at hs
    refine V_enter Tryz.func94 rfl Tryz.ntmps94 (Nat.le_of_ble_eq_true rfl) hB ?_
    unfold Tr.drop
    by_cases h1 : c k nk < 0
    · rw [if_pos h1]
      have hm := TA.mono (t := (Tr.drop c k l).1)
      refine V_seq ?_; refine V_region (id := 0) ?_; refine vo_step (ok_box rfl rfl rfl rfl) rfl ?_; refine vo_step (ok_box rfl rfl rfl rfl) rfl ?_; refine vo_step (ok_assign rfl rfl rfl) rfl ?_; refine vo_step (ok_assign rfl rfl rfl) rfl ?_; refine vo_nil ?_; refine N_seq ?_; refine V_seq ?_; refine V_seq ?_; refine V_region (id := 1) ?_; refine vo_step (ok_move rfl rfl rfl) rfl ?_; refine vo_step (ok_neql rfl rfl rfl rfl nk34 rfl) rfl ?_; refine vo_nil ?_; refine N_seq ?_; refine V_false rfl ?_; refine V_skip ?_; refine N_seq ?_; refine V_seq ?_; refine V_seq ?_; refine V_regionD (id := 3) [] mixed (by kernel_rfl) ?_; refine par_step (ok_fieldAt L rfl rfl rfl rfl) rfl ?_; refine par_step (ok_load1 L (src_at rfl) rfl rfl rfl rfl) rfl ?_; refine par_step (ok_loadA L (vs := [_, _, _, _, _, _]) (src_at rfl) rfl rfl rfl rfl ⟨_, rfl⟩) rfl ?_; refine par_step (ok_move rfl rfl rfl) rfl ?_; refine par_step (ok_nil rfl rfl rfl) rfl ?_; refine par_step (ok_fieldP L rfl rfl rfl rfl) rfl ?_; refine par_step (ok_fieldP L rfl rfl rfl rfl) rfl ?_; refine par_step (ok_loadA L (vs := [_, _, _, _, _, _]) (src_base rfl (by assumption)) rfl rfl rfl rfl ⟨_, rfl⟩) rfl ?_; refine par_step (ok_callx L rfl rfl (blt_lt rfl) rfl rfl hc.fn (fun u H hH _ _ => hc.ret _ _ u H hH)) rfl ?_; refine par_step (ok_assign rfl rfl rfl) rfl ?_; refine par_nil ?_; refine N_seq ?_; refine V_block ?_; refine V_seq ?_; refine V_region (id := 4) ?_; refine vo_step (ok_move rfl rfl rfl) rfl ?_; refine vo_step (ok_lss rfl rfl rfl rfl (decide_eq_true (by omega))) rfl ?_; refine vo_step (ok_assign rfl rfl rfl) rfl ?_; refine vo_nil ?_; refine N_seq ?_; refine V_true rfl ?_; refine V_seq ?_; refine V_regionD (id := 5) [] mixed (by kernel_rfl) ?_; refine par_step (ok_loadA L (vs := [_, _]) (src_at rfl) rfl rfl rfl rfl ⟨_, rfl⟩) rfl ?_; refine par_step (ok_move rfl rfl rfl) rfl ?_; refine par_step (ok_nil rfl rfl rfl) rfl ?_; refine par_step (ok_fieldP L rfl rfl rfl rfl) rfl ?_; refine par_step (ok_load1 L (src_base rfl (by assumption)) rfl rfl rfl rfl) rfl ?_; refine par_step (ok_loadA L (vs := [_, _, _, _, _, _]) (src_at rfl) rfl rfl rfl rfl ⟨_, rfl⟩) rfl ?_; refine par_step (ok_call L rfl rfl (blt_lt rfl) rfl rfl rfl DropS.mono (fun u H hH hle _ => ihl hH (hl.le hle) (by omega))) rfl ?_; refine par_step (ok_moves' rfl rfl rfl) rfl ?_; refine par_step (ok_extracts rfl rfl rfl rfl (by assumption)) rfl ?_; refine par_step (ok_extractx rfl rfl rfl rfl) rfl ?_; refine par_step (ok_assigns' rfl rfl rfl) rfl ?_; refine par_step (ok_assign rfl rfl rfl) rfl ?_; refine par_nil ?_; refine N_seq ?_; refine V_seq ?_; refine V_regionD (id := 6) [] mixed (by kernel_rfl) ?_; refine par_step (ok_move rfl rfl rfl) rfl ?_; refine par_step (ok_nil rfl rfl rfl) rfl ?_; refine par_step (ok_fieldP L rfl rfl rfl rfl) rfl ?_; refine par_step (ok_loadA L (vs := [_, _, _, _, _, _]) (src_base rfl (by assumption)) rfl rfl rfl rfl ⟨_, rfl⟩) rfl ?_; refine par_step (ok_moves' rfl rfl rfl) rfl ?_; refine par_step (ok_move rfl rfl rfl) rfl ?_; refine par_step (ok_nil rfl rfl rfl) rfl ?_; refine par_step (ok_fieldP L rfl rfl rfl rfl) rfl ?_; refine par_step (ok_load1 L (src_base rfl (by assumption)) rfl rfl rfl rfl) rfl ?_; refine par_step (ok_call L rfl rfl (blt_lt rfl) rfl rfl rfl UT.TA.mono (fun u H hH hle _ v1 hv1 => UT.bal_ret _ () _ _ hH hv1 (UT.TA.le (by assumption) hle) (by first | omega | (simp only [Tr.size_node]; omega)))) rfl ?_; refine par_step (ok_move rfl rfl rfl) rfl ?_; refine par_step (ok_assigns' rfl rfl rfl) rfl ?_; refine par_step (ok_assign rfl rfl rfl) rfl ?_; refine par_nil ?_; refine N_seq ?_
      refine V_ret L (rs := [.tmp 6, .tmp 7]) rfl (fun _ _ h => h) Since.refl fun u H hH hle => ?_
      exact fun v hv => tupS2 hv rfl
    · rw [if_neg h1]
      by_cases h2 : c k nk > 0
      · rw [if_pos h2]
        have hm := TA.mono (t := (Tr.drop c k r).1)
        refine V_seq ?_; refine V_region (id := 0) ?_; refine vo_step (ok_box rfl rfl rfl rfl) rfl ?_; refine vo_step (ok_box rfl rfl rfl rfl) rfl ?_; refine vo_step (ok_assign rfl rfl rfl) rfl ?_; refine vo_step (ok_assign rfl rfl rfl) rfl ?_; refine vo_nil ?_; refine N_seq ?_; refine V_seq ?_; refine V_seq ?_; refine V_region (id := 1) ?_; refine vo_step (ok_move rfl rfl rfl) rfl ?_; refine vo_step (ok_neql rfl rfl rfl rfl nk34 rfl) rfl ?_; refine vo_nil ?_; refine N_seq ?_; refine V_false rfl ?_; refine V_skip ?_; refine N_seq ?_; refine V_seq ?_; refine V_seq ?_; refine V_regionD (id := 3) [] mixed (by kernel_rfl) ?_; refine par_step (ok_fieldAt L rfl rfl rfl rfl) rfl ?_; refine par_step (ok_load1 L (src_at rfl) rfl rfl rfl rfl) rfl ?_; refine par_step (ok_loadA L (vs := [_, _, _, _, _, _]) (src_at rfl) rfl rfl rfl rfl ⟨_, rfl⟩) rfl ?_; refine par_step (ok_move rfl rfl rfl) rfl ?_; refine par_step (ok_nil rfl rfl rfl) rfl ?_; refine par_step (ok_fieldP L rfl rfl rfl rfl) rfl ?_; refine par_step (ok_fieldP L rfl rfl rfl rfl) rfl ?_; refine par_step (ok_loadA L (vs := [_, _, _, _, _, _]) (src_base rfl (by assumption)) rfl rfl rfl rfl ⟨_, rfl⟩) rfl ?_; refine par_step (ok_callx L rfl rfl (blt_lt rfl) rfl rfl hc.fn (fun u H hH _ _ => hc.ret _ _ u H hH)) rfl ?_; refine par_step (ok_assign rfl rfl rfl) rfl ?_; refine par_nil ?_; refine N_seq ?_; refine V_block ?_; refine V_seq ?_; refine V_region (id := 4) ?_; refine vo_step (ok_move rfl rfl rfl) rfl ?_; refine vo_step (ok_lss rfl rfl rfl rfl (decide_eq_false (by omega))) rfl ?_; refine vo_step (ok_assign rfl rfl rfl) rfl ?_; refine vo_nil ?_; refine N_seq ?_; refine V_false rfl ?_; refine V_seq ?_; refine V_region (id := 7) ?_; refine vo_step (ok_move rfl rfl rfl) rfl ?_; refine vo_step (ok_gtr rfl rfl rfl rfl (decide_eq_true (by omega))) rfl ?_; refine vo_step (ok_assign rfl rfl rfl) rfl ?_; refine vo_nil ?_; refine N_seq ?_; refine V_true rfl ?_; refine V_seq ?_; refine V_regionD (id := 8) [] mixed (by kernel_rfl) ?_; refine par_step (ok_loadA L (vs := [_, _]) (src_at rfl) rfl rfl rfl rfl ⟨_, rfl⟩) rfl ?_; refine par_step (ok_move rfl rfl rfl) rfl ?_; refine par_step (ok_nil rfl rfl rfl) rfl ?_; refine par_step (ok_fieldP L rfl rfl rfl rfl) rfl ?_; refine par_step (ok_load1 L (src_base rfl (by assumption)) rfl rfl rfl rfl) rfl ?_; refine par_step (ok_loadA L (vs := [_, _, _, _, _, _]) (src_at rfl) rfl rfl rfl rfl ⟨_, rfl⟩) rfl ?_; refine par_step (ok_call L rfl rfl (blt_lt rfl) rfl rfl rfl DropS.mono (fun u H hH hle _ => ihr hH (hr.le hle) (by omega))) rfl ?_; refine par_step (ok_moves' rfl rfl rfl) rfl ?_; refine par_step (ok_extracts rfl rfl rfl rfl (by assumption)) rfl ?_; refine par_step (ok_extractx rfl rfl rfl rfl) rfl ?_; refine par_step (ok_assigns' rfl rfl rfl) rfl ?_; refine par_step (ok_assign rfl rfl rfl) rfl ?_; refine par_nil ?_; refine N_seq ?_; refine V_seq ?_; refine V_regionD (id := 9) [] mixed (by kernel_rfl) ?_; refine par_step (ok_move rfl rfl rfl) rfl ?_; refine par_step (ok_nil rfl rfl rfl) rfl ?_; refine par_step (ok_fieldP L rfl rfl rfl rfl) rfl ?_; refine par_step (ok_loadA L (vs := [_, _, _, _, _, _]) (src_base rfl (by assumption)) rfl rfl rfl rfl ⟨_, rfl⟩) rfl ?_; refine par_step (ok_move rfl rfl rfl) rfl ?_; refine par_step (ok_nil rfl rfl rfl) rfl ?_; refine par_step (ok_fieldP L rfl rfl rfl rfl) rfl ?_; refine par_step (ok_load1 L (src_base rfl (by assumption)) rfl rfl rfl rfl) rfl ?_; refine par_step (ok_moves' rfl rfl rfl) rfl ?_; refine par_step (ok_call L rfl rfl (blt_lt rfl) rfl rfl rfl UT.TA.mono (fun u H hH hle _ v1 hv1 => UT.bal_ret _ () _ _ hH (UT.TA.le (by assumption) hle) hv1 (by first | omega | (simp only [Tr.size_node]; omega)))) rfl ?_; refine par_step (ok_move rfl rfl rfl) rfl ?_; refine par_step (ok_assigns' rfl rfl rfl) rfl ?_; refine par_step (ok_assign rfl rfl rfl) rfl ?_; refine par_nil ?_; refine N_seq ?_
        refine V_ret L (rs := [.tmp 6, .tmp 7]) rfl (fun _ _ h => h) Since.refl fun u H hH hle => ?_
        exact fun v hv => tupS2 hv rfl
      · rw [if_neg h2]
        cases r with
        | nil =>
          obtain rfl : rv' = .pointer none := hr
          refine V_seq ?_; refine V_region (id := 0) ?_; refine vo_step (ok_box rfl rfl rfl rfl) rfl ?_; refine vo_step (ok_box rfl rfl rfl rfl) rfl ?_; refine vo_step (ok_assign rfl rfl rfl) rfl ?_; refine vo_step (ok_assign rfl rfl rfl) rfl ?_; refine vo_nil ?_; refine N_seq ?_; refine V_seq ?_; refine V_seq ?_; refine V_region (id := 1) ?_; refine vo_step (ok_move rfl rfl rfl) rfl ?_; refine vo_step (ok_neql rfl rfl rfl rfl nk34 rfl) rfl ?_; refine vo_nil ?_; refine N_seq ?_; refine V_false rfl ?_; refine V_skip ?_; refine N_seq ?_; refine V_seq ?_; refine V_seq ?_; refine V_regionD (id := 3) [] mixed (by kernel_rfl) ?_; refine par_step (ok_fieldAt L rfl rfl rfl rfl) rfl ?_; refine par_step (ok_load1 L (src_at rfl) rfl rfl rfl rfl) rfl ?_; refine par_step (ok_loadA L (vs := [_, _, _, _, _, _]) (src_at rfl) rfl rfl rfl rfl ⟨_, rfl⟩) rfl ?_; refine par_step (ok_move rfl rfl rfl) rfl ?_; refine par_step (ok_nil rfl rfl rfl) rfl ?_; refine par_step (ok_fieldP L rfl rfl rfl rfl) rfl ?_; refine par_step (ok_fieldP L rfl rfl rfl rfl) rfl ?_; refine par_step (ok_loadA L (vs := [_, _, _, _, _, _]) (src_base rfl (by assumption)) rfl rfl rfl rfl ⟨_, rfl⟩) rfl ?_; refine par_step (ok_callx L rfl rfl (blt_lt rfl) rfl rfl hc.fn (fun u H hH _ _ => hc.ret _ _ u H hH)) rfl ?_; refine par_step (ok_assign rfl rfl rfl) rfl ?_; refine par_nil ?_; refine N_seq ?_; refine V_block ?_; refine V_seq ?_; refine V_region (id := 4) ?_; refine vo_step (ok_move rfl rfl rfl) rfl ?_; refine vo_step (ok_lss rfl rfl rfl rfl (decide_eq_false (by omega))) rfl ?_; refine vo_step (ok_assign rfl rfl rfl) rfl ?_; refine vo_nil ?_; refine N_seq ?_; refine V_false rfl ?_; refine V_seq ?_; refine V_region (id := 7) ?_; refine vo_step (ok_move rfl rfl rfl) rfl ?_; refine vo_step (ok_gtr rfl rfl rfl rfl (decide_eq_false (by omega))) rfl ?_; refine vo_step (ok_assign rfl rfl rfl) rfl ?_; refine vo_nil ?_; refine N_seq ?_; refine V_false rfl ?_; refine V_seq ?_; refine V_region (id := 10) ?_; refine vo_step (ok_move rfl rfl rfl) rfl ?_; refine vo_step (ok_nil rfl rfl rfl) rfl ?_; refine vo_step (ok_fieldP L rfl rfl rfl rfl) rfl ?_; refine vo_step (ok_load1 L (src_base rfl (by assumption)) rfl rfl rfl rfl) rfl ?_; refine vo_step (ok_neql rfl rfl rfl rfl nk34 rfl) rfl ?_; refine vo_step (ok_assign rfl rfl rfl) rfl ?_; refine vo_nil ?_; refine N_seq ?_; refine V_true rfl ?_; refine V_seq ?_; refine V_region (id := 11) ?_; refine vo_step (ok_move rfl rfl rfl) rfl ?_; refine vo_step (ok_nil rfl rfl rfl) rfl ?_; refine vo_step (ok_fieldP L rfl rfl rfl rfl) rfl ?_; refine vo_step (ok_load1 L (src_base rfl (by assumption)) rfl rfl rfl rfl) rfl ?_; refine vo_step (ok_assign rfl rfl rfl) rfl ?_; refine vo_step (ok_assign rfl rfl rfl) rfl ?_; refine vo_nil ?_; refine N_seq ?_
          refine V_ret L (rs := [.tmp 6, .tmp 7]) rfl (fun _ _ h => h) Since.refl fun u H hH hle => ?_
          exact tupS2 (TA.le hl hle) rfl
        | node rk rx rl rr =>
          have hr0 := hr
          obtain ⟨b2, v3, v4, rfl, hb2, _, _⟩ := hr
          have hz := Tr.size_first rk rx rl rr
          simp only [Tr.size_node] at hs
          have hm := TA.mono (t := (Tr.first rk rx rl rr).2)
          refine V_seq ?_; refine V_region (id := 0) ?_; refine vo_step (ok_box rfl rfl rfl rfl) rfl ?_; refine vo_step (ok_box rfl rfl rfl rfl) rfl ?_; refine vo_step (ok_assign rfl rfl rfl) rfl ?_; refine vo_step (ok_assign rfl rfl rfl) rfl ?_; refine vo_nil ?_; refine N_seq ?_; refine V_seq ?_; refine V_seq ?_; refine V_region (id := 1) ?_; refine vo_step (ok_move rfl rfl rfl) rfl ?_; refine vo_step (ok_neql rfl rfl rfl rfl nk34 rfl) rfl ?_; refine vo_nil ?_; refine N_seq ?_; refine V_false rfl ?_; refine V_skip ?_; refine N_seq ?_; refine V_seq ?_; refine V_seq ?_; refine V_regionD (id := 3) [] mixed (by kernel_rfl) ?_; refine par_step (ok_fieldAt L rfl rfl rfl rfl) rfl ?_; refine par_step (ok_load1 L (src_at rfl) rfl rfl rfl rfl) rfl ?_; refine par_step (ok_loadA L (vs := [_, _, _, _, _, _]) (src_at rfl) rfl rfl rfl rfl ⟨_, rfl⟩) rfl ?_; refine par_step (ok_move rfl rfl rfl) rfl ?_; refine par_step (ok_nil rfl rfl rfl) rfl ?_; refine par_step (ok_fieldP L rfl rfl rfl rfl) rfl ?_; refine par_step (ok_fieldP L rfl rfl rfl rfl) rfl ?_; refine par_step (ok_loadA L (vs := [_, _, _, _, _, _]) (src_base rfl (by assumption)) rfl rfl rfl rfl ⟨_, rfl⟩) rfl ?_; refine par_step (ok_callx L rfl rfl (blt_lt rfl) rfl rfl hc.fn (fun u H hH _ _ => hc.ret _ _ u H hH)) rfl ?_; refine par_step (ok_assign rfl rfl rfl) rfl ?_; refine par_nil ?_; refine N_seq ?_; refine V_block ?_; refine V_seq ?_; refine V_region (id := 4) ?_; refine vo_step (ok_move rfl rfl rfl) rfl ?_; refine vo_step (ok_lss rfl rfl rfl rfl (decide_eq_false (by omega))) rfl ?_; refine vo_step (ok_assign rfl rfl rfl) rfl ?_; refine vo_nil ?_; refine N_seq ?_; refine V_false rfl ?_; refine V_seq ?_; refine V_region (id := 7) ?_; refine vo_step (ok_move rfl rfl rfl) rfl ?_; refine vo_step (ok_gtr rfl rfl rfl rfl (decide_eq_false (by omega))) rfl ?_; refine vo_step (ok_assign rfl rfl rfl) rfl ?_; refine vo_nil ?_; refine N_seq ?_; refine V_false rfl ?_; refine V_seq ?_; refine V_region (id := 10) ?_; refine vo_step (ok_move rfl rfl rfl) rfl ?_; refine vo_step (ok_nil rfl rfl rfl) rfl ?_; refine vo_step (ok_fieldP L rfl rfl rfl rfl) rfl ?_; refine vo_step (ok_load1 L (src_base rfl (by assumption)) rfl rfl rfl rfl) rfl ?_; refine vo_step (ok_neql rfl rfl rfl rfl nk34 rfl) rfl ?_; refine vo_step (ok_assign rfl rfl rfl) rfl ?_; refine vo_nil ?_; refine N_seq ?_; refine V_false rfl ?_; refine V_skip ?_; refine N_block ?_; refine N_seq ?_; refine V_seq ?_; refine V_region (id := 12) ?_; refine vo_step (ok_move rfl rfl rfl) rfl ?_; refine vo_step (ok_nil rfl rfl rfl) rfl ?_; refine vo_step (ok_fieldP L rfl rfl rfl rfl) rfl ?_; refine vo_step (ok_load1 L (src_base rfl (by assumption)) rfl rfl rfl rfl) rfl ?_; refine vo_step (ok_call L rfl rfl (blt_lt rfl) rfl rfl rfl FirstS.mono (fun u H hH hle _ => first_ret rk rx rl rr hH (TA.le hr0 hle) (by omega))) rfl ?_; refine vo_step (ok_moves' rfl rfl rfl) rfl ?_; refine vo_step (ok_extractx rfl rfl rfl rfl) rfl ?_; refine vo_step (ok_extracts rfl rfl rfl rfl (by assumption)) rfl ?_; refine vo_step (ok_alloc L rfl rfl rfl rfl) rfl ?_; refine vo_step (ok_store L rfl rfl rfl rfl rfl rfl rfl rfl) rfl ?_; refine vo_step (ok_assigns' rfl rfl rfl) rfl ?_; refine vo_nil ?_; refine N_seq ?_; refine V_seq ?_; refine V_regionD (id := 13) [] mixed (by kernel_rfl) ?_; refine par_step (ok_loadA L (vs := [_, _, _, _, _, _]) (src_own rfl) rfl rfl rfl rfl ⟨_, rfl⟩) rfl ?_; refine par_step (ok_move rfl rfl rfl) rfl ?_; refine par_step (ok_nil rfl rfl rfl) rfl ?_; refine par_step (ok_fieldP L rfl rfl rfl rfl) rfl ?_; refine par_step (ok_load1 L (src_base rfl (by assumption)) rfl rfl rfl rfl) rfl ?_; refine par_step (ok_moves' rfl rfl rfl) rfl ?_; refine par_step (ok_call L rfl rfl (blt_lt rfl) rfl rfl rfl UT.TA.mono (fun u H hH hle _ v1 hv1 => UT.bal_ret _ () _ _ hH (UT.TA.le (by assumption) hle) hv1 (by first | omega | (simp only [Tr.size_node]; omega)))) rfl ?_; refine par_step (ok_assigns' rfl rfl rfl) rfl ?_; refine par_step (ok_assign rfl rfl rfl) rfl ?_; refine par_nil ?_; refine N_seq ?_
          refine V_ret L (rs := [.tmp 6, .tmp 7]) rfl (fun _ _ h => h) Since.refl fun u H hH hle => ?_
          exact fun v hv => tupS2 hv rfl
end Go.V.UT
/- The walks of trees at countersign/api.Tuple, struct{}: maps, and what is seen of them. -/
namespace Go.V.UT
open Go.Proofs Go.RowKit Go.V
/-- A map. -/
def MA (fv : Value) (t : Tr KT VT) : Value → Heap → Prop := fun v H => ∃ p, v = .agg #[fv, .pointer p] ∧ TA t (.pointer p) H
theorem MA.mono {fv : Value} {t : Tr KT VT} : Kn.mono (.sat (MA fv t)) := fun _ _ _ ⟨p, hv, h⟩ hle => ⟨p, hv, h.le hle⟩
theorem MA.le {fv : Value} {t : Tr KT VT} {v : Value} {H H' : Heap} (h : MA fv t v H) (hle : H.Le H') : MA fv t v H' := MA.mono _ _ _ h hle
attribute [local irreducible] V N X VO Par StepOK Has Ret RetL Src
theorem new_ret (cf : Nat) {w : World} {B : Heap} (hB : B.Le (hp w)) : Ret Tryz.prog 76 [.func (.func cf) #[] #[]] w B (fun v _ => v = .agg #[.func (.func cf) #[] #[], .pointer none]) := by
  refine V_enter Tryz.func76 rfl Tryz.ntmps76 (Nat.le_of_ble_eq_true rfl) hB ?_
  refine V_seq ?_; refine V_region (id := 0) ?_; refine vo_step (ok_alloc L rfl rfl rfl rfl) rfl ?_; refine vo_nil ?_; refine N_seq ?_; refine V_seq ?_; refine V_region (id := 1) ?_; refine vo_step (ok_move rfl rfl rfl) rfl ?_; refine vo_step (ok_build (cs := [_, _]) rfl rfl pl36 rfl rfl) rfl ?_; refine vo_step (ok_store L rfl rfl rfl rfl rfl rfl rfl rfl) rfl ?_; refine vo_nil ?_; refine N_seq ?_
  refine V_ret L (rs := [.cell 2 36]) rfl (fun _ _ h => h) Since.refl fun u H hH hle => ?_
  refine resK_cellA (src_own rfl) rfl rfl ?_
  rfl
theorem len_ret {fv root : Value} {t : Tr KT VT} {w : World} {B : Heap} (hB : B.Le (hp w)) (hv : TA t root B) : Ret Tryz.prog 61 [.agg #[fv, root]] w B (fun v _ => v = .int .i64 t.size) := by
  refine V_enter Tryz.func61 rfl Tryz.ntmps61 (Nat.le_of_ble_eq_true rfl) hB ?_
  refine V_seq ?_; refine V_region (id := 0) ?_; refine vo_step (ok_box rfl rfl rfl rfl) rfl ?_; refine vo_step (ok_assign rfl rfl rfl) rfl ?_; refine vo_nil ?_; refine N_seq ?_; refine V_seq ?_; refine V_region (id := 1) ?_; refine vo_step (ok_fieldAt L rfl rfl rfl rfl) rfl ?_; refine vo_step (ok_load1 L (src_at rfl) rfl rfl rfl rfl) rfl ?_; refine vo_step (ok_callx L rfl rfl (blt_lt rfl) rfl rfl rfl (fun u H hH hle _ => UT.size_ret _ hH (UT.TA.le (by assumption) hle))) rfl ?_; refine vo_step (ok_assign rfl rfl rfl) rfl ?_; refine vo_nil ?_; refine N_seq ?_
  refine V_ret L (rs := [.tmp 2]) rfl (fun _ _ h => h) Since.refl fun u H hH hle => ?_
  rfl
theorem mput_ret {cf : Nat} {c : KT → KT → Int} (hc : Cmp cf c) {p : Option Addr} (k : KT) (x : VT) {t : Tr KT VT} {w : World} {B : Heap} (hB : B.Le (hp w)) (hv : TA t (.pointer p) B) (hs : t.size + 1 < 1099511627776) :
    Ret Tryz.prog 78 [mv cf (.pointer p), kv k, vv x] w B (MA (.func (.func cf) #[] #[]) (Tr.put c k x t)) := by
  refine V_enter Tryz.func78 rfl Tryz.ntmps78 (Nat.le_of_ble_eq_true rfl) hB ?_
  refine V_seq ?_; refine V_region (id := 0) ?_; refine vo_step (ok_boxR rfl rfl rfl rfl) rfl ?_; refine vo_step (ok_box rfl rfl rfl rfl) rfl ?_; refine vo_step (ok_box rfl rfl rfl rfl) rfl ?_; refine vo_step (ok_alloc L rfl rfl rfl rfl) rfl ?_; refine vo_nil ?_; refine N_seq ?_; refine V_seq ?_; refine V_seq ?_; (refine V_box 3 rfl ?_; intro b3 hb3); refine V_region (id := 1) ?_; refine vo_step (ok_fieldP L rfl rfl rfl rfl) rfl ?_; refine vo_step (ok_load1 L (src_box rfl (List.Mem.head _)) rfl rfl rfl rfl) rfl ?_; refine vo_step (ok_nneq rfl rfl rfl rfl nk33 rfl rfl) rfl ?_; refine vo_nil ?_; refine N_seq ?_; refine V_true rfl ?_; refine V_region (id := 2) ?_; refine vo_step (ok_loadA L (vs := [_, _]) (src_box rfl (List.Mem.head _)) rfl rfl rfl rfl ⟨_, rfl⟩) rfl ?_; refine vo_step (ok_fieldP L rfl rfl rfl rfl) rfl ?_; refine vo_step (ok_load1 L (src_box rfl (List.Mem.head _)) rfl rfl rfl rfl) rfl ?_; refine vo_step (ok_loadA L (vs := [_, _, _, _, _, _]) (src_at rfl) rfl rfl rfl rfl ⟨_, rfl⟩) rfl ?_; refine vo_step (ok_loadA L (vs := []) (src_at rfl) rfl rfl rfl rfl ⟨_, rfl⟩) rfl ?_; refine vo_step (ok_build (cs := [_, _, _, _, _, _]) rfl rfl pl104 rfl rfl) rfl ?_; refine vo_step (ok_call L rfl rfl (blt_lt rfl) rfl rfl rfl TA.mono (fun u H hH hle _ => put_ret hc _ k x t hH (hv.le hle) hs)) rfl ?_; refine vo_opn 16 rfl ?_; intro p16 H16 hs16 hp16; obtain ⟨q16, rfl⟩ := TA.ptr hp16; refine vo_step (ok_fieldP L rfl rfl rfl rfl) rfl ?_; refine box_store L (O1 := []) rfl rfl rfl rfl rfl rfl rfl rfl rfl ?_; refine vo_nil ?_; refine N_seq ?_; refine V_seq ?_; refine V_region (id := 3) ?_; refine vo_step (ok_loadA L (vs := [_, _]) (src_box rfl (List.Mem.head _)) rfl rfl rfl rfl ⟨_, rfl⟩) rfl ?_; refine vo_step (ok_store L rfl rfl rfl rfl rfl rfl rfl rfl) rfl ?_; refine vo_nil ?_; refine N_seq ?_
  refine V_ret L (rs := [.cell 6 36]) rfl (fun _ _ h => h) hs16 fun u H hH hle => ?_
  refine resK_cellA (src_own rfl) rfl rfl ?_
  exact ⟨q16, rfl, hp16.le hle⟩
theorem mdrop_ret {cf : Nat} {c : KT → KT → Int} (hc : Cmp cf c) {p : Option Addr} (k : KT) {t : Tr KT VT} {w : World} {B : Heap} (hB : B.Le (hp w)) (hv : TA t (.pointer p) B) (hs : t.size < 1099511627776) :
    Ret Tryz.prog 77 [mv cf (.pointer p), kv k] w B (MA (.func (.func cf) #[] #[]) (if (Tr.drop c k t).2 = true then (Tr.drop c k t).1 else t)) := by
  have hD := fun (u : World) (H : Heap) (hH : H.Le (hp u)) (hle : B.Le H) => drop_ret hc (.pointer p) k t hH (hv.le hle) hs
  rcases hq : Tr.drop c k t with ⟨t', was⟩
  rw [hq] at hD
  have hm := TA.mono (t := t')
  cases was
  · rw [if_neg (by simp)]
    refine V_enter Tryz.func77 rfl Tryz.ntmps77 (Nat.le_of_ble_eq_true rfl) hB ?_
    refine V_seq ?_; refine V_region (id := 0) ?_; refine vo_step (ok_boxR rfl rfl rfl rfl) rfl ?_; refine vo_step (ok_box rfl rfl rfl rfl) rfl ?_; refine vo_step (ok_alloc L rfl rfl rfl rfl) rfl ?_; refine vo_nil ?_; refine N_seq ?_; refine V_seq ?_; refine V_seq ?_; (refine V_box 2 rfl ?_; intro b2 hb2); refine V_region (id := 1) ?_; refine vo_step (ok_loadA L (vs := [_, _]) (src_box rfl (List.Mem.head _)) rfl rfl rfl rfl ⟨_, rfl⟩) rfl ?_; refine vo_step (ok_fieldP L rfl rfl rfl rfl) rfl ?_; refine vo_step (ok_load1 L (src_box rfl (List.Mem.head _)) rfl rfl rfl rfl) rfl ?_; refine vo_step (ok_loadA L (vs := [_, _, _, _, _, _]) (src_at rfl) rfl rfl rfl rfl ⟨_, rfl⟩) rfl ?_; refine vo_step (ok_call L rfl rfl (blt_lt rfl) rfl rfl rfl DropS.mono (fun u H hH hle _ => hD u H hH hle)) rfl ?_; refine vo_step (ok_moves' rfl rfl rfl) rfl ?_; refine vo_step (ok_extracts rfl rfl rfl rfl (by assumption)) rfl ?_; refine vo_step (ok_extractx rfl rfl rfl rfl) rfl ?_; refine vo_step (ok_assigns' rfl rfl rfl) rfl ?_; refine vo_step (ok_assign rfl rfl rfl) rfl ?_; refine vo_nil ?_; refine N_seq ?_; refine V_seq ?_; refine V_region (id := 2) ?_; refine vo_step (ok_move rfl rfl rfl) rfl ?_; refine vo_nil ?_; refine N_seq ?_; refine V_false rfl ?_; refine V_skip ?_; refine N_seq ?_; refine V_seq ?_; refine V_region (id := 4) ?_; refine vo_step (ok_loadA L (vs := [_, _]) (src_box rfl (List.Mem.head _)) rfl rfl rfl rfl ⟨_, rfl⟩) rfl ?_; refine vo_step (ok_store L rfl rfl rfl rfl rfl rfl rfl rfl) rfl ?_; refine vo_nil ?_; refine N_seq ?_
    refine V_ret L (rs := [.cell 4 36]) rfl (fun _ _ h => h) Since.refl fun u H hH hle => ?_
    refine resK_cellA (src_own rfl) rfl rfl ?_
    exact ⟨p, rfl, hv.le hle⟩
  · rw [if_pos rfl]
    refine V_enter Tryz.func77 rfl Tryz.ntmps77 (Nat.le_of_ble_eq_true rfl) hB ?_
    refine V_seq ?_; refine V_region (id := 0) ?_; refine vo_step (ok_boxR rfl rfl rfl rfl) rfl ?_; refine vo_step (ok_box rfl rfl rfl rfl) rfl ?_; refine vo_step (ok_alloc L rfl rfl rfl rfl) rfl ?_; refine vo_nil ?_; refine N_seq ?_; refine V_seq ?_; refine V_seq ?_; (refine V_box 2 rfl ?_; intro b2 hb2); refine V_region (id := 1) ?_; refine vo_step (ok_loadA L (vs := [_, _]) (src_box rfl (List.Mem.head _)) rfl rfl rfl rfl ⟨_, rfl⟩) rfl ?_; refine vo_step (ok_fieldP L rfl rfl rfl rfl) rfl ?_; refine vo_step (ok_load1 L (src_box rfl (List.Mem.head _)) rfl rfl rfl rfl) rfl ?_; refine vo_step (ok_loadA L (vs := [_, _, _, _, _, _]) (src_at rfl) rfl rfl rfl rfl ⟨_, rfl⟩) rfl ?_; refine vo_step (ok_call L rfl rfl (blt_lt rfl) rfl rfl rfl DropS.mono (fun u H hH hle _ => hD u H hH hle)) rfl ?_; refine vo_step (ok_moves' rfl rfl rfl) rfl ?_; refine vo_step (ok_extracts rfl rfl rfl rfl (by assumption)) rfl ?_; refine vo_step (ok_extractx rfl rfl rfl rfl) rfl ?_; refine vo_step (ok_assigns' rfl rfl rfl) rfl ?_; refine vo_step (ok_assign rfl rfl rfl) rfl ?_; refine vo_nil ?_; refine N_seq ?_; refine V_seq ?_; refine V_region (id := 2) ?_; refine vo_step (ok_move rfl rfl rfl) rfl ?_; refine vo_nil ?_; refine N_seq ?_; refine V_true rfl ?_; refine V_region (id := 3) ?_; refine vo_step (ok_moves' rfl rfl rfl) rfl ?_; refine vo_opn 16 rfl ?_; intro p16 H16 hs16 hp16; obtain ⟨q16, rfl⟩ := TA.ptr hp16; refine vo_step (ok_fieldP L rfl rfl rfl rfl) rfl ?_; refine box_store L (O1 := []) rfl rfl rfl rfl rfl rfl rfl rfl rfl ?_; refine vo_nil ?_; refine N_seq ?_; refine V_seq ?_; refine V_region (id := 4) ?_; refine vo_step (ok_loadA L (vs := [_, _]) (src_box rfl (List.Mem.head _)) rfl rfl rfl rfl ⟨_, rfl⟩) rfl ?_; refine vo_step (ok_store L rfl rfl rfl rfl rfl rfl rfl rfl) rfl ?_; refine vo_nil ?_; refine N_seq ?_
    refine V_ret L (rs := [.cell 4 36]) rfl (fun _ _ h => h) hs16 fun u H hH hle => ?_
    refine resK_cellA (src_own rfl) rfl rfl ?_
    exact ⟨q16, rfl, hp16.le hle⟩
def getV : Option VT → List Value
  | some x => [vv x, .bool true]
  | none => [.agg #[], .bool false]
theorem get_ret {cf : Nat} {c : KT → KT → Int} (hc : Cmp cf c) (k : KT) {root : Value} {t : Tr KT VT} {w : World} {B : Heap} (hB : B.Le (hp w)) (hv : TA t root B) :
    Ret Tryz.prog 48 [mv cf root, kv k] w B (fun v _ => v = tup (getV (Tr.get c k t))) := by
  refine V_enter Tryz.func48 rfl Tryz.ntmps48 (Nat.le_of_ble_eq_true rfl) hB ?_
  refine V_seq ?_; refine V_region (id := 0) ?_; refine vo_step (ok_box rfl rfl rfl rfl) rfl ?_; refine vo_step (ok_box rfl rfl rfl rfl) rfl ?_; refine vo_step (ok_alloc L rfl rfl rfl rfl) rfl ?_; refine vo_step (ok_assign rfl rfl rfl) rfl ?_; refine vo_nil ?_; refine N_seq ?_; refine V_seq ?_; refine V_region (id := 1) ?_; refine vo_step (ok_fieldAt L rfl rfl rfl rfl) rfl ?_; refine vo_step (ok_load1 L (src_at rfl) rfl rfl rfl rfl) rfl ?_; refine vo_step (ok_assign rfl rfl rfl) rfl ?_; refine vo_nil ?_; refine N_seq ?_; refine V_seq ?_; refine V_block ?_
  refine V_loop (fun s : Tr KT VT × Value => [(3, .sat (At [.string k.1.1.1, .string k.1.1.2, .string k.1.2, .string k.2.1.1, .string k.2.1.2, .string k.2.2] 50 0)), (4, .own (Cell [] 91)), (2, .sat (At [.func (.func cf) #[] #[], root] 36 0)), (6, .is s.2)])
    (fun s => TA s.1 s.2 B ∧ Tr.get c k s.1 = Tr.get c k t) (fun s => s.1.size) (t, root) ⟨hv, rfl⟩ (by repeat (first | exact trivial | refine ⟨rfl, ?_⟩)) ?_
  rintro ⟨s, v⟩ ⟨hs, hg⟩
  dsimp only at hs hg ⊢
  cases s with
  | nil =>
    obtain rfl : v = .pointer none := hs
    refine V_seq ?_; refine V_seq ?_; refine V_region (id := 2) ?_; refine vo_step (ok_move rfl rfl rfl) rfl ?_; refine vo_step (ok_nneq rfl rfl rfl rfl nk34 rfl rfl) rfl ?_; refine vo_nil ?_; refine N_seq ?_; refine V_false rfl ?_; refine V_exit ?_; refine X_then ?_; refine X_then ?_; refine X_here ?_; refine N_seq ?_; refine V_seq ?_; refine V_region (id := 9) ?_; refine vo_step (ok_alloc L rfl rfl rfl rfl) rfl ?_; refine vo_nil ?_; refine N_seq ?_; refine V_seq ?_; refine V_region (id := 10) ?_; refine vo_step (ok_loadA L (vs := []) (src_own rfl) rfl rfl rfl rfl ⟨_, rfl⟩) rfl ?_; refine vo_step (ok_store L rfl rfl rfl rfl rfl rfl rfl rfl) rfl ?_; refine vo_step (ok_assign rfl rfl rfl) rfl ?_; refine vo_nil ?_; refine N_seq ?_
    refine V_ret L (rs := [.cell 4 91, .tmp 5]) rfl (fun _ _ h => h) Since.refl fun u H hH hle => ?_
    first | (rw [← hg]; rfl) | (refine resK_cellA (src_own rfl) rfl rfl ?_; rw [← hg]; rfl)
  | node nk nx l r =>
    obtain ⟨b, lv, rv, rfl, hb, hl, hr⟩ := hs
    by_cases h0 : c k nk = 0
    · rw [Tr.get_eq h0] at hg
      refine V_seq ?_; refine V_seq ?_; refine V_region (id := 2) ?_; refine vo_step (ok_move rfl rfl rfl) rfl ?_; refine vo_step (ok_nneq rfl rfl rfl rfl nk34 rfl rfl) rfl ?_; refine vo_nil ?_; refine N_seq ?_; refine V_true rfl ?_; refine V_skip ?_; refine N_seq ?_; refine V_block ?_; refine V_seq ?_; refine V_regionD (id := 3) [] mixed (by kernel_rfl) ?_; refine par_step (ok_fieldAt L rfl rfl rfl rfl) rfl ?_; refine par_step (ok_load1 L (src_at rfl) rfl rfl rfl rfl) rfl ?_; refine par_step (ok_loadA L (vs := [_, _, _, _, _, _]) (src_at rfl) rfl rfl rfl rfl ⟨_, rfl⟩) rfl ?_; refine par_step (ok_move rfl rfl rfl) rfl ?_; refine par_step (ok_nil rfl rfl rfl) rfl ?_; refine par_step (ok_fieldP L rfl rfl rfl rfl) rfl ?_; refine par_step (ok_fieldP L rfl rfl rfl rfl) rfl ?_; refine par_step (ok_loadA L (vs := [_, _, _, _, _, _]) (src_base rfl (by assumption)) rfl rfl rfl rfl ⟨_, rfl⟩) rfl ?_; refine par_step (ok_callx L rfl rfl (blt_lt rfl) rfl rfl hc.fn (fun u H hH _ _ => hc.ret _ _ u H hH)) rfl ?_; refine par_step (ok_assign rfl rfl rfl) rfl ?_; refine par_nil ?_; refine N_seq ?_; refine V_seq ?_; refine V_seq ?_; refine V_region (id := 4) ?_; refine vo_step (ok_move rfl rfl rfl) rfl ?_; refine vo_step (ok_eql rfl rfl rfl rfl (decide_eq_true (by omega))) rfl ?_; refine vo_nil ?_; refine N_seq ?_; refine V_true rfl ?_; refine V_seq ?_; refine V_region (id := 5) ?_; refine vo_step (ok_move rfl rfl rfl) rfl ?_; refine vo_step (ok_nil rfl rfl rfl) rfl ?_; refine vo_step (ok_fieldP L rfl rfl rfl rfl) rfl ?_; refine vo_step (ok_fieldZP (by assumption) rfl rfl rfl (by kernel_rfl)) rfl ?_; refine vo_step (ok_loadZ L rfl rfl rfl rfl) rfl ?_; refine vo_step (ok_store L rfl rfl rfl rfl rfl rfl rfl rfl) rfl ?_; refine vo_step (ok_assign rfl rfl rfl) rfl ?_; refine vo_nil ?_; refine N_seq ?_
      refine V_ret L (rs := [.cell 4 91, .tmp 5]) rfl (fun _ _ h => h) Since.refl fun u H hH hle => ?_
      first | (rw [← hg]; rfl) | (refine resK_cellA (src_own rfl) rfl rfl ?_; rw [← hg]; rfl)
    · by_cases h1 : c k nk < 0
      · rw [Tr.get_lt h1] at hg
        refine V_seq ?_; refine V_seq ?_; refine V_region (id := 2) ?_; refine vo_step (ok_move rfl rfl rfl) rfl ?_; refine vo_step (ok_nneq rfl rfl rfl rfl nk34 rfl rfl) rfl ?_; refine vo_nil ?_; refine N_seq ?_; refine V_true rfl ?_; refine V_skip ?_; refine N_seq ?_; refine V_block ?_; refine V_seq ?_; refine V_regionD (id := 3) [] mixed (by kernel_rfl) ?_; refine par_step (ok_fieldAt L rfl rfl rfl rfl) rfl ?_; refine par_step (ok_load1 L (src_at rfl) rfl rfl rfl rfl) rfl ?_; refine par_step (ok_loadA L (vs := [_, _, _, _, _, _]) (src_at rfl) rfl rfl rfl rfl ⟨_, rfl⟩) rfl ?_; refine par_step (ok_move rfl rfl rfl) rfl ?_; refine par_step (ok_nil rfl rfl rfl) rfl ?_; refine par_step (ok_fieldP L rfl rfl rfl rfl) rfl ?_; refine par_step (ok_fieldP L rfl rfl rfl rfl) rfl ?_; refine par_step (ok_loadA L (vs := [_, _, _, _, _, _]) (src_base rfl (by assumption)) rfl rfl rfl rfl ⟨_, rfl⟩) rfl ?_; refine par_step (ok_callx L rfl rfl (blt_lt rfl) rfl rfl hc.fn (fun u H hH _ _ => hc.ret _ _ u H hH)) rfl ?_; refine par_step (ok_assign rfl rfl rfl) rfl ?_; refine par_nil ?_; refine N_seq ?_; refine V_seq ?_; refine V_seq ?_; refine V_region (id := 4) ?_; refine vo_step (ok_move rfl rfl rfl) rfl ?_; refine vo_step (ok_eql rfl rfl rfl rfl (decide_eq_false (by omega))) rfl ?_; refine vo_nil ?_; refine N_seq ?_; refine V_false rfl ?_; refine V_skip ?_; refine N_seq ?_; refine V_seq ?_; refine V_region (id := 6) ?_; refine vo_step (ok_move rfl rfl rfl) rfl ?_; refine vo_step (ok_lss rfl rfl rfl rfl (decide_eq_true (by omega))) rfl ?_; refine vo_nil ?_; refine N_seq ?_; refine V_true rfl ?_; refine V_region (id := 7) ?_; refine vo_step (ok_move rfl rfl rfl) rfl ?_; refine vo_step (ok_nil rfl rfl rfl) rfl ?_; refine vo_step (ok_fieldP L rfl rfl rfl rfl) rfl ?_; refine vo_step (ok_load1 L (src_base rfl (by assumption)) rfl rfl rfl rfl) rfl ?_; refine vo_step (ok_assign rfl rfl rfl) rfl ?_; refine vo_nil ?_; refine N_block ?_
        exact N_round (x := (Tr.node nk nx l r, Value.pointer (some ⟨b, 0, none⟩))) (l, lv) ⟨hl, hg⟩ (by simp only [Tr.size_node]; omega) (by repeat (first | exact trivial | refine ⟨rfl, ?_⟩))
      · rw [Tr.get_gt h0 h1] at hg
        refine V_seq ?_; refine V_seq ?_; refine V_region (id := 2) ?_; refine vo_step (ok_move rfl rfl rfl) rfl ?_; refine vo_step (ok_nneq rfl rfl rfl rfl nk34 rfl rfl) rfl ?_; refine vo_nil ?_; refine N_seq ?_; refine V_true rfl ?_; refine V_skip ?_; refine N_seq ?_; refine V_block ?_; refine V_seq ?_; refine V_regionD (id := 3) [] mixed (by kernel_rfl) ?_; refine par_step (ok_fieldAt L rfl rfl rfl rfl) rfl ?_; refine par_step (ok_load1 L (src_at rfl) rfl rfl rfl rfl) rfl ?_; refine par_step (ok_loadA L (vs := [_, _, _, _, _, _]) (src_at rfl) rfl rfl rfl rfl ⟨_, rfl⟩) rfl ?_; refine par_step (ok_move rfl rfl rfl) rfl ?_; refine par_step (ok_nil rfl rfl rfl) rfl ?_; refine par_step (ok_fieldP L rfl rfl rfl rfl) rfl ?_; refine par_step (ok_fieldP L rfl rfl rfl rfl) rfl ?_; refine par_step (ok_loadA L (vs := [_, _, _, _, _, _]) (src_base rfl (by assumption)) rfl rfl rfl rfl ⟨_, rfl⟩) rfl ?_; refine par_step (ok_callx L rfl rfl (blt_lt rfl) rfl rfl hc.fn (fun u H hH _ _ => hc.ret _ _ u H hH)) rfl ?_; refine par_step (ok_assign rfl rfl rfl) rfl ?_; refine par_nil ?_; refine N_seq ?_; refine V_seq ?_; refine V_seq ?_; refine V_region (id := 4) ?_; refine vo_step (ok_move rfl rfl rfl) rfl ?_; refine vo_step (ok_eql rfl rfl rfl rfl (decide_eq_false (by omega))) rfl ?_; refine vo_nil ?_; refine N_seq ?_; refine V_false rfl ?_; refine V_skip ?_; refine N_seq ?_; refine V_seq ?_; refine V_region (id := 6) ?_; refine vo_step (ok_move rfl rfl rfl) rfl ?_; refine vo_step (ok_lss rfl rfl rfl rfl (decide_eq_false (by omega))) rfl ?_; refine vo_nil ?_; refine N_seq ?_; refine V_false rfl ?_; refine V_region (id := 8) ?_; refine vo_step (ok_move rfl rfl rfl) rfl ?_; refine vo_step (ok_nil rfl rfl rfl) rfl ?_; refine vo_step (ok_fieldP L rfl rfl rfl rfl) rfl ?_; refine vo_step (ok_load1 L (src_base rfl (by assumption)) rfl rfl rfl rfl) rfl ?_; refine vo_step (ok_assign rfl rfl rfl) rfl ?_; refine vo_nil ?_; refine N_block ?_
        exact N_round (x := (Tr.node nk nx l r, Value.pointer (some ⟨b, 0, none⟩))) (r, rv) ⟨hr, hg⟩ (by simp only [Tr.size_node]; omega) (by repeat (first | exact trivial | refine ⟨rfl, ?_⟩))
theorem rank_ret {cf : Nat} {c : KT → KT → Int} (hc : Cmp cf c) (k : KT) {root : Value} {t : Tr KT VT} {w : World} {B : Heap} (hB : B.Le (hp w)) (hv : TA t root B) (hs : t.size < 1099511627776) :
    Ret Tryz.prog 60 [mv cf root, kv k] w B (fun v _ => v = .int .i64 (Tr.rank c k t)) := by
  refine V_enter Tryz.func60 rfl Tryz.ntmps60 (Nat.le_of_ble_eq_true rfl) hB ?_
  refine V_seq ?_; refine V_region (id := 0) ?_; refine vo_step (ok_box rfl rfl rfl rfl) rfl ?_; refine vo_step (ok_box rfl rfl rfl rfl) rfl ?_; refine vo_step (ok_assign rfl rfl rfl) rfl ?_; refine vo_nil ?_; refine N_seq ?_; refine V_seq ?_; refine V_region (id := 1) ?_; refine vo_step (ok_assign rfl rfl rfl) rfl ?_; refine vo_nil ?_; refine N_seq ?_; refine V_seq ?_; refine V_seq ?_; refine V_region (id := 2) ?_; refine vo_step (ok_fieldAt L rfl rfl rfl rfl) rfl ?_; refine vo_step (ok_load1 L (src_at rfl) rfl rfl rfl rfl) rfl ?_; refine vo_step (ok_assign rfl rfl rfl) rfl ?_; refine vo_nil ?_; refine N_seq ?_; refine V_block ?_
  refine V_loop (fun s : Tr KT VT × Value × Nat => [(3, .sat (At [.string k.1.1.1, .string k.1.1.2, .string k.1.2, .string k.2.1.1, .string k.2.1.2, .string k.2.2] 50 0)), (2, .sat (At [.func (.func cf) #[] #[], root] 36 0)), (5, .is (.int .i64 s.2.2)), (6, .is s.2.1)])
    (fun s => TA s.1 s.2.1 B ∧ Tr.rank c k t = s.2.2 + Tr.rank c k s.1 ∧ s.2.2 + s.1.size ≤ t.size) (fun s => s.1.size) (t, root, 0) ⟨hv, by simp, by simp⟩ (by repeat (first | exact trivial | refine ⟨rfl, ?_⟩)) ?_
  rintro ⟨s, v, m⟩ ⟨hs', hg, hz⟩
  dsimp only at hs' hg hz ⊢
  cases s with
  | nil =>
    obtain rfl : v = .pointer none := hs'
    refine V_seq ?_; refine V_seq ?_; refine V_region (id := 3) ?_; refine vo_step (ok_move rfl rfl rfl) rfl ?_; refine vo_step (ok_nneq rfl rfl rfl rfl nk34 rfl rfl) rfl ?_; refine vo_nil ?_; refine N_seq ?_; refine V_false rfl ?_; refine V_exit ?_; refine X_then ?_; refine X_then ?_; refine X_here ?_; refine N_seq ?_; refine V_seq ?_; refine V_region (id := 8) ?_; refine vo_step (ok_move rfl rfl rfl) rfl ?_; refine vo_step (ok_assign rfl rfl rfl) rfl ?_; refine vo_nil ?_; refine N_seq ?_
    refine V_ret L (rs := [.tmp 4]) rfl (fun _ _ h => h) Since.refl fun u H hH hle => ?_
    rw [hg]; rfl
  | node nk nx l r =>
    obtain ⟨b, lv, rv, rfl, hb, hl, hr⟩ := hs'
    simp only [Tr.size_node] at hz
    by_cases h1 : c nk k < 0
    · rw [Tr.rank_lt h1] at hg
      refine V_seq ?_; refine V_seq ?_; refine V_region (id := 3) ?_; refine vo_step (ok_move rfl rfl rfl) rfl ?_; refine vo_step (ok_nneq rfl rfl rfl rfl nk34 rfl rfl) rfl ?_; refine vo_nil ?_; refine N_seq ?_; refine V_true rfl ?_; refine V_skip ?_; refine N_seq ?_; refine V_block ?_; refine V_seq ?_; refine V_regionD (id := 4) [] mixed (by kernel_rfl) ?_; refine par_step (ok_fieldAt L rfl rfl rfl rfl) rfl ?_; refine par_step (ok_load1 L (src_at rfl) rfl rfl rfl rfl) rfl ?_; refine par_step (ok_move rfl rfl rfl) rfl ?_; refine par_step (ok_nil rfl rfl rfl) rfl ?_; refine par_step (ok_fieldP L rfl rfl rfl rfl) rfl ?_; refine par_step (ok_fieldP L rfl rfl rfl rfl) rfl ?_; refine par_step (ok_loadA L (vs := [_, _, _, _, _, _]) (src_base rfl (by assumption)) rfl rfl rfl rfl ⟨_, rfl⟩) rfl ?_; refine par_step (ok_loadA L (vs := [_, _, _, _, _, _]) (src_at rfl) rfl rfl rfl rfl ⟨_, rfl⟩) rfl ?_; refine par_step (ok_callx L rfl rfl (blt_lt rfl) rfl rfl hc.fn (fun u H hH _ _ => hc.ret _ _ u H hH)) rfl ?_; refine par_step (ok_lss rfl rfl rfl rfl (decide_eq_true (by omega))) rfl ?_; refine par_nil ?_; refine N_seq ?_; refine V_true rfl ?_; refine V_seq ?_; refine V_region (id := 5) ?_; refine vo_step (ok_move rfl rfl rfl) rfl ?_; refine vo_step (ok_move rfl rfl rfl) rfl ?_; refine vo_step (ok_nil rfl rfl rfl) rfl ?_; refine vo_step (ok_fieldP L rfl rfl rfl rfl) rfl ?_; refine vo_step (ok_load1 L (src_base rfl (by assumption)) rfl rfl rfl rfl) rfl ?_; refine vo_step (ok_callx L rfl rfl (blt_lt rfl) rfl rfl rfl (fun u H hH hle _ => UT.size_ret _ hH (UT.TA.le (by assumption) hle))) rfl ?_; refine vo_step (ok_add rfl rfl rfl rfl (wrap_i64 (by omega) (by omega))) rfl ?_; refine vo_step (ok_add rfl rfl rfl rfl (wrap_i64 (by omega) (by omega))) rfl ?_; refine vo_step (ok_assign rfl rfl rfl) rfl ?_; refine vo_nil ?_; refine N_seq ?_; refine V_region (id := 6) ?_; refine vo_step (ok_move rfl rfl rfl) rfl ?_; refine vo_step (ok_nil rfl rfl rfl) rfl ?_; refine vo_step (ok_fieldP L rfl rfl rfl rfl) rfl ?_; refine vo_step (ok_load1 L (src_base rfl (by assumption)) rfl rfl rfl rfl) rfl ?_; refine vo_step (ok_assign rfl rfl rfl) rfl ?_; refine vo_nil ?_; refine N_block ?_
      exact N_round (x := (Tr.node nk nx l r, Value.pointer (some ⟨b, 0, none⟩), m)) (r, rv, m + (l.size + 1)) ⟨hr, by dsimp only; omega, by dsimp only; omega⟩ (by simp only [Tr.size_node]; omega) (by repeat (first | exact trivial | refine ⟨rfl, ?_⟩))
    · rw [Tr.rank_ge h1] at hg
      refine V_seq ?_; refine V_seq ?_; refine V_region (id := 3) ?_; refine vo_step (ok_move rfl rfl rfl) rfl ?_; refine vo_step (ok_nneq rfl rfl rfl rfl nk34 rfl rfl) rfl ?_; refine vo_nil ?_; refine N_seq ?_; refine V_true rfl ?_; refine V_skip ?_; refine N_seq ?_; refine V_block ?_; refine V_seq ?_; refine V_regionD (id := 4) [] mixed (by kernel_rfl) ?_; refine par_step (ok_fieldAt L rfl rfl rfl rfl) rfl ?_; refine par_step (ok_load1 L (src_at rfl) rfl rfl rfl rfl) rfl ?_; refine par_step (ok_move rfl rfl rfl) rfl ?_; refine par_step (ok_nil rfl rfl rfl) rfl ?_; refine par_step (ok_fieldP L rfl rfl rfl rfl) rfl ?_; refine par_step (ok_fieldP L rfl rfl rfl rfl) rfl ?_; refine par_step (ok_loadA L (vs := [_, _, _, _, _, _]) (src_base rfl (by assumption)) rfl rfl rfl rfl ⟨_, rfl⟩) rfl ?_; refine par_step (ok_loadA L (vs := [_, _, _, _, _, _]) (src_at rfl) rfl rfl rfl rfl ⟨_, rfl⟩) rfl ?_; refine par_step (ok_callx L rfl rfl (blt_lt rfl) rfl rfl hc.fn (fun u H hH _ _ => hc.ret _ _ u H hH)) rfl ?_; refine par_step (ok_lss rfl rfl rfl rfl (decide_eq_false (by omega))) rfl ?_; refine par_nil ?_; refine N_seq ?_; refine V_false rfl ?_; refine V_region (id := 7) ?_; refine vo_step (ok_move rfl rfl rfl) rfl ?_; refine vo_step (ok_nil rfl rfl rfl) rfl ?_; refine vo_step (ok_fieldP L rfl rfl rfl rfl) rfl ?_; refine vo_step (ok_load1 L (src_base rfl (by assumption)) rfl rfl rfl rfl) rfl ?_; refine vo_step (ok_assign rfl rfl rfl) rfl ?_; refine vo_nil ?_; refine N_block ?_
      exact N_round (x := (Tr.node nk nx l r, Value.pointer (some ⟨b, 0, none⟩), m)) (l, lv, m) ⟨hl, hg, by dsimp only; omega⟩ (by simp only [Tr.size_node]; omega) (by repeat (first | exact trivial | refine ⟨rfl, ?_⟩))
theorem rank_nil (k : KT) {fv : Value} {w : World} {B : Heap} (hB : B.Le (hp w)) :
    Ret Tryz.prog 60 [.agg #[fv, .pointer none], kv k] w B (fun v _ => v = .int .i64 0) := by
  refine V_enter Tryz.func60 rfl Tryz.ntmps60 (Nat.le_of_ble_eq_true rfl) hB ?_
  refine V_seq ?_; refine V_region (id := 0) ?_; refine vo_step (ok_box rfl rfl rfl rfl) rfl ?_; refine vo_step (ok_box rfl rfl rfl rfl) rfl ?_; refine vo_step (ok_assign rfl rfl rfl) rfl ?_; refine vo_nil ?_; refine N_seq ?_; refine V_seq ?_; refine V_region (id := 1) ?_; refine vo_step (ok_assign rfl rfl rfl) rfl ?_; refine vo_nil ?_; refine N_seq ?_; refine V_seq ?_; refine V_seq ?_; refine V_region (id := 2) ?_; refine vo_step (ok_fieldAt L rfl rfl rfl rfl) rfl ?_; refine vo_step (ok_load1 L (src_at rfl) rfl rfl rfl rfl) rfl ?_; refine vo_step (ok_assign rfl rfl rfl) rfl ?_; refine vo_nil ?_; refine N_seq ?_; refine V_block ?_
  refine V_loop (fun _ : Unit => [(5, .is (.int .i64 0)), (6, .is (.pointer none))]) (fun _ => True) (fun _ => 0) () trivial (by repeat (first | exact trivial | refine ⟨rfl, ?_⟩)) ?_
  rintro _ _
  refine V_seq ?_; refine V_seq ?_; refine V_region (id := 3) ?_; refine vo_step (ok_move rfl rfl rfl) rfl ?_; refine vo_step (ok_nneq rfl rfl rfl rfl nk34 rfl rfl) rfl ?_; refine vo_nil ?_; refine N_seq ?_; refine V_false rfl ?_; refine V_exit ?_; refine X_then ?_; refine X_then ?_; refine X_here ?_; refine N_seq ?_; refine V_seq ?_; refine V_region (id := 8) ?_; refine vo_step (ok_move rfl rfl rfl) rfl ?_; refine vo_step (ok_assign rfl rfl rfl) rfl ?_; refine vo_nil ?_; refine N_seq ?_
  refine V_ret L (rs := [.tmp 4]) rfl (fun _ _ h => h) Since.refl fun u H hH hle => ?_
  rfl
def atV : Option (KT × VT) → List Value
  | some y => [.agg (pl y.1 y.2).toArray, .int .i64 0]
  | none => [.agg #[.string ⟨#[]⟩, .string ⟨#[]⟩, .string ⟨#[]⟩, .string ⟨#[]⟩, .string ⟨#[]⟩, .string ⟨#[]⟩], .int .i64 4]
def atO (t : Tr KT VT) (i : Int) : Option (KT × VT) := if i < 0 then none else Tr.at' t i.toNat
theorem at_none : ∀ (t : Tr KT VT) (i : Nat), t.size ≤ i → Tr.at' t i = none
  | .nil, _, _ => rfl
  | .node k x l r, i, h => by
    simp only [Tr.size_node] at h
    rw [Tr.at_gt (by omega)]
    exact at_none r _ (by omega)
theorem at_ret {fv root : Value} {t : Tr KT VT} (i : Int) {w : World} {B : Heap} (hB : B.Le (hp w)) (hv : TA t root B) (hs : t.size < 1099511627776) :
    Ret Tryz.prog 62 [.agg #[fv, root], .int .i64 i] w B (fun v _ => v = tup (atV (atO t i))) := by
  refine V_enter Tryz.func62 rfl Tryz.ntmps62 (Nat.le_of_ble_eq_true rfl) hB ?_
  by_cases h0 : i < 0
  · refine V_seq ?_; refine V_region (id := 0) ?_; refine vo_step (ok_box rfl rfl rfl rfl) rfl ?_; refine vo_step (ok_alloc L rfl rfl rfl rfl) rfl ?_; refine vo_step (ok_assign rfl rfl rfl) rfl ?_; refine vo_nil ?_; refine N_seq ?_; refine V_seq ?_; refine V_seq ?_; refine V_region (id := 1) ?_; refine vo_step (ok_move rfl rfl rfl) rfl ?_; refine vo_step (ok_lss rfl rfl rfl rfl (decide_eq_true (by omega))) rfl ?_; refine vo_step (ok_move rfl rfl rfl) rfl ?_; refine vo_step (ok_skip rfl (blt_lt rfl) rfl) rfl ?_; refine vo_step (ok_skip rfl (blt_lt rfl) rfl) rfl ?_; refine vo_step (ok_skip rfl (blt_lt rfl) rfl) rfl ?_; refine vo_step (ok_skip rfl (blt_lt rfl) rfl) rfl ?_; refine vo_step (ok_pick rfl rfl rfl rfl) rfl ?_; refine vo_nil ?_; refine N_seq ?_; refine V_true rfl ?_; refine V_seq ?_; refine V_region (id := 2) ?_; refine vo_step (ok_build (cs := [_, _, _, _, _, _]) rfl rfl pl104 rfl rfl) rfl ?_; refine vo_step (ok_store L rfl rfl rfl rfl rfl rfl rfl rfl) rfl ?_; refine vo_step (ok_assign rfl rfl rfl) rfl ?_; refine vo_nil ?_; refine N_seq ?_
    refine V_ret L (rs := [.cell 4 104, .tmp 5]) rfl (fun _ _ h => h) Since.refl fun u H hH hle => ?_
    refine resK_cellA (src_own rfl) rfl rfl ?_
    rw [atO, if_pos h0]; rfl
  · by_cases h1 : i ≥ t.size
    · refine V_seq ?_; refine V_region (id := 0) ?_; refine vo_step (ok_box rfl rfl rfl rfl) rfl ?_; refine vo_step (ok_alloc L rfl rfl rfl rfl) rfl ?_; refine vo_step (ok_assign rfl rfl rfl) rfl ?_; refine vo_nil ?_; refine N_seq ?_; refine V_seq ?_; refine V_seq ?_; refine V_region (id := 1) ?_; refine vo_step (ok_move rfl rfl rfl) rfl ?_; refine vo_step (ok_lss rfl rfl rfl rfl (decide_eq_false (by omega))) rfl ?_; refine vo_step (ok_move rfl rfl rfl) rfl ?_; refine vo_step (ok_move rfl rfl rfl) rfl ?_; refine vo_step (ok_loadA L (vs := [_, _]) (src_at rfl) rfl rfl rfl rfl ⟨_, rfl⟩) rfl ?_; refine vo_step (ok_callx L rfl rfl (blt_lt rfl) rfl rfl rfl (fun u H hH hle _ => len_ret hH (hv.le hle))) rfl ?_; refine vo_step (ok_geq rfl rfl rfl rfl (decide_eq_true (by omega))) rfl ?_; refine vo_step (ok_pick rfl rfl rfl rfl) rfl ?_; refine vo_nil ?_; refine N_seq ?_; refine V_true rfl ?_; refine V_seq ?_; refine V_region (id := 2) ?_; refine vo_step (ok_build (cs := [_, _, _, _, _, _]) rfl rfl pl104 rfl rfl) rfl ?_; refine vo_step (ok_store L rfl rfl rfl rfl rfl rfl rfl rfl) rfl ?_; refine vo_step (ok_assign rfl rfl rfl) rfl ?_; refine vo_nil ?_; refine N_seq ?_
      refine V_ret L (rs := [.cell 4 104, .tmp 5]) rfl (fun _ _ h => h) Since.refl fun u H hH hle => ?_
      refine resK_cellA (src_own rfl) rfl rfl ?_
      rw [atO, if_neg h0, at_none t _ (by omega)]; rfl
    · obtain ⟨j, rfl⟩ := Int.eq_ofNat_of_zero_le (by omega : 0 ≤ i)
      refine V_seq ?_; refine V_region (id := 0) ?_; refine vo_step (ok_box rfl rfl rfl rfl) rfl ?_; refine vo_step (ok_alloc L rfl rfl rfl rfl) rfl ?_; refine vo_step (ok_assign rfl rfl rfl) rfl ?_; refine vo_nil ?_; refine N_seq ?_; refine V_seq ?_; refine V_seq ?_; refine V_region (id := 1) ?_; refine vo_step (ok_move rfl rfl rfl) rfl ?_; refine vo_step (ok_lss rfl rfl rfl rfl (decide_eq_false (by omega))) rfl ?_; refine vo_step (ok_move rfl rfl rfl) rfl ?_; refine vo_step (ok_move rfl rfl rfl) rfl ?_; refine vo_step (ok_loadA L (vs := [_, _]) (src_at rfl) rfl rfl rfl rfl ⟨_, rfl⟩) rfl ?_; refine vo_step (ok_callx L rfl rfl (blt_lt rfl) rfl rfl rfl (fun u H hH hle _ => len_ret hH (hv.le hle))) rfl ?_; refine vo_step (ok_geq rfl rfl rfl rfl (decide_eq_false (by omega))) rfl ?_; refine vo_step (ok_pick rfl rfl rfl rfl) rfl ?_; refine vo_nil ?_; refine N_seq ?_; refine V_false rfl ?_; refine V_skip ?_; refine N_seq ?_; refine V_seq ?_; refine V_region (id := 3) ?_; refine vo_step (ok_fieldAt L rfl rfl rfl rfl) rfl ?_; refine vo_step (ok_load1 L (src_at rfl) rfl rfl rfl rfl) rfl ?_; refine vo_step (ok_assign rfl rfl rfl) rfl ?_; refine vo_nil ?_; refine N_seq ?_; refine V_block ?_
      refine V_loop (fun s : Tr KT VT × Value × Nat => [(1, .is (.int .i64 s.2.2)), (4, .own (Cell [.string ⟨#[]⟩, .string ⟨#[]⟩, .string ⟨#[]⟩, .string ⟨#[]⟩, .string ⟨#[]⟩, .string ⟨#[]⟩] 104)), (6, .is s.2.1)])
        (fun s => TA s.1 s.2.1 B ∧ Tr.at' t j = Tr.at' s.1 s.2.2 ∧ s.2.2 < s.1.size ∧ s.1.size ≤ t.size) (fun s => s.1.size) (t, root, j) ⟨hv, rfl, by dsimp only; omega, Nat.le_refl _⟩ ⟨rfl, rfl, rfl, trivial⟩ ?_
      rintro ⟨s, v, m⟩ ⟨hs', hg, hlt, hz⟩
      dsimp only at hs' hg hlt hz ⊢
      cases s with
      | nil => cases hlt
      | node nk nx l r =>
        obtain ⟨b, lv, rv, rfl, hb, hl, hr⟩ := hs'
        simp only [Tr.size_node] at hlt hz
        by_cases h2 : m < l.size
        · rw [Tr.at_lt h2] at hg
          refine V_block ?_; refine V_seq ?_; refine V_region (id := 4) ?_; refine vo_step (ok_move rfl rfl rfl) rfl ?_; refine vo_step (ok_nil rfl rfl rfl) rfl ?_; refine vo_step (ok_fieldP L rfl rfl rfl rfl) rfl ?_; refine vo_step (ok_load1 L (src_base rfl (by assumption)) rfl rfl rfl rfl) rfl ?_; refine vo_step (ok_callx L rfl rfl (blt_lt rfl) rfl rfl rfl (fun u H hH hle _ => UT.size_ret _ hH (UT.TA.le (by assumption) hle))) rfl ?_; refine vo_step (ok_assign rfl rfl rfl) rfl ?_; refine vo_nil ?_; refine N_seq ?_; refine V_block ?_; refine V_seq ?_; refine V_region (id := 6) ?_; refine vo_step (ok_move rfl rfl rfl) rfl ?_; refine vo_step (ok_move rfl rfl rfl) rfl ?_; refine vo_step (ok_lss rfl rfl rfl rfl (decide_eq_true (by omega))) rfl ?_; refine vo_step (ok_assign rfl rfl rfl) rfl ?_; refine vo_nil ?_; refine N_seq ?_; refine V_true rfl ?_; refine V_region (id := 7) ?_; refine vo_step (ok_move rfl rfl rfl) rfl ?_; refine vo_step (ok_nil rfl rfl rfl) rfl ?_; refine vo_step (ok_fieldP L rfl rfl rfl rfl) rfl ?_; refine vo_step (ok_load1 L (src_base rfl (by assumption)) rfl rfl rfl rfl) rfl ?_; refine vo_step (ok_assign rfl rfl rfl) rfl ?_; refine vo_nil ?_; refine N_block ?_; refine N_block ?_
          exact N_round (x := (Tr.node nk nx l r, Value.pointer (some ⟨b, 0, none⟩), m)) (l, lv, m) ⟨hl, hg, h2, by dsimp only; omega⟩ (by simp only [Tr.size_node]; omega) ⟨rfl, rfl, rfl, trivial⟩
        · by_cases h3 : m > l.size
          · rw [Tr.at_gt h3] at hg
            refine V_block ?_; refine V_seq ?_; refine V_region (id := 4) ?_; refine vo_step (ok_move rfl rfl rfl) rfl ?_; refine vo_step (ok_nil rfl rfl rfl) rfl ?_; refine vo_step (ok_fieldP L rfl rfl rfl rfl) rfl ?_; refine vo_step (ok_load1 L (src_base rfl (by assumption)) rfl rfl rfl rfl) rfl ?_; refine vo_step (ok_callx L rfl rfl (blt_lt rfl) rfl rfl rfl (fun u H hH hle _ => UT.size_ret _ hH (UT.TA.le (by assumption) hle))) rfl ?_; refine vo_step (ok_assign rfl rfl rfl) rfl ?_; refine vo_nil ?_; refine N_seq ?_; refine V_block ?_; refine V_seq ?_; refine V_region (id := 6) ?_; refine vo_step (ok_move rfl rfl rfl) rfl ?_; refine vo_step (ok_move rfl rfl rfl) rfl ?_; refine vo_step (ok_lss rfl rfl rfl rfl (decide_eq_false (by omega))) rfl ?_; refine vo_step (ok_assign rfl rfl rfl) rfl ?_; refine vo_nil ?_; refine N_seq ?_; refine V_false rfl ?_; refine V_seq ?_; refine V_region (id := 8) ?_; refine vo_step (ok_move rfl rfl rfl) rfl ?_; refine vo_step (ok_move rfl rfl rfl) rfl ?_; refine vo_step (ok_gtr rfl rfl rfl rfl (decide_eq_true (by omega))) rfl ?_; refine vo_step (ok_assign rfl rfl rfl) rfl ?_; refine vo_nil ?_; refine N_seq ?_; refine V_true rfl ?_; refine V_seq ?_; refine V_region (id := 9) ?_; refine vo_step (ok_move rfl rfl rfl) rfl ?_; refine vo_step (ok_move rfl rfl rfl) rfl ?_; refine vo_step (ok_add rfl rfl rfl rfl (wrap_i64 (by omega) (by omega))) rfl ?_; refine vo_step (ok_sub rfl rfl rfl rfl (wrap_i64 (by omega) (by omega))) rfl ?_; refine vo_step (ok_assign rfl rfl rfl) rfl ?_; refine vo_nil ?_; refine N_seq ?_; refine V_region (id := 10) ?_; refine vo_step (ok_move rfl rfl rfl) rfl ?_; refine vo_step (ok_nil rfl rfl rfl) rfl ?_; refine vo_step (ok_fieldP L rfl rfl rfl rfl) rfl ?_; refine vo_step (ok_load1 L (src_base rfl (by assumption)) rfl rfl rfl rfl) rfl ?_; refine vo_step (ok_assign rfl rfl rfl) rfl ?_; refine vo_nil ?_; refine N_block ?_; refine N_block ?_
            have e : ((m : Int) - ((l.size : Int) + 1)) = ((m - (l.size + 1) : Nat) : Int) := by omega
            rw [e]
            exact N_round (x := (Tr.node nk nx l r, Value.pointer (some ⟨b, 0, none⟩), m)) (r, rv, m - (l.size + 1)) ⟨hr, hg, by dsimp only; omega, by dsimp only; omega⟩ (by simp only [Tr.size_node]; omega) ⟨rfl, rfl, rfl, trivial⟩
          · rw [Tr.at_eq (by omega)] at hg
            refine V_block ?_; refine V_seq ?_; refine V_region (id := 4) ?_; refine vo_step (ok_move rfl rfl rfl) rfl ?_; refine vo_step (ok_nil rfl rfl rfl) rfl ?_; refine vo_step (ok_fieldP L rfl rfl rfl rfl) rfl ?_; refine vo_step (ok_load1 L (src_base rfl (by assumption)) rfl rfl rfl rfl) rfl ?_; refine vo_step (ok_callx L rfl rfl (blt_lt rfl) rfl rfl rfl (fun u H hH hle _ => UT.size_ret _ hH (UT.TA.le (by assumption) hle))) rfl ?_; refine vo_step (ok_assign rfl rfl rfl) rfl ?_; refine vo_nil ?_; refine N_seq ?_; refine V_block ?_; refine V_seq ?_; refine V_region (id := 6) ?_; refine vo_step (ok_move rfl rfl rfl) rfl ?_; refine vo_step (ok_move rfl rfl rfl) rfl ?_; refine vo_step (ok_lss rfl rfl rfl rfl (decide_eq_false (by omega))) rfl ?_; refine vo_step (ok_assign rfl rfl rfl) rfl ?_; refine vo_nil ?_; refine N_seq ?_; refine V_false rfl ?_; refine V_seq ?_; refine V_region (id := 8) ?_; refine vo_step (ok_move rfl rfl rfl) rfl ?_; refine vo_step (ok_move rfl rfl rfl) rfl ?_; refine vo_step (ok_gtr rfl rfl rfl rfl (decide_eq_false (by omega))) rfl ?_; refine vo_step (ok_assign rfl rfl rfl) rfl ?_; refine vo_nil ?_; refine N_seq ?_; refine V_false rfl ?_; refine V_seq ?_; refine V_region (id := 5) ?_; refine vo_step (ok_move rfl rfl rfl) rfl ?_; refine vo_step (ok_nil rfl rfl rfl) rfl ?_; refine vo_step (ok_fieldP L rfl rfl rfl rfl) rfl ?_; refine vo_step (ok_loadA L (vs := [_, _, _, _, _, _]) (src_base rfl (by assumption)) rfl rfl rfl rfl ⟨_, rfl⟩) rfl ?_; refine vo_step (ok_store L rfl rfl rfl rfl rfl rfl rfl rfl) rfl ?_; refine vo_step (ok_assign rfl rfl rfl) rfl ?_; refine vo_nil ?_; refine N_seq ?_
            refine V_ret L (rs := [.cell 4 104, .tmp 5]) rfl (fun _ _ h => h) Since.refl fun u H hH hle => ?_
            refine resK_cellA (src_own rfl) rfl rfl ?_
            rw [atO, if_neg h0, Int.toNat_natCast, hg]; rfl
end Go.V.UT
/- The walks of trees at countersign/api.Tuple, struct{}: the pairs, one after the other. -/
namespace Go.V.UT
open Go.Proofs Go.RowKit Go.V
def encP (y : KT × VT) : List Value := [.agg (pl y.1 y.2).toArray]
/-- What 'pairs' hands back: a function value that holds four variables. -/
def PairsAt (t : Tr KT VT) (a f e : Int) : Value → Heap → Prop := fun v H => ∃ b1 b2 b3 b4 root, v = .func (.func 115) #[] #[.pointer (some ⟨b1, 0, none⟩), .pointer (some ⟨b2, 0, none⟩), .pointer (some ⟨b3, 0, none⟩), .pointer (some ⟨b4, 0, none⟩)] ∧
  H b1 = some (.cells [root].toArray 34) ∧ H b2 = some (.cells [.int .i64 a].toArray 3) ∧ H b3 = some (.cells [.int .i64 f].toArray 3) ∧ H b4 = some (.cells [.int .i64 e].toArray 3) ∧ TA t root H
theorem PairsAt.mono {t : Tr KT VT} {a f e : Int} : Kn.mono (.sat (PairsAt t a f e)) := fun _ _ _ ⟨b1, b2, b3, b4, root, h0, h1, h2, h3, h4, h5⟩ hle => ⟨b1, b2, b3, b4, root, h0, hle _ _ h1, hle _ _ h2, hle _ _ h3, hle _ _ h4, h5.le hle⟩
attribute [local irreducible] V N X VO Par StepOK Has Ret RetL Src
theorem pairs_ret (t : Tr KT VT) (a f e : Int) {root : Value} {w : World} {B : Heap} (hB : B.Le (hp w)) (hv : TA t root B) :
    Ret Tryz.prog 102 [root, .int .i64 a, .int .i64 f, .int .i64 e] w B (PairsAt t a f e) := by
  obtain ⟨p, rfl⟩ := hv.ptr
  refine V_enter Tryz.func102 rfl Tryz.ntmps102 (Nat.le_of_ble_eq_true rfl) hB ?_
  refine V_seq ?_; refine V_region (id := 0) ?_; refine vo_step (ok_box rfl rfl rfl rfl) rfl ?_; refine vo_step (ok_box rfl rfl rfl rfl) rfl ?_; refine vo_step (ok_box rfl rfl rfl rfl) rfl ?_; refine vo_step (ok_box rfl rfl rfl rfl) rfl ?_; refine vo_step (ok_assign rfl rfl rfl) rfl ?_; refine vo_nil ?_; refine N_seq ?_; refine V_seq ?_
  refine V_opn 4 rfl fun v1 H1 hs1 ⟨b1, e1, h1⟩ => ?_
  subst e1
  refine V_opn 5 rfl fun v2 H2 hs2 ⟨b2, e2, h2⟩ => ?_
  subst e2
  refine V_opn 6 rfl fun v3 H3 hs3 ⟨b3, e3, h3⟩ => ?_
  subst e3
  refine V_opn 7 rfl fun v4 H4 hs4 ⟨b4, e4, h4⟩ => ?_
  subst e4
  refine V_region (id := 1) ?_; refine vo_step (ok_makeFunc rfl rfl rfl rfl) rfl ?_; refine vo_step (ok_assign rfl rfl rfl) rfl ?_; refine vo_nil ?_; refine N_seq ?_
  refine V_ret L (rs := [.tmp 8]) rfl (fun _ _ h => h) (hs1.trans (hs2.trans (hs3.trans hs4))) fun u H hH hle => ?_
  exact ⟨b1, b2, b3, b4, _, rfl, hle _ _ (hs4.le _ _ (hs3.le _ _ (hs2.le _ _ h1))), hle _ _ (hs4.le _ _ (hs3.le _ _ h2)), hle _ _ (hs4.le _ _ h3), hle _ _ h4, (((hv.le hs1.le).le hs2.le).le (hs3.le.trans hs4.le)).le hle⟩
theorem encP_of {l : List (KT × VT)} {x : List Value} {pre : Seqs} (h : pre ++ [x] <+: l.map encP) : ∃ y, x = encP y := by
  have : x ∈ l.map encP := h.subset (by simp)
  obtain ⟨y, _, rfl⟩ := List.mem_map.1 this
  exact ⟨y, rfl⟩
abbrev cellsX : List Value → List Value
  | [.agg cs] => cs.toList
  | _ => []
set_option maxHeartbeats 2000000 in
set_option maxRecDepth 10000 in
theorem iter_ret : ∀ (t : Tr KT VT) (a f e : Int) {b1 b2 b3 b4 : Nat} {root : Value} {w : World} {B : Heap}, 0 ≤ a → a + t.size < 1099511627776 → B.Le (hp w) →
    B b1 = some (.cells [root].toArray 34) → B b2 = some (.cells [.int .i64 a].toArray 3) → B b3 = some (.cells [.int .i64 f].toArray 3) → B b4 = some (.cells [.int .i64 e].toArray 3) → TA t root B →
    Iter Tryz.prog 115 [.pointer (some ⟨b1, 0, none⟩), .pointer (some ⟨b2, 0, none⟩), .pointer (some ⟨b3, 0, none⟩), .pointer (some ⟨b4, 0, none⟩)] w B ((Tr.prs t a f e).map encP) := by
  intro t
  induction t with
  | nil =>
    intro a f e b1 b2 b3 b4 root w B ha hsz hB g1 g2 g3 g4 hv ly J stop C hst hY hJ hC
    obtain rfl : root = .pointer none := hv
    refine V_enterG 77 (J []) Tryz.func115 rfl Tryz.ntmps115 (Nat.le_of_ble_eq_true rfl) hB hJ hC ?_
    refine V_seq ?_; refine V_region (id := 0) ?_; refine vo_step (ok_box rfl rfl rfl rfl) rfl ?_; refine vo_nil ?_; refine N_seq ?_; refine V_seq ?_; refine V_seq ?_; refine V_regionD (id := 1) [] mixed (by kernel_rfl) ?_; refine par_step (ok_load1 L (src_base rfl (by assumption)) rfl rfl rfl rfl) rfl ?_; refine par_step (ok_neql rfl rfl rfl rfl nk34 rfl) rfl ?_; refine par_step (ok_move rfl rfl rfl) rfl ?_; refine par_step (ok_skip rfl (blt_lt rfl) rfl) rfl ?_; refine par_step (ok_skip rfl (blt_lt rfl) rfl) rfl ?_; refine par_step (ok_skip rfl (blt_lt rfl) rfl) rfl ?_; refine par_step (ok_skip rfl (blt_lt rfl) rfl) rfl ?_; refine par_step (ok_skip rfl (blt_lt rfl) rfl) rfl ?_; refine par_step (ok_skip rfl (blt_lt rfl) rfl) rfl ?_; refine par_step (ok_skip rfl (blt_lt rfl) rfl) rfl ?_; refine par_step (ok_skip rfl (blt_lt rfl) rfl) rfl ?_; refine par_step (ok_pick rfl rfl rfl rfl) rfl ?_; refine par_step (ok_move rfl rfl rfl) rfl ?_; refine par_step (ok_skip rfl (blt_lt rfl) rfl) rfl ?_; refine par_step (ok_skip rfl (blt_lt rfl) rfl) rfl ?_; refine par_step (ok_skip rfl (blt_lt rfl) rfl) rfl ?_; refine par_step (ok_pick rfl rfl rfl rfl) rfl ?_; refine par_nil ?_; refine N_seq ?_; refine V_true rfl ?_
    exact V_retGhost L 77 rfl (fun _ _ h => h) Since.refl rfl rfl
  | node k x l r ihl ihr =>
    intro a f e b1 b2 b3 b4 root w B ha hsz hB g1 g2 g3 g4 hv ly J stop C hst hY hJ hC
    obtain ⟨b, lv, rv, rfl, hb, hl, hr⟩ := hv
    have hsn : (Tr.node k x l r).size = l.size + 1 + r.size := rfl
    rw [hsn] at hsz
    refine V_enterG 77 (J []) Tryz.func115 rfl Tryz.ntmps115 (Nat.le_of_ble_eq_true rfl) hB hJ hC ?_
    by_cases h1 : a + ((Tr.node k x l r).size : Int) ≤ f
    · have hx : Tr.prs (.node k x l r) a f e = [] := if_pos (.inl h1)
      refine V_seq ?_; refine V_region (id := 0) ?_; refine vo_step (ok_box rfl rfl rfl rfl) rfl ?_; refine vo_nil ?_; refine N_seq ?_; refine V_seq ?_; refine V_seq ?_; refine V_regionD (id := 1) [] mixed (by kernel_rfl) ?_; refine par_step (ok_load1 L (src_base rfl (by assumption)) rfl rfl rfl rfl) rfl ?_; refine par_step (ok_neql rfl rfl rfl rfl nk34 rfl) rfl ?_; refine par_step (ok_move rfl rfl rfl) rfl ?_; refine par_step (ok_load1 L (src_base rfl (by assumption)) rfl rfl rfl rfl) rfl ?_; refine par_step (ok_load1 L (src_base rfl (by assumption)) rfl rfl rfl rfl) rfl ?_; refine par_step (ok_nil rfl rfl rfl) rfl ?_; refine par_step (ok_fieldP L rfl rfl rfl rfl) rfl ?_; refine par_step (ok_load1 L (src_base rfl (by assumption)) rfl rfl rfl rfl) rfl ?_; refine par_step (ok_add rfl rfl rfl rfl (wrap_i64 (by omega) (by omega))) rfl ?_; refine par_step (ok_load1 L (src_base rfl (by assumption)) rfl rfl rfl rfl) rfl ?_; refine par_step (ok_leq rfl rfl rfl rfl (decide_eq_true (by omega))) rfl ?_; refine par_step (ok_pick rfl rfl rfl rfl) rfl ?_; refine par_step (ok_move rfl rfl rfl) rfl ?_; refine par_step (ok_skip rfl (blt_lt rfl) rfl) rfl ?_; refine par_step (ok_skip rfl (blt_lt rfl) rfl) rfl ?_; refine par_step (ok_skip rfl (blt_lt rfl) rfl) rfl ?_; refine par_step (ok_pick rfl rfl rfl rfl) rfl ?_; refine par_nil ?_; refine N_seq ?_; refine V_true rfl ?_
      exact V_retGhost L 77 rfl (fun _ _ h => h) Since.refl rfl (by rw [hx]; rfl)
    · by_cases h2 : a ≥ e
      · have hx : Tr.prs (.node k x l r) a f e = [] := if_pos (.inr h2)
        refine V_seq ?_; refine V_region (id := 0) ?_; refine vo_step (ok_box rfl rfl rfl rfl) rfl ?_; refine vo_nil ?_; refine N_seq ?_; refine V_seq ?_; refine V_seq ?_; refine V_regionD (id := 1) [] mixed (by kernel_rfl) ?_; refine par_step (ok_load1 L (src_base rfl (by assumption)) rfl rfl rfl rfl) rfl ?_; refine par_step (ok_neql rfl rfl rfl rfl nk34 rfl) rfl ?_; refine par_step (ok_move rfl rfl rfl) rfl ?_; refine par_step (ok_load1 L (src_base rfl (by assumption)) rfl rfl rfl rfl) rfl ?_; refine par_step (ok_load1 L (src_base rfl (by assumption)) rfl rfl rfl rfl) rfl ?_; refine par_step (ok_nil rfl rfl rfl) rfl ?_; refine par_step (ok_fieldP L rfl rfl rfl rfl) rfl ?_; refine par_step (ok_load1 L (src_base rfl (by assumption)) rfl rfl rfl rfl) rfl ?_; refine par_step (ok_add rfl rfl rfl rfl (wrap_i64 (by omega) (by omega))) rfl ?_; refine par_step (ok_load1 L (src_base rfl (by assumption)) rfl rfl rfl rfl) rfl ?_; refine par_step (ok_leq rfl rfl rfl rfl (decide_eq_false (by omega))) rfl ?_; refine par_step (ok_pick rfl rfl rfl rfl) rfl ?_; refine par_step (ok_move rfl rfl rfl) rfl ?_; refine par_step (ok_load1 L (src_base rfl (by assumption)) rfl rfl rfl rfl) rfl ?_; refine par_step (ok_load1 L (src_base rfl (by assumption)) rfl rfl rfl rfl) rfl ?_; refine par_step (ok_geq rfl rfl rfl rfl (decide_eq_true (by omega))) rfl ?_; refine par_step (ok_pick rfl rfl rfl rfl) rfl ?_; refine par_nil ?_; refine N_seq ?_; refine V_true rfl ?_
        exact V_retGhost L 77 rfl (fun _ _ h => h) Since.refl rfl (by rw [hx]; rfl)
      · have hx : Tr.prs (.node k x l r) a f e = Tr.prs l a f e ++ ((if a + (l.size : Int) ≥ f ∧ a + (l.size : Int) < e then [(k, x)] else []) ++ Tr.prs r (a + l.size + 1) f e) :=
          if_neg (by rintro (h | h); exact h1 h; exact h2 h)
        rw [hx] at hY ⊢
        simp only [List.map_append] at hY ⊢
        refine V_seq ?_; refine V_region (id := 0) ?_; refine vo_step (ok_box rfl rfl rfl rfl) rfl ?_; refine vo_nil ?_; refine N_seq ?_; refine V_seq ?_; refine V_seq ?_; refine V_regionD (id := 1) [] mixed (by kernel_rfl) ?_; refine par_step (ok_load1 L (src_base rfl (by assumption)) rfl rfl rfl rfl) rfl ?_; refine par_step (ok_neql rfl rfl rfl rfl nk34 rfl) rfl ?_; refine par_step (ok_move rfl rfl rfl) rfl ?_; refine par_step (ok_load1 L (src_base rfl (by assumption)) rfl rfl rfl rfl) rfl ?_; refine par_step (ok_load1 L (src_base rfl (by assumption)) rfl rfl rfl rfl) rfl ?_; refine par_step (ok_nil rfl rfl rfl) rfl ?_; refine par_step (ok_fieldP L rfl rfl rfl rfl) rfl ?_; refine par_step (ok_load1 L (src_base rfl (by assumption)) rfl rfl rfl rfl) rfl ?_; refine par_step (ok_add rfl rfl rfl rfl (wrap_i64 (by omega) (by omega))) rfl ?_; refine par_step (ok_load1 L (src_base rfl (by assumption)) rfl rfl rfl rfl) rfl ?_; refine par_step (ok_leq rfl rfl rfl rfl (decide_eq_false (by omega))) rfl ?_; refine par_step (ok_pick rfl rfl rfl rfl) rfl ?_; refine par_step (ok_move rfl rfl rfl) rfl ?_; refine par_step (ok_load1 L (src_base rfl (by assumption)) rfl rfl rfl rfl) rfl ?_; refine par_step (ok_load1 L (src_base rfl (by assumption)) rfl rfl rfl rfl) rfl ?_; refine par_step (ok_geq rfl rfl rfl rfl (decide_eq_false (by omega))) rfl ?_; refine par_step (ok_pick rfl rfl rfl rfl) rfl ?_; refine par_nil ?_; refine N_seq ?_; refine V_false rfl ?_; refine V_skip ?_; refine N_seq ?_; refine V_seq ?_; refine V_regionD (id := 2) [] mixed (by kernel_rfl) ?_; refine par_step (ok_load1 L (src_base rfl (by assumption)) rfl rfl rfl rfl) rfl ?_; refine par_step (ok_load1 L (src_base rfl (by assumption)) rfl rfl rfl rfl) rfl ?_; refine par_step (ok_nil rfl rfl rfl) rfl ?_; refine par_step (ok_fieldP L rfl rfl rfl rfl) rfl ?_; refine par_step (ok_load1 L (src_base rfl (by assumption)) rfl rfl rfl rfl) rfl ?_; refine par_step (ok_callx L rfl rfl (blt_lt rfl) rfl rfl rfl (fun u H hH hle _ => UT.size_ret _ hH (UT.TA.le (by assumption) hle))) rfl ?_; refine par_step (ok_add rfl rfl rfl rfl (wrap_i64 (by omega) (by omega))) rfl ?_; refine par_step (ok_assign rfl rfl rfl) rfl ?_; refine par_nil ?_; refine N_seq ?_; refine V_seq ?_; refine V_seq ?_; refine V_regionD (id := 3) [] mixed (by kernel_rfl) ?_; refine par_step (ok_load1 L (src_base rfl (by assumption)) rfl rfl rfl rfl) rfl ?_; refine par_step (ok_nil rfl rfl rfl) rfl ?_; refine par_step (ok_fieldP L rfl rfl rfl rfl) rfl ?_; refine par_step (ok_load1 L (src_base rfl (by assumption)) rfl rfl rfl rfl) rfl ?_; refine par_step (ok_load1 L (src_base rfl (by assumption)) rfl rfl rfl rfl) rfl ?_; refine par_step (ok_load1 L (src_base rfl (by assumption)) rfl rfl rfl rfl) rfl ?_; refine par_step (ok_load1 L (src_base rfl (by assumption)) rfl rfl rfl rfl) rfl ?_; refine par_step (ok_call L rfl rfl (blt_lt rfl) rfl rfl rfl PairsAt.mono (fun u H hH hle _ => pairs_ret l a f e hH (TA.le hl hle))) rfl ?_; refine par_nil ?_; refine N_seq ?_; refine V_block ?_
        refine V_opn 5 rfl fun v5 H5 hs5 ⟨b5, e5, g5⟩ => ?_
        subst e5
        refine V_opn 40 rfl fun v40 H40 hs40 ⟨c1, c2, c3, c4, r1, e40, d1, d2, d3, d4, d5⟩ => ?_
        subst e40
        have hsB := hs5.trans hs40
        have gg5 := hs40.le _ _ g5
        refine V_rangeFunc L (gf := 115) (caps := [.pointer (some ⟨c1, 0, none⟩), .pointer (some ⟨c2, 0, none⟩), .pointer (some ⟨c3, 0, none⟩), .pointer (some ⟨c4, 0, none⟩)])
          [(1, .pointer (some ⟨b1, 0, none⟩)), (2, .pointer (some ⟨b2, 0, none⟩)), (3, .pointer (some ⟨b3, 0, none⟩)), (4, .pointer (some ⟨b4, 0, none⟩)), (5, .pointer (some ⟨b5, 0, none⟩)), (6, .int .i64 (a + l.size))]
          (fun pre => [(77, (J pre).res)]) (fun pre x => [(77, .own (J pre).res), (7, .own (Cell (cellsX x) 104)), (5, .is (.pointer (some ⟨b5, 0, none⟩)))])
          ((Tr.prs l a f e).map encP) stop (fun _ => .ret) rfl rfl rfl ⟨rfl, rfl, rfl, rfl, rfl, rfl, rfl, trivial⟩
          (fun pre p hp => by simp only [List.mem_singleton] at hp; subst hp; exact Nat.le_refl _) hst (fun x hx => by obtain ⟨y, _, rfl⟩ := List.mem_map.1 hx; rfl) (by decide)
          (fun u H hH hle => ihl a f e ha (by omega) hH (hle _ _ d1) (hle _ _ d2) (hle _ _ d3) (hle _ _ d4) (d5.le hle)) ?asg ?bd ?dn ?st
        case asg =>
          intro w1 Ln B' l' D' o pre x' hpre hstp hBB
          obtain ⟨y, rfl⟩ := encP_of hpre
          refine V_region (id := 4) ?_; refine vo_step (ok_alloc L rfl rfl rfl rfl) rfl ?_; refine vo_step (ok_store L rfl rfl rfl rfl rfl rfl rfl rfl) rfl ?_; refine vo_nil ?_
          exact N_has Since.refl ⟨rfl, rfl, rfl, trivial⟩
        case bd =>
          intro w1 Ln B' l' D' o pre x' hpre hstp hBB
          obtain ⟨y, rfl⟩ := encP_of hpre
          have q5 := hBB _ _ gg5
          have hpre' := hpre.trans (List.prefix_append ((Tr.prs l a f e).map encP) (((if a + (l.size : Int) ≥ f ∧ a + (l.size : Int) < e then [(k, x)] else [])).map encP ++ (Tr.prs r (a + l.size + 1) f e).map encP))
          cases hb' : stop (pre ++ [encP y])
          · refine V_block ?_; refine V_seq ?_; refine V_region (id := 5) ?_; refine vo_step (ok_load1 L (src_base rfl (by assumption)) rfl rfl rfl rfl) rfl ?_; refine vo_step (ok_loadA L (vs := [_, _, _, _, _, _]) (src_own rfl) rfl rfl rfl rfl ⟨_, rfl⟩) rfl ?_; refine vo_step2 (ok_yield (gs := 77) hY hpre' hstp (congrArg Bool.not hb') rfl rfl rfl rfl rfl) ?_; refine vo_step (ok_not rfl rfl rfl rfl) rfl ?_; refine vo_nil ?_; refine N_seq ?_; refine V_false rfl ?_; refine V_skip ?_; refine N_block ?_
            exact N_fin Since.refl hb' ⟨rfl, trivial⟩
          · refine V_block ?_; refine V_seq ?_; refine V_region (id := 5) ?_; refine vo_step (ok_load1 L (src_base rfl (by assumption)) rfl rfl rfl rfl) rfl ?_; refine vo_step (ok_loadA L (vs := [_, _, _, _, _, _]) (src_own rfl) rfl rfl rfl rfl ⟨_, rfl⟩) rfl ?_; refine vo_step2 (ok_yield (gs := 77) hY hpre' hstp (congrArg Bool.not hb') rfl rfl rfl rfl rfl) ?_; refine vo_step (ok_not rfl rfl rfl rfl) rfl ?_; refine vo_nil ?_; refine N_seq ?_; refine V_true rfl ?_
            exact V_rets (R_block (R_fin Since.refl hb' rfl ⟨rfl, trivial⟩))
        case st =>
          intro l' D' o hstop
          exact V_retGhost L 77 rfl (fun _ _ h => h) hsB rfl (by rw [taken_stop _ _ _ hstop hst])
        case dn =>
          intro l' D' o hgo
          have htk := taken_go (stop := stop) ((Tr.prs l a f e).map encP) [] hgo
          simp only [List.nil_append] at htk
          rw [htk] at hgo ⊢
          have gg1 := hsB.le _ _ g1
          have gg2 := hsB.le _ _ g2
          have gg3 := hsB.le _ _ g3
          have gg4 := hsB.le _ _ g4
          have ggb := hsB.le _ _ hb
          have ggr := TA.le hr hsB.le
          refine N_block ?_
          refine N_seq ?_
          refine V_seq_mid (fun M : Seqs => [(77, .own (J M).res), (1, .is (.pointer (some ⟨b1, 0, none⟩))), (2, .is (.pointer (some ⟨b2, 0, none⟩))), (3, .is (.pointer (some ⟨b3, 0, none⟩))), (4, .is (.pointer (some ⟨b4, 0, none⟩))), (5, .is (.pointer (some ⟨b5, 0, none⟩))), (6, .is (.int .i64 (a + l.size)))])
            (fun M => stop M = false ∧ taken stop [] M = M ∧ M ++ (Tr.prs r (a + l.size + 1) f e).map encP = (Tr.prs l a f e).map encP ++ (((if a + (l.size : Int) ≥ f ∧ a + (l.size : Int) < e then [(k, x)] else [])).map encP ++ (Tr.prs r (a + l.size + 1) f e).map encP)) ?one ?two
          case one =>
            by_cases hy1 : a + (l.size : Int) ≥ f
            · by_cases hy2 : a + (l.size : Int) < e
              · rw [if_pos ⟨hy1, hy2⟩] at hY ⊢
                have hpre : (Tr.prs l a f e).map encP ++ [encP (k, x)] <+: (Tr.prs l a f e).map encP ++ ([(k, x)].map encP ++ (Tr.prs r (a + l.size + 1) f e).map encP) := ⟨(Tr.prs r (a + l.size + 1) f e).map encP, by simp⟩
                cases hb' : stop ((Tr.prs l a f e).map encP ++ [encP (k, x)])
                · refine V_seq ?_; refine V_regionD (id := 6) [(60, [77])] mixed (by kernel_rfl) ?_; refine par_step (ok_move rfl rfl rfl) rfl ?_; refine par_step (ok_load1 L (src_base rfl (by assumption)) rfl rfl rfl rfl) rfl ?_; refine par_step (ok_geq rfl rfl rfl rfl (decide_eq_true (by omega))) rfl ?_; refine par_step (ok_move rfl rfl rfl) rfl ?_; refine par_step (ok_move rfl rfl rfl) rfl ?_; refine par_step (ok_load1 L (src_base rfl (by assumption)) rfl rfl rfl rfl) rfl ?_; refine par_step (ok_lss rfl rfl rfl rfl (decide_eq_true (by omega))) rfl ?_; refine par_step (ok_pick rfl rfl rfl rfl) rfl ?_; refine par_step (ok_move rfl rfl rfl) rfl ?_; refine par_step (ok_load1 L (src_base rfl (by assumption)) rfl rfl rfl rfl) rfl ?_; refine par_step (ok_load1 L (src_base rfl (by assumption)) rfl rfl rfl rfl) rfl ?_; refine par_step (ok_nil rfl rfl rfl) rfl ?_; refine par_step (ok_fieldP L rfl rfl rfl rfl) rfl ?_; refine par_step (ok_loadA L (vs := [_, _, _, _, _, _]) (src_base rfl (by assumption)) rfl rfl rfl rfl ⟨_, rfl⟩) rfl ?_; refine par_step2 (ok_yield (gs := 77) hY hpre hgo (congrArg Bool.not hb') rfl rfl rfl rfl rfl) rfl rfl ?_; refine par_step (ok_not rfl rfl rfl rfl) rfl ?_; refine par_step (ok_pick rfl rfl rfl rfl) rfl ?_; refine par_nil ?_; refine N_seq ?_; refine V_false rfl ?_; refine V_skip ?_
                  refine N_mid ((Tr.prs l a f e).map encP ++ [encP (k, x)]) Since.refl ⟨hb', ?_, by simp⟩ ⟨rfl, rfl, rfl, rfl, rfl, rfl, rfl, trivial⟩
                  rw [taken_more _ _ _ (by rw [htk]; exact hgo), List.nil_append]
                  simp only [taken]
                  split <;> rfl
                · refine V_seq ?_; refine V_regionD (id := 6) [(60, [77])] mixed (by kernel_rfl) ?_; refine par_step (ok_move rfl rfl rfl) rfl ?_; refine par_step (ok_load1 L (src_base rfl (by assumption)) rfl rfl rfl rfl) rfl ?_; refine par_step (ok_geq rfl rfl rfl rfl (decide_eq_true (by omega))) rfl ?_; refine par_step (ok_move rfl rfl rfl) rfl ?_; refine par_step (ok_move rfl rfl rfl) rfl ?_; refine par_step (ok_load1 L (src_base rfl (by assumption)) rfl rfl rfl rfl) rfl ?_; refine par_step (ok_lss rfl rfl rfl rfl (decide_eq_true (by omega))) rfl ?_; refine par_step (ok_pick rfl rfl rfl rfl) rfl ?_; refine par_step (ok_move rfl rfl rfl) rfl ?_; refine par_step (ok_load1 L (src_base rfl (by assumption)) rfl rfl rfl rfl) rfl ?_; refine par_step (ok_load1 L (src_base rfl (by assumption)) rfl rfl rfl rfl) rfl ?_; refine par_step (ok_nil rfl rfl rfl) rfl ?_; refine par_step (ok_fieldP L rfl rfl rfl rfl) rfl ?_; refine par_step (ok_loadA L (vs := [_, _, _, _, _, _]) (src_base rfl (by assumption)) rfl rfl rfl rfl ⟨_, rfl⟩) rfl ?_; refine par_step2 (ok_yield (gs := 77) hY hpre hgo (congrArg Bool.not hb') rfl rfl rfl rfl rfl) rfl rfl ?_; refine par_step (ok_not rfl rfl rfl rfl) rfl ?_; refine par_step (ok_pick rfl rfl rfl rfl) rfl ?_; refine par_nil ?_; refine N_seq ?_; refine V_true rfl ?_
                  refine V_retGhost L 77 rfl (fun _ _ h => h) hsB rfl ?_
                  rw [taken_more _ _ _ (by rw [htk]; exact hgo), List.nil_append]
                  simp only [List.map_cons, List.map_nil, List.cons_append, taken]
                  rw [if_pos hb']
              · rw [if_neg (by rintro ⟨_, h⟩; exact hy2 h)]
                refine V_seq ?_; refine V_regionD (id := 6) [(60, [77])] mixed (by kernel_rfl) ?_; refine par_step (ok_move rfl rfl rfl) rfl ?_; refine par_step (ok_load1 L (src_base rfl (by assumption)) rfl rfl rfl rfl) rfl ?_; refine par_step (ok_geq rfl rfl rfl rfl (decide_eq_true (by omega))) rfl ?_; refine par_step (ok_move rfl rfl rfl) rfl ?_; refine par_step (ok_move rfl rfl rfl) rfl ?_; refine par_step (ok_load1 L (src_base rfl (by assumption)) rfl rfl rfl rfl) rfl ?_; refine par_step (ok_lss rfl rfl rfl rfl (decide_eq_false (by omega))) rfl ?_; refine par_step (ok_pick rfl rfl rfl rfl) rfl ?_; refine par_step (ok_move rfl rfl rfl) rfl ?_; refine par_step (ok_skip rfl (blt_lt rfl) rfl) rfl ?_; refine par_step (ok_skip rfl (blt_lt rfl) rfl) rfl ?_; refine par_step (ok_skip rfl (blt_lt rfl) rfl) rfl ?_; refine par_step (ok_skip rfl (blt_lt rfl) rfl) rfl ?_; refine par_step (ok_skip rfl (blt_lt rfl) rfl) rfl ?_; refine par_step (ok_skip rfl (blt_lt rfl) rfl) rfl ?_; refine par_step (ok_skip rfl (blt_lt rfl) rfl) rfl ?_; refine par_step (ok_pick rfl rfl rfl rfl) rfl ?_; refine par_nil ?_; refine N_seq ?_; refine V_false rfl ?_; refine V_skip ?_
                exact N_mid ((Tr.prs l a f e).map encP) Since.refl ⟨hgo, htk, by simp⟩ ⟨rfl, rfl, rfl, rfl, rfl, rfl, rfl, trivial⟩
            · rw [if_neg (by rintro ⟨h, _⟩; exact hy1 h)]
              refine V_seq ?_; refine V_regionD (id := 6) [(60, [77])] mixed (by kernel_rfl) ?_; refine par_step (ok_move rfl rfl rfl) rfl ?_; refine par_step (ok_load1 L (src_base rfl (by assumption)) rfl rfl rfl rfl) rfl ?_; refine par_step (ok_geq rfl rfl rfl rfl (decide_eq_false (by omega))) rfl ?_; refine par_step (ok_move rfl rfl rfl) rfl ?_; refine par_step (ok_skip rfl (blt_lt rfl) rfl) rfl ?_; refine par_step (ok_skip rfl (blt_lt rfl) rfl) rfl ?_; refine par_step (ok_skip rfl (blt_lt rfl) rfl) rfl ?_; refine par_step (ok_pick rfl rfl rfl rfl) rfl ?_; refine par_step (ok_move rfl rfl rfl) rfl ?_; refine par_step (ok_skip rfl (blt_lt rfl) rfl) rfl ?_; refine par_step (ok_skip rfl (blt_lt rfl) rfl) rfl ?_; refine par_step (ok_skip rfl (blt_lt rfl) rfl) rfl ?_; refine par_step (ok_skip rfl (blt_lt rfl) rfl) rfl ?_; refine par_step (ok_skip rfl (blt_lt rfl) rfl) rfl ?_; refine par_step (ok_skip rfl (blt_lt rfl) rfl) rfl ?_; refine par_step (ok_skip rfl (blt_lt rfl) rfl) rfl ?_; refine par_step (ok_pick rfl rfl rfl rfl) rfl ?_; refine par_nil ?_; refine N_seq ?_; refine V_false rfl ?_; refine V_skip ?_
              exact N_mid ((Tr.prs l a f e).map encP) Since.refl ⟨hgo, htk, by simp⟩ ⟨rfl, rfl, rfl, rfl, rfl, rfl, rfl, trivial⟩
          case two =>
            rintro M ⟨hM1, hM2, hM3⟩
            rw [← hM3] at hY ⊢
            refine V_seq ?_; refine V_regionD (id := 7) [] mixed (by kernel_rfl) ?_; refine par_step (ok_load1 L (src_base rfl (by assumption)) rfl rfl rfl rfl) rfl ?_; refine par_step (ok_nil rfl rfl rfl) rfl ?_; refine par_step (ok_fieldP L rfl rfl rfl rfl) rfl ?_; refine par_step (ok_load1 L (src_base rfl (by assumption)) rfl rfl rfl rfl) rfl ?_; refine par_step (ok_move rfl rfl rfl) rfl ?_; refine par_step (ok_add rfl rfl rfl rfl (wrap_i64 (by omega) (by omega))) rfl ?_; refine par_step (ok_load1 L (src_base rfl (by assumption)) rfl rfl rfl rfl) rfl ?_; refine par_step (ok_load1 L (src_base rfl (by assumption)) rfl rfl rfl rfl) rfl ?_; refine par_step (ok_call L rfl rfl (blt_lt rfl) rfl rfl rfl PairsAt.mono (fun u H hH hle _ => pairs_ret r (a + l.size + 1) f e hH (TA.le ggr hle))) rfl ?_; refine par_nil ?_; refine N_seq ?_; refine V_block ?_
            refine V_opn 71 rfl fun v71 H71 hs71 ⟨c1, c2, c3, c4, r1, e71, d1, d2, d3, d4, d5⟩ => ?_
            subst e71
            have qq5 := hs71.le _ _ gg5
            have htot : taken stop [] (M ++ (Tr.prs r (a + l.size + 1) f e).map encP) = M ++ taken (fun p => stop (M ++ p)) [] ((Tr.prs r (a + l.size + 1) f e).map encP) := by
              rw [taken_more _ _ _ (by rw [hM2]; exact hM1), taken_shift, List.nil_append, List.append_nil]
            refine V_rangeFunc L (gf := 115) (caps := [.pointer (some ⟨c1, 0, none⟩), .pointer (some ⟨c2, 0, none⟩), .pointer (some ⟨c3, 0, none⟩), .pointer (some ⟨c4, 0, none⟩)])
              [(5, .pointer (some ⟨b5, 0, none⟩))]
              (fun pre => [(77, (J (M ++ pre)).res)]) (fun pre x => [(77, .own (J (M ++ pre)).res), (8, .own (Cell (cellsX x) 104)), (5, .is (.pointer (some ⟨b5, 0, none⟩)))])
              ((Tr.prs r (a + l.size + 1) f e).map encP) (fun p => stop (M ++ p)) (fun _ => .ret) rfl rfl rfl ⟨by rw [List.append_nil]; rfl, rfl, trivial⟩
              (fun pre p hp => by simp only [List.mem_singleton] at hp; subst hp; exact Nat.le_refl _) (by show stop (M ++ []) = false; rw [List.append_nil]; exact hM1) (fun x hx => by obtain ⟨y, _, rfl⟩ := List.mem_map.1 hx; rfl) (by decide)
              (fun u H hH hle => ihr (a + l.size + 1) f e (by omega) (by omega) hH (hle _ _ d1) (hle _ _ d2) (hle _ _ d3) (hle _ _ d4) (d5.le hle)) ?asg2 ?bd2 ?dn2 ?st2
            case asg2 =>
              intro w1 Ln B' l' D' o pre x' hpre hstp hBB
              obtain ⟨y, rfl⟩ := encP_of hpre
              refine V_region (id := 8) ?_; refine vo_step (ok_alloc L rfl rfl rfl rfl) rfl ?_; refine vo_step (ok_store L rfl rfl rfl rfl rfl rfl rfl rfl) rfl ?_; refine vo_nil ?_
              exact N_has Since.refl ⟨rfl, rfl, rfl, trivial⟩
            case bd2 =>
              intro w1 Ln B' l' D' o pre x' hpre hstp hBB
              obtain ⟨y, rfl⟩ := encP_of hpre
              have q5 := hBB _ _ qq5
              have hpre' : (M ++ pre) ++ [encP y] <+: M ++ (Tr.prs r (a + l.size + 1) f e).map encP := by rw [List.append_assoc]; exact (List.prefix_append_right_inj M).2 hpre
              cases hb' : stop ((M ++ pre) ++ [encP y])
              · refine V_block ?_; refine V_seq ?_; refine V_region (id := 9) ?_; refine vo_step (ok_load1 L (src_base rfl (by assumption)) rfl rfl rfl rfl) rfl ?_; refine vo_step (ok_loadA L (vs := [_, _, _, _, _, _]) (src_own rfl) rfl rfl rfl rfl ⟨_, rfl⟩) rfl ?_; refine vo_step2 (ok_yield (gs := 77) hY hpre' hstp (congrArg Bool.not hb') rfl rfl rfl rfl rfl) ?_; refine vo_step (ok_not rfl rfl rfl rfl) rfl ?_; refine vo_nil ?_; refine N_seq ?_; refine V_false rfl ?_; refine V_skip ?_; refine N_block ?_
                exact N_fin Since.refl (by rw [← List.append_assoc]; exact hb') ⟨by rw [← List.append_assoc]; rfl, trivial⟩
              · refine V_block ?_; refine V_seq ?_; refine V_region (id := 9) ?_; refine vo_step (ok_load1 L (src_base rfl (by assumption)) rfl rfl rfl rfl) rfl ?_; refine vo_step (ok_loadA L (vs := [_, _, _, _, _, _]) (src_own rfl) rfl rfl rfl rfl ⟨_, rfl⟩) rfl ?_; refine vo_step2 (ok_yield (gs := 77) hY hpre' hstp (congrArg Bool.not hb') rfl rfl rfl rfl rfl) ?_; refine vo_step (ok_not rfl rfl rfl rfl) rfl ?_; refine vo_nil ?_; refine N_seq ?_; refine V_true rfl ?_
                exact V_rets (R_block (R_fin Since.refl (by rw [← List.append_assoc]; exact hb') rfl ⟨by rw [← List.append_assoc]; rfl, trivial⟩))
            case st2 =>
              intro l' D' o hstop
              exact V_retGhost L 77 rfl (fun _ _ h => h) (hsB.trans hs71) rfl (by rw [htot])
            case dn2 =>
              intro l' D' o hgo2
              refine N_block ?_
              exact N_retGhost L 77 rfl (fun _ _ h => h) (hsB.trans hs71) rfl (by rw [htot])
end Go.V.UT
/- The walks of trees at countersign/api.Tuple, struct{}: lists of pairs. -/
namespace Go.V.UT
open Go.Proofs Go.RowKit Go.V
abbrev tyP : TypeId := 104
abbrev tyS : TypeId := 135
/-- The cells of a list of pairs. -/
def flat (l : List (KT × VT)) : List Value := l.flatMap fun y => pl y.1 y.2
abbrev PS (l : List (KT × VT)) (fu : Bool) : Value → Heap → Prop := SlV tyP 6 (flat l) l.length fu
theorem cells_flat : ∀ (pre : Seqs) (l : List (KT × VT)), pre <+: l.map encP → ∃ m : List (KT × VT), pre = m.map encP ∧ m.length = pre.length ∧ pre.flatMap cellsX = flat m := by
  intro pre l h
  refine ⟨l.take pre.length, ?_, ?_, ?_⟩
  · rw [List.map_take]; exact (List.prefix_iff_eq_take.1 h)
  · rw [List.length_take]
    have := h.length_le
    simp only [List.length_map] at this
    omega
  · conv => lhs; rw [List.prefix_iff_eq_take.1 h, ← List.map_take]
    generalize l.take pre.length = m
    induction m with
    | nil => rfl
    | cons y m ih => simp only [List.map_cons, List.flatMap_cons, flat] at ih ⊢; rw [ih]; rfl
theorem taken_never (xs : Seqs) : taken (fun _ => false) [] xs = xs := by
  have := taken_go (stop := fun _ => false) xs [] rfl
  simpa using this
attribute [local irreducible] V N X VO Par StepOK Has Ret RetL Src
theorem clip_ret (l : List (KT × VT)) (fu : Bool) {v : Value} {w : World} {B : Heap} (hB : B.Le (hp w)) (hv : PS l fu v B) : Ret Tryz.prog 100 [v] w B (PS l true) := by
  refine V_enter Tryz.func100 rfl Tryz.ntmps100 (Nat.le_of_ble_eq_true rfl) hB ?_
  refine V_seen 0 (PS l fu) rfl SlV.mono hv ?_
  refine V_seq ?_; refine V_region (id := 0) ?_; refine vo_step (ok_assign rfl rfl rfl) rfl ?_; refine vo_nil ?_; refine N_seq ?_; refine V_seq ?_; refine V_region (id := 1) ?_; refine vo_step (ok_moves' rfl rfl rfl) rfl ?_; refine vo_step (ok_moves' rfl rfl rfl) rfl ?_; refine vo_step (ok_lenV L rfl rfl rfl rfl) rfl ?_; refine vo_step (ok_moves' rfl rfl rfl) rfl ?_; refine vo_step (ok_lenV L rfl rfl rfl rfl) rfl ?_; refine vo_step (ok_clipV L rfl rfl rfl rfl rfl rfl rfl) rfl ?_; refine vo_step (ok_assigns' rfl rfl rfl) rfl ?_; refine vo_nil ?_; refine N_seq ?_
  refine V_ret L (rs := [.tmp 2]) rfl (fun _ _ h => h) Since.refl fun u H hH hle => ?_
  exact fun v hv => hv
set_option maxHeartbeats 1000000 in
theorem aseq_ret (l : List (KT × VT)) (hl : l.length < 1099511627776) {x : Value} {gf : Nat} {caps : List Value} {w : World} {B : Heap} {C : Nat → Prop} (hB : B.Le (hp w)) (hx : (SlR tyP 6 0 []).P x B w C) (hC : ∀ k, C k → k < w.heap.size ∧ B k = none)
    (hfn : L.fn gf = some ()) (hit : ∀ u H, H.Le (hp u) → B.Le H → Iter Tryz.prog gf caps u H (l.map encP)) :
    RetL Tryz.prog 101 [x, .func (.func gf) #[] caps.toArray] w B C (fun v H _ => PS l false v H) := by
  refine V_enterA 0 (x := x) (SlR tyP 6 0 []) rfl Tryz.func101 rfl Tryz.ntmps101 (Nat.le_of_ble_eq_true rfl) hB hx hC ?_
  refine V_detach 0 13 _ rfl SlR.shape fun y hy => ?_
  obtain ⟨p, c, rfl⟩ := hy
  refine V_seq ?_; refine V_region (id := 0) ?_; refine vo_step (ok_boxR rfl rfl rfl rfl) rfl ?_; refine vo_step (ok_assign rfl rfl rfl) rfl ?_; refine vo_nil ?_; refine N_seq ?_; refine V_seq ?_; refine V_seq ?_; refine V_region (id := 1) ?_; refine vo_step (ok_move rfl rfl rfl) rfl ?_; refine vo_nil ?_; refine N_seq ?_; refine V_block ?_
  refine V_box 2 rfl fun b2 hb2 => ?_
  refine V_closeBox 13 [] rfl rfl ?_
  refine V_rangeFunc L (gf := gf) (caps := caps) [(2, .pointer (some ⟨b2, 0, none⟩))] (fun pre => [(13, BoxR b2 tyS (SlR tyP 6 pre.length (pre.flatMap cellsX)))])
    (fun pre x => [(13, .own (BoxR b2 tyS (SlR tyP 6 pre.length (pre.flatMap cellsX)))), (2, .is (.pointer (some ⟨b2, 0, none⟩))), (5, .own (Cell (cellsX x) tyP))])
    (l.map encP) (fun _ => false) (fun _ => .ret) rfl rfl hfn ⟨rfl, rfl, trivial⟩
    (fun pre p hp => by simp only [List.mem_singleton] at hp; subst hp; exact Nat.le_refl _) rfl (fun x hx => by obtain ⟨y, _, rfl⟩ := List.mem_map.1 hx; rfl) (by decide) hit ?asg ?bd ?dn ?st
  case asg =>
    intro w1 Ln B' l' D' o pre x' hpre hstp hBB
    obtain ⟨y, rfl⟩ := encP_of hpre
    refine V_region (id := 2) ?_; refine vo_step (ok_alloc L rfl rfl rfl rfl) rfl ?_; refine vo_step (ok_store L rfl rfl rfl rfl rfl rfl rfl rfl) rfl ?_; refine vo_nil ?_
    exact N_has Since.refl ⟨rfl, rfl, rfl, trivial⟩
  case bd =>
    intro w1 Ln B' l' D' o pre x' hpre hstp hBB
    obtain ⟨y, rfl⟩ := encP_of hpre
    have hlen := hpre.length_le
    simp only [List.length_append, List.length_map, List.length_cons, List.length_nil] at hlen
    refine V_block ?_
    refine V_openBox 13 _ rfl SlR.shape fun z hz => ?_
    obtain ⟨p, c, rfl⟩ := hz
    refine V_region (id := 3) ?_; refine vo_step (ok_load1 L (src_box rfl (List.Mem.head _)) rfl rfl rfl rfl) rfl ?_; refine vo_attach 8 13 rfl rfl ?_; refine vo_step (ok_loadA L (vs := [_, _, _, _, _, _]) (src_own rfl) rfl rfl rfl rfl ⟨_, rfl⟩) rfl ?_; refine vo_step (ok_buildSlice L rfl rfl rfl rfl rfl rfl rfl rfl rfl) rfl ?_; refine vo_step2 (ok_append L rfl rfl rfl (apd_B rfl) rfl el104 rfl rfl (by omega) (by omega)) ?_; refine vo_detach 11 13 _ rfl SlR.shape fun z hz => ?_; obtain ⟨p', c', rfl⟩ := hz; refine box_store L (O1 := []) rfl rfl rfl rfl rfl rfl rfl rfl rfl ?_; refine vo_nil ?_; refine N_block ?_
    refine N_closeBox 13 [] rfl rfl ?_
    refine N_fin Since.refl rfl ⟨?_, trivial⟩
    rw [List.flatMap_append, List.length_append]
    rfl
  case st =>
    intro l' D' o h
    cases h
  case dn =>
    intro l' D' o _
    rw [taken_never]
    refine N_block ?_
    refine N_seq ?_
    refine V_openBox 13 _ rfl SlR.shape fun z hz => ?_
    obtain ⟨p, c, rfl⟩ := hz
    refine V_seq ?_; refine V_region (id := 4) ?_; refine vo_step (ok_load1 L (src_box rfl (List.Mem.head _)) rfl rfl rfl rfl) rfl ?_; refine vo_step (ok_assign rfl rfl rfl) rfl ?_; refine vo_nil ?_; refine N_seq ?_
    refine V_attach 4 13 rfl rfl ?_
    refine V_pubR 4 rfl ?_
    refine V_retM L (rs := [.tmp 4]) rfl (fun _ _ h => h) Since.refl fun O' u H hH hle => ?_
    obtain ⟨m, h1, h2, h3⟩ := cells_flat _ l (List.prefix_refl _)
    have hm : m = l := by
      have := List.map_inj_right (f := encP) (fun a b h => by
        simp only [encP, List.cons.injEq, Value.agg.injEq, and_true] at h
        have h := congrArg Array.toList h
        simp at h
        first | exact Prod.ext h.1 h.2 | exact Prod.ext h.1 (Prod.ext (Prod.ext h.2.1 h.2.2.1) h.2.2.2) | exact Prod.ext (Prod.ext (Prod.ext h.1 h.2.1) h.2.2.1) h.2.2.2 | exact Prod.ext (Prod.ext (Prod.ext (Prod.ext h.1 h.2.1) h.2.2.1) (Prod.ext (Prod.ext h.2.2.2.1 h.2.2.2.2.1) h.2.2.2.2.2)) rfl) |>.1 h1
      exact this.symm
    subst hm
    rw [h3]
    simp only [List.length_map]
    exact fun v hv => hv
theorem PS.mono {l : List (KT × VT)} {fu : Bool} : Kn.mono (.sat (PS l fu)) := SlV.mono
theorem aseq_pairs {t : Tr KT VT} {f e : Int} {x v : Value} {w : World} {B : Heap} {C : Nat → Prop} (hB : B.Le (hp w)) (hx : (SlR tyP 6 0 []).P x B w C) (hC : ∀ k, C k → k < w.heap.size ∧ B k = none) (hv : PairsAt t 0 f e v B) (hs : t.size < 1099511627776) :
    RetL Tryz.prog 101 [x, v] w B C (fun v H _ => PS (Tr.prs t 0 f e) false v H) := by
  obtain ⟨b1, b2, b3, b4, root, rfl, h1, h2, h3, h4, h5⟩ := hv
  have hlen := Tr.prs_length_le t 0 f e
  exact aseq_ret (Tr.prs t 0 f e) (by omega) hB hx hC rfl fun u H hH hle => iter_ret t 0 f e (Int.le_refl _) (by omega) hH (hle _ _ h1) (hle _ _ h2) (hle _ _ h3) (hle _ _ h4) (h5.le hle)
theorem prs_range (t : Tr KT VT) {a f e : Int} : (Tr.prs t a f e).length ≤ t.size := Tr.prs_length_le t a f e
def rangeL (t : Tr KT VT) (f e : Int) : List (KT × VT) := if max f 0 ≥ min e t.size then [] else Tr.prs t 0 (max f 0) (min e t.size)
set_option maxRecDepth 10000 in
theorem range_ret {fv root : Value} {t : Tr KT VT} (f e : Int) {w : World} {B : Heap} (hB : B.Le (hp w)) (hv : TA t root B) (hs : t.size < 1099511627776) :
    Ret Tryz.prog 84 [.agg #[fv, root], .int .i64 f, .int .i64 e] w B (PS (rangeL t f e) true) := by
  refine V_enter Tryz.func84 rfl Tryz.ntmps84 (Nat.le_of_ble_eq_true rfl) hB ?_
  unfold rangeL
  by_cases h : max f 0 ≥ min e t.size
  · rw [if_pos h]
    refine V_seq ?_; refine V_region (id := 0) ?_; refine vo_step (ok_box rfl rfl rfl rfl) rfl ?_; refine vo_step (ok_assign rfl rfl rfl) rfl ?_; refine vo_nil ?_; refine N_seq ?_; refine V_seq ?_; refine V_region (id := 1) ?_; refine vo_step (ok_move rfl rfl rfl) rfl ?_; refine vo_step (ok_max rfl rfl rfl rfl rfl) rfl ?_; refine vo_step (ok_move rfl rfl rfl) rfl ?_; refine vo_step (ok_loadA L (vs := [_, _]) (src_at rfl) rfl rfl rfl rfl ⟨_, rfl⟩) rfl ?_; refine vo_step (ok_callx L rfl rfl (blt_lt rfl) rfl rfl rfl (fun u H hH hle _ => len_ret hH (hv.le hle))) rfl ?_; refine vo_step (ok_min rfl rfl rfl rfl rfl) rfl ?_; refine vo_step (ok_assign rfl rfl rfl) rfl ?_; refine vo_step (ok_assign rfl rfl rfl) rfl ?_; refine vo_nil ?_; refine N_seq ?_; refine V_seq ?_; refine V_seq ?_; refine V_region (id := 2) ?_; refine vo_step (ok_move rfl rfl rfl) rfl ?_; refine vo_step (ok_move rfl rfl rfl) rfl ?_; refine vo_step (ok_geq rfl rfl rfl rfl (decide_eq_true (by omega))) rfl ?_; refine vo_nil ?_; refine N_seq ?_; refine V_true rfl ?_; refine V_seq ?_; refine V_region (id := 3) ?_; refine vo_step (ok_assign rfl rfl rfl) rfl ?_; refine vo_nil ?_; refine N_seq ?_
    refine V_ret L (rs := [.tmp 6]) rfl (fun _ _ h => h) Since.refl fun u H hH hle => ?_
    exact (SlV.nil (e := tyP))
  · rw [if_neg h]
    have hlen := prs_range t (a := 0) (f := max f 0) (e := min e t.size)
    have e1 : (if (0 : Int) > f then 0 else f) = max f 0 := by omega
    have e2 : (if (t.size : Int) < e then (t.size : Int) else e) = min e t.size := by omega
    refine V_seq ?_; refine V_region (id := 0) ?_; refine vo_step (ok_box rfl rfl rfl rfl) rfl ?_; refine vo_step (ok_assign rfl rfl rfl) rfl ?_; refine vo_nil ?_; refine N_seq ?_; refine V_seq ?_; refine V_region (id := 1) ?_; refine vo_step (ok_move rfl rfl rfl) rfl ?_; refine vo_step (ok_max rfl rfl rfl rfl (by assumption)) rfl ?_; refine vo_step (ok_move rfl rfl rfl) rfl ?_; refine vo_step (ok_loadA L (vs := [_, _]) (src_at rfl) rfl rfl rfl rfl ⟨_, rfl⟩) rfl ?_; refine vo_step (ok_callx L rfl rfl (blt_lt rfl) rfl rfl rfl (fun u H hH hle _ => len_ret hH (hv.le hle))) rfl ?_; refine vo_step (ok_min rfl rfl rfl rfl (by assumption)) rfl ?_; refine vo_step (ok_assign rfl rfl rfl) rfl ?_; refine vo_step (ok_assign rfl rfl rfl) rfl ?_; refine vo_nil ?_; refine N_seq ?_; refine V_seq ?_; refine V_seq ?_; refine V_region (id := 2) ?_; refine vo_step (ok_move rfl rfl rfl) rfl ?_; refine vo_step (ok_move rfl rfl rfl) rfl ?_; refine vo_step (ok_geq rfl rfl rfl rfl (decide_eq_false (by omega))) rfl ?_; refine vo_nil ?_; refine N_seq ?_; refine V_false rfl ?_; refine V_skip ?_; refine N_seq ?_; refine V_seq ?_
    obtain ⟨m, hm⟩ : ∃ m : Nat, min e (t.size : Int) - max f 0 = m := ⟨(min e (t.size : Int) - max f 0).toNat, by omega⟩
    refine V_regionD (id := 4) [(25, [19])] mixed (by kernel_rfl) ?_; refine par_step (ok_move rfl rfl rfl) rfl ?_; refine par_step (ok_move rfl rfl rfl) rfl ?_; refine par_step (ok_sub rfl rfl rfl rfl (wrap_i64 (by omega) (by omega))) rfl ?_; refine par_step (ok_make0 L _ rfl rfl rfl el104 rfl rfl (by assumption) (by omega) (by simp only [maxLen]; omega)) rfl ?_; refine par_step (ok_fieldAt L rfl rfl rfl rfl) rfl ?_; refine par_step (ok_load1 L (src_at rfl) rfl rfl rfl rfl) rfl ?_; refine par_step (ok_move rfl rfl rfl) rfl ?_; refine par_step (ok_move rfl rfl rfl) rfl ?_; refine par_step (ok_call L rfl rfl (blt_lt rfl) rfl rfl rfl PairsAt.mono (fun u H hH hle _ => pairs_ret t 0 (max f 0) (min e t.size) hH (TA.le hv hle))) rfl ?_; refine par_step2 (ok_callT (q := 19) (cap := []) L rfl rfl rfl rfl rfl PS.mono (fun u H C x hH hle hx hC v hv => aseq_pairs hH hx hC hv hs)) rfl rfl ?_; refine par_step (ok_call L rfl rfl (blt_lt rfl) rfl rfl rfl PS.mono (fun u H hH hle _ v hv => clip_ret _ _ hH hv)) rfl ?_; refine par_step (ok_assigns' rfl rfl rfl) rfl ?_; refine par_nil ?_; refine N_seq ?_
    refine V_ret L (rs := [.tmp 6]) rfl (fun _ _ h => h) Since.refl fun u H hH hle => ?_
    exact fun v hv => hv
end Go.V.UT
/- The walks of trees at countersign/api.Tuple, struct{}: the methods of a map, by what the map is. -/
namespace Go.V.UT
open Go.Proofs Go.RowKit Go.V
abbrev MF (cf : Nat) (t : Tr KT VT) : Value → Heap → Prop := MA (.func (.func cf) #[] #[]) t
theorem mput_m {cf : Nat} {c : KT → KT → Int} (hc : Cmp cf c) (k : KT) (x : VT) {t : Tr KT VT} {v : Value} {w : World} {B : Heap} (hB : B.Le (hp w)) (hv : MF cf t v B) (hs : t.size + 1 < 1099511627776) :
    Ret Tryz.prog 78 [v, kv k, vv x] w B (MF cf (Tr.put c k x t)) := by
  obtain ⟨p, rfl, h⟩ := hv
  exact mput_ret hc k x hB h hs
theorem mdrop_m {cf : Nat} {c : KT → KT → Int} (hc : Cmp cf c) (k : KT) {t : Tr KT VT} {v : Value} {w : World} {B : Heap} (hB : B.Le (hp w)) (hv : MF cf t v B) (hs : t.size < 1099511627776) :
    Ret Tryz.prog 77 [v, kv k] w B (MF cf (if (Tr.drop c k t).2 = true then (Tr.drop c k t).1 else t)) := by
  obtain ⟨p, rfl, h⟩ := hv
  exact mdrop_ret hc k hB h hs
theorem len_m {fv : Value} {t : Tr KT VT} {v : Value} {w : World} {B : Heap} (hB : B.Le (hp w)) (hv : MA fv t v B) {n : Nat} (hn : t.size = n) : Ret Tryz.prog 61 [v] w B (fun v _ => v = .int .i64 n) := by
  obtain ⟨p, rfl, h⟩ := hv
  subst hn
  exact len_ret hB h
theorem get_m {cf : Nat} {c : KT → KT → Int} (hc : Cmp cf c) (k : KT) {t : Tr KT VT} {v : Value} {w : World} {B : Heap} (hB : B.Le (hp w)) (hv : MF cf t v B) {o : Option VT} (ho : Tr.get c k t = o) :
    Ret Tryz.prog 48 [v, kv k] w B (fun v _ => v = tup (getV o)) := by
  obtain ⟨p, rfl, h⟩ := hv
  subst ho
  exact get_ret hc k hB h
theorem rank_m {cf : Nat} {c : KT → KT → Int} (hc : Cmp cf c) (k : KT) {t : Tr KT VT} {v : Value} {w : World} {B : Heap} (hB : B.Le (hp w)) (hv : MF cf t v B) (hs : t.size < 1099511627776) {n : Nat} (hn : Tr.rank c k t = n) :
    Ret Tryz.prog 60 [v, kv k] w B (fun v _ => v = .int .i64 n) := by
  obtain ⟨p, rfl, h⟩ := hv
  subst hn
  exact rank_ret hc k hB h hs
theorem at_m {fv : Value} {t : Tr KT VT} (i : Int) {v : Value} {w : World} {B : Heap} (hB : B.Le (hp w)) (hv : MA fv t v B) (hs : t.size < 1099511627776) {o : Option (KT × VT)} (ho : atO t i = o) :
    Ret Tryz.prog 62 [v, .int .i64 i] w B (fun v _ => v = tup (atV o)) := by
  obtain ⟨p, rfl, h⟩ := hv
  subst ho
  exact at_ret i hB h hs
end Go.V.UT
/- The walks of trees at countersign/api.Tuple, struct{}: what is taken out of a map, by what the map is. -/
namespace Go.V.UT
open Go.Proofs Go.RowKit Go.V
theorem range_m {fv : Value} {t : Tr KT VT} (f e : Int) {v : Value} {w : World} {B : Heap} (hB : B.Le (hp w)) (hv : MA fv t v B) (hs : t.size < 1099511627776) {l : List (KT × VT)} (hl : rangeL t f e = l) :
    Ret Tryz.prog 84 [v, .int .i64 f, .int .i64 e] w B (PS l true) := by
  obtain ⟨p, rfl, h⟩ := hv
  subst hl
  exact range_ret f e hB h hs
end Go.V.UT
/- The walks of sets (chapter 6): what a set is, a change. -/
namespace Go.V.L6
open Go.Proofs Go.RowKit Go.V Go.V.L2 Go.V.L3
abbrev fvC : Value := .func (.func 55) #[] #[]
abbrev fvS : Value := .func (.func 56) #[] #[]
abbrev tySet : TypeId := 40
/-- A change, as a value. -/
abbrev chv (x : U) (d : Bool) : Value := .agg #[.string x.1.1.1, .string x.1.1.2, .string x.1.2, .string x.2.1.1, .string x.2.1.2, .string x.2.2, .bool d]
attribute [local irreducible] V N X VO Par StepOK Has Ret RetL RetO Src
theorem subj_ret {a b : U} {w : World} {B : Heap} (hB : B.Le (hp w)) : Ret Tryz.prog 56 [uv a, uv b] w B (fun v _ => v = .int .i64 (cmpS a b)) := by
  refine V_enter Tryz.func56 rfl Tryz.ntmps56 (Nat.le_of_ble_eq_true rfl) hB ?_
  refine V_seq ?_; refine V_region (id := 0) ?_; refine vo_step (ok_box rfl rfl rfl rfl) rfl ?_; refine vo_step (ok_box rfl rfl rfl rfl) rfl ?_; refine vo_step (ok_assign rfl rfl rfl) rfl ?_; refine vo_nil ?_; refine N_seq ?_; refine V_seq ?_; refine V_regionD (id := 1) [] mixed (by kernel_rfl) ?_; refine par_step (ok_fieldAt L rfl rfl rfl rfl) rfl ?_; refine par_step (ok_loadA L (vs := [_, _, _]) (src_at rfl) rfl rfl rfl rfl ⟨_, rfl⟩) rfl ?_; refine par_step (ok_fieldAt L rfl rfl rfl rfl) rfl ?_; refine par_step (ok_loadA L (vs := [_, _, _]) (src_at rfl) rfl rfl rfl rfl ⟨_, rfl⟩) rfl ?_; refine par_step (ok_callx L rfl rfl (blt_lt rfl) rfl rfl rfl (fun u H hH _ _ => cmpU_ret hH)) rfl ?_; refine par_step (ok_fieldAt L rfl rfl rfl rfl) rfl ?_; refine par_step (ok_loadA L (vs := [_, _, _]) (src_at rfl) rfl rfl rfl rfl ⟨_, rfl⟩) rfl ?_; refine par_step (ok_fieldAt L rfl rfl rfl rfl) rfl ?_; refine par_step (ok_loadA L (vs := [_, _, _]) (src_at rfl) rfl rfl rfl rfl ⟨_, rfl⟩) rfl ?_; refine par_step (ok_callx L rfl rfl (blt_lt rfl) rfl rfl rfl (fun u H hH _ _ => cmpG_ret hH)) rfl ?_; refine par_step (ok_buildSlice L rfl rfl rfl rfl rfl rfl rfl rfl rfl) rfl ?_; refine par_step (ok_callx L rfl rfl (blt_lt rfl) rfl rfl rfl (fun u H hH _ _ v hv => or2_ret hH hv)) rfl ?_; refine par_step (ok_assign rfl rfl rfl) rfl ?_; refine par_nil ?_; refine N_seq ?_
  refine V_ret L (rs := [.tmp 4]) rfl (fun _ _ h => h) Since.refl fun u H hH hle => ?_
  rfl
theorem cmpUT : UT.Cmp 55 cmpT := ⟨rfl, fun _ _ _ _ hH => tcmp_ret hH⟩
theorem cmpUS : UT.Cmp 56 cmpS := ⟨rfl, fun _ _ _ _ hH => subj_ret hH⟩
/-- A tree after a change. -/
def chT (c : U → U → Int) (x : U) (d : Bool) (t : Tr U Unit) : Tr U Unit := if d = true then (if (Tr.drop c x t).2 = true then (Tr.drop c x t).1 else t) else Tr.put c x () t
theorem change_ret {cf : Nat} {c : U → U → Int} (hc : UT.Cmp cf c) {f : Value} {p : Option Addr} {t : Tr U Unit} (hf : f = .func (.func cf) #[] #[] ∨ (f = .nilFunc ∧ t = .nil)) (x : U) (d : Bool) {w : World} {B : Heap} (hB : B.Le (hp w)) (ht : UT.TA t (.pointer p) B) (hs : t.size + 1 < 1099511627776) :
    Ret Tryz.prog 54 [.agg #[f, .pointer p], chv x d, .func (.func cf) #[] #[]] w B (UT.MF cf (chT c x d t)) := by
  by_cases h0 : t.size = 0
  · have hn : t = .nil := by
      cases t with
      | nil => rfl
      | node k y l r => simp only [Tr.size] at h0; omega
    subst hn
    have hz : UT.TA .nil (.pointer none) B := rfl
    refine V_enter Tryz.func54 rfl Tryz.ntmps54 (Nat.le_of_ble_eq_true rfl) hB ?_
    unfold chT
    cases d
    · refine V_seq ?_; refine V_region (id := 0) ?_; refine vo_step (ok_boxR rfl rfl rfl rfl) rfl ?_; refine vo_box 3 rfl fun b hb => ?_; refine vo_step (ok_box rfl rfl rfl rfl) rfl ?_; refine vo_step (ok_alloc L rfl rfl rfl rfl) rfl ?_; refine vo_nil ?_; refine N_seq ?_; refine V_seq ?_; refine V_seq ?_; refine V_region (id := 1) ?_; refine vo_step (ok_fieldP L rfl rfl rfl rfl) rfl ?_; refine vo_step (ok_loadA L (vs := [_, _]) (src_box rfl (List.Mem.head _)) rfl rfl rfl rfl ⟨_, rfl⟩) rfl ?_; refine vo_step (ok_callx L rfl rfl (blt_lt rfl) rfl rfl rfl (fun u H hH hle _ => UT.len_m hH (⟨_, rfl, ht.le hle⟩) h0)) rfl ?_; refine vo_step (ok_eql rfl rfl rfl rfl (decide_eq_true (by omega))) rfl ?_; refine vo_nil ?_; refine N_seq ?_; refine V_true rfl ?_; refine V_region (id := 2) ?_; refine vo_step (ok_move rfl rfl rfl) rfl ?_; refine vo_step (ok_callx L rfl rfl (blt_lt rfl) rfl rfl rfl (fun u H hH _ _ => UT.new_ret _ hH)) rfl ?_; refine vo_step (ok_fieldP L rfl rfl rfl rfl) rfl ?_; refine box_store L (O1 := []) rfl rfl rfl rfl rfl rfl rfl rfl rfl ?_; refine vo_nil ?_; refine N_seq ?_; refine V_seq ?_; refine V_seq ?_; refine V_region (id := 3) ?_; refine vo_step (ok_fieldAt L rfl rfl rfl rfl) rfl ?_; refine vo_step (ok_load1 L (src_at rfl) rfl rfl rfl rfl) rfl ?_; refine vo_nil ?_; refine N_seq ?_; refine V_false rfl ?_; refine V_skip ?_; refine N_seq ?_; refine V_seq ?_; refine V_region (id := 5) ?_; refine vo_step (ok_fieldP L rfl rfl rfl rfl) rfl ?_; refine vo_step (ok_loadA L (vs := [_, _]) (src_box rfl (List.Mem.head _)) rfl rfl rfl rfl ⟨_, rfl⟩) rfl ?_; refine vo_step (ok_fieldAt L rfl rfl rfl rfl) rfl ?_; refine vo_step (ok_loadA L (vs := [_, _, _, _, _, _]) (src_at rfl) rfl rfl rfl rfl ⟨_, rfl⟩) rfl ?_; refine vo_step (ok_build (cs := []) rfl rfl pl91 rfl rfl) rfl ?_; refine vo_step (ok_call (φ := UT.MF cf (Tr.put c x () .nil)) L rfl rfl (blt_lt rfl) rfl rfl rfl UT.MA.mono (fun u H hH hle _ => UT.mput_m hc x () hH (⟨_, rfl, hz.le hle⟩) hs)) rfl ?_; refine vo_opn 27 rfl ?_; rintro _ H27 hs27 ⟨q27, rfl, hp27⟩; refine vo_step (ok_build (cs := [_, _]) rfl rfl pl38 rfl rfl) rfl ?_; refine vo_step (ok_store L rfl rfl rfl rfl rfl rfl rfl rfl) rfl ?_; refine vo_nil ?_; refine N_seq ?_
      refine V_ret L (rs := [.cell 6 38]) rfl (fun _ _ h => h) hs27 fun u H hH hle => ?_
      exact ⟨_, src_own rfl, rfl, q27, rfl, hp27.le hle⟩
    · refine V_seq ?_; refine V_region (id := 0) ?_; refine vo_step (ok_boxR rfl rfl rfl rfl) rfl ?_; refine vo_box 3 rfl fun b hb => ?_; refine vo_step (ok_box rfl rfl rfl rfl) rfl ?_; refine vo_step (ok_alloc L rfl rfl rfl rfl) rfl ?_; refine vo_nil ?_; refine N_seq ?_; refine V_seq ?_; refine V_seq ?_; refine V_region (id := 1) ?_; refine vo_step (ok_fieldP L rfl rfl rfl rfl) rfl ?_; refine vo_step (ok_loadA L (vs := [_, _]) (src_box rfl (List.Mem.head _)) rfl rfl rfl rfl ⟨_, rfl⟩) rfl ?_; refine vo_step (ok_callx L rfl rfl (blt_lt rfl) rfl rfl rfl (fun u H hH hle _ => UT.len_m hH (⟨_, rfl, ht.le hle⟩) h0)) rfl ?_; refine vo_step (ok_eql rfl rfl rfl rfl (decide_eq_true (by omega))) rfl ?_; refine vo_nil ?_; refine N_seq ?_; refine V_true rfl ?_; refine V_region (id := 2) ?_; refine vo_step (ok_move rfl rfl rfl) rfl ?_; refine vo_step (ok_callx L rfl rfl (blt_lt rfl) rfl rfl rfl (fun u H hH _ _ => UT.new_ret _ hH)) rfl ?_; refine vo_step (ok_fieldP L rfl rfl rfl rfl) rfl ?_; refine box_store L (O1 := []) rfl rfl rfl rfl rfl rfl rfl rfl rfl ?_; refine vo_nil ?_; refine N_seq ?_; refine V_seq ?_; refine V_seq ?_; refine V_region (id := 3) ?_; refine vo_step (ok_fieldAt L rfl rfl rfl rfl) rfl ?_; refine vo_step (ok_load1 L (src_at rfl) rfl rfl rfl rfl) rfl ?_; refine vo_nil ?_; refine N_seq ?_; refine V_true rfl ?_; refine V_seq ?_; refine V_region (id := 4) ?_; refine vo_step (ok_fieldP L rfl rfl rfl rfl) rfl ?_; refine vo_step (ok_loadA L (vs := [_, _]) (src_box rfl (List.Mem.head _)) rfl rfl rfl rfl ⟨_, rfl⟩) rfl ?_; refine vo_step (ok_fieldAt L rfl rfl rfl rfl) rfl ?_; refine vo_step (ok_loadA L (vs := [_, _, _, _, _, _]) (src_at rfl) rfl rfl rfl rfl ⟨_, rfl⟩) rfl ?_; refine vo_step (ok_call (φ := UT.MF cf (if (Tr.drop c x .nil).2 = true then (Tr.drop c x .nil).1 else .nil)) L rfl rfl (blt_lt rfl) rfl rfl rfl UT.MA.mono (fun u H hH hle _ => UT.mdrop_m hc x hH (⟨_, rfl, hz.le hle⟩) (by omega))) rfl ?_; refine vo_opn 20 rfl ?_; rintro _ H20 hs20 ⟨q20, rfl, hp20⟩; refine vo_step (ok_build (cs := [_, _]) rfl rfl pl38 rfl rfl) rfl ?_; refine vo_step (ok_store L rfl rfl rfl rfl rfl rfl rfl rfl) rfl ?_; refine vo_nil ?_; refine N_seq ?_
      refine V_ret L (rs := [.cell 6 38]) rfl (fun _ _ h => h) hs20 fun u H hH hle => ?_
      exact ⟨_, src_own rfl, rfl, q20, rfl, hp20.le hle⟩
  · obtain rfl : f = .func (.func cf) #[] #[] := by
      rcases hf with h | ⟨_, h⟩
      · exact h
      · subst h; exact absurd rfl h0
    refine V_enter Tryz.func54 rfl Tryz.ntmps54 (Nat.le_of_ble_eq_true rfl) hB ?_
    unfold chT
    cases d
    · refine V_seq ?_; refine V_region (id := 0) ?_; refine vo_step (ok_boxR rfl rfl rfl rfl) rfl ?_; refine vo_box 3 rfl fun b hb => ?_; refine vo_step (ok_box rfl rfl rfl rfl) rfl ?_; refine vo_step (ok_alloc L rfl rfl rfl rfl) rfl ?_; refine vo_nil ?_; refine N_seq ?_; refine V_seq ?_; refine V_seq ?_; refine V_region (id := 1) ?_; refine vo_step (ok_fieldP L rfl rfl rfl rfl) rfl ?_; refine vo_step (ok_loadA L (vs := [_, _]) (src_box rfl (List.Mem.head _)) rfl rfl rfl rfl ⟨_, rfl⟩) rfl ?_; refine vo_step (ok_callx L rfl rfl (blt_lt rfl) rfl rfl rfl (fun u H hH hle _ => UT.len_m hH (⟨_, rfl, ht.le hle⟩) rfl)) rfl ?_; refine vo_step (ok_eql rfl rfl rfl rfl (decide_eq_false (by omega))) rfl ?_; refine vo_nil ?_; refine N_seq ?_; refine V_false rfl ?_; refine V_skip ?_; refine N_seq ?_; refine V_seq ?_; refine V_seq ?_; refine V_region (id := 3) ?_; refine vo_step (ok_fieldAt L rfl rfl rfl rfl) rfl ?_; refine vo_step (ok_load1 L (src_at rfl) rfl rfl rfl rfl) rfl ?_; refine vo_nil ?_; refine N_seq ?_; refine V_false rfl ?_; refine V_skip ?_; refine N_seq ?_; refine V_seq ?_; refine V_region (id := 5) ?_; refine vo_step (ok_fieldP L rfl rfl rfl rfl) rfl ?_; refine vo_step (ok_loadA L (vs := [_, _]) (src_box rfl (List.Mem.head _)) rfl rfl rfl rfl ⟨_, rfl⟩) rfl ?_; refine vo_step (ok_fieldAt L rfl rfl rfl rfl) rfl ?_; refine vo_step (ok_loadA L (vs := [_, _, _, _, _, _]) (src_at rfl) rfl rfl rfl rfl ⟨_, rfl⟩) rfl ?_; refine vo_step (ok_build (cs := []) rfl rfl pl91 rfl rfl) rfl ?_; refine vo_step (ok_call (φ := UT.MF cf (Tr.put c x () t)) L rfl rfl (blt_lt rfl) rfl rfl rfl UT.MA.mono (fun u H hH hle _ => UT.mput_m hc x () hH (⟨_, rfl, ht.le hle⟩) hs)) rfl ?_; refine vo_opn 27 rfl ?_; rintro _ H27 hs27 ⟨q27, rfl, hp27⟩; refine vo_step (ok_build (cs := [_, _]) rfl rfl pl38 rfl rfl) rfl ?_; refine vo_step (ok_store L rfl rfl rfl rfl rfl rfl rfl rfl) rfl ?_; refine vo_nil ?_; refine N_seq ?_
      refine V_ret L (rs := [.cell 6 38]) rfl (fun _ _ h => h) hs27 fun u H hH hle => ?_
      exact ⟨_, src_own rfl, rfl, q27, rfl, hp27.le hle⟩
    · refine V_seq ?_; refine V_region (id := 0) ?_; refine vo_step (ok_boxR rfl rfl rfl rfl) rfl ?_; refine vo_box 3 rfl fun b hb => ?_; refine vo_step (ok_box rfl rfl rfl rfl) rfl ?_; refine vo_step (ok_alloc L rfl rfl rfl rfl) rfl ?_; refine vo_nil ?_; refine N_seq ?_; refine V_seq ?_; refine V_seq ?_; refine V_region (id := 1) ?_; refine vo_step (ok_fieldP L rfl rfl rfl rfl) rfl ?_; refine vo_step (ok_loadA L (vs := [_, _]) (src_box rfl (List.Mem.head _)) rfl rfl rfl rfl ⟨_, rfl⟩) rfl ?_; refine vo_step (ok_callx L rfl rfl (blt_lt rfl) rfl rfl rfl (fun u H hH hle _ => UT.len_m hH (⟨_, rfl, ht.le hle⟩) rfl)) rfl ?_; refine vo_step (ok_eql rfl rfl rfl rfl (decide_eq_false (by omega))) rfl ?_; refine vo_nil ?_; refine N_seq ?_; refine V_false rfl ?_; refine V_skip ?_; refine N_seq ?_; refine V_seq ?_; refine V_seq ?_; refine V_region (id := 3) ?_; refine vo_step (ok_fieldAt L rfl rfl rfl rfl) rfl ?_; refine vo_step (ok_load1 L (src_at rfl) rfl rfl rfl rfl) rfl ?_; refine vo_nil ?_; refine N_seq ?_; refine V_true rfl ?_; refine V_seq ?_; refine V_region (id := 4) ?_; refine vo_step (ok_fieldP L rfl rfl rfl rfl) rfl ?_; refine vo_step (ok_loadA L (vs := [_, _]) (src_box rfl (List.Mem.head _)) rfl rfl rfl rfl ⟨_, rfl⟩) rfl ?_; refine vo_step (ok_fieldAt L rfl rfl rfl rfl) rfl ?_; refine vo_step (ok_loadA L (vs := [_, _, _, _, _, _]) (src_at rfl) rfl rfl rfl rfl ⟨_, rfl⟩) rfl ?_; refine vo_step (ok_call (φ := UT.MF cf (if (Tr.drop c x t).2 = true then (Tr.drop c x t).1 else t)) L rfl rfl (blt_lt rfl) rfl rfl rfl UT.MA.mono (fun u H hH hle _ => UT.mdrop_m hc x hH (⟨_, rfl, ht.le hle⟩) (by omega))) rfl ?_; refine vo_opn 20 rfl ?_; rintro _ H20 hs20 ⟨q20, rfl, hp20⟩; refine vo_step (ok_build (cs := [_, _]) rfl rfl pl38 rfl rfl) rfl ?_; refine vo_step (ok_store L rfl rfl rfl rfl rfl rfl rfl rfl) rfl ?_; refine vo_nil ?_; refine N_seq ?_
      refine V_ret L (rs := [.cell 6 38]) rfl (fun _ _ h => h) hs20 fun u H hH hle => ?_
      exact ⟨_, src_own rfl, rfl, q20, rfl, hp20.le hle⟩
end Go.V.L6
/- The kit's floor of slices that are worked on in place: sorted, cut, cleared, handed on and back. -/
namespace Go.V
open Go.Proofs Go.RowKit
/-- What is returned is the caller's; it may be what was lent. -/
def OwnT (w : World) (C : Nat → Prop) (r : Res) (v : Value) (H : Heap) (u : World) : Prop := ∃ C' : Nat → Prop, r.P v H u C' ∧ ∀ k, C' k → (C k ∨ w.heap.size ≤ k) ∧ k < u.heap.size ∧ H k = none
def RetT (P : Program) (f : FuncId) (args : List Value) (w : World) (B : Heap) (C : Nat → Prop) (r : Res) : Prop := RetL P f args w B C (OwnT w C r)
theorem zeroCells_all {zs : Array Value} {m : Nat} (h : zs.all plainV = true) : ∀ v ∈ Builtin.zeroCells zs m, plainV v = true := by
  intro v hv
  unfold Builtin.zeroCells at hv
  obtain ⟨i, hi, rfl⟩ := Array.mem_map.1 hv
  have hi' : i < m * zs.size := by simpa using hi
  have hpos : 0 < zs.size := by
    rcases Nat.eq_zero_or_pos zs.size with e | e
    · rw [e] at hi'; simp at hi'
    · exact e
  have hlt := Nat.mod_lt i hpos
  rw [getElem!_pos zs _ hlt]
  exact Array.all_eq_true.1 h _ hlt
section
variable {P : Program} {F : Fr} {B : Heap} {O : Boxes} {n : Nat} {ops : Array Oper} {κ : Kap} {d : Nat} {ty : TypeId} {pos : String} {aft : Array Edge} {g : Option (Nat × Bool)} {a : Act} {u : World} {H : Heap} {fp : Nat → Nat → Prop} {Q : Exit → Act → World → Prop}
/-- A call that takes what a slot owns, and gives what is owned. -/
theorem ok_callTO (L : Tabs P) {q f : Nat} {args : Array Operand} {at_ : Array TypeId} {cap : List Value} {r r' : Res} {fo : Operand}
    (hn : Nat.blt d n = true) (hg : gK ops κ ⟨some d, .call { callee := .value fo, args := args, argTypes := at_ }, ty, pos, aft, g⟩ = some true)
    (hf : evK (upd κ q (.is undef)) fo = some (.func (.func f) #[] cap.toArray)) (hfn : L.fn f = some ()) (hq : κ q = some (.own r))
    (h : ∀ u H C x, H.Le (hp u) → B.Le H → r.P x H u C → (∀ k, C k → k < u.heap.size ∧ H k = none) → Args (upd κ q (.is x)) H args.toList [] (fun vs => RetT P f (vs ++ cap) u H C r')) :
    StepOK2 P F B n ops O κ ⟨some d, .call { callee := .value fo, args := args, argTypes := at_ }, ty, pos, aft, g⟩ q nilK d (.own r') := by
  rintro κ' a u hlk hks ⟨H, fp, hh⟩
  unfold After
  rw [if_pos (wanted_gK hh hlk hg)]
  have hk' : κ' q = some (.own r) := hks.trans hq
  obtain ⟨hown, hM⟩ := hh.slot q _ hk'
  have hh2 := hh.name q
  have e2 : Env F B O (upd κ q (.is (a.eval (.tmp q)))) ⟨some d, .call { callee := .value fo, args := args, argTypes := at_ }, ty, pos, aft, g⟩ a u H fp := hh2.env (ops := ops) fun t ht => by
    by_cases htq : t = q
    · subst htq; rw [upd_same, upd_same]
    · rw [upd_other _ _ htq, upd_other _ _ htq]; exact hlk t ht
  have hfe : a.eval fo = .func (.func f) #[] cap.toArray := by
    refine e2.is_ fo _ (by simp [Op.operands, Call.operands]) ?_
    cases fo with
    | tmp t =>
      simp only [evK] at hf ⊢
      by_cases htq : t = q
      · subst htq; rw [upd_same] at hf; cases hf
      · rw [upd_other _ _ htq] at hf ⊢; exact hf
    | _ => exact hf
  have hc := Args.use e2 args.toList [] (fun x hx => by simp [Op.operands, Call.operands] at hx ⊢; exact .inr hx) (h u H (fp q) _ hh.sub hh.base hown fun k hk => ⟨(hM k hk).1, (hM k hk).2.1⟩)
  simp only [List.reverse_nil, List.nil_append] at hc
  rw [run_call L rfl hfe hfn]
  simp only [Upon]
  refine Calls.mono hc fun e' u' hp => ?_
  obtain ⟨v, rfl, H', g', C', hv, hC'⟩ := hp
  exact ⟨v, rfl, H', _, hh.usePut (d := d) (a' := a.put (some d) v) hk' g' (by simp [Act.put]) rfl (fun t ht => eval_put_other ht) (by rw [eval_put_same (by rw [hh.size]; exact blt_lt hn)]; exact hv) hC'⟩
theorem V_retT {fn : Func} {B0 : Heap} {t : Nat} {r : Res} (hrs : fn.results = #[.tmp t]) (hQ : ∀ a u, bodyPostM Fence.wide 0 P fn (PostL F.w0 B0 F.L (OwnT F.w0 F.L r)) .ret a u → Q .ret a u) (hs : Since F B0 B) (hk : κ t = some (.own r)) : V P F B n O κ .ret Q :=
  V_retG hQ hs fun O' a u H fp _ hh => by
    obtain ⟨hown, hM⟩ := hh.slot t _ hk
    refine ⟨a.eval (.tmp t), ?_, fp t, hown, fun k hk => ?_⟩
    · simp [results, hrs, Act.eval]
    · obtain ⟨h1, h2, h3, _⟩ := hM k hk
      exact ⟨h3.symm, h1, h2⟩
/-- The block of an owned slice is held beside its slot. -/
theorem V_holdR (t q : Nat) {e : TypeId} {s m : Nat} {xs : List Value} {c : Code} (hk : κ t = some (.own (SlR e s m xs)))
    (h0 : m = 0 → xs = [] → V P F B n O (upd κ t (.is (.slice none 0 0))) c Q)
    (h : ∀ b cap rest, xs.length = m * s → m ≤ cap → cap ≤ maxLen → (xs ++ rest).length = cap * s → V P F B n O (upd (upd (upd κ t nilK) q (.own (HeldR b (xs ++ rest) e))) t (.is (.slice (some ⟨b, 0, none⟩) m cap))) c Q) : V P F B n O κ c Q := fun a u hh => by
  obtain ⟨H, fp, hh⟩ := hh
  obtain ⟨⟨hl, hv⟩, hM⟩ := hh.slot t _ hk
  rcases hv with ⟨hm, hv, _⟩ | ⟨b, cap, rest, hv, hb, h3, h4, h5, hC⟩
  · have h3 := hh.name t
    rw [hv] at h3
    subst hm
    exact h0 rfl (List.eq_nil_of_length_eq_zero (by simpa using hl)) a u ⟨H, _, h3⟩
  · have h2 := hh.usePut (d := q) (a' := a) (r' := HeldR b (xs ++ rest) e) (C := fp t) hk ⟨Keep.refl _ _, hh.sub, Heap.Le.refl _, fun _ _ _ => rfl⟩ rfl rfl (fun _ _ => rfl) ⟨hb, hC⟩ fun k hk => ⟨.inl hk, (hM k hk).1, (hM k hk).2.1⟩
    have h3' := h2.name t
    rw [hv] at h3'
    exact h b cap rest hl h3 h4 h5 a u ⟨H, _, h3'⟩
theorem V_releaseR (t q : Nat) {b m cap : Nat} {e : TypeId} {s : Nat} {xs rest cs : List Value} {c : Code} (hcs : cs = xs ++ rest) (hk : κ q = some (.own (HeldR b cs e))) (ht : κ t = some (.is (.slice (some ⟨b, 0, none⟩) m cap))) (hl : xs.length = m * s) (hm : m ≤ cap) (hc : cap ≤ maxLen) (hcl : cs.length = cap * s)
    (h : V P F B n O (upd (upd κ q nilK) t (.own (SlR e s m xs))) c Q) : V P F B n O κ c Q := fun a u hh => by
  subst hcs
  obtain ⟨H, fp, hh⟩ := hh
  obtain ⟨⟨hb, hC⟩, hM⟩ := hh.slot q _ hk
  have hx : a.eval (.tmp t) = .slice (some ⟨b, 0, none⟩) m cap := hh.slot t _ ht
  exact h a u ⟨H, _, hh.usePut (d := t) (a' := a) (r' := SlR e s m xs) (C := fp q) hk ⟨Keep.refl _ _, hh.sub, Heap.Le.refl _, fun _ _ _ => rfl⟩ rfl rfl (fun _ _ => rfl) ⟨hl, .inr ⟨b, cap, rest, hx, hb, hm, hc, hcl, hC⟩⟩ fun k hk => ⟨.inl hk, (hM k hk).1, (hM k hk).2.1⟩⟩
/-- A known slice is cut. -/
theorem ok_sliceI (L : Tabs P) {x : Operand} {tt e : TypeId} {s m b off cap : Nat} {lo hi : Option Operand} {kl kh : IntKind} {ag : Bool} (i j : Nat) {pl ph : Int} (hn : Nat.blt d n = true) (hg : gK ops κ ⟨some d, .slice tt x lo hi none, ty, pos, aft, g⟩ = some true)
    (hx : evK κ x = some (.slice (some ⟨b, off, none⟩) m cap)) (ht : L.sl tt = some e) (hl : L.ld e = some (ag, s))
    (hlo : match lo with | some y => evK κ y = some (.int kl pl) ∧ pl = i | none => i = 0) (hhi : match hi with | some y => evK κ y = some (.int kh ph) ∧ ph = j | none => j = m)
    (hij : i ≤ j) (hjc : j ≤ cap) :
    StepOK P F B n ops O κ ⟨some d, .slice tt x lo hi none, ty, pos, aft, g⟩ d (.is (.slice (some (if cap = i then ⟨b, off, none⟩ else ⟨b, off + i * s, none⟩)) (j - i) (cap - i))) :=
  ok_pure rfl (blt_lt hn) hg trivial fun a u H fp en => ⟨_, by
    have hu := Tabs.sl_spec ht
    have h1 := en.is_ x _ (by simp [Op.operands]) hx
    have hrun : (Instr.sliceBounds true m cap (lo.map a.eval) (hi.map a.eval) none).run P u = .ok (i, j, cap) u := by
      cases hi with
      | none =>
        simp only at hhi
        subst hhi
        cases lo with
        | none => simp only at hlo; subst hlo; simp [Instr.sliceBounds]
        | some z =>
          obtain ⟨hz, rfl⟩ := hlo
          have h3 := en.is_ z _ (by simp [Op.operands]) hz
          simp [h3, Instr.sliceBounds, run_bound i kl _ _ hij]
      | some y =>
        obtain ⟨hy, rfl⟩ := hhi
        have h2 := en.is_ y _ (by simp [Op.operands]) hy
        cases lo with
        | none => simp only at hlo; subst hlo; simp [h2, Instr.sliceBounds, run_bound j kh cap _ hjc]
        | some z =>
          obtain ⟨hz, rfl⟩ := hlo
          have h3 := en.is_ z _ (by simp [Op.operands]) hz
          simp [h2, h3, Instr.sliceBounds, run_bound j kh cap _ hjc, run_bound i kl _ _ hij]
    simp only [execOp, h1, Instr.sliceAt, Instr.slice, Sem.run_bind, run_underlying hu, Result.andThen_ok, Option.map_none, hrun, run_sizeOf (Tabs.ld_spec hl), Sem.run_pure]
    congr 3
    split <;> simp [Addr.add], rfl⟩
/-- Elements of what is held are cleared. -/
theorem ok_clearH (L : Tabs P) {q : Nat} {y : Operand} {tt e t' : TypeId} {by_ s b off m cap : Nat} {z : Value} {cs cs' : List Value} (hg : gK ops κ ⟨none, .call ⟨.builtin .clear, #[y], #[tt]⟩, ty, pos, aft, g⟩ = some true)
    (hy : evK κ y = some (.slice (some ⟨b, off, none⟩) m cap)) (hq : κ q = some (.own (HeldR b cs t'))) (ht : L.sl tt = some e) (he : elI P e = some (s, by_)) (hz : L.zr e = some z) (hz1 : z.cells.toList.all plainV = true)
    (hcs : m = 0 ∨ off + m * s ≤ cs.length) (hr : m ≠ 0 → cs.take off ++ ((Builtin.zeroCells z.cells m).toList ++ cs.drop (off + m * s)) = cs') (hr0 : m = 0 → cs = cs') :
    StepOKS P F B n ops O κ ⟨none, .call ⟨.builtin .clear, #[y], #[tt]⟩, ty, pos, aft, g⟩ q (.own (HeldR b cs' t')) := by
  rintro κ' a u hlk hqk ⟨H, fp, hh⟩
  unfold After
  rw [if_pos (wanted_gK hh hlk hg)]
  have en := hh.env hlk
  have hye := en.is_ y _ (by simp [Op.operands, Call.operands]) hy
  have hqs := hqk.trans hq
  obtain ⟨⟨hb, hC⟩, hM⟩ := hh.slot q _ hqs
  by_cases hm : m = 0
  · subst hm
    obtain rfl := hr0 rfl
    have hrun : (execOp a.eval ⟨none, .call ⟨.builtin .clear, #[y], #[tt]⟩, ty, pos, aft, g⟩).run P u = .ok (.value (.tuple #[])) u := by
      simp [execOp, resolve, invoke, builtin, hye, Builtin.clear_, run_underlying (Tabs.sl_spec ht)]
    rw [hrun]
    simp only [Upon, Act.put]
    exact ⟨H, fp, by
      have : upd κ' q (.own (HeldR b cs t')) = κ' := by
        funext t
        by_cases h : t = q
        · subst h; rw [upd_same]; exact hqs.symm
        · rw [upd_other _ _ h]
      rw [this]; exact hh⟩
  · have hr := hr hm
    subst hr
    have hcs' := hcs.resolve_left hm
    obtain ⟨i, z', hi, hz', hs1, hs2, hs3, hs4⟩ := elI_spec he
    have hzz := Tabs.zr_spec hz
    have hzr : (zeroValue e).run P u = .ok z u := by
      unfold zrI at hzz
      split at hzz
      · rename_i it hit
        simp [zeroValue, typeInfo, hit, hzz]
      · cases hzz
    have hze : z' = z := by
      have h1 : (zeroValue e).run P u = .ok z' u := by simp [zeroValue, typeInfo, hi, hz']
      rw [hzr] at h1
      cases h1; rfl
    subst hze
    have hzl : (Builtin.zeroCells z'.cells m).toList.length = m * s := by rw [Array.length_toList, size_zeroCells, hs3]
    have hst := run_storeCells_at (P := P) b t' off (Builtin.zeroCells z'.cells m).toList 0 cs.toArray u hb (by rw [hzl]; simpa using hcs') (fun v hv => by
      have h1 : v ∈ Builtin.zeroCells z'.cells m := by simpa using hv
      exact plain_one (zeroCells_all (by rw [← Array.all_toList]; exact hz1) v h1))
    have hrun : (execOp a.eval ⟨none, .call ⟨.builtin .clear, #[y], #[tt]⟩, ty, pos, aft, g⟩).run P u = .ok (.value (.tuple #[])) (u.setRow b (cs.take off ++ ((Builtin.zeroCells z'.cells m).toList ++ cs.drop (off + m * s))).toArray) := by
      rw [hzl] at hst
      cases m with
      | zero => exact absurd rfl hm
      | succ m =>
        simp only [execOp, resolve, invoke, builtin, Sem.run_bind, Sem.run_pure, Result.andThen_ok, List.map_toArray, List.map_cons, List.map_nil, hye, Builtin.clear_, List.getElem?_toArray, List.getElem?_cons_zero, run_underlying (Tabs.sl_spec ht), hzr]
        rw [hst]
        simp
    rw [hrun]
    simp only [Upon, Act.put]
    have hset := setRow_heap u b cs.toArray (cs.take off ++ ((Builtin.zeroCells z'.cells m).toList ++ cs.drop (off + m * s))).toArray t' (0, 0) hb
    have hbm := hM b ((hC b).2 rfl)
    have := hh.usePut (d := q) (a' := a) (r' := HeldR b (cs.take off ++ ((Builtin.zeroCells z'.cells m).toList ++ cs.drop (off + m * s))) t') (C := fun k => k = b) hqs (grow_setRow hh.sub hb ((hC b).2 rfl) hbm.2.1 _) rfl rfl (fun _ _ => rfl) ⟨hset, fun _ => Iff.rfl⟩ (fun k hk => by
      subst hk; exact ⟨.inl ((hC k).2 rfl), by rw [setRow_size]; exact hbm.1, hbm.2.1⟩)
    rw [upd_upd] at this
    exact ⟨H, _, this⟩
end
end Go.V
/- The kit's floor of arrays that are values, and of function values that hold arguments. -/
namespace Go.V
open Go.Proofs Go.RowKit
section
variable {P : Program} {F : Fr} {B : Heap} {O : Boxes} {n : Nat} {ops : Array Oper} {κ : Kap} {d : Nat} {ty : TypeId} {pos : String} {aft : Array Edge} {g : Option (Nat × Bool)} {a : Act} {u : World} {H : Heap} {fp : Nat → Nat → Prop} {Q : Exit → Act → World → Prop}
theorem ext_list (cs : List Value) (i s : Nat) : cs.toArray.extract i (i + s) = ((cs.drop i).take s).toArray := by
  apply Array.ext'
  simp [List.extract]
/-- An element of an array that is a value. -/
theorem ok_indexAg (L : Tabs P) {x y : Operand} {tt e : TypeId} {s len : Nat} {k : IntKind} {p : Int} {cs ys : List Value} (j : Nat) (hn : Nat.blt d n = true) (hg : gK ops κ ⟨some d, .index tt x y, ty, pos, aft, g⟩ = some true)
    (hx : evK κ x = some (.agg cs.toArray)) (hy : evK κ y = some (.int k p)) (ht : arI P tt = some (len, e)) (hl : L.ld e = some (true, s)) (hj : p = j) (hi : j < len) (hys : (cs.drop (j * s)).take s = ys) :
    StepOK P F B n ops O κ ⟨some d, .index tt x y, ty, pos, aft, g⟩ d (.is (.agg ys.toArray)) :=
  ok_pure rfl (by simpa using hn) hg trivial fun a u H fp en => ⟨_, by
    have h1 := en.is_ x _ (by simp [Op.operands]) hx
    have h2 := en.is_ y _ (by simp [Op.operands]) hy
    subst hj hys
    have hu := arI_spec ht
    have hg := run_isAgg (Tabs.ld_spec hl) u
    simp only [execOp, h1, h2, Instr.index, Sem.run_bind, asIntOf, Sem.run_pure, Result.andThen_ok, run_underlying hu]
    rw [if_pos (by omega)]
    simp only [Int.toNat_natCast, part, Sem.run_bind, run_sizeOf (Tabs.ld_spec hl), Result.andThen_ok, hg, if_true, Sem.run_pure, ext_list], rfl⟩
theorem ok_indexAg1 (L : Tabs P) {x y : Operand} {tt e : TypeId} {s len : Nat} {k : IntKind} {p : Int} {cs : List Value} {v : Value} (j : Nat) (hn : Nat.blt d n = true) (hg : gK ops κ ⟨some d, .index tt x y, ty, pos, aft, g⟩ = some true)
    (hx : evK κ x = some (.agg cs.toArray)) (hy : evK κ y = some (.int k p)) (ht : arI P tt = some (len, e)) (hl : L.ld e = some (false, s)) (hj : p = j) (hi : j < len) (hys : cs[j * s]? = some v) :
    StepOK P F B n ops O κ ⟨some d, .index tt x y, ty, pos, aft, g⟩ d (.is v) :=
  ok_pure rfl (by simpa using hn) hg trivial fun a u H fp en => ⟨_, by
    have h1 := en.is_ x _ (by simp [Op.operands]) hx
    have h2 := en.is_ y _ (by simp [Op.operands]) hy
    subst hj
    have hu := arI_spec ht
    have hg := run_isAgg (Tabs.ld_spec hl) u
    simp only [execOp, h1, h2, Instr.index, Sem.run_bind, asIntOf, Sem.run_pure, Result.andThen_ok, run_underlying hu]
    rw [if_pos (by omega)]
    simp only [Int.toNat_natCast, part, Sem.run_bind, run_sizeOf (Tabs.ld_spec hl), Result.andThen_ok, hg, List.getElem?_toArray, hys, Sem.run_pure]
    rfl, rfl⟩
end
end Go.V
