/- The kit's floor of slices that are worked on in place: sorted, cut, cleared, handed on and back. -/
import Derived.Test.YtpnmjelhnacmlaaKitY
namespace Go.V
open Go.Proofs Go.RowKit
/-- What is returned is the caller's; it may be what was lent. -/
def OwnT (w : World) (C : Nat → Prop) (r : Res) (v : Value) (H : Heap) (u : World) : Prop := ∃ C' : Nat → Prop, r.P v H u C' ∧ ∀ k, C' k → (C k ∨ w.heap.size ≤ k) ∧ k < u.heap.size ∧ H k = none
def RetT (P : Program) (f : FuncId) (args : List Value) (w : World) (B : Heap) (C : Nat → Prop) (r : Res) : Prop := RetL P f args w B C (OwnT w C r)
theorem zeroCells_all {zs : Array Value} {m : Nat} (h : zs.all plainV = true) : ∀ v ∈ Builtin.zeroCells zs m, plainV v = true := by
  intro v hv
  unfold Builtin.zeroCells at hv
  obtain ⟨i, hi, rfl⟩ := Array.mem_map.1 hv
  have hi' : i < m * zs.size := by simpa using hi
  have hpos : 0 < zs.size := by
    rcases Nat.eq_zero_or_pos zs.size with e | e
    · rw [e] at hi'; simp at hi'
    · exact e
  have hlt := Nat.mod_lt i hpos
  rw [getElem!_pos zs _ hlt]
  exact Array.all_eq_true.1 h _ hlt
section
variable {P : Program} {F : Fr} {B : Heap} {O : Boxes} {n : Nat} {ops : Array Oper} {κ : Kap} {d : Nat} {ty : TypeId} {pos : String} {aft : Array Edge} {g : Option (Nat × Bool)} {a : Act} {u : World} {H : Heap} {fp : Nat → Nat → Prop} {Q : Exit → Act → World → Prop}
/-- A sorting function is called with what a slot beside the argument's owns. -/
theorem ok_sortA (L : Tabs P) {α : Type} [Inhabited α] {q f gf : Nat} {e : TypeId} {s : Nat} {cb : List Value} {enc : α → List Value} {cf : α → α → Int} {l : List α} {o : Oper} {y fa fo : Operand} {x : Value} {at_ : Array TypeId}
    (hop : o.op = .call { callee := .value fo, args := #[y, fa], argTypes := at_ }) (hd : o.dst = some d) (hn : Nat.blt d n = true) (hg : gK ops κ o = some true) (hf : evK κ fo = some (.func (.func f) #[] #[])) (hfn : L.fn f = some ())
    (hy : evK κ y = some x) (hq : κ q = some (.own (AtV x (SlR e s l.length (l.flatMap enc))))) (hfa : evK κ fa = some (.func (.func gf) #[] cb.toArray)) (hk : ∀ x, (enc x).length = s) (hz : l.length < 4611686018427387904) (hC : SortC P α f gf cb enc s cf) :
    StepOK2 P F B n ops O κ o q (.own (AtV x (SoR e s enc cf l))) d (.is (.tuple #[])) := by
  rintro κ' a u hlk hqk ⟨H, fp, hh⟩
  unfold After
  rw [if_pos (wanted_gK hh hlk hg)]
  have en := hh.env hlk
  have hfe : a.eval fo = .func (.func f) #[] ([] : List Value).toArray := en.is_ fo _ (by simp [hop, Op.operands, Call.operands]) hf
  have hae := en.is_ fa _ (by simp [hop, Op.operands, Call.operands]) hfa
  have hye := en.is_ y _ (by simp [hop, Op.operands, Call.operands]) hy
  have hqs := hqk.trans hq
  obtain ⟨⟨hl, hown⟩, hM⟩ := hh.slot q _ hqs
  rw [run_call L hop hfe hfn]
  simp only [Upon, List.map_cons, List.map_nil, List.append_nil, hae, hye]
  rcases hown with ⟨h0, hv, hc0⟩ | ⟨b, cap, rest, hv, hb, h3, h4, h5, hc⟩
  · rw [hv]
    refine Calls.mono (hC.none none 0 u) fun e' u' hp => ?_
    obtain ⟨rfl, rfl⟩ := hp
    refine ⟨_, rfl, ?_⟩
    simp only [hd]
    have : l = [] := List.eq_nil_of_length_eq_zero h0
    subst this
    exact ⟨H, _, (hh.turnR hqs (r' := AtV (.slice none 0 0) (SoR e s enc cf [])) ⟨[], ⟨List.Perm.refl _, List.Pairwise.nil⟩, hl, .inl ⟨h0, rfl, hc0⟩⟩).put (k := .is (.tuple #[])) (blt_lt hn) trivial rfl⟩
  · rw [hv]
    have hbm := hM b ((hc b).2 rfl)
    have hb' : u.heap[b]? = some (.cells (l.toArray.toList.flatMap enc ++ rest).toArray e) := hb
    refine Calls.mono (hC.some b cap l.toArray u (holdsK_of hk hb') hbm.1 (by simpa using hz)) fun e' u' hp => ?_
    obtain ⟨rfl, d', m, os, hp1, hp2, rfl⟩ := hp
    refine ⟨_, rfl, ?_⟩
    simp only [hd]
    have hso := sop_of hp1 hp2
    have hsz : d'.size = l.toArray.size := hp1.1
    have hcell := sortWorldK_cells (m := m) (os := os) hk hsz hb'
    have hkp := sortWorldK_keep (enc := enc) (k := s) (u := u) (b := b) (m := m) (d' := d') (os := os)
    have hgr : Grow (fp q) u H (Go.Proofs.sortWorldK enc s u b 0 m d' os) H := ⟨hkp.weak (fun k _ hk => (hc k).2 hk), fun k x hx => by
      have h1 := hh.sub _ _ hx
      have hne : k ≠ b := fun e => by subst e; rw [hbm.2.1] at hx; cases hx
      exact (hkp.block k (size_of_heap h1) hne).trans h1, Heap.Le.refl _, fun _ _ _ => rfl⟩
    have hll : d'.toList.length = l.length := by rw [Array.length_toList, hsz]; simp
    have h2 := hh.usePut (d := q) (a' := a) (r' := AtV (.slice (some ⟨b, 0, none⟩) l.length cap) (SoR e s enc cf l)) (C := fun k => k = b) hqs hgr rfl rfl (fun _ _ => rfl)
      ⟨d'.toList, hso, by rw [flatMap_len hk], .inr ⟨b, cap, rest, by rw [hll], hcell, by rw [hll]; exact h3, h4, by rw [List.length_append, flatMap_len hk, hll, ← flatMap_len hk l, ← List.length_append]; exact h5, fun _ => Iff.rfl⟩⟩ (fun k hk => by
        subst hk
        exact ⟨.inl ((hc k).2 rfl), Nat.lt_of_lt_of_le hbm.1 hkp.size, hbm.2.1⟩)
    rw [upd_upd] at h2
    exact ⟨H, _, h2.put (k := .is (.tuple #[])) (blt_lt hn) trivial rfl⟩
/-- A call that takes what a slot owns, and gives what is owned. -/
theorem ok_callTO (L : Tabs P) {q f : Nat} {args : Array Operand} {at_ : Array TypeId} {cap : List Value} {r r' : Res} {fo : Operand}
    (hn : Nat.blt d n = true) (hg : gK ops κ ⟨some d, .call { callee := .value fo, args := args, argTypes := at_ }, ty, pos, aft, g⟩ = some true)
    (hf : evK (upd κ q (.is undef)) fo = some (.func (.func f) #[] cap.toArray)) (hfn : L.fn f = some ()) (hq : κ q = some (.own r))
    (h : ∀ u H C x, H.Le (hp u) → B.Le H → r.P x H u C → (∀ k, C k → k < u.heap.size ∧ H k = none) → Args (upd κ q (.is x)) H args.toList [] (fun vs => RetT P f (vs ++ cap) u H C r')) :
    StepOK2 P F B n ops O κ ⟨some d, .call { callee := .value fo, args := args, argTypes := at_ }, ty, pos, aft, g⟩ q nilK d (.own r') := by
  rintro κ' a u hlk hks ⟨H, fp, hh⟩
  unfold After
  rw [if_pos (wanted_gK hh hlk hg)]
  have hk' : κ' q = some (.own r) := hks.trans hq
  obtain ⟨hown, hM⟩ := hh.slot q _ hk'
  have hh2 := hh.name q
  have e2 : Env F B O (upd κ q (.is (a.eval (.tmp q)))) ⟨some d, .call { callee := .value fo, args := args, argTypes := at_ }, ty, pos, aft, g⟩ a u H fp := hh2.env (ops := ops) fun t ht => by
    by_cases htq : t = q
    · subst htq; rw [upd_same, upd_same]
    · rw [upd_other _ _ htq, upd_other _ _ htq]; exact hlk t ht
  have hfe : a.eval fo = .func (.func f) #[] cap.toArray := by
    refine e2.is_ fo _ (by simp [Op.operands, Call.operands]) ?_
    cases fo with
    | tmp t =>
      simp only [evK] at hf ⊢
      by_cases htq : t = q
      · subst htq; rw [upd_same] at hf; cases hf
      · rw [upd_other _ _ htq] at hf ⊢; exact hf
    | _ => exact hf
  have hc := Args.use e2 args.toList [] (fun x hx => by simp [Op.operands, Call.operands] at hx ⊢; exact .inr hx) (h u H (fp q) _ hh.sub hh.base hown fun k hk => ⟨(hM k hk).1, (hM k hk).2.1⟩)
  simp only [List.reverse_nil, List.nil_append] at hc
  rw [run_call L rfl hfe hfn]
  simp only [Upon]
  refine Calls.mono hc fun e' u' hp => ?_
  obtain ⟨v, rfl, H', g', C', hv, hC'⟩ := hp
  exact ⟨v, rfl, H', _, hh.usePut (d := d) (a' := a.put (some d) v) hk' g' (by simp [Act.put]) rfl (fun t ht => eval_put_other ht) (by rw [eval_put_same (by rw [hh.size]; exact blt_lt hn)]; exact hv) hC'⟩
theorem V_retT {fn : Func} {B0 : Heap} {t : Nat} {r : Res} (hrs : fn.results = #[.tmp t]) (hQ : ∀ a u, bodyPostM Fence.wide 0 P fn (PostL F.w0 B0 F.L (OwnT F.w0 F.L r)) .ret a u → Q .ret a u) (hs : Since F B0 B) (hk : κ t = some (.own r)) : V P F B n O κ .ret Q :=
  V_retG hQ hs fun O' a u H fp _ hh => by
    obtain ⟨hown, hM⟩ := hh.slot t _ hk
    refine ⟨a.eval (.tmp t), ?_, fp t, hown, fun k hk => ?_⟩
    · simp [results, hrs, Act.eval]
    · obtain ⟨h1, h2, h3, _⟩ := hM k hk
      exact ⟨h3.symm, h1, h2⟩
/-- The block of an owned slice is held beside its slot. -/
theorem V_holdR (t q : Nat) {e : TypeId} {s m : Nat} {xs : List Value} {c : Code} (hk : κ t = some (.own (SlR e s m xs)))
    (h0 : m = 0 → xs = [] → V P F B n O (upd κ t (.is (.slice none 0 0))) c Q)
    (h : ∀ b cap rest, xs.length = m * s → m ≤ cap → cap ≤ maxLen → (xs ++ rest).length = cap * s → V P F B n O (upd (upd (upd κ t nilK) q (.own (HeldR b (xs ++ rest) e))) t (.is (.slice (some ⟨b, 0, none⟩) m cap))) c Q) : V P F B n O κ c Q := fun a u hh => by
  obtain ⟨H, fp, hh⟩ := hh
  obtain ⟨⟨hl, hv⟩, hM⟩ := hh.slot t _ hk
  rcases hv with ⟨hm, hv, _⟩ | ⟨b, cap, rest, hv, hb, h3, h4, h5, hC⟩
  · have h3 := hh.name t
    rw [hv] at h3
    subst hm
    exact h0 rfl (List.eq_nil_of_length_eq_zero (by simpa using hl)) a u ⟨H, _, h3⟩
  · have h2 := hh.usePut (d := q) (a' := a) (r' := HeldR b (xs ++ rest) e) (C := fp t) hk ⟨Keep.refl _ _, hh.sub, Heap.Le.refl _, fun _ _ _ => rfl⟩ rfl rfl (fun _ _ => rfl) ⟨hb, hC⟩ fun k hk => ⟨.inl hk, (hM k hk).1, (hM k hk).2.1⟩
    have h3' := h2.name t
    rw [hv] at h3'
    exact h b cap rest hl h3 h4 h5 a u ⟨H, _, h3'⟩
theorem V_releaseR (t q : Nat) {b m cap : Nat} {e : TypeId} {s : Nat} {xs rest cs : List Value} {c : Code} (hcs : cs = xs ++ rest) (hk : κ q = some (.own (HeldR b cs e))) (ht : κ t = some (.is (.slice (some ⟨b, 0, none⟩) m cap))) (hl : xs.length = m * s) (hm : m ≤ cap) (hc : cap ≤ maxLen) (hcl : cs.length = cap * s)
    (h : V P F B n O (upd (upd κ q nilK) t (.own (SlR e s m xs))) c Q) : V P F B n O κ c Q := fun a u hh => by
  subst hcs
  obtain ⟨H, fp, hh⟩ := hh
  obtain ⟨⟨hb, hC⟩, hM⟩ := hh.slot q _ hk
  have hx : a.eval (.tmp t) = .slice (some ⟨b, 0, none⟩) m cap := hh.slot t _ ht
  exact h a u ⟨H, _, hh.usePut (d := t) (a' := a) (r' := SlR e s m xs) (C := fp q) hk ⟨Keep.refl _ _, hh.sub, Heap.Le.refl _, fun _ _ _ => rfl⟩ rfl rfl (fun _ _ => rfl) ⟨hl, .inr ⟨b, cap, rest, hx, hb, hm, hc, hcl, hC⟩⟩ fun k hk => ⟨.inl hk, (hM k hk).1, (hM k hk).2.1⟩⟩
theorem ok_shr {t t' : TypeId} {x y : Operand} {k k2 : IntKind} {p q r : Int} (hn : Nat.blt d n = true) (hg : gK ops κ ⟨some d, .binOp .shr t x y t', ty, pos, aft, g⟩ = some true) (hx : evK κ x = some (.int k p)) (hy : evK κ y = some (.int k2 q)) (h0 : 0 ≤ q) (hb : p.fdiv (2 ^ min q.toNat k.bits) = r) :
    StepOK P F B n ops O κ ⟨some d, .binOp .shr t x y t', ty, pos, aft, g⟩ d (.is (.int k r)) := ok_bin hn hg hx hy fun u => by subst hb; simp [eqGuard_shr, binOp_shr, Op.shift, Int.not_lt.2 h0]
/-- A known slice is cut. -/
theorem ok_sliceI (L : Tabs P) {x : Operand} {tt e : TypeId} {s m b off cap : Nat} {lo hi : Option Operand} {kl kh : IntKind} {ag : Bool} (i j : Nat) {pl ph : Int} (hn : Nat.blt d n = true) (hg : gK ops κ ⟨some d, .slice tt x lo hi none, ty, pos, aft, g⟩ = some true)
    (hx : evK κ x = some (.slice (some ⟨b, off, none⟩) m cap)) (ht : L.sl tt = some e) (hl : L.ld e = some (ag, s))
    (hlo : match lo with | some y => evK κ y = some (.int kl pl) ∧ pl = i | none => i = 0) (hhi : match hi with | some y => evK κ y = some (.int kh ph) ∧ ph = j | none => j = m)
    (hij : i ≤ j) (hjc : j ≤ cap) :
    StepOK P F B n ops O κ ⟨some d, .slice tt x lo hi none, ty, pos, aft, g⟩ d (.is (.slice (some (if cap = i then ⟨b, off, none⟩ else ⟨b, off + i * s, none⟩)) (j - i) (cap - i))) :=
  ok_pure rfl (blt_lt hn) hg trivial fun a u H fp en => ⟨_, by
    have hu := Tabs.sl_spec ht
    have h1 := en.is_ x _ (by simp [Op.operands]) hx
    have hrun : (Instr.sliceBounds true m cap (lo.map a.eval) (hi.map a.eval) none).run P u = .ok (i, j, cap) u := by
      cases hi with
      | none =>
        simp only at hhi
        subst hhi
        cases lo with
        | none => simp only at hlo; subst hlo; simp [Instr.sliceBounds]
        | some z =>
          obtain ⟨hz, rfl⟩ := hlo
          have h3 := en.is_ z _ (by simp [Op.operands]) hz
          simp [h3, Instr.sliceBounds, run_bound i kl _ _ hij]
      | some y =>
        obtain ⟨hy, rfl⟩ := hhi
        have h2 := en.is_ y _ (by simp [Op.operands]) hy
        cases lo with
        | none => simp only at hlo; subst hlo; simp [h2, Instr.sliceBounds, run_bound j kh cap _ hjc]
        | some z =>
          obtain ⟨hz, rfl⟩ := hlo
          have h3 := en.is_ z _ (by simp [Op.operands]) hz
          simp [h2, h3, Instr.sliceBounds, run_bound j kh cap _ hjc, run_bound i kl _ _ hij]
    simp only [execOp, h1, Instr.sliceAt, Instr.slice, Sem.run_bind, run_underlying hu, Result.andThen_ok, Option.map_none, hrun, run_sizeOf (Tabs.ld_spec hl), Sem.run_pure]
    congr 3
    split <;> simp [Addr.add], rfl⟩
/-- Elements of what is held are cleared. -/
theorem ok_clearH (L : Tabs P) {q : Nat} {y : Operand} {tt e t' : TypeId} {by_ s b off m cap : Nat} {z : Value} {cs cs' : List Value} (hg : gK ops κ ⟨none, .call ⟨.builtin .clear, #[y], #[tt]⟩, ty, pos, aft, g⟩ = some true)
    (hy : evK κ y = some (.slice (some ⟨b, off, none⟩) m cap)) (hq : κ q = some (.own (HeldR b cs t'))) (ht : L.sl tt = some e) (he : elI P e = some (s, by_)) (hz : L.zr e = some z) (hz1 : z.cells.toList.all plainV = true)
    (hcs : m = 0 ∨ off + m * s ≤ cs.length) (hr : m ≠ 0 → cs.take off ++ ((Builtin.zeroCells z.cells m).toList ++ cs.drop (off + m * s)) = cs') (hr0 : m = 0 → cs = cs') :
    StepOKS P F B n ops O κ ⟨none, .call ⟨.builtin .clear, #[y], #[tt]⟩, ty, pos, aft, g⟩ q (.own (HeldR b cs' t')) := by
  rintro κ' a u hlk hqk ⟨H, fp, hh⟩
  unfold After
  rw [if_pos (wanted_gK hh hlk hg)]
  have en := hh.env hlk
  have hye := en.is_ y _ (by simp [Op.operands, Call.operands]) hy
  have hqs := hqk.trans hq
  obtain ⟨⟨hb, hC⟩, hM⟩ := hh.slot q _ hqs
  by_cases hm : m = 0
  · subst hm
    obtain rfl := hr0 rfl
    have hrun : (execOp a.eval ⟨none, .call ⟨.builtin .clear, #[y], #[tt]⟩, ty, pos, aft, g⟩).run P u = .ok (.value (.tuple #[])) u := by
      simp [execOp, resolve, invoke, builtin, hye, Builtin.clear_, run_underlying (Tabs.sl_spec ht)]
    rw [hrun]
    simp only [Upon, Act.put]
    exact ⟨H, fp, by
      have : upd κ' q (.own (HeldR b cs t')) = κ' := by
        funext t
        by_cases h : t = q
        · subst h; rw [upd_same]; exact hqs.symm
        · rw [upd_other _ _ h]
      rw [this]; exact hh⟩
  · have hr := hr hm
    subst hr
    have hcs' := hcs.resolve_left hm
    obtain ⟨i, z', hi, hz', hs1, hs2, hs3, hs4⟩ := elI_spec he
    have hzz := Tabs.zr_spec hz
    have hzr : (zeroValue e).run P u = .ok z u := by
      unfold zrI at hzz
      split at hzz
      · rename_i it hit
        simp [zeroValue, typeInfo, hit, hzz]
      · cases hzz
    have hze : z' = z := by
      have h1 : (zeroValue e).run P u = .ok z' u := by simp [zeroValue, typeInfo, hi, hz']
      rw [hzr] at h1
      cases h1; rfl
    subst hze
    have hzl : (Builtin.zeroCells z'.cells m).toList.length = m * s := by rw [Array.length_toList, size_zeroCells, hs3]
    have hst := run_storeCells_at (P := P) b t' off (Builtin.zeroCells z'.cells m).toList 0 cs.toArray u hb (by rw [hzl]; simpa using hcs') (fun v hv => by
      have h1 : v ∈ Builtin.zeroCells z'.cells m := by simpa using hv
      exact plain_one (zeroCells_all (by rw [← Array.all_toList]; exact hz1) v h1))
    have hrun : (execOp a.eval ⟨none, .call ⟨.builtin .clear, #[y], #[tt]⟩, ty, pos, aft, g⟩).run P u = .ok (.value (.tuple #[])) (u.setRow b (cs.take off ++ ((Builtin.zeroCells z'.cells m).toList ++ cs.drop (off + m * s))).toArray) := by
      rw [hzl] at hst
      cases m with
      | zero => exact absurd rfl hm
      | succ m =>
        simp only [execOp, resolve, invoke, builtin, Sem.run_bind, Sem.run_pure, Result.andThen_ok, List.map_toArray, List.map_cons, List.map_nil, hye, Builtin.clear_, List.getElem?_toArray, List.getElem?_cons_zero, run_underlying (Tabs.sl_spec ht), hzr]
        rw [hst]
        simp
    rw [hrun]
    simp only [Upon, Act.put]
    have hset := setRow_heap u b cs.toArray (cs.take off ++ ((Builtin.zeroCells z'.cells m).toList ++ cs.drop (off + m * s))).toArray t' (0, 0) hb
    have hbm := hM b ((hC b).2 rfl)
    have := hh.usePut (d := q) (a' := a) (r' := HeldR b (cs.take off ++ ((Builtin.zeroCells z'.cells m).toList ++ cs.drop (off + m * s))) t') (C := fun k => k = b) hqs (grow_setRow hh.sub hb ((hC b).2 rfl) hbm.2.1 _) rfl rfl (fun _ _ => rfl) ⟨hset, fun _ => Iff.rfl⟩ (fun k hk => by
      subst hk; exact ⟨.inl ((hC k).2 rfl), by rw [setRow_size]; exact hbm.1, hbm.2.1⟩)
    rw [upd_upd] at this
    exact ⟨H, _, this⟩
/-- A slice of no element, of the call's own. -/
theorem ok_buildSlice0 (L : Tabs P) {t e : TypeId} {ag : Bool} {s : Nat} {z : Value} (hn : Nat.blt d n = true) (hg : gK ops κ ⟨some d, .buildSlice t 0 #[], ty, pos, aft, g⟩ = some true) (ht : L.sl t = some e) (hl : L.ld e = some (ag, s)) (hz : L.zr e = some z) :
    StepOK P F B n ops O κ ⟨some d, .buildSlice t 0 #[], ty, pos, aft, g⟩ d (.own (SlR e s 0 [])) := by
  rintro κ' a u hlk ⟨H, fp, hh⟩
  unfold After
  rw [if_pos (wanted_gK hh hlk hg)]
  have hrun : (execOp a.eval ⟨some d, .buildSlice t 0 #[], ty, pos, aft, g⟩).run P u = .ok (.value (.slice (some ⟨u.heap.size, 0, none⟩) 0 0)) (u.alloc (.cells #[] e)) := by
    have hzz := Tabs.zr_spec hz
    unfold zrI at hzz
    split at hzz
    · rename_i it hit
      have hzr : (zeroValue e).run P u = .ok z u := by simp [zeroValue, typeInfo, hit, hzz]
      simp only [execOp, Sem.run_bind]
      have e0 : (Array.map (fun x : Nat × Operand => (x.1, a.eval x.2)) #[]) = (#[] : Array (Nat × Value)) := by simp
      rw [e0]
      have hfill : Instr.fill (fun i => some (i * s, s)) #[] [] = some #[] := by simp [Instr.fill]
      simp only [Instr.buildSlice, Sem.run_bind, run_underlying (Tabs.sl_spec ht), Result.andThen_ok, run_sizeOf (Tabs.ld_spec hl)]
      simp only [Nat.zero_mul, if_true, Sem.run_pure, Result.andThen_ok]
      have e1 : (Array.range 0).map (fun _ : Nat => (default : Value)) = #[] := by simp
      simp [newRow, hfill, e1]
    · cases hzz
  rw [hrun]
  simp only [Upon]
  have hg2 := hh.grow (Grow.hid hh.sub (.cells #[] e))
  refine ⟨H, _, hg2.putR (C := fun k => k = u.heap.size) (by simp [Act.put]) rfl (fun t ht => eval_put_other ht) ⟨by simp, .inr ⟨u.heap.size, 0, [], eval_put_same (by rw [hh.size]; exact blt_lt hn), heap_push_same _ _, Nat.le_refl _, by simp [maxLen], by simp, fun _ => Iff.rfl⟩⟩ (fun k hk => ?_) fun t r' _ ht k hf hk => ?_⟩
  · subst hk
    exact ⟨size_of_heap (heap_push_same u _), none_of_ge hh.sub (Nat.le_refl _), .inl hh.keep.size, fun y hy e => by have := size_of_heap (hh.boxes y hy).1; omega⟩
  · have := ((hh.slot t _ ht).2 k hf).1
    omega
end
end Go.V
