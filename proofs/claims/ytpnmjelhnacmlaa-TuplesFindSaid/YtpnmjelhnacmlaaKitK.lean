/- The kit's eleventh floor: slices that are owned: made, appended to, handed on, shown; calls that take what is owned. -/
import Derived.Test.YtpnmjelhnacmlaaKitJ
namespace Go.V
open Go.RowKit
/-- An owned slice: n elements of s cells; there may be room behind them. -/
def SlR (e : TypeId) (s n : Nat) (xs : List Value) : Res where
  P x _ u C := xs.length = n * s ∧ ((n = 0 ∧ x = .slice none 0 0 ∧ ∀ k, ¬ C k) ∨
    ∃ b cap rest, x = .slice (some ⟨b, 0, none⟩) n cap ∧ u.heap[b]? = some (.cells (xs ++ rest).toArray e) ∧ n ≤ cap ∧ cap ≤ maxLen ∧ (xs ++ rest).length = cap * s ∧ ∀ k, C k ↔ k = b)
  st := fun ⟨hl, h⟩ _ _ _ hk => ⟨hl, by
    rcases h with h | ⟨b, cap, rest, h1, h2, h3, h4, h5, h6⟩
    · exact .inl h
    · exact .inr ⟨b, cap, rest, h1, (hk b ((h6 b).2 rfl)).trans h2, h3, h4, h5, h6⟩⟩
section
variable {P : Program} {F : Fr} {B : Heap} {O : Boxes} {n : Nat} {ops : Array Oper} {κ : Kap} {d : Nat} {ty : TypeId} {pos : String} {aft : Array Edge} {g : Option (Nat × Bool)} {a : Act} {u : World} {H : Heap} {fp : Nat → Nat → Prop} {os : List Oper} {Q : Exit → Act → World → Prop} {ex : Exs}

/-- An operation of which two slots turn (of a drawn region: the first one must be named among what it touches). -/
def StepOK2 (P : Program) (F : Fr) (B : Heap) (n : Nat) (ops : Array Oper) (O : Boxes) (κ : Kap) (o : Oper) (s : Nat) (k1 : Kn) (d : Nat) (k2 : Kn) : Prop :=
  ∀ κ' a u, (∀ t ∈ o.looksAt ops, κ' t = κ t) → κ' s = κ s → Has F B O n κ' a u → After P ops o (fun a' u' => Has F B O n (upd (upd κ' s k1) d k2) a' u') a u
theorem vo_step2 {o : Oper} {s d : Nat} {k1 k2 : Kn} (hs : StepOK2 P F B n ops O κ o s k1 d k2) (h : VO P F B n O ops (upd (upd κ s k1) d k2) os Q) : VO P F B n O ops κ (o :: os) Q :=
  fun a u hh => After.mono (fun a' u' hh' => h a' u' hh') (hs κ a u (fun _ _ => rfl) rfl hh)
theorem par_step2 {o : Oper} {s d : Nat} {k1 k2 : Kn} (hs : StepOK2 P F B n ops O κ o s k1 d k2) (hd : vd o = some d) (he : (exO ex o).contains s = true) (h : Par P F B n O ops ex (upd (upd κ s k1) d k2) os Q) : Par P F B n O ops ex κ (o :: os) Q := by
  have hm : s ∈ exO ex o := by simpa using he
  refine ⟨[(s, k1), (d, k2)], fun p hp => ?_, fun κ' a u hl hh => hs κ' a u (fun t ht => hl t (List.mem_append_left _ ht)) (hl s (List.mem_append_right _ (List.mem_append_left _ hm))) hh, h⟩
  simp only [List.mem_cons, List.mem_nil_iff, or_false] at hp
  rcases hp with rfl | rfl
  · exact List.mem_append_right _ hm
  · exact List.mem_append_left _ (by simp [hd])

theorem ok_lenR (L : Tabs P) {q : Nat} {tt e e' : TypeId} {s m : Nat} {xs : List Value} (hn : Nat.blt d n = true) (hg : gK ops κ ⟨some d, .call ⟨.builtin .len, #[.tmp q], #[tt]⟩, ty, pos, aft, g⟩ = some true) (hx : κ q = some (.own (SlR e' s m xs))) (ht : L.sl tt = some e) :
    StepOK P F B n ops O κ ⟨some d, .call ⟨.builtin .len, #[.tmp q], #[tt]⟩, ty, pos, aft, g⟩ d (.is (.int .i64 m)) :=
  ok_pure rfl (blt_lt hn) hg trivial fun a u H fp en => ⟨_, by
    obtain ⟨⟨_, ⟨rfl, h1, _⟩ | ⟨b, cap, rest, h1, _⟩⟩, _⟩ := en.own_ q _ (by simp [Op.operands, Call.operands]) hx
    · simp [execOp, resolve, h1, invoke, builtin, Builtin.len_, run_underlying (Tabs.sl_spec ht), goInt]
    · simp [execOp, resolve, h1, invoke, builtin, Builtin.len_, run_underlying (Tabs.sl_spec ht), goInt], rfl⟩
/-- The zero slice, owned by nobody, is an owned one. -/
theorem Has.nilR {t : Nat} (e : TypeId) (s : Nat) (hk : κ t = some (.is (.slice none 0 0))) (h : Has F B O n κ a u) : Has F B O n (upd κ t (.own (SlR e s 0 []))) a u := by
  obtain ⟨H, fp, h⟩ := h
  exact ⟨H, _, h.putR (C := noL) rfl rfl (fun _ _ => rfl) ⟨by simp, .inl ⟨rfl, h.slot t _ hk, fun _ h => h⟩⟩ (fun _ h => h.elim) fun _ _ _ _ _ _ h => h⟩
theorem V_nilR (t : Nat) (e : TypeId) (s : Nat) {c : Code} (hk : κ t = some (.is (.slice none 0 0))) (h : V P F B n O (upd κ t (.own (SlR e s 0 []))) c Q) : V P F B n O κ c Q := fun a u hh => h a u (hh.nilR e s hk)
theorem N_nilR (t : Nat) (e : TypeId) (s : Nat) (hk : κ t = some (.is (.slice none 0 0))) (h : N F B n O (upd κ t (.own (SlR e s 0 []))) Q) : N F B n O κ Q := fun a u hh => h a u (hh.nilR e s hk)
theorem vo_nilR (t : Nat) (e : TypeId) (s : Nat) (hk : κ t = some (.is (.slice none 0 0))) (h : VO P F B n O ops (upd κ t (.own (SlR e s 0 []))) os Q) : VO P F B n O ops κ os Q := fun a u hh => h a u (hh.nilR e s hk)
/-- 'make([]T, 0, cap)'. -/
theorem ok_make0 (L : Tabs P) {t e : TypeId} {x y : Operand} {kl kc : IntKind} {s by_ : Nat} (c : Nat) {p : Int} (hn : Nat.blt d n = true) (hg : gK ops κ ⟨some d, .makeSlice t x y, ty, pos, aft, g⟩ = some true) (ht : L.sl t = some e) (he : elI P e = some (s, by_))
    (hx : evK κ x = some (.int kl 0)) (hy : evK κ y = some (.int kc p)) (hp : p = c) (hb : by_ * c ≤ 281474976710656) (hc : c ≤ maxLen) : StepOK P F B n ops O κ ⟨some d, .makeSlice t x y, ty, pos, aft, g⟩ d (.own (SlR e s 0 [])) := by
  rintro κ' a u hl ⟨H, fp, hh⟩
  unfold After
  rw [if_pos (wanted_gK hh hl hg)]
  have en := hh.env hl
  obtain ⟨i, z, hi, hz, hs1, hs2, hs3, hs4⟩ := elI_spec he
  have h1 := en.is_ x _ (by simp [Op.operands]) hx
  have h2 := en.is_ y _ (by simp [Op.operands]) hy
  subst hp
  have hb' : (i.bytes : Int) * (c : Int) ≤ 281474976710656 := by
    have h : ((by_ * c : Nat) : Int) ≤ 281474976710656 := by omega
    rw [hs2]; rwa [Int.natCast_mul] at h
  have h63 : (c : Int) ≤ 9223372036854775807 := by simp [maxLen] at hc; omega
  have hr := run_make (P := P) u t e i z (Tabs.sl_spec ht) hi hz kl kc 0 c (Int.le_refl _) (by omega) hb' h63
  simp only [Int.toNat_zero, Int.toNat_natCast] at hr
  have hrun : (execOp a.eval ⟨some d, .makeSlice t x y, ty, pos, aft, g⟩).run P u = .ok (.value (.slice (some ⟨u.heap.size, 0, none⟩) 0 c)) (u.alloc (.cells (madeCells z.cells (c * i.size)) e)) := by
    simp only [execOp, h1, h2, Sem.run_bind, hr, Result.andThen_ok]; rfl
  rw [hrun]
  simp only [Upon]
  have hg2 := hh.grow (Grow.hid hh.sub (.cells (madeCells z.cells (c * i.size)) e))
  refine ⟨H, _, hg2.putR (C := fun k => k = u.heap.size) (by simp [Act.put]) rfl (fun t ht => eval_put_other ht) ⟨by simp, .inr ⟨u.heap.size, c, (madeCells z.cells (c * i.size)).toList, eval_put_same (by rw [hh.size]; exact blt_lt hn), by rw [heap_push_same]; simp, Nat.zero_le _, hc, by simp [size_madeCells, hs1], fun _ => Iff.rfl⟩⟩ (fun k hk => ?_) fun t r' _ ht k hf hk => ?_⟩
  · subst hk
    exact ⟨size_of_heap (heap_push_same u _), none_of_ge hh.sub (Nat.le_refl _), .inl hh.keep.size, fun y hy e => by have := size_of_heap (hh.boxes y hy).1; omega⟩
  · have := ((hh.slot t _ ht).2 k hf).1
    omega

/-- What is appended. -/
def Apd (F : Fr) (B : Heap) (O : Boxes) (κ : Kap) (y : Operand) (m : Nat) (news : List Value) : Prop :=
  ∀ (o : Oper) (a : Act) (u : World) (H : Heap) (fp : Nat → Nat → Prop), y ∈ o.op.operands → Env F B O κ o a u H fp →
    (m = 0 ∧ news = [] ∧ ∃ l c, a.eval y = .slice none l c ∧ l = 0) ∨ ∃ ad c, a.eval y = .slice (some ad) m c ∧ ∀ j v, news[j]? = some v → u.cell? (ad.add j) = some v
theorem apd_B {q : Nat} {xs : List Value} {e : TypeId} {m : Nat} (h : κ q = some (.sat (SlB xs e m))) : Apd F B O κ (.tmp q) m xs := fun _ _ u _ _ hy en => by
  obtain ⟨b, h1, h2⟩ := en.sat_ q _ hy h
  exact .inr ⟨_, _, h1, fun j v hj => by rw [addr_add, cell_of_heap (en.sub _ _ h2)]; simpa using hj⟩
theorem apd_V {q : Nat} {xs : List Value} {e : TypeId} {s m : Nat} {fu : Bool} (h : κ q = some (.sat (SlV e s xs m fu))) : Apd F B O κ (.tmp q) m xs := fun _ _ u _ _ hy en => by
  obtain ⟨hl, ⟨rfl, h1⟩ | ⟨b, off, cap, cs, ty0, fr, h1, h2, h3, _⟩⟩ := en.sat_ q _ hy h
  · exact .inl ⟨rfl, List.eq_nil_of_length_eq_zero (by simpa using hl), 0, 0, h1, rfl⟩
  · exact .inr ⟨_, _, h1, fun j v hj => by rw [addr_add, cell_of_heap (en.sub _ _ h2)]; simpa using AtP.get h3 hj⟩
theorem appendR (u : World) {t e : TypeId} {aty : TypeId} {i : TypeInfo} {z : Value} {s by_ : Nat} (ht : P.underlying t = some (.slice e)) (hi : P.info? e = some i) (hz : i.zero = some z) (hs1 : i.size = s) (hs2 : i.bytes = by_) (hs3 : z.cells.size = s) (hs4 : 0 < s)
    {x y : Value} {C : Nat → Prop} {H : Heap} {nn m : Nat} {xs news : List Value} (hsub : H.Le (hp u)) (hown : (SlR e s nn xs).P x H u C) (hlt : ∀ k, C k → k < u.heap.size ∧ H k = none) (hy : (m = 0 ∧ news = [] ∧ ∃ l c, y = .slice none l c ∧ l = 0) ∨ ∃ ad c, y = .slice (some ad) m c ∧ ∀ j v, news[j]? = some v → u.cell? (ad.add j) = some v)
    (hl : news.length = m * s) (h1 : ∀ v ∈ news, v.oneCell' = true) (h63 : nn + m ≤ 9223372036854775807) (hb : (nn + m) * by_ ≤ 140737488355328) :
    ∃ x' u' C', (Builtin.append_ #[t, t] aty #[x, y]).run P u = .ok x' u' ∧ (SlR e s (nn + m) (xs ++ news)).P x' H u' C' ∧ Grow C u H u' H ∧ ∀ k, C' k → (C k ∨ u.heap.size ≤ k) ∧ k < u'.heap.size ∧ H k = none := by
  have hmx : nn + m ≤ maxLen := by simp only [maxLen]; omega
  obtain ⟨hxl, hown⟩ := hown
  have hlen : (xs ++ news).length = (nn + m) * s := by rw [List.length_append, hxl, hl, Nat.add_mul]
  have hdrew : ∀ o : Obj, Grow C u H (u.drew.alloc o) H := fun o => ⟨⟨rfl, rfl, rfl, by simp, fun k hk _ => heap_push_lt u.drew _ hk, Nat.le_succ _⟩, fun k v hv => by
    have := hsub.size hv
    show (u.drew.alloc o).heap[k]? = some v
    rw [heap_push_lt u.drew _ this]; exact hsub k v hv, Heap.Le.refl _, fun _ _ _ => rfl⟩
  have hnew : ∀ (o : Obj) (k : Nat), k = u.heap.size → (C k ∨ u.heap.size ≤ k) ∧ k < (u.drew.alloc o).heap.size ∧ H k = none := fun o k hk => by
    subst hk
    exact ⟨.inr (Nat.le_refl _), by simp, none_of_ge hsub (Nat.le_refl _)⟩
  have grown : ∀ (old : Nat), old < nn + m → ∀ vs : List Value, vs.length = nn * s → vs = xs →
      (SlR e s (nn + m) (xs ++ news)).P (.slice (some ⟨u.heap.size, 0, none⟩) (nn + m) (grownCap u (nn + m) old e)) H (u.drew.alloc (.cells (vs.toArray ++ news.toArray ++ Builtin.zeroCells z.cells (grownCap u (nn + m) old e - (nn + m))) e)) (fun k => k = u.heap.size) := by
    rintro old ho vs hvs rfl
    have hge := grownCap_ge u (nn + m) old e
    refine ⟨hlen, .inr ⟨u.heap.size, _, (Builtin.zeroCells z.cells (grownCap u (nn + m) old e - (nn + m))).toList, rfl, ?_, hge, grownCap_le_maxLen u (nn + m) old e hmx, ?_, fun _ => Iff.rfl⟩⟩
    · have := heap_alloc_new u.drew (.cells (vs.toArray ++ news.toArray ++ Builtin.zeroCells z.cells (grownCap u (nn + m) old e - (nn + m))) e)
      have h2 : (u.drew.alloc (.cells (vs.toArray ++ news.toArray ++ Builtin.zeroCells z.cells (grownCap u (nn + m) old e - (nn + m))) e)).heap[u.heap.size]? = some (.cells (vs.toArray ++ news.toArray ++ Builtin.zeroCells z.cells (grownCap u (nn + m) old e - (nn + m))) e) := this
      rw [h2]
      congr 2
      apply Array.ext'
      simp
    · rw [List.length_append, hlen, Array.length_toList, size_zeroCells, hs3, ← Nat.add_mul]
      congr 1
      omega
  subst hs1
  subst hs2
  rcases hown with ⟨rfl, rfl, hC⟩ | ⟨b, cap, rest, rfl, hbk, hnc, hcm, hcl, hC⟩
  · have hx : xs = [] := List.eq_nil_of_length_eq_zero (by simpa using hxl)
    subst hx
    rcases hy with ⟨rfl, rfl, l, c, rfl, rfl⟩ | ⟨ad, c, rfl, hnews⟩
    · refine ⟨.slice none 0 0, u, noL, ?_, ⟨by simp, .inl ⟨rfl, rfl, fun _ h => h⟩⟩, ⟨Keep.refl _ _, hsub, Heap.Le.refl _, fun _ _ _ => rfl⟩, fun _ h => h.elim⟩
      simp [Builtin.append_, run_underlying ht, sizeOf, typeInfo, hi, Builtin.lenOf, Builtin.firstCells]
    · by_cases hm : m = 0
      · subst hm
        have hn : news = [] := List.eq_nil_of_length_eq_zero (by simpa using hl)
        subst hn
        refine ⟨.slice none 0 0, u, noL, ?_, ⟨by simp, .inl ⟨rfl, rfl, fun _ h => h⟩⟩, ⟨Keep.refl _ _, hsub, Heap.Le.refl _, fun _ _ _ => rfl⟩, fun _ h => h.elim⟩
        simp [Builtin.append_, run_underlying ht, sizeOf, typeInfo, hi, Builtin.lenOf, Builtin.firstCells, loadCells, loadCellsFrom]
      · have hr := run_append_nil (P := P) u t aty e i z ht hi hz ad m c news hl hnews (by omega) (by omega) (by simp only [Nat.zero_add] at hb; omega)
        have hgr := grown 0 (by omega) [] (by simp) rfl
        simp only [Nat.zero_add, List.nil_append, Array.empty_append] at hgr ⊢
        exact ⟨_, _, _, hr, hgr, hdrew _, fun k hk => hnew _ k hk⟩
  · have hbl := hlt b ((hC b).2 rfl)
    have holds : ∀ j v, xs[j]? = some v → u.cell? ((⟨b, 0, none⟩ : Addr).add j) = some v := fun j v hj => by
      rw [addr_add, Nat.zero_add, cell_of_heap hbk]
      have hlt : j < xs.length := by
        rcases Nat.lt_or_ge j xs.length with h | h
        · exact h
        · rw [List.getElem?_eq_none h] at hj; cases hj
      simp only [List.getElem?_toArray]
      rw [List.getElem?_append_left hlt]; exact hj
    rcases hy with ⟨rfl, rfl, l, c, rfl, rfl⟩ | ⟨ad, c, rfl, hnews⟩
    · refine ⟨.slice (some ⟨b, 0, none⟩) nn cap, u, C, ?_, ⟨by simpa using hxl, .inr ⟨b, cap, rest, rfl, by simpa using hbk, hnc, hcm, by simpa using hcl, hC⟩⟩, ⟨Keep.refl _ _, hsub, Heap.Le.refl _, fun _ _ _ => rfl⟩, fun k hk => ⟨.inl hk, hlt k hk⟩⟩
      simp [Builtin.append_, run_underlying ht, sizeOf, typeInfo, hi, Builtin.lenOf, Builtin.firstCells, hnc, storeCells]
    · by_cases hroom : nn + m ≤ cap
      · have hfit : nn * i.size + news.length ≤ (xs ++ rest).toArray.size := by rw [hl, ← Nat.add_mul]; simp only [List.size_toArray, hcl]; exact Nat.mul_le_mul_right _ hroom
        have hr := run_append_room (P := P) u t aty e i ht hi b nn cap _ hbk ad m c news hl hnews h1 hroom hfit
        refine ⟨_, _, C, hr, ⟨hlen, .inr ⟨b, cap, rest.drop news.length, rfl, ?_, hroom, hcm, ?_, hC⟩⟩, grow_setRow hsub hbk ((hC b).2 rfl) hbl.2 _, fun k hk => ⟨.inl hk, by rw [setRow_size]; exact (hlt k hk).1, (hlt k hk).2⟩⟩
        · rw [setRow_heap u b _ _ e (0, 0) hbk]
          congr 3
          rw [← hxl]
          simp [List.drop_append, List.drop_eq_nil_of_le]
        · have h5 : rest.length = cap * i.size - nn * i.size := by rw [← hcl, List.length_append, hxl]; omega
          rw [List.length_append, hlen, List.length_drop, h5, hl, Nat.add_mul]
          have : nn * i.size + m * i.size ≤ cap * i.size := by rw [← Nat.add_mul]; exact Nat.mul_le_mul_right _ hroom
          omega
      · have hr := run_append_grow (P := P) u t aty e i z ht hi hz ⟨b, 0, none⟩ nn cap xs hxl holds ad m c news hl hnews (by omega) (by omega) (growslice_fits (by omega) hb)
        exact ⟨_, _, _, hr, grown cap (by omega) xs hxl rfl, hdrew _, fun k hk => hnew _ k hk⟩

/-- 'append(x, y...)': x is owned, and is it no longer. -/
theorem ok_append (L : Tabs P) {q : Nat} {t e : TypeId} {y : Operand} {s by_ nn m : Nat} {xs news : List Value} (hn : Nat.blt d n = true) (hg : gK ops κ ⟨some d, .call ⟨.builtin .append, #[.tmp q, y], #[t, t]⟩, ty, pos, aft, g⟩ = some true)
    (hq : κ q = some (.own (SlR e s nn xs))) (hy : Apd F B O κ y m news) (ht : L.sl t = some e) (he : elI P e = some (s, by_)) (hl : news.length = m * s) (h1 : news.all plainV = true) (hb : (nn + m) * by_ ≤ 140737488355328) (h63 : nn + m ≤ 9223372036854775807) :
    StepOK2 P F B n ops O κ ⟨some d, .call ⟨.builtin .append, #[.tmp q, y], #[t, t]⟩, ty, pos, aft, g⟩ q nilK d (.own (SlR e s (nn + m) (xs ++ news))) := by
  rintro κ' a u hlk hks ⟨H, fp, hh⟩
  unfold After
  rw [if_pos (wanted_gK hh hlk hg)]
  have en := hh.env hlk
  obtain ⟨i, z, hi, hz, hs1, hs2, hs3, hs4⟩ := elI_spec he
  have hk' : κ' q = some (.own (SlR e s nn xs)) := hks.trans hq
  obtain ⟨hown, hM⟩ := hh.slot q _ hk'
  obtain ⟨x', u', C', hr, hown', hgr, hC'⟩ := appendR u (aty := ty) (Tabs.sl_spec ht) hi hz hs1 hs2 hs3 hs4 hh.sub hown (fun k hk => ⟨(hM k hk).1, (hM k hk).2.1⟩) (hy _ a u H fp (by simp [Op.operands, Call.operands]) en) hl (fun v hv => plain_one (List.all_eq_true.1 h1 v hv)) h63 hb
  have hrun : (execOp a.eval ⟨some d, .call ⟨.builtin .append, #[.tmp q, y], #[t, t]⟩, ty, pos, aft, g⟩).run P u = .ok (.value x') u' := by
    simp only [execOp, resolve, invoke, builtin, Sem.run_bind, Sem.run_pure, Result.andThen_ok, List.map_toArray, List.map_cons, List.map_nil, hr]
  rw [hrun]
  simp only [Upon]
  exact ⟨H, _, hh.usePut hk' hgr (by simp [Act.put]) rfl (fun t ht => eval_put_other ht) (by rw [eval_put_same (by rw [hh.size]; exact blt_lt hn)]; exact hown') hC'⟩
/-- What is owned moves. -/
theorem ok_moveO {q : Nat} {r : Res} {op : Op} (hop : op = .move (.tmp q) ∨ op = .assign (.tmp q)) (hn : Nat.blt d n = true) (hg : gK ops κ ⟨some d, op, ty, pos, aft, g⟩ = some true) (hq : κ q = some (.own r)) (hne : Nat.beq q d = false) :
    StepOK2 P F B n ops O κ ⟨some d, op, ty, pos, aft, g⟩ q nilK d (.own r) := by
  rintro κ' a u hlk hks ⟨H, fp, hh⟩
  unfold After
  rw [if_pos (wanted_gK hh hlk hg)]
  have hk' : κ' q = some (.own r) := hks.trans hq
  obtain ⟨hown, hM⟩ := hh.slot q _ hk'
  have hrun : (execOp a.eval ⟨some d, op, ty, pos, aft, g⟩).run P u = .ok (.value (a.eval (.tmp q))) u := by
    rcases hop with rfl | rfl <;> simp [execOp]
  rw [hrun]
  simp only [Upon]
  exact ⟨H, _, hh.usePut (C := fp q) hk' ⟨Keep.refl _ _, hh.sub, Heap.Le.refl _, fun _ _ _ => rfl⟩ (by simp [Act.put]) rfl (fun t ht => eval_put_other ht) (by rw [eval_put_same (by rw [hh.size]; exact blt_lt hn)]; exact hown) fun k hk => ⟨.inl hk, (hM k hk).1, (hM k hk).2.1⟩⟩
/-- An owned slice is shown. -/
theorem Has.pubR {t : Nat} {e : TypeId} {s m : Nat} {xs : List Value} (hk : κ t = some (.own (SlR e s m xs))) (h : Has F B O n κ a u) : Has F B O n (upd κ t (.sat (SlV e s xs m false))) a u := by
  obtain ⟨H, fp, h⟩ := h
  obtain ⟨⟨hl, hv⟩, hM⟩ := h.slot t _ hk
  rcases hv with ⟨rfl, hv, hC⟩ | ⟨b, cap, rest, hv, hb, h3, h4, h5, hC⟩
  · have hx : xs = [] := List.eq_nil_of_length_eq_zero (by simpa using hl)
    subst hx
    suffices h3 : Has F B O n (upd κ t (.sat fun v _ => v = .slice none 0 0)) a u by
      have := h3.imp (t := t) (ψ := SlV e s [] 0 false) (upd_same _ _ _) SlV.mono fun v H hv => ⟨by simp, .inl ⟨rfl, hv⟩⟩
      rw [upd_upd] at this
      exact this
    have h2 := h.drop1 t
    refine ⟨H, fp, h2.size, h2.defers, h2.nodup, h2.marks, h2.lent, h2.keep, h2.sub, h2.base, h2.fresh, h2.boxes, h2.apart, fun s k hs => ?_, fun s q r1 r2 hsq h1 h2' => ?_, fun s k hs => ?_⟩
    · by_cases hst : s = t
      · subst hst; rw [upd_same] at hs; cases hs; exact hv
      · rw [upd_other _ _ hst] at hs; exact h.slot s k hs
    · have key : ∀ x r, upd κ t (.sat fun v _ => v = .slice none 0 0) x = some (.own r) → κ x = some (.own r) := fun x r hx => by
        by_cases hxd : x = t
        · subst hxd; rw [upd_same] at hx; cases hx
        · rw [upd_other _ _ hxd] at hx; exact hx
      exact h.owns s q r1 r2 hsq (key _ _ h1) (key _ _ h2')
    · by_cases hst : s = t
      · subst hst; rw [upd_same] at hs; cases hs; exact fun _ _ _ h _ => h
      · rw [upd_other _ _ hst] at hs; exact h.mono s k hs
  · obtain ⟨H', h'⟩ := h.pub (φ := SlV e s xs m false) hk hb ((hC b).2 rfl) SlV.mono fun H' _ hb' => ⟨hl, .inr ⟨b, 0, cap, _, _, (0, 0), hv, hb', by simp, h3, fun h => by cases h⟩⟩
    exact ⟨H', fp, h'⟩
theorem V_pubR (t : Nat) {e : TypeId} {s m : Nat} {xs : List Value} {c : Code} (hk : κ t = some (.own (SlR e s m xs))) (h : V P F B n O (upd κ t (.sat (SlV e s xs m false))) c Q) : V P F B n O κ c Q := fun a u hh => h a u (hh.pubR hk)
theorem N_pubR (t : Nat) {e : TypeId} {s m : Nat} {xs : List Value} (hk : κ t = some (.own (SlR e s m xs))) (h : N F B n O (upd κ t (.sat (SlV e s xs m false))) Q) : N F B n O κ Q := fun a u hh => h a u (hh.pubR hk)
theorem vo_pubR (t : Nat) {e : TypeId} {s m : Nat} {xs : List Value} (hk : κ t = some (.own (SlR e s m xs))) (h : VO P F B n O ops (upd κ t (.sat (SlV e s xs m false))) os Q) : VO P F B n O ops κ os Q := fun a u hh => h a u (hh.pubR hk)

/-- A call that takes what a slot owns. -/
theorem ok_callT (L : Tabs P) {q f : Nat} {args : Array Operand} {at_ : Array TypeId} {cap : List Value} {r : Res} {φ : Value → Heap → Prop} {fo : Operand}
    (hn : Nat.blt d n = true) (hg : gK ops κ ⟨some d, .call { callee := .value fo, args := args, argTypes := at_ }, ty, pos, aft, g⟩ = some true)
    (hf : evK (upd κ q (.is undef)) fo = some (.func (.func f) #[] cap.toArray)) (hfn : L.fn f = some ()) (hq : κ q = some (.own r)) (hm : Kn.mono (.sat φ))
    (h : ∀ u H C x, H.Le (hp u) → B.Le H → r.P x H u C → (∀ k, C k → k < u.heap.size ∧ H k = none) → Args (upd κ q (.is x)) H args.toList [] (fun vs => RetL P f (vs ++ cap) u H C (fun v H' _ => φ v H'))) :
    StepOK2 P F B n ops O κ ⟨some d, .call { callee := .value fo, args := args, argTypes := at_ }, ty, pos, aft, g⟩ q nilK d (.sat φ) := by
  rintro κ' a u hlk hks ⟨H, fp, hh⟩
  unfold After
  rw [if_pos (wanted_gK hh hlk hg)]
  have hk' : κ' q = some (.own r) := hks.trans hq
  obtain ⟨hown, hM⟩ := hh.slot q _ hk'
  have hh2 := hh.name q
  have e2 : Env F B O (upd κ q (.is (a.eval (.tmp q)))) ⟨some d, .call { callee := .value fo, args := args, argTypes := at_ }, ty, pos, aft, g⟩ a u H fp := hh2.env (ops := ops) fun t ht => by
    by_cases htq : t = q
    · subst htq; rw [upd_same, upd_same]
    · rw [upd_other _ _ htq, upd_other _ _ htq]; exact hlk t ht
  have hfe : a.eval fo = .func (.func f) #[] cap.toArray := by
    refine e2.is_ fo _ (by simp [Op.operands, Call.operands]) ?_
    cases fo with
    | tmp t =>
      simp only [evK] at hf ⊢
      by_cases htq : t = q
      · subst htq; rw [upd_same] at hf; cases hf
      · rw [upd_other _ _ htq] at hf ⊢; exact hf
    | _ => exact hf
  have hc := Args.use e2 args.toList [] (fun x hx => by simp [Op.operands, Call.operands] at hx ⊢; exact .inr hx) (h u H (fp q) _ hh.sub hh.base hown fun k hk => ⟨(hM k hk).1, (hM k hk).2.1⟩)
  simp only [List.reverse_nil, List.nil_append] at hc
  rw [run_call L rfl hfe hfn]
  simp only [Upon]
  refine Calls.mono hc fun e' u' hp => ?_
  obtain ⟨v, rfl, H', g', hv⟩ := hp
  exact ⟨v, rfl, H', fp, (hh.use hk' g').put (blt_lt hn) hm hv⟩
end
end Go.V
