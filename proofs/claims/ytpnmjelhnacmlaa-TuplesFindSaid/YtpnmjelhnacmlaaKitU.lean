/- The kit's twentieth floor: variables of the call's own that are held beside their slots: their fields' addresses are taken, in whatever order. -/
import Derived.Test.YtpnmjelhnacmlaaKitT
import Derived.Test.YtpnmjelhnacmlaaKitQ
namespace Go.V
open Go.RowKit
/-- A variable of which the number is known: what it holds. -/
def HeldR (b : Nat) (cs : List Value) (ty : TypeId) : Res where
  P _ _ u C := u.heap[b]? = some (.cells cs.toArray ty) ∧ ∀ k, C k ↔ k = b
  st := fun ⟨h1, h2⟩ _ _ _ hk => ⟨(hk b ((h2 b).2 rfl)).trans h1, h2⟩
section
variable {P : Program} {F : Fr} {B : Heap} {O : Boxes} {n : Nat} {ops : Array Oper} {κ : Kap} {d : Nat} {ty : TypeId} {pos : String} {aft : Array Edge} {g : Option (Nat × Bool)} {a : Act} {u : World} {H : Heap} {fp : Nat → Nat → Prop} {os : List Oper} {Q : Exit → Act → World → Prop} {ex : Exs}
theorem Has.hold {t q : Nat} {cs : List Value} {ty : TypeId} (hk : κ t = some (.own (Cell cs ty))) (h : Has F B O n κ a u) : ∃ b, Has F B O n (upd (upd (upd κ t nilK) q (.own (HeldR b cs ty))) t (.is (.pointer (some ⟨b, 0, none⟩)))) a u := by
  obtain ⟨H, fp, h⟩ := h
  obtain ⟨⟨b, hv, hb, hC⟩, hM⟩ := h.slot t _ hk
  have h2 := h.usePut (d := q) (a' := a) (r' := HeldR b cs ty) (C := fp t) hk ⟨Keep.refl _ _, h.sub, Heap.Le.refl _, fun _ _ _ => rfl⟩ rfl rfl (fun _ _ => rfl) ⟨hb, hC⟩ fun k hk => ⟨.inl hk, (hM k hk).1, (hM k hk).2.1⟩
  have h3 := h2.name t
  rw [hv] at h3
  exact ⟨b, H, _, h3⟩
theorem Has.release {t q b : Nat} {cs : List Value} {ty : TypeId} (hk : κ q = some (.own (HeldR b cs ty))) (ht : κ t = some (.is (.pointer (some ⟨b, 0, none⟩)))) (h : Has F B O n κ a u) : Has F B O n (upd (upd κ q nilK) t (.own (Cell cs ty))) a u := by
  obtain ⟨H, fp, h⟩ := h
  obtain ⟨⟨hb, hC⟩, hM⟩ := h.slot q _ hk
  have hx : a.eval (.tmp t) = .pointer (some ⟨b, 0, none⟩) := h.slot t _ ht
  exact ⟨H, _, h.usePut (d := t) (a' := a) (r' := Cell cs ty) (C := fp q) hk ⟨Keep.refl _ _, h.sub, Heap.Le.refl _, fun _ _ _ => rfl⟩ rfl rfl (fun _ _ => rfl) ⟨b, hx, hb, hC⟩ fun k hk => ⟨.inl hk, (hM k hk).1, (hM k hk).2.1⟩⟩
theorem V_hold (t q : Nat) {cs : List Value} {ty : TypeId} {c : Code} (hk : κ t = some (.own (Cell cs ty))) (h : ∀ b, V P F B n O (upd (upd (upd κ t nilK) q (.own (HeldR b cs ty))) t (.is (.pointer (some ⟨b, 0, none⟩)))) c Q) : V P F B n O κ c Q := fun a u hh => let ⟨b, h'⟩ := hh.hold (q := q) hk; h b a u h'
theorem V_release (t q : Nat) {b : Nat} {cs : List Value} {ty : TypeId} {c : Code} (hk : κ q = some (.own (HeldR b cs ty))) (ht : κ t = some (.is (.pointer (some ⟨b, 0, none⟩)))) (h : V P F B n O (upd (upd κ q nilK) t (.own (Cell cs ty))) c Q) : V P F B n O κ c Q := fun a u hh => h a u (hh.release hk ht)
theorem N_release (t q : Nat) {b : Nat} {cs : List Value} {ty : TypeId} (hk : κ q = some (.own (HeldR b cs ty))) (ht : κ t = some (.is (.pointer (some ⟨b, 0, none⟩)))) (h : N F B n O (upd (upd κ q nilK) t (.own (Cell cs ty))) Q) : N F B n O κ Q := fun a u hh => h a u (hh.release hk ht)
/-- An operation that reads what a slot beside its operands holds. -/
def StepOKR (P : Program) (F : Fr) (B : Heap) (n : Nat) (ops : Array Oper) (O : Boxes) (κ : Kap) (o : Oper) (q d : Nat) (k : Kn) : Prop :=
  ∀ κ' a u, (∀ t ∈ o.looksAt ops, κ' t = κ t) → κ' q = κ q → Has F B O n κ' a u → After P ops o (fun a' u' => Has F B O n (upd κ' d k) a' u') a u
theorem vo_stepR {o : Oper} {q d : Nat} {k : Kn} (hs : StepOKR P F B n ops O κ o q d k) (h : VO P F B n O ops (upd κ d k) os Q) : VO P F B n O ops κ (o :: os) Q :=
  fun a u hh => After.mono (fun a' u' hh' => h a' u' hh') (hs κ a u (fun _ _ => rfl) rfl hh)
theorem par_stepR {o : Oper} {q d : Nat} {k : Kn} (hs : StepOKR P F B n ops O κ o q d k) (hd : vd o = some d) (he : (exR ex o).contains q = true) (h : Par P F B n O ops ex (upd κ d k) os Q) : Par P F B n O ops ex κ (o :: os) Q := by
  have hm : q ∈ exR ex o := by simpa using he
  refine ⟨[(d, k)], fun p hp => ?_, fun κ' a u hl hh => hs κ' a u (fun t ht => hl t (List.mem_append_left _ ht)) (hl q (List.mem_append_right _ (List.mem_append_right _ hm))) hh, h⟩
  simp only [List.mem_cons, List.mem_nil_iff, or_false] at hp
  subst hp
  exact List.mem_append_left _ (by simp [hd])
/-- An operation that turns what a slot beside its operands holds. -/
def StepOKS (P : Program) (F : Fr) (B : Heap) (n : Nat) (ops : Array Oper) (O : Boxes) (κ : Kap) (o : Oper) (q : Nat) (k : Kn) : Prop :=
  ∀ κ' a u, (∀ t ∈ o.looksAt ops, κ' t = κ t) → κ' q = κ q → Has F B O n κ' a u → After P ops o (fun a' u' => Has F B O n (upd κ' q k) a' u') a u
theorem vo_stepS {o : Oper} {q : Nat} {k : Kn} (hs : StepOKS P F B n ops O κ o q k) (h : VO P F B n O ops (upd κ q k) os Q) : VO P F B n O ops κ (o :: os) Q :=
  fun a u hh => After.mono (fun a' u' hh' => h a' u' hh') (hs κ a u (fun _ _ => rfl) rfl hh)
theorem par_stepS {o : Oper} {q : Nat} {k : Kn} (hs : StepOKS P F B n ops O κ o q k) (he : (exO ex o).contains q = true) (h : Par P F B n O ops ex (upd κ q k) os Q) : Par P F B n O ops ex κ (o :: os) Q := by
  have hm : q ∈ exO ex o := by simpa using he
  refine ⟨[(q, k)], fun p hp => ?_, fun κ' a u hl hh => hs κ' a u (fun t ht => hl t (List.mem_append_left _ ht)) (hl q (List.mem_append_right _ (List.mem_append_left _ hm))) hh, h⟩
  simp only [List.mem_cons, List.mem_nil_iff, or_false] at hp
  subst hp
  exact List.mem_append_right _ hm
theorem lend_at {r : Res} {φ : Value → Heap → Prop} {x : Value} (h : Lend r φ) : ∀ v H u C, (AtV x r).P v H u C → φ x (joinH H u C) := fun _ H u C hp => h x H u C hp
theorem lend_held {b m : Nat} {e : TypeId} {s : Nat} {xs : List Value} (hl : xs.length = m * s) : ∀ v H u C, (HeldR b xs e).P v H u C → SlV e s xs m true (.slice (some ⟨b, 0, none⟩) m m) (joinH H u C) := fun _ H u C ⟨hb, hC⟩ =>
  ⟨hl, .inr ⟨b, 0, m, _, _, _, rfl, (joinH_in ((hC b).2 rfl)).trans hb, by simp, Nat.le_refl _, fun _ => rfl⟩⟩
/-- A call to which is lent what a slot beside its operands owns. -/
theorem ok_callLendG (L : Tabs P) (q : Nat) {r : Res} {Φ : Heap → Prop} {o : Oper} {d f : Nat} {args : Array Operand} {at_ : Array TypeId} {cap : List Value} {c : Value} {fo : Operand}
    (hop : o.op = .call { callee := .value fo, args := args, argTypes := at_ }) (hd : o.dst = some d) (hn : d < n) (hg : gK ops κ o = some true)
    (hf : evK κ fo = some (.func (.func f) #[] cap.toArray)) (hfn : L.fn f = some ()) (hq : κ q = some (.own r)) (hm : opsHas q o.op.operands.toList = false) (hl : ∀ v H u C, r.P v H u C → Φ (joinH H u C))
    (h : ∀ u H, H.Le (hp u) → B.Le H → Φ H → Args κ H args.toList [] (fun vs => Ret P f (vs ++ cap) u H (fun v _ => v = c))) :
    StepOKR P F B n ops O κ o q d (.is c) := by
  rintro κ' a u hlk hqk ⟨H, fp, hh⟩
  unfold After
  rw [if_pos (wanted_gK hh hlk hg)]
  have e := hh.env hlk
  have hfe : a.eval fo = .func (.func f) #[] cap.toArray := e.is_ fo _ (by simp [hop, Op.operands, Call.operands]) hf
  obtain ⟨hown, hM⟩ := hh.slot q _ (hqk.trans hq)
  have hle : H.Le (joinH H u (fp q)) := joinH_le fun k hk => (hM k hk).2.1
  have hqo : ∀ t, Operand.tmp t ∈ o.op.operands → t ≠ q := fun t ht e => by
    subst e
    have : opsHas t o.op.operands.toList = true := List.any_eq_true.2 ⟨Operand.tmp t, by simpa using ht, Nat.beq_refl t⟩
    rw [this] at hm; cases hm
  have e1 : Env F B O κ o a u (joinH H u (fp q)) fp := by
    refine ⟨e.is_, fun t ψ ht hk => ?_, fun t r' ht hk => ?_, joinH_sub hh.sub, fun k v hv => hle _ _ (hh.base _ _ hv), fun y hy => ?_, hh.keep⟩
    · have hk' : κ' t = some (.sat ψ) := (hlk t (looks_of ht)).trans hk
      exact hh.mono t _ hk' _ _ _ (e.sat_ t ψ ht hk) hle
    · obtain ⟨h1, h2⟩ := e.own_ t r' ht hk
      have hk' : κ' t = some (.own r') := (hlk t (looks_of ht)).trans hk
      refine ⟨r'.st h1 hle (joinH_sub hh.sub) ⟨rfl, rfl, rfl, Nat.le_refl _, Nat.le_refl _⟩ fun _ _ => rfl, fun k hk2 => ?_⟩
      obtain ⟨g1, g2, g3, g4⟩ := h2 k hk2
      exact ⟨g1, (joinH_out (hh.owns t q r' _ (hqo t ht) hk' (hqk.trans hq) k hk2)).trans g2, g3, g4⟩
    · obtain ⟨h1, h2, h3⟩ := e.boxes y hy
      exact ⟨h1, (joinH_out fun hc => (hM _ hc).2.2.2 y hy rfl).trans h2, h3⟩
  have hc := Args.use e1 args.toList [] (fun x hx => by simp [hop, Op.operands, Call.operands] at hx ⊢; exact .inr hx) (h u (joinH H u (fp q)) e1.sub e1.base (hl _ _ _ _ hown))
  simp only [List.reverse_nil, List.nil_append] at hc
  rw [run_call L hop hfe hfn]
  simp only [Upon]
  refine Calls.mono hc fun e' u' hp => ?_
  obtain ⟨v, rfl, H', g', hv⟩ := hp
  refine ⟨v, rfl, ?_⟩
  simp only [hd]
  have g2 : Grow noL u H u' H := ⟨g'.keep, fun k x hx => by
    have h1 := hh.sub _ _ hx
    exact (g'.keep.block k (size_of_heap h1) fun h => h).trans h1, Heap.Le.refl _, fun _ _ _ => rfl⟩
  exact ⟨H, fp, (hh.grow g2).put (k := .is c) hn trivial hv⟩
theorem ok_loadHA (L : Tabs P) {x : Operand} {q b : Nat} {t t' : TypeId} {s off : Nat} {cs vs : List Value} (hx : evK κ x = some (.pointer (some ⟨b, off, none⟩))) (hq : κ q = some (.own (HeldR b cs t'))) (hn : Nat.blt d n = true) (hg : gK ops κ ⟨some d, .load t x, ty, pos, aft, g⟩ = some true)
    (hl : L.ld t = some (true, s)) (hlen : vs.length = s) (hc : ∃ r, cs.drop off = vs ++ r) : StepOKR P F B n ops O κ ⟨some d, .load t x, ty, pos, aft, g⟩ q d (.is (.agg vs.toArray)) := by
  rintro κ' a u hlk hqk ⟨H, fp, hh⟩
  unfold After
  rw [if_pos (wanted_gK hh hlk hg)]
  have e := hh.env hlk
  have h1 := e.is_ x _ (by simp [Op.operands]) hx
  obtain ⟨⟨h2, hC⟩, hM⟩ := hh.slot q _ (hqk.trans hq)
  obtain ⟨r, hc⟩ := hc
  have hrun : (execOp a.eval ⟨some d, .load t x, ty, pos, aft, g⟩).run P u = .ok (.value (.agg vs.toArray)) u := by
    simp only [execOp, h1, Instr.loadAt, Instr.sureAddr, Sem.run_bind, Sem.run_pure, Result.andThen_ok]
    rw [run_loadVar_agg (Tabs.ld_spec hl) u _ vs hlen (fun j v hj => by
      have h3 : cs[off + j]? = some v := by
        have := congrArg (·[j]?) hc
        simp only [List.getElem?_drop] at this
        rw [this, List.getElem?_append_left (by
          rcases Nat.lt_or_ge j vs.length with h | h
          · exact h
          · rw [List.getElem?_eq_none h] at hj; cases hj)]
        exact hj
      show u.cell? (Addr.add ⟨b, off, none⟩ j) = some v
      have : Addr.add ⟨b, off, none⟩ j = ⟨b, off + j, none⟩ := by simp [Addr.add]
      rw [this, cell_of_heap h2]; simpa using h3)]
    rfl
  rw [hrun]
  simp only [Upon]
  exact ⟨H, fp, hh.put (k := .is (.agg vs.toArray)) (blt_lt hn) trivial rfl⟩
theorem ok_loadH1 (L : Tabs P) {x : Operand} {q b : Nat} {t t' : TypeId} {s off : Nat} {cs r : List Value} {v : Value} (hx : evK κ x = some (.pointer (some ⟨b, off, none⟩))) (hq : κ q = some (.own (HeldR b cs t'))) (hn : Nat.blt d n = true) (hg : gK ops κ ⟨some d, .load t x, ty, pos, aft, g⟩ = some true)
    (hl : L.ld t = some (false, s)) (hc : cs.drop off = v :: r) : StepOKR P F B n ops O κ ⟨some d, .load t x, ty, pos, aft, g⟩ q d (.is v) := by
  rintro κ' a u hlk hqk ⟨H, fp, hh⟩
  unfold After
  rw [if_pos (wanted_gK hh hlk hg)]
  have e := hh.env hlk
  have h1 := e.is_ x _ (by simp [Op.operands]) hx
  obtain ⟨⟨h2, hC⟩, hM⟩ := hh.slot q _ (hqk.trans hq)
  have h3 : cs[off]? = some v := by
    have := congrArg (·[0]?) hc
    simpa using this
  have hrun : (execOp a.eval ⟨some d, .load t x, ty, pos, aft, g⟩).run P u = .ok (.value v) u := by
    simp only [execOp, h1, Instr.loadAt, Instr.sureAddr, Sem.run_bind, Sem.run_pure, Result.andThen_ok]
    rw [run_loadVar_one (Tabs.ld_spec hl) u _ v (by rw [cell_of_heap h2]; simpa using h3)]
    rfl
  rw [hrun]
  simp only [Upon]
  exact ⟨H, fp, hh.put (k := .is v) (blt_lt hn) trivial rfl⟩
theorem ok_storeH (L : Tabs P) {t t' : TypeId} {ag : Bool} {z b off q : Nat} {p x : Operand} {v : Value} {cs cs' : List Value} (hg : gK ops κ ⟨none, .store t p x, ty, pos, aft, g⟩ = some true) (hp : evK κ p = some (.pointer (some ⟨b, off, none⟩))) (hq : κ q = some (.own (HeldR b cs t'))) (hx : evK κ x = some v)
    (hl : L.ld t = some (ag, z)) (hlen : (cellsL v).length = z) (hcs : Nat.ble (off + z) cs.length = true) (hpl : (cellsL v).all plainV = true) (hr : cs.take off ++ (cellsL v ++ cs.drop (off + z)) = cs') :
    StepOKS P F B n ops O κ ⟨none, .store t p x, ty, pos, aft, g⟩ q (.own (HeldR b cs' t')) := by
  rintro κ' a u hlk hqk ⟨H, fp, hh⟩
  subst hr
  unfold After
  rw [if_pos (wanted_gK hh hlk hg)]
  have e := hh.env hlk
  have hev := e.is_ x v (by simp [Op.operands]) hx
  have hes := e.is_ p _ (by simp [Op.operands]) hp
  have hqs := hqk.trans hq
  obtain ⟨⟨hb, hC⟩, hM⟩ := hh.slot q _ hqs
  have hrun : (execOp a.eval ⟨none, .store t p x, ty, pos, aft, g⟩).run P u = .ok .skip (u.setRow b (cs.take off ++ (cellsL v ++ cs.drop (off + z))).toArray) := by
    simp only [execOp, hes, hev, Instr.storeAt, Instr.sureAddr, Sem.run_bind, Sem.run_pure, Result.andThen_ok]
    have := run_storeVar_at (P := P) (off := off) (Tabs.ld_spec hl) hb hlen (Nat.le_of_ble_eq_true hcs) hpl
    rw [this]
    simp
  rw [hrun]
  simp only [Upon, Act.put]
  have hset := setRow_heap u b cs.toArray (cs.take off ++ (cellsL v ++ cs.drop (off + z))).toArray t' (0, 0) hb
  have hbm := hM b ((hC b).2 rfl)
  have := hh.usePut (d := q) (a' := a) (r' := HeldR b (cs.take off ++ (cellsL v ++ cs.drop (off + z))) t') (C := fun k => k = b) hqs (grow_setRow hh.sub hb ((hC b).2 rfl) hbm.2.1 _) rfl rfl (fun _ _ => rfl) ⟨hset, fun _ => Iff.rfl⟩ (fun k hk => by
    subst hk; exact ⟨.inl ((hC k).2 rfl), by rw [setRow_size]; exact hbm.1, hbm.2.1⟩)
  rw [upd_upd] at this
  exact ⟨H, _, this⟩
/-- The block of an owned slice is held beside its slot. -/
theorem V_holdE (t q : Nat) {e : TypeId} {s m : Nat} {xs : List Value} {c : Code} (hm : 0 < m) (hk : κ t = some (.own (SlE e s m xs)))
    (h : ∀ b, xs.length = m * s → V P F B n O (upd (upd (upd κ t nilK) q (.own (HeldR b xs e))) t (.is (.slice (some ⟨b, 0, none⟩) m m))) c Q) : V P F B n O κ c Q := fun a u hh => by
  obtain ⟨H, fp, hh⟩ := hh
  obtain ⟨⟨hl, hv⟩, hM⟩ := hh.slot t _ hk
  rcases hv with ⟨h0, _, _⟩ | ⟨b, hv, hb, h4, hC⟩
  · omega
  · have h2 := hh.usePut (d := q) (a' := a) (r' := HeldR b xs e) (C := fp t) hk ⟨Keep.refl _ _, hh.sub, Heap.Le.refl _, fun _ _ _ => rfl⟩ rfl rfl (fun _ _ => rfl) ⟨hb, hC⟩ fun k hk => ⟨.inl hk, (hM k hk).1, (hM k hk).2.1⟩
    have h3 := h2.name t
    rw [hv] at h3
    exact h b hl a u ⟨H, _, h3⟩
theorem SlE.shape {e : TypeId} {s m : Nat} {xs : List Value} : ∀ v H u C, (SlE e s m xs).P v H u C → ∃ p, v = .slice p m m := fun v _ _ _ ⟨_, h⟩ => by
  rcases h with ⟨rfl, rfl, _⟩ | ⟨b, rfl, _⟩
  · exact ⟨_, rfl⟩
  · exact ⟨_, rfl⟩
/-! ### what is held being known by what it satisfies -/
def HeldX (b : Nat) (ty : TypeId) (Φ : List Value → Heap → Prop) (hΦ : MonoX Φ) : Res := ExR (fun cs => HeldR b cs ty) Φ hΦ
theorem ok_loadXA (L : Tabs P) {x : Operand} {q b : Nat} {t t' : TypeId} {s off : Nat} {vs : List Value} {Φ : List Value → Heap → Prop} {hΦ : MonoX Φ} (hx : evK κ x = some (.pointer (some ⟨b, off, none⟩))) (hq : κ q = some (.own (HeldX b t' Φ hΦ))) (hn : Nat.blt d n = true) (hg : gK ops κ ⟨some d, .load t x, ty, pos, aft, g⟩ = some true)
    (hl : L.ld t = some (true, s)) (hlen : vs.length = s) (hc : ∀ cs H, Φ cs H → ∃ r, cs.drop off = vs ++ r) : StepOKR P F B n ops O κ ⟨some d, .load t x, ty, pos, aft, g⟩ q d (.is (.agg vs.toArray)) := by
  rintro κ' a u hlk hqk ⟨H, fp, hh⟩
  unfold After
  rw [if_pos (wanted_gK hh hlk hg)]
  have e := hh.env hlk
  have h1 := e.is_ x _ (by simp [Op.operands]) hx
  obtain ⟨⟨cs, hcs, h2, hC⟩, hM⟩ := hh.slot q _ (hqk.trans hq)
  obtain ⟨r, hc⟩ := hc cs H hcs
  have hrun : (execOp a.eval ⟨some d, .load t x, ty, pos, aft, g⟩).run P u = .ok (.value (.agg vs.toArray)) u := by
    simp only [execOp, h1, Instr.loadAt, Instr.sureAddr, Sem.run_bind, Sem.run_pure, Result.andThen_ok]
    rw [run_loadVar_agg (Tabs.ld_spec hl) u _ vs hlen (fun j v hj => by
      have h3 : cs[off + j]? = some v := by
        have := congrArg (·[j]?) hc
        simp only [List.getElem?_drop] at this
        rw [this, List.getElem?_append_left (by
          rcases Nat.lt_or_ge j vs.length with h | h
          · exact h
          · rw [List.getElem?_eq_none h] at hj; cases hj)]
        exact hj
      show u.cell? (Addr.add ⟨b, off, none⟩ j) = some v
      have : Addr.add ⟨b, off, none⟩ j = ⟨b, off + j, none⟩ := by simp [Addr.add]
      rw [this, cell_of_heap h2]; simpa using h3)]
    rfl
  rw [hrun]
  simp only [Upon]
  exact ⟨H, fp, hh.put (k := .is (.agg vs.toArray)) (blt_lt hn) trivial rfl⟩
/-- What is stored is known by what it satisfies. -/
def StP (Φ : List Value → Heap → Prop) (φ : Value → Heap → Prop) (off z : Nat) : List Value → Heap → Prop := fun cs' H => ∃ cs v, Φ cs H ∧ φ v H ∧ cs' = cs.take off ++ (cellsL v ++ cs.drop (off + z))
theorem StP.mono {Φ : List Value → Heap → Prop} {φ : Value → Heap → Prop} {off z : Nat} (h1 : MonoX Φ) (h2 : Kn.mono (.sat φ)) : MonoX (StP Φ φ off z) := fun _ _ _ ⟨cs, v, a1, a2, a3⟩ hle => ⟨cs, v, h1 _ _ _ a1 hle, h2 _ _ _ a2 hle, a3⟩
theorem ok_storeXX (L : Tabs P) {t t' : TypeId} {ag : Bool} {z b off q w : Nat} {p : Operand} {φ : Value → Heap → Prop} {Φ : List Value → Heap → Prop} {hΦ : MonoX Φ} (hm : Kn.mono (.sat φ)) (hg : gK ops κ ⟨none, .store t p (.tmp w), ty, pos, aft, g⟩ = some true) (hp : evK κ p = some (.pointer (some ⟨b, off, none⟩))) (hq : κ q = some (.own (HeldX b t' Φ hΦ))) (hx : κ w = some (.sat φ))
    (hl : L.ld t = some (ag, z)) (hv : ∀ v H, φ v H → (cellsL v).length = z ∧ (cellsL v).all plainV = true) (hcs : ∀ cs H, Φ cs H → off + z ≤ cs.length) :
    StepOKS P F B n ops O κ ⟨none, .store t p (.tmp w), ty, pos, aft, g⟩ q (.own (HeldX b t' (StP Φ φ off z) (StP.mono hΦ hm))) := by
  rintro κ' a u hlk hqk ⟨H, fp, hh⟩
  unfold After
  rw [if_pos (wanted_gK hh hlk hg)]
  have e := hh.env hlk
  have hev := e.sat_ w φ (by simp [Op.operands]) hx
  have hes := e.is_ p _ (by simp [Op.operands]) hp
  have hqs := hqk.trans hq
  obtain ⟨⟨cs, hcs', hb, hC⟩, hM⟩ := hh.slot q _ hqs
  have hlc := hcs cs H hcs'
  generalize hv' : a.eval (.tmp w) = v at hev
  obtain ⟨hlen, hpl⟩ := hv v H hev
  have hrun : (execOp a.eval ⟨none, .store t p (.tmp w), ty, pos, aft, g⟩).run P u = .ok .skip (u.setRow b (cs.take off ++ (cellsL v ++ cs.drop (off + z))).toArray) := by
    simp only [execOp, hes, hv', Instr.storeAt, Instr.sureAddr, Sem.run_bind, Sem.run_pure, Result.andThen_ok]
    have := run_storeVar_at (P := P) (off := off) (Tabs.ld_spec hl) hb hlen hlc hpl
    rw [this]
    simp
  rw [hrun]
  simp only [Upon, Act.put]
  have hset := setRow_heap u b cs.toArray (cs.take off ++ (cellsL v ++ cs.drop (off + z))).toArray t' (0, 0) hb
  have hbm := hM b ((hC b).2 rfl)
  have := hh.usePut (d := q) (a' := a) (r' := HeldX b t' (StP Φ φ off z) (StP.mono hΦ hm)) (C := fun k => k = b) hqs (grow_setRow hh.sub hb ((hC b).2 rfl) hbm.2.1 _) rfl rfl (fun _ _ => rfl) ⟨_, ⟨cs, v, hcs', hev, rfl⟩, hset, fun _ => Iff.rfl⟩ (fun k hk => by
    subst hk; exact ⟨.inl ((hC k).2 rfl), by rw [setRow_size]; exact hbm.1, hbm.2.1⟩)
  rw [upd_upd] at this
  exact ⟨H, _, this⟩
theorem V_holdX (t q : Nat) {cs : List Value} {ty : TypeId} {c : Code} (hk : κ t = some (.own (Cell cs ty))) (h : ∀ b, V P F B n O (upd (upd (upd κ t nilK) q (.own (HeldX b ty (fun c _ => c = cs) (fun _ _ _ h _ => h)))) t (.is (.pointer (some ⟨b, 0, none⟩)))) c Q) : V P F B n O κ c Q := fun a u hh => by
  obtain ⟨H, fp, hh⟩ := hh
  obtain ⟨⟨b, hv, hb, hC⟩, hM⟩ := hh.slot t _ hk
  have h2 := hh.usePut (d := q) (a' := a) (r' := HeldX b ty (fun c _ => c = cs) (fun _ _ _ h _ => h)) (C := fp t) hk ⟨Keep.refl _ _, hh.sub, Heap.Le.refl _, fun _ _ _ => rfl⟩ rfl rfl (fun _ _ => rfl) ⟨cs, rfl, hb, hC⟩ fun k hk => ⟨.inl hk, (hM k hk).1, (hM k hk).2.1⟩
  have h3 := h2.name t
  rw [hv] at h3
  exact h b a u ⟨H, _, h3⟩
theorem V_releaseX (t q : Nat) {b : Nat} {ty : TypeId} {Φ : List Value → Heap → Prop} {hΦ : MonoX Φ} {c : Code} (hk : κ q = some (.own (HeldX b ty Φ hΦ))) (ht : κ t = some (.is (.pointer (some ⟨b, 0, none⟩)))) (hne : t ≠ q) (h : ∀ cs H, Since F B H → Φ cs H → V P F H n O (upd (upd (upd κ q (.own (HeldR b cs ty))) q nilK) t (.own (Cell cs ty))) c Q) : V P F B n O κ c Q :=
  V_opnX q hk fun cs H hs hcs => V_release t q (upd_same _ _ _) ((upd_other _ _ hne).trans ht) (h cs H hs hcs)
/-! ### what is appended to nothing; a call to which is shown what a slot owns -/
theorem ok_append0 (L : Tabs P) {t e : TypeId} {x y : Operand} {s by_ m : Nat} {news : List Value} (hn : Nat.blt d n = true) (hg : gK ops κ ⟨some d, .call ⟨.builtin .append, #[x, y], #[t, t]⟩, ty, pos, aft, g⟩ = some true)
    (hx : evK κ x = some (.slice none 0 0)) (hy : Apd F B O κ y m news) (ht : L.sl t = some e) (he : elI P e = some (s, by_)) (hl : news.length = m * s) (h1 : news.all plainV = true) (hb : m * by_ ≤ 140737488355328) (h63 : m ≤ 9223372036854775807) :
    StepOK P F B n ops O κ ⟨some d, .call ⟨.builtin .append, #[x, y], #[t, t]⟩, ty, pos, aft, g⟩ d (.own (SlR e s m news)) := by
  rintro κ' a u hlk ⟨H, fp, hh⟩
  unfold After
  rw [if_pos (wanted_gK hh hlk hg)]
  have en := hh.env hlk
  obtain ⟨i, z, hi, hz, hs1, hs2, hs3, hs4⟩ := elI_spec he
  have hxe := en.is_ x _ (by simp [Op.operands, Call.operands]) hx
  obtain ⟨x', u', C', hr, hown', hgr, hC'⟩ := appendR (C := noL) (xs := []) (nn := 0) (x := .slice none 0 0) u (aty := ty) (Tabs.sl_spec ht) hi hz hs1 hs2 hs3 hs4 hh.sub ⟨by simp, .inl ⟨rfl, rfl, fun _ h => h⟩⟩ (fun k hk => hk.elim) (hy _ a u H fp (by simp [Op.operands, Call.operands]) en) hl (fun v hv => plain_one (List.all_eq_true.1 h1 v hv)) (by omega) (by rw [Nat.zero_add]; exact hb)
  rw [Nat.zero_add, List.nil_append] at hown'
  have hrun : (execOp a.eval ⟨some d, .call ⟨.builtin .append, #[x, y], #[t, t]⟩, ty, pos, aft, g⟩).run P u = .ok (.value x') u' := by
    simp only [execOp, resolve, invoke, builtin, Sem.run_bind, Sem.run_pure, Result.andThen_ok, List.map_toArray, List.map_cons, List.map_nil, hxe, hr]
  rw [hrun]
  simp only [Upon]
  have h2 := hh.grow hgr
  refine ⟨H, _, h2.putR (C := C') (by simp [Act.put]) rfl (fun t ht => eval_put_other ht) (by rw [eval_put_same (by rw [hh.size]; exact blt_lt hn)]; exact hown') (fun k hk => ?_) fun t r' _ ht k hf hk => ?_⟩
  · obtain ⟨h3, h4, h5⟩ := hC' k hk
    have h3' : u.heap.size ≤ k := h3.resolve_left fun h => h
    exact ⟨h4, h5, .inl (Nat.le_trans hh.keep.size h3'), fun y hy e => by have := size_of_heap (hh.boxes y hy).1; omega⟩
  · have h3' : u.heap.size ≤ k := (hC' k hk).1.resolve_left fun h => h
    have := ((hh.slot t _ ht).2 k hf).1
    omega
theorem ok_callPub (L : Tabs P) {q : Nat} {e : TypeId} {s m : Nat} {xs : List Value} {o : Oper} {d f : Nat} {args : Array Operand} {at_ : Array TypeId} {cap : List Value} {ψ : Value → Heap → Prop} {fo : Operand}
    (hop : o.op = .call { callee := .value fo, args := args, argTypes := at_ }) (hd : o.dst = some d) (hn : d < n) (hg : gK ops (upd κ q (.sat (SlV e s xs m false))) o = some true)
    (hf : evK (upd κ q (.sat (SlV e s xs m false))) fo = some (.func (.func f) #[] cap.toArray)) (hfn : L.fn f = some ()) (hq : κ q = some (.own (SlR e s m xs))) (hm : Kn.mono (.sat ψ))
    (h : ∀ u H, H.Le (hp u) → B.Le H → Below F.w0.heap.size F.w0 F.w0 → Args (upd κ q (.sat (SlV e s xs m false))) H args.toList [] (fun vs => Ret P f (vs ++ cap) u H ψ)) :
    StepOK2 P F B n ops O κ o q (.sat (SlV e s xs m false)) d (.sat ψ) := by
  intro κ' a u hlk hks hh
  have h1 := hh.pubR (hks.trans hq)
  refine ok_call L hop hd hn hg hf hfn hm h (upd κ' q (.sat (SlV e s xs m false))) a u (fun t ht => ?_) h1
  by_cases htq : t = q
  · subst htq; rw [upd_same, upd_same]
  · rw [upd_other _ _ htq, upd_other _ _ htq]; exact hlk t ht
end
end Go.V
