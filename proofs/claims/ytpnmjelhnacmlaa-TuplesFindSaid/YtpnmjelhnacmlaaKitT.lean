/- The kit's nineteenth floor: slices that are made and written to; results that are owned. -/
import Derived.Test.YtpnmjelhnacmlaaKitR
import Derived.Test.YtpnmjelhnacmlaaKitO
namespace Go.V
open Go.RowKit
/-- The cells of k zeros. -/
def zsL (P : Program) (e : TypeId) (k : Nat) : List Value := match P.info? e with
  | some i => match i.zero with
    | some z => (madeCells z.cells k).toList
    | none => []
  | none => []
theorem zsL_length {P : Program} {e : TypeId} {s by_ k : Nat} (h : elI P e = some (s, by_)) : (zsL P e k).length = k := by
  obtain ⟨i, z, hi, hz, _, _, _, _⟩ := elI_spec h
  unfold zsL
  rw [hi]; dsimp only; rw [hz]
  simp [size_madeCells]
/-- An owned slice without room behind it. -/
def SlE (e : TypeId) (s n : Nat) (xs : List Value) : Res where
  P x _ u C := xs.length = n * s ∧ ((n = 0 ∧ x = .slice none 0 0 ∧ ∀ k, ¬ C k) ∨ ∃ b, x = .slice (some ⟨b, 0, none⟩) n n ∧ u.heap[b]? = some (.cells xs.toArray e) ∧ n ≤ maxLen ∧ ∀ k, C k ↔ k = b)
  st := fun ⟨hl, h⟩ _ _ _ hk => ⟨hl, by
    rcases h with h | ⟨b, h1, h2, h3, h4⟩
    · exact .inl h
    · exact .inr ⟨b, h1, (hk b ((h4 b).2 rfl)).trans h2, h3, h4⟩⟩
theorem SlE.toR {e : TypeId} {s n : Nat} {xs : List Value} {x : Value} {H : Heap} {u : World} {C : Nat → Prop} (h : (SlE e s n xs).P x H u C) : (SlR e s n xs).P x H u C :=
  ⟨h.1, h.2.imp id fun ⟨b, h1, h2, h3, h4⟩ => ⟨b, n, [], h1, by rw [List.append_nil]; exact h2, Nat.le_refl _, h3, by rw [List.append_nil]; exact h.1, h4⟩⟩
section
variable {P : Program} {F : Fr} {B : Heap} {O : Boxes} {n : Nat} {ops : Array Oper} {κ : Kap} {d : Nat} {ty : TypeId} {pos : String} {aft : Array Edge} {g : Option (Nat × Bool)} {a : Act} {u : World} {H : Heap} {fp : Nat → Nat → Prop} {os : List Oper} {Q : Exit → Act → World → Prop} {ex : Exs}
/-- 'make([]T, c)'. -/
theorem ok_makeN (L : Tabs P) {t e : TypeId} {x y : Operand} {kl kc : IntKind} {s by_ : Nat} (c : Nat) {p q : Int} (hn : Nat.blt d n = true) (hg : gK ops κ ⟨some d, .makeSlice t x y, ty, pos, aft, g⟩ = some true) (ht : L.sl t = some e) (he : elI P e = some (s, by_))
    (hx : evK κ x = some (.int kl q)) (hy : evK κ y = some (.int kc p)) (hq : q = c) (hp : p = c) (hb : by_ * c ≤ 281474976710656) (hc : c ≤ maxLen) : StepOK P F B n ops O κ ⟨some d, .makeSlice t x y, ty, pos, aft, g⟩ d (.own (SlE e s c (zsL P e (c * s)))) := by
  rintro κ' a u hl ⟨H, fp, hh⟩
  unfold After
  rw [if_pos (wanted_gK hh hl hg)]
  have en := hh.env hl
  have hzl := zsL_length (k := c * s) he
  obtain ⟨i, z, hi, hz, hs1, hs2, hs3, hs4⟩ := elI_spec he
  have h1 := en.is_ x _ (by simp [Op.operands]) hx
  have h2 := en.is_ y _ (by simp [Op.operands]) hy
  subst hp
  subst hq
  have hb' : (i.bytes : Int) * (c : Int) ≤ 281474976710656 := by
    have h : ((by_ * c : Nat) : Int) ≤ 281474976710656 := by omega
    rw [hs2]; rwa [Int.natCast_mul] at h
  have h63 : (c : Int) ≤ 9223372036854775807 := by simp [maxLen] at hc; omega
  have hr := run_make (P := P) u t e i z (Tabs.sl_spec ht) hi hz kl kc c c (by omega) (by omega) hb' h63
  simp only [Int.toNat_natCast] at hr
  have hrun : (execOp a.eval ⟨some d, .makeSlice t x y, ty, pos, aft, g⟩).run P u = .ok (.value (.slice (some ⟨u.heap.size, 0, none⟩) c c)) (u.alloc (.cells (madeCells z.cells (c * i.size)) e)) := by
    simp only [execOp, h1, h2, Sem.run_bind, hr, Result.andThen_ok]; rfl
  rw [hrun]
  simp only [Upon]
  have hzs : zsL P e (c * s) = (madeCells z.cells (c * i.size)).toList := by
    unfold zsL
    rw [hi]; dsimp only; rw [hz, hs1]
  have hg2 := hh.grow (Grow.hid hh.sub (.cells (madeCells z.cells (c * i.size)) e))
  refine ⟨H, _, hg2.putR (C := fun k => k = u.heap.size) (by simp [Act.put]) rfl (fun t ht => eval_put_other ht) ⟨hzl, .inr ⟨u.heap.size, eval_put_same (by rw [hh.size]; exact blt_lt hn), by rw [heap_push_same, hzs], hc, fun _ => Iff.rfl⟩⟩ (fun k hk => ?_) fun t r' _ ht k hf hk => ?_⟩
  · subst hk
    exact ⟨size_of_heap (heap_push_same u _), none_of_ge hh.sub (Nat.le_refl _), .inl hh.keep.size, fun y hy e => by have := size_of_heap (hh.boxes y hy).1; omega⟩
  · have := ((hh.slot t _ ht).2 k hf).1
    omega
/-- The block of an owned slice gets a number. -/
theorem Has.boxE {t : Nat} {e : TypeId} {s m : Nat} {xs : List Value} (hm : 0 < m) (hk : κ t = some (.own (SlE e s m xs))) (h : Has F B O n κ a u) :
    ∃ b, (xs.length = m * s ∧ m ≤ maxLen) ∧ Has F B (bx b xs e :: O) n (upd κ t (.is (.slice (some ⟨b, 0, none⟩) m m))) a u := by
  obtain ⟨H, fp, h⟩ := h
  obtain ⟨⟨hl, hv⟩, hM⟩ := h.slot t _ hk
  rcases hv with ⟨h0, _, _⟩ | ⟨b, hv, hb, h4, hC⟩
  · omega
  · have := h.toBox hk hb ((hC b).2 rfl)
    rw [hv] at this
    exact ⟨b, ⟨hl, h4⟩, H, fp, this⟩
theorem Has.unboxE {t b m : Nat} {e : TypeId} {s : Nat} {xs : List Value} {O1 O2 : Boxes} (hO : O = O1 ++ bx b xs e :: O2) (hd : F.ds = []) (hk : κ t = some (.is (.slice (some ⟨b, 0, none⟩) m m))) (hl : xs.length = m * s) (h4 : m ≤ maxLen)
    (h : Has F B O n κ a u) : Has F B (O1 ++ O2) n (upd κ t (.own (SlE e s m xs))) a u := by
  obtain ⟨H, fp, h⟩ := h
  subst hO
  have hb := (h.boxes (bx b xs e) (by simp)).1
  exact ⟨H, _, h.ofBox (by rw [hd]; simp) ⟨hl, .inr ⟨b, h.slot t _ hk, hb, h4, fun _ => Iff.rfl⟩⟩⟩
theorem V_boxE (t : Nat) {e : TypeId} {s m : Nat} {xs : List Value} {c : Code} (hm : 0 < m) (hk : κ t = some (.own (SlE e s m xs)))
    (h : ∀ b, (xs.length = m * s ∧ m ≤ maxLen) → V P F B n (bx b xs e :: O) (upd κ t (.is (.slice (some ⟨b, 0, none⟩) m m))) c Q) : V P F B n O κ c Q := fun a u hh =>
  let ⟨b, h1, h'⟩ := hh.boxE hm hk; h b h1 a u h'
theorem N_unboxE (t : Nat) {b m : Nat} {e : TypeId} {s : Nat} {xs : List Value} (O1 : Boxes) {O2 : Boxes} (hO : O = O1 ++ bx b xs e :: O2) (hk : κ t = some (.is (.slice (some ⟨b, 0, none⟩) m m))) (hl : xs.length = m * s) (h4 : m ≤ maxLen)
    (h : N F B n (O1 ++ O2) (upd κ t (.own (SlE e s m xs))) Q) (hd : F.ds = [] := by rfl) : N F B n O κ Q := fun a u hh => h a u (hh.unboxE hO hd hk hl h4)
theorem V_unboxE (t : Nat) {b m : Nat} {e : TypeId} {s : Nat} {xs : List Value} (O1 : Boxes) {O2 : Boxes} {c : Code} (hO : O = O1 ++ bx b xs e :: O2) (hk : κ t = some (.is (.slice (some ⟨b, 0, none⟩) m m))) (hl : xs.length = m * s) (h4 : m ≤ maxLen)
    (h : V P F B n (O1 ++ O2) (upd κ t (.own (SlE e s m xs))) c Q) (hd : F.ds = [] := by rfl) : V P F B n O κ c Q := fun a u hh => h a u (hh.unboxE hO hd hk hl h4)
theorem ok_lenE (L : Tabs P) {q : Nat} {tt e e' : TypeId} {s m : Nat} {xs : List Value} (hn : Nat.blt d n = true) (hg : gK ops κ ⟨some d, .call ⟨.builtin .len, #[.tmp q], #[tt]⟩, ty, pos, aft, g⟩ = some true) (hx : κ q = some (.own (SlE e' s m xs))) (ht : L.sl tt = some e) :
    StepOK P F B n ops O κ ⟨some d, .call ⟨.builtin .len, #[.tmp q], #[tt]⟩, ty, pos, aft, g⟩ d (.is (.int .i64 m)) :=
  ok_pure rfl (blt_lt hn) hg trivial fun a u H fp en => ⟨_, by
    obtain ⟨⟨_, ⟨rfl, h1, _⟩ | ⟨b, h1, _⟩⟩, _⟩ := en.own_ q _ (by simp [Op.operands, Call.operands]) hx
    · simp [execOp, resolve, h1, invoke, builtin, Builtin.len_, run_underlying (Tabs.sl_spec ht), goInt]
    · simp [execOp, resolve, h1, invoke, builtin, Builtin.len_, run_underlying (Tabs.sl_spec ht), goInt], rfl⟩
theorem ok_capE (L : Tabs P) {q : Nat} {tt e e' : TypeId} {s m : Nat} {xs : List Value} (hn : Nat.blt d n = true) (hg : gK ops κ ⟨some d, .call ⟨.builtin .cap, #[.tmp q], #[tt]⟩, ty, pos, aft, g⟩ = some true) (hx : κ q = some (.own (SlE e' s m xs))) (ht : L.sl tt = some e) :
    StepOK P F B n ops O κ ⟨some d, .call ⟨.builtin .cap, #[.tmp q], #[tt]⟩, ty, pos, aft, g⟩ d (.is (.int .i64 m)) :=
  ok_pure rfl (blt_lt hn) hg trivial fun a u H fp en => ⟨_, by
    obtain ⟨⟨_, ⟨rfl, h1, _⟩ | ⟨b, h1, _⟩⟩, _⟩ := en.own_ q _ (by simp [Op.operands, Call.operands]) hx
    · simp [execOp, resolve, h1, invoke, builtin, Builtin.cap_, run_underlying (Tabs.sl_spec ht), goInt]
    · simp [execOp, resolve, h1, invoke, builtin, Builtin.cap_, run_underlying (Tabs.sl_spec ht), goInt], rfl⟩
/-- An owned slice is shown. -/
theorem Has.pubE {t : Nat} {e : TypeId} {s m : Nat} {xs : List Value} (hk : κ t = some (.own (SlE e s m xs))) (h : Has F B O n κ a u) : Has F B O n (upd κ t (.sat (SlV e s xs m true))) a u := by
  obtain ⟨H, fp, h⟩ := h
  obtain ⟨⟨hl, hv⟩, hM⟩ := h.slot t _ hk
  rcases hv with ⟨rfl, hv, hC⟩ | ⟨b, hv, hb, h4, hC⟩
  · have hx : xs = [] := List.eq_nil_of_length_eq_zero (by simpa using hl)
    subst hx
    have h2 := h.name t
    rw [hv] at h2
    have h3 : Has F B O n (upd κ t (.is (.slice none 0 0))) a u := ⟨H, fp, h2⟩
    have h4 := h3.seen (t := t) (SlV e s [] 0 true) (upd_same _ _ _) SlV.mono ⟨by simp, .inl ⟨rfl, rfl⟩⟩
    rw [upd_upd] at h4
    exact h4
  · obtain ⟨H', h'⟩ := h.pub (φ := SlV e s xs m true) hk hb ((hC b).2 rfl) SlV.mono fun H' _ hb' => ⟨hl, .inr ⟨b, 0, m, _, _, (0, 0), hv, hb', by simp, Nat.le_refl _, fun _ => rfl⟩⟩
    exact ⟨H', fp, h'⟩
theorem V_pubE (t : Nat) {e : TypeId} {s m : Nat} {xs : List Value} {c : Code} (hk : κ t = some (.own (SlE e s m xs))) (h : V P F B n O (upd κ t (.sat (SlV e s xs m true))) c Q) : V P F B n O κ c Q := fun a u hh => h a u (hh.pubE hk)
theorem N_pubE (t : Nat) {e : TypeId} {s m : Nat} {xs : List Value} (hk : κ t = some (.own (SlE e s m xs))) (h : N F B n O (upd κ t (.sat (SlV e s xs m true))) Q) : N F B n O κ Q := fun a u hh => h a u (hh.pubE hk)
theorem vo_pubE (t : Nat) {e : TypeId} {s m : Nat} {xs : List Value} (hk : κ t = some (.own (SlE e s m xs))) (h : VO P F B n O ops (upd κ t (.sat (SlV e s xs m true))) os Q) : VO P F B n O ops κ os Q := fun a u hh => h a u (hh.pubE hk)
/-- An element of a flat list turns. -/
theorem set_at {α : Type} {f : α → List Value} {s : Nat} (hf : ∀ a, (f a).length = s) (l : List α) (k m : Nat) (zs : List Value) (y : α) (hl : l.length = k) (hz : zs.length = (m - k) * s) (hk : k < m) :
    (l.flatMap f ++ zs).take (k * s) ++ (f y ++ (l.flatMap f ++ zs).drop (k * s + s)) = (l ++ [y]).flatMap f ++ zs.drop s := by
  have h1 : (l.flatMap f).length = k * s := by
    subst hl
    clear hz hk
    induction l with
    | nil => simp
    | cons x l ih => rw [List.flatMap_cons, List.length_append, hf, ih, List.length_cons, Nat.add_mul, Nat.one_mul]; omega
  have h2 : s ≤ zs.length := by rw [hz]; exact Nat.le_mul_of_pos_left _ (by omega)
  rw [← h1, List.take_left', List.drop_append]
  · rw [List.drop_eq_nil_of_le (by omega), List.nil_append, show (l.flatMap f).length + s - (l.flatMap f).length = s by omega, List.flatMap_append]
    simp
  · rfl
/-! ### results that are owned -/
/-- What is returned is the caller's. -/
def OwnP (w : World) (r : Res) (v : Value) (H : Heap) (u : World) : Prop := ∃ C : Nat → Prop, r.P v H u C ∧ ∀ k, C k → w.heap.size ≤ k ∧ k < u.heap.size ∧ H k = none
def RetO (P : Program) (f : FuncId) (args : List Value) (w : World) (B : Heap) (r : Res) : Prop := RetL P f args w B noL (OwnP w r)
theorem ok_callO (L : Tabs P) {o : Oper} {d f : Nat} {args : Array Operand} {at_ : Array TypeId} {cap : List Value} {r : Res} {fo : Operand}
    (hop : o.op = .call { callee := .value fo, args := args, argTypes := at_ }) (hd : o.dst = some d) (hn : d < n) (hg : gK ops κ o = some true)
    (hf : evK κ fo = some (.func (.func f) #[] cap.toArray)) (hfn : L.fn f = some ())
    (h : ∀ u H, H.Le (hp u) → B.Le H → Below F.w0.heap.size F.w0 F.w0 → Args κ H args.toList [] (fun vs => RetO P f (vs ++ cap) u H r)) :
    StepOK P F B n ops O κ o d (.own r) := by
  rintro κ' a u hl ⟨H, fp, hh⟩
  unfold After
  rw [if_pos (wanted_gK hh hl hg)]
  have e := hh.env hl
  have hfe : a.eval fo = .func (.func f) #[] cap.toArray := e.is_ fo _ (by simp [hop, Op.operands, Call.operands]) hf
  have hc := Args.use e args.toList [] (fun x hx => by simp [hop, Op.operands, Call.operands] at hx ⊢; exact .inr hx) (h u H e.sub e.base (Below.refl _ _))
  simp only [List.reverse_nil, List.nil_append] at hc
  rw [run_call L hop hfe hfn]
  simp only [Upon]
  refine Calls.mono hc fun e' u' hp => ?_
  obtain ⟨v, rfl, H', g', C, hv, hC⟩ := hp
  have h2 := hh.grow g'
  refine ⟨v, rfl, ?_⟩
  simp only [hd]
  refine ⟨H', _, h2.putR (C := C) (by simp [Act.put]) rfl (fun t ht => eval_put_other ht) (by rw [eval_put_same (by rw [hh.size]; exact hn)]; exact hv) (fun k hk => ?_) fun t r' _ ht k hf hk => ?_⟩
  · obtain ⟨h3, h4, h5⟩ := hC k hk
    exact ⟨h4, h5, .inl (Nat.le_trans hh.keep.size h3), fun y hy e => by have := size_of_heap (hh.boxes y hy).1; omega⟩
  · have h3 := (hC k hk).1
    have := ((hh.slot t _ ht).2 k hf).1
    omega
/-- A return, the one result being owned. -/
theorem V_retO {fn : Func} {B0 : Heap} {t : Nat} {r : Res} (hrs : fn.results = #[.tmp t]) (hQ : ∀ a u, bodyPostM Fence.wide 0 P fn (PostL F.w0 B0 F.L (OwnP F.w0 r)) .ret a u → Q .ret a u) (hs : Since F B0 B) (hk : κ t = some (.own r)) (hL : F.L = noL := by rfl) : V P F B n O κ .ret Q :=
  V_retG hQ hs fun O' a u H fp _ hh => by
    obtain ⟨hown, hM⟩ := hh.slot t _ hk
    refine ⟨a.eval (.tmp t), ?_, fp t, hown, fun k hk => ?_⟩
    · simp [results, hrs, Act.eval]
    · obtain ⟨h1, h2, h3, _⟩ := hM k hk
      refine ⟨?_, h1, h2⟩
      rcases h3 with h3 | h3
      · exact h3
      · have h3' : F.L k := h3
        rw [hL] at h3'; exact h3'.elim
theorem RetO.mono {P : Program} {f : FuncId} {args : List Value} {w : World} {B : Heap} {r r' : Res} (h : RetO P f args w B r) (hi : ∀ v H u C, r.P v H u C → r'.P v H u C) : RetO P f args w B r' :=
  RetL.mono h fun _ _ _ _ ⟨C, h1, h2⟩ => ⟨C, hi _ _ _ _ h1, h2⟩
/-! ### what is owned is lent for a call -/
open Classical in
/-- The visible heap, and what is lent. -/
noncomputable def joinH (H : Heap) (u : World) (C : Nat → Prop) : Heap := fun k => if C k then hp u k else H k
theorem joinH_in {H : Heap} {u : World} {C : Nat → Prop} {k : Nat} (h : C k) : joinH H u C k = hp u k := if_pos h
theorem joinH_out {H : Heap} {u : World} {C : Nat → Prop} {k : Nat} (h : ¬ C k) : joinH H u C k = H k := if_neg h
theorem joinH_sub {H : Heap} {u : World} {C : Nat → Prop} (h : H.Le (hp u)) : (joinH H u C).Le (hp u) := fun k v hv => by
  by_cases hc : C k
  · rwa [joinH_in hc] at hv
  · rw [joinH_out hc] at hv; exact h _ _ hv
theorem joinH_le {H : Heap} {u : World} {C : Nat → Prop} (h : ∀ k, C k → H k = none) : H.Le (joinH H u C) := fun k v hv => by
  by_cases hc : C k
  · rw [h k hc] at hv; cases hv
  · rwa [joinH_out hc]
def Lend (r : Res) (φ : Value → Heap → Prop) : Prop := ∀ x H u C, r.P x H u C → φ x (joinH H u C)
theorem lend_SlR {e : TypeId} {s m : Nat} {xs : List Value} : Lend (SlR e s m xs) (SlV e s xs m false) := fun x H u C ⟨hl, h⟩ => ⟨hl, by
  rcases h with ⟨h0, hv, _⟩ | ⟨b, cap, rest, hv, hb, h3, _, _, hC⟩
  · exact .inl ⟨h0, hv⟩
  · refine .inr ⟨b, 0, cap, _, _, _, hv, (joinH_in ((hC b).2 rfl)).trans hb, by simp, h3, fun h => by cases h⟩⟩
theorem lend_SlE {e : TypeId} {s m : Nat} {xs : List Value} : Lend (SlE e s m xs) (SlV e s xs m true) := fun x H u C ⟨hl, h⟩ => ⟨hl, by
  rcases h with ⟨h0, hv, _⟩ | ⟨b, hv, hb, h3, hC⟩
  · exact .inl ⟨h0, hv⟩
  · exact .inr ⟨b, 0, m, _, _, _, hv, (joinH_in ((hC b).2 rfl)).trans hb, by simp, Nat.le_refl _, fun _ => rfl⟩⟩
def opsHas (q : Nat) (l : List Operand) : Bool := l.any fun x => match x with | .tmp t => Nat.beq t q | _ => false
theorem opsHas_mem {q : Nat} {l : List Operand} (h : opsHas q l = true) : Operand.tmp q ∈ l := by
  obtain ⟨x, hx, h1⟩ := List.any_eq_true.1 h
  cases x with
  | tmp t => have := Nat.eq_of_beq_eq_true h1; subst this; exact hx
  | const _ => cases h1
  | global _ => cases h1
  | func _ => cases h1
theorem ok_callLend (L : Tabs P) (q : Nat) {r : Res} {φ : Value → Heap → Prop} {o : Oper} {d f : Nat} {args : Array Operand} {at_ : Array TypeId} {cap : List Value} {c : Value} {fo : Operand}
    (hop : o.op = .call { callee := .value fo, args := args, argTypes := at_ }) (hd : o.dst = some d) (hn : d < n) (hg : gK ops κ o = some true)
    (hf : evK κ fo = some (.func (.func f) #[] cap.toArray)) (hfn : L.fn f = some ()) (hq : κ q = some (.own r)) (hm : opsHas q o.op.operands.toList = true) (hl : Lend r φ) (hmo : Kn.mono (.sat φ))
    (h : ∀ u H, H.Le (hp u) → B.Le H → Below F.w0.heap.size F.w0 F.w0 → Args (upd κ q (.sat φ)) H args.toList [] (fun vs => Ret P f (vs ++ cap) u H (fun v _ => v = c))) :
    StepOK P F B n ops O κ o d (.is c) := by
  rintro κ' a u hlk ⟨H, fp, hh⟩
  unfold After
  rw [if_pos (wanted_gK hh hlk hg)]
  have e := hh.env hlk
  have hfe : a.eval fo = .func (.func f) #[] cap.toArray := e.is_ fo _ (by simp [hop, Op.operands, Call.operands]) hf
  obtain ⟨hown, hM⟩ := e.own_ q r (by simpa using opsHas_mem hm) hq
  have hle : H.Le (joinH H u (fp q)) := joinH_le fun k hk => (hM k hk).2.1
  have e1 : Env F B O (upd κ q (.sat φ)) o a u (joinH H u (fp q)) fp := by
    refine ⟨fun x v hx hv => ?_, fun t ψ ht hk => ?_, fun t r' ht hk => ?_, joinH_sub hh.sub, fun k v hv => hle _ _ (hh.base _ _ hv), fun y hy => ?_, hh.keep⟩
    · refine e.is_ x v hx ?_
      cases x with
      | tmp t =>
        simp only [evK] at hv ⊢
        by_cases htq : t = q
        · subst htq; rw [upd_same] at hv; cases hv
        · rw [upd_other _ _ htq] at hv; exact hv
      | _ => exact hv
    · by_cases htq : t = q
      · subst htq; rw [upd_same] at hk; cases hk
        exact hl _ _ _ _ hown
      · rw [upd_other _ _ htq] at hk
        have hk' : κ' t = some (.sat ψ) := (hlk t (looks_of ht)).trans hk
        exact hh.mono t _ hk' _ _ _ (e.sat_ t ψ ht hk) hle
    · by_cases htq : t = q
      · subst htq; rw [upd_same] at hk; cases hk
      · rw [upd_other _ _ htq] at hk
        obtain ⟨h1, h2⟩ := e.own_ t r' ht hk
        have hk' : κ' t = some (.own r') := (hlk t (looks_of ht)).trans hk
        have hq' : κ' q = some (.own r) := (hlk q (looks_of (by simpa using opsHas_mem hm))).trans hq
        refine ⟨r'.st h1 hle (joinH_sub hh.sub) ⟨rfl, rfl, rfl, Nat.le_refl _, Nat.le_refl _⟩ fun _ _ => rfl, fun k hk2 => ?_⟩
        obtain ⟨g1, g2, g3, g4⟩ := h2 k hk2
        exact ⟨g1, (joinH_out (hh.owns t q r' r htq hk' hq' k hk2)).trans g2, g3, g4⟩
    · obtain ⟨h1, h2, h3⟩ := e.boxes y hy
      exact ⟨h1, (joinH_out fun hc => (hM _ hc).2.2.2 y hy rfl).trans h2, h3⟩
  have hc := Args.use e1 args.toList [] (fun x hx => by simp [hop, Op.operands, Call.operands] at hx ⊢; exact .inr hx) (h u (joinH H u (fp q)) e1.sub e1.base (Below.refl _ _))
  simp only [List.reverse_nil, List.nil_append] at hc
  rw [run_call L hop hfe hfn]
  simp only [Upon]
  refine Calls.mono hc fun e' u' hp => ?_
  obtain ⟨v, rfl, H', g', hv⟩ := hp
  refine ⟨v, rfl, ?_⟩
  simp only [hd]
  have g2 : Grow noL u H u' H := ⟨g'.keep, fun k x hx => by
    have h1 := hh.sub _ _ hx
    exact (g'.keep.block k (size_of_heap h1) fun h => h).trans h1, Heap.Le.refl _, fun _ _ _ => rfl⟩
  exact ⟨H, fp, (hh.grow g2).put (k := .is c) hn trivial hv⟩
theorem RetO.toRet {P : Program} {f : FuncId} {args : List Value} {w : World} {B : Heap} {r : Res} {φ : Value → Heap → Prop} (h : RetO P f args w B r) (hl : Lend r φ) : Ret P f args w B φ :=
  Calls.mono h fun _ u ⟨v, he, H, g, C, h1, h2⟩ => ⟨v, he, joinH H u C, ⟨g.keep, joinH_sub g.sub, fun k x hx => joinH_le (fun k hk => (h2 k hk).2.2) _ _ (g.le _ _ hx), fun k hk hn => (joinH_out fun hc => by have := (h2 k hc).1; omega).trans (g.fresh k hk hn)⟩, hl _ _ _ _ h1⟩
theorem V_enterO {f : FuncId} {fn : Func} {c : Code} {args : List Value} {w : World} {B : Heap} {r : Res} (hf : P.funcs[f]? = some fn) (hb : fn.body = some c) (hn : fn.ntmps = n)
    (hs : args.length ≤ n) (hB : B.Le (hp w)) (h : V P (Fr.pure w) B n [] (argsK 0 args) c (bodyPostM Fence.wide 0 P fn (PostL w B noL (OwnP w r)))) : RetO P f args w B r :=
  calls_of_V hf hb (h _ w ⟨B, fun _ => noL, by subst hn; exact has_enter noL (fun _ h => h.elim) hs hB _⟩)
theorem Has.nilE {t : Nat} (e : TypeId) (s : Nat) (hk : κ t = some (.is (.slice none 0 0))) (h : Has F B O n κ a u) : Has F B O n (upd κ t (.own (SlE e s 0 []))) a u := by
  obtain ⟨H, fp, h⟩ := h
  exact ⟨H, _, h.putR (C := noL) rfl rfl (fun _ _ => rfl) ⟨by simp, .inl ⟨rfl, h.slot t _ hk, fun _ h => h⟩⟩ (fun _ h => h.elim) fun _ _ _ _ _ _ h => h⟩
theorem V_nilE (t : Nat) (e : TypeId) (s : Nat) {c : Code} (hk : κ t = some (.is (.slice none 0 0))) (h : V P F B n O (upd κ t (.own (SlE e s 0 []))) c Q) : V P F B n O κ c Q := fun a u hh => h a u (hh.nilE e s hk)
end
end Go.V
