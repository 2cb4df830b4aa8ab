/- a region that draws its order, all of whose operations tell a known value in every world that meets S (calls too): it is walked once, in the text's order -/
import Derived.Test.YtmnkackkeppheaaGreatPkBase
import Derived.Deep.RegionHeld
namespace Esch
open Go

section
variable {P : Program} {ops : Array Oper} {Q : Exit → Act → World → Prop} {md : Region.Mode} {S : World → Prop}
def dstIs (ops : Array Oper) (i d : Nat) : Bool := ((ops[i]?).bind (·.dst)) == some d
/-- nobody looks at what does not come ahead of him for sure; no temporary is written twice -/
def rkFlat (md : Region.Mode) (ops : Array Oper) : Bool := (List.range ops.size).all fun j => match ops[j]? with
  | none => true
  | some o => o.after.all (fun e => !Region.binds md e || decide (e.on < j)) &&
    ((o.looksAt ops).all (fun d => (List.range ops.size).all fun i => !dstIs ops i d || (decide (i < j) && o.after.any (fun e => Region.binds md e && e.on == i))) &&
    (match o.dst with | none => true | some k => (List.range j).all fun i => !dstIs ops i k))
theorem dstIs_of {i d : Nat} {o : Oper} (h : ops[i]? = some o) (hd : o.dst = some d) : dstIs ops i d = true := by simp [dstIs, h, hd]
structure RkFlat (md : Region.Mode) (ops : Array Oper) : Prop where
  back : ∀ (j : Nat) (o : Oper) (e : Edge), ops[j]? = some o → e ∈ o.after → Region.binds md e = true → e.on < j
  look : ∀ (j : Nat) (o : Oper) (d i : Nat) (o' : Oper), ops[j]? = some o → d ∈ o.looksAt ops → ops[i]? = some o' → o'.dst = some d → i < j ∧ ∃ e ∈ o.after, Region.binds md e = true ∧ e.on = i
  once : ∀ (i j : Nat) (o o' : Oper) (k : Nat), ops[i]? = some o → ops[j]? = some o' → o.dst = some k → o'.dst = some k → i = j
theorem rkFlat_spec (h : rkFlat md ops = true) : RkFlat md ops := by
  have h1 : ∀ (j : Nat) (o : Oper), ops[j]? = some o → (o.after.all (fun e => !Region.binds md e || decide (e.on < j)) &&
    ((o.looksAt ops).all (fun d => (List.range ops.size).all fun i => !dstIs ops i d || (decide (i < j) && o.after.any (fun e => Region.binds md e && e.on == i))) &&
    (match o.dst with | none => true | some k => (List.range j).all fun i => !dstIs ops i k))) = true := fun j o ho => by
    have hj : j < ops.size := (Array.getElem?_eq_some_iff.1 ho).1
    have := List.all_eq_true.1 h j (List.mem_range.2 hj)
    simpa only [ho] using this
  have honce : ∀ (i j : Nat) (o o' : Oper) (k : Nat), i < j → ops[i]? = some o → ops[j]? = some o' → o.dst = some k → o'.dst = some k → False := fun i j o o' k hij hi hj hk hk' => by
    have := h1 j o' hj
    simp only [Bool.and_eq_true, hk'] at this
    have h2 := List.all_eq_true.1 this.2.2 i (List.mem_range.2 hij)
    rw [dstIs_of hi hk] at h2
    cases h2
  refine ⟨fun j o e ho he hb => ?_, fun j o d i o' ho hd hi hk => ?_, fun i j o o' k hi hj hk hk' => ?_⟩
  · have := h1 j o ho
    simp only [Bool.and_eq_true] at this
    have h2 := Array.all_eq_true_iff_forall_mem.1 this.1 e he
    simpa [hb] using h2
  · have := h1 j o ho
    simp only [Bool.and_eq_true] at this
    have h2 := List.all_eq_true.1 (List.all_eq_true.1 this.2.1 d hd) i (List.mem_range.2 (Array.getElem?_eq_some_iff.1 hi).1)
    rw [dstIs_of hi hk] at h2
    simp only [Bool.not_true, Bool.false_or, Bool.and_eq_true, decide_eq_true_eq, Array.any_eq_true', beq_iff_eq] at h2
    obtain ⟨h3, e, he, h4, h5⟩ := h2
    exact ⟨h3, e, he, h4, h5⟩
  · rcases Nat.lt_trichotomy i j with h2 | h2 | h2
    · exact (honce i j o o' k h2 hi hj hk hk').elim
    · exact h2
    · exact (honce j i o' o k h2 hj hi hk' hk).elim
/-- what is in the temporaries when the operations of L have told their values -/
structure Agr (ops : Array Oper) (vs : Nat → Value) (a0 : Act) (L : Nat → Prop) (a : Act) : Prop where
  df : a.defers = a0.defers
  sz : a.tmps.size = a0.tmps.size
  yes : ∀ (i : Nat) (o : Oper) (k : Nat), ops[i]? = some o → o.dst = some k → L i → k < a0.tmps.size → a.tmps[k]? = some (vs i)
  no : ∀ (k : Nat), (∀ (i : Nat) (o : Oper), ops[i]? = some o → o.dst = some k → ¬ L i) → a.tmps[k]? = a0.tmps[k]?
theorem Agr.put {vs : Nat → Value} {a0 a : Act} {L L' : Nat → Prop} (hf : RkFlat md ops) (h : Agr ops vs a0 L a) {j : Nat} {o : Oper} (ho : ops[j]? = some o) (hL : ∀ i, L' i ↔ L i ∨ i = j) : Agr ops vs a0 L' (a.put o.dst (vs j)) := by
  cases hd : o.dst with
  | none =>
    refine ⟨h.df, h.sz, fun i o' k hi hk hl hs => ?_, fun k hn => h.no k fun i o' hi hk hl => hn i o' hi hk ((hL i).2 (Or.inl hl))⟩
    rcases (hL i).1 hl with hl | rfl
    · exact h.yes i o' k hi hk hl hs
    · rw [ho] at hi; cases hi; rw [hd] at hk; cases hk
  | some d =>
    have hsz : (a.put (some d) (vs j)).tmps = a.tmps.setIfInBounds d (vs j) := rfl
    refine ⟨h.df, by rw [hsz, Array.size_setIfInBounds]; exact h.sz, fun i o' k hi hk hl hs => ?_, fun k hn => ?_⟩
    · rw [hsz]
      by_cases e : k = d
      · subst e
        obtain rfl : i = j := hf.once i j o' o k hi ho hk hd
        have hb : k < a.tmps.size := by rw [h.sz]; exact hs
        simp [hb]
      · rw [Array.getElem?_setIfInBounds_ne (fun e' => e e'.symm)]
        rcases (hL i).1 hl with hl | rfl
        · exact h.yes i o' k hi hk hl hs
        · rw [ho] at hi; cases hi; rw [hd] at hk; exact absurd (Option.some.inj hk).symm e
    · have e : d ≠ k := fun e => hn j o ho (by rw [hd, e]) ((hL j).2 (Or.inr rfl))
      rw [hsz, Array.getElem?_setIfInBounds_ne e]
      exact h.no k fun i o' hi hk hl => hn i o' hi hk ((hL i).2 (Or.inl hl))
theorem Agr.same {vs : Nat → Value} {a0 a a' : Act} {L L' : Nat → Prop} (h : Agr ops vs a0 L a) (h' : Agr ops vs a0 L' a') {d : Nat} (hd : ∀ (i : Nat) (o : Oper), ops[i]? = some o → o.dst = some d → L i ∧ L' i) : a.tmps[d]? = a'.tmps[d]? := by
  by_cases hw : ∃ (i : Nat) (o : Oper), ops[i]? = some o ∧ o.dst = some d
  · obtain ⟨i, o, hi, hk⟩ := hw
    obtain ⟨h1, h2⟩ := hd i o hi hk
    by_cases hs : d < a0.tmps.size
    · rw [h.yes i o d hi hk h1 hs, h'.yes i o d hi hk h2 hs]
    · rw [Array.getElem?_eq_none (by rw [h.sz]; omega), Array.getElem?_eq_none (by rw [h'.sz]; omega)]
  · rw [h.no d fun i o hi hk _ => hw ⟨i, o, hi, hk⟩, h'.no d fun i o hi hk _ => hw ⟨i, o, hi, hk⟩]
/-- operation o tells v, whatever world meets S -/
def KStep (P : Program) (ops : Array Oper) (S : World → Prop) (o : Oper) (v : Value) (a : Act) : Prop :=
  (Region.wanted o (yielded ops a.tmps) = true ∧ ((∀ W, S W → (execOp a.eval o).run P W = .ok (.value v) W) ∨ ∀ W, S W → ∃ f args, (execOp a.eval o).run P W = .ok (.enter f args) W ∧ Calls P f args W fun e W' => e = .returned v ∧ S W')) ∨
  (Region.wanted o (yielded ops a.tmps) = false ∧ v = undef)
theorem KStep.like {o : Oper} {v : Value} {a b : Act} (h : KStep P ops S o v a) (hs : ∀ cs b, o.op ≠ .select cs b) (hl : ∀ d, d ∈ o.looksAt ops → b.tmps[d]? = a.tmps[d]?) : KStep P ops S o v b := by
  have he : execOp b.eval o = execOp a.eval o := execOp_congr o hs fun x hx => by
    cases x with
    | tmp d =>
      have := hl d (List.mem_append_left _ (List.mem_filterMap.2 ⟨.tmp d, by simpa using hx, rfl⟩))
      simp [Act.eval, this]
    | _ => rfl
  have hw : Region.wanted o (yielded ops b.tmps) = Region.wanted o (yielded ops a.tmps) := by
    unfold Region.wanted
    cases hg : o.guard with
    | none => rfl
    | some gw =>
      obtain ⟨g, want⟩ := gw
      have hy : yielded ops b.tmps g = yielded ops a.tmps g := by
        unfold yielded
        cases ht : (ops[g]?).bind (·.dst) with
        | none => rfl
        | some t =>
          have := hl t (List.mem_append_right _ (by simp [hg, ht]))
          simp [this]
      simp only [hy]
  unfold KStep
  rw [he, hw]
  exact h
theorem KStep.run {i : Nat} {o : Oper} {v : Value} {a : Act} (hi : ops[i]? = some o) (h : KStep P ops S o v a) {K : Act → World → Prop} {w : World} (hS : S w) (hK : ∀ W, S W → K (a.put o.dst v) W) : wpOp P ops Q i K a w := by
  unfold wpOp
  simp only [hi]
  rcases h with ⟨hw, h | h⟩ | ⟨hw, rfl⟩
  · simp only [hw, if_true, Oper.wp, h w hS, Oper.upon]; exact Or.inl (hK w hS)
  · obtain ⟨f, args, hr, hc⟩ := h w hS
    simp only [hw, if_true]
    refine Or.inl ?_
    unfold Oper.wp
    rw [hr]
    refine Calls.mono hc ?_
    rintro e w' ⟨rfl, hS'⟩
    exact hK w' hS'
  · simp only [hw, Bool.false_eq_true, if_false]; exact hK w hS
def seqA (ops : Array Oper) (vs : Nat → Value) (a0 : Act) : Nat → Act
  | 0 => a0
  | i + 1 => match ops[i]? with
    | some o => (seqA ops vs a0 i).put o.dst (vs i)
    | none => seqA ops vs a0 i
theorem seqA_agr (hf : RkFlat md ops) (vs : Nat → Value) (a0 : Act) : ∀ j, Agr ops vs a0 (fun i => i < j) (seqA ops vs a0 j)
  | 0 => ⟨rfl, rfl, fun _ _ _ _ _ h => absurd h (Nat.not_lt_zero _), fun _ _ => rfl⟩
  | j + 1 => by
    have ih := seqA_agr hf vs a0 j
    unfold seqA
    cases ho : ops[j]? with
    | some o => exact ih.put hf ho fun i => by show i < j + 1 ↔ i < j ∨ i = j; omega
    | none =>
      have hlt : ∀ (i : Nat) (o : Oper), ops[i]? = some o → i < j + 1 → i < j := fun i o hi h => by
        rcases Nat.lt_or_eq_of_le (Nat.lt_succ_iff.1 h) with h | h
        · exact h
        · subst h; rw [ho] at hi; cases hi
      exact ⟨ih.df, ih.sz, fun i o k hi hk hl hs => ih.yes i o k hi hk (hlt i o hi hl) hs, fun k hn => ih.no k fun i o hi hk hl => hn i o hi hk (Nat.lt_succ_of_lt hl)⟩
theorem count_set_lt {l : List Bool} : ∀ {j : Nat}, l[j]? = some false → (l.set j true).count false + 1 = l.count false := by
  induction l with
  | nil => intro j h; simp at h
  | cons b l ih =>
    intro j h
    cases j with
    | zero => simp only [List.getElem?_cons_zero, Option.some.injEq] at h; subst h; simp
    | succ j =>
      simp only [List.getElem?_cons_succ] at h
      have := ih h
      simp only [List.set_cons_succ, List.count_cons]
      omega
theorem region_seq (hf : RkFlat md ops) (hns : Region.noSelect ops = true) (vs : Nat → Value) (a0 : Act) (hk : ∀ (i : Nat) (o : Oper), ops[i]? = some o → KStep P ops S o (vs i) (seqA ops vs a0 i)) (hQ : ∀ W, S W → Q .normal (seqA ops vs a0 ops.size) W) :
    ∀ (n : Nat) (ls : Array Bool) (a : Act) (w : World), ls.size = ops.size → ls.toList.count false ≤ n → Agr ops vs a0 (fun i => ls.getD i false = true) a → S w → wpAny P md ops Q n ls a w := by
  have hsel := Region.noSelect_spec hns
  have hall : ∀ (ls : Array Bool) (a : Act) (w : World), ls.size = ops.size → Region.ready md ops ls = [] → Agr ops vs a0 (fun i => ls.getD i false = true) a → S w → Q .normal a w := fun ls a w hz hr ha hS => by
    have hd : ∀ j, j < ops.size → ls.getD j false = true := fun j => by
      induction j using Nat.strongRecOn with
      | ind j ih =>
        intro hj
        cases hb : ls.getD j false with
        | true => rfl
        | false =>
          have hj2 : j < ls.size := by omega
          have hm : j ∈ Region.ready md ops ls := mem_ready.2 ⟨by simpa [hj2] using hb, ops[j], Array.getElem?_eq_getElem hj, fun e he hbd => ih e.on (hf.back j _ e (Array.getElem?_eq_getElem hj) he hbd) (by have := hf.back j _ e (Array.getElem?_eq_getElem hj) he hbd; omega)⟩
          rw [hr] at hm; cases hm
    have hn := seqA_agr hf vs a0 ops.size
    have he : a = seqA ops vs a0 ops.size := by
      have h1 : a.tmps = (seqA ops vs a0 ops.size).tmps := Array.ext_getElem? fun d => ha.same hn fun i o hi _ => ⟨hd i (Array.getElem?_eq_some_iff.1 hi).1, (Array.getElem?_eq_some_iff.1 hi).1⟩
      have h2 : a.defers = (seqA ops vs a0 ops.size).defers := ha.df.trans hn.df.symm
      cases a; cases hh : seqA ops vs a0 ops.size; rw [hh] at h1 h2; simp only at h1 h2; rw [h1, h2]
    rw [he]
    exact hQ w hS
  intro n
  induction n with
  | zero =>
    intro ls a w hz hc ha hS
    have hr : Region.ready md ops ls = [] := by
      apply List.eq_nil_iff_forall_not_mem.2
      intro j hj
      obtain ⟨h1, o, ho, -⟩ := mem_ready.1 hj
      have hj2 : j < ls.size := by rw [hz]; exact (Array.getElem?_eq_some_iff.1 ho).1
      have h2 : ls.toList[j]? = some false := by simp [hj2] at h1 ⊢; exact h1
      have := count_set_lt h2
      omega
    exact ⟨hr, hall ls a w hz hr ha hS⟩
  | succ n ih =>
    intro ls a w hz hc ha hS
    refine ⟨fun hr => hall ls a w hz hr ha hS, fun j hj => ?_⟩
    obtain ⟨h1, o, ho, hdep⟩ := mem_ready.1 hj
    have hj2 : j < ls.size := by rw [hz]; exact (Array.getElem?_eq_some_iff.1 ho).1
    have h2 : ls.toList[j]? = some false := by simp [hj2] at h1 ⊢; exact h1
    have hks : KStep P ops S o (vs j) a := (hk j o ho).like (fun cs b => hsel j o cs b ho) fun d hd => ha.same (seqA_agr hf vs a0 j) fun i o' hi hki => by
      obtain ⟨h3, e, he, hb, rfl⟩ := hf.look j o d i o' ho hd hi hki
      exact ⟨hdep e he hb, h3⟩
    refine hks.run ho hS fun W hW => ih _ _ W (by simpa using hz) ?_ (ha.put hf ho fun i => ?_) hW
    · have := count_set_lt h2
      rw [Array.toList_setIfInBounds]
      omega
    · by_cases e : i = j
      · subst e; simp [hj2]
      · simp [Array.getElem?_setIfInBounds_ne (fun e' => e e'.symm), e]
/-- the walk in the text's order -/
def KWalk (P : Program) (ops : Array Oper) (S : World → Prop) (Q : Exit → Act → World → Prop) : List Oper → Act → Prop
  | [], a => ∀ W, S W → Q .normal a W
  | o :: rest, a => ∃ v, KStep P ops S o v a ∧ KWalk P ops S Q rest (a.put o.dst v)
theorem KWalk.vals : ∀ (l : List Oper) (i : Nat) (vs : Nat → Value) (a0 : Act), ops.toList.drop i = l → KWalk P ops S Q l (seqA ops vs a0 i) → (∀ (j : Nat) (o : Oper), j < i → ops[j]? = some o → KStep P ops S o (vs j) (seqA ops vs a0 j)) →
    ∃ us : Nat → Value, (∀ (j : Nat) (o : Oper), ops[j]? = some o → KStep P ops S o (us j) (seqA ops us a0 j)) ∧ ∀ W, S W → Q .normal (seqA ops us a0 ops.size) W
  | [], i, vs, a0, hl, h, hk => by
    have hi : ops.size ≤ i := by simpa using hl
    have hs : ∀ j, ops.size ≤ j → seqA ops vs a0 j = seqA ops vs a0 ops.size := fun j hj => by
      induction j with
      | zero => rw [show ops.size = 0 by omega]
      | succ j ih =>
        rcases Nat.lt_or_eq_of_le hj with h2 | h2
        · rw [← ih (by omega)]
          show (match ops[j]? with | some o => _ | none => _) = _
          rw [Array.getElem?_eq_none (by omega)]
        · rw [h2]
    exact ⟨vs, fun j o ho => hk j o (by have := (Array.getElem?_eq_some_iff.1 ho).1; omega) ho, by rw [← hs i hi]; exact h⟩
  | o :: rest, i, vs, a0, hl, h, hk => by
    obtain ⟨v, h1, h2⟩ := h
    have ho : ops[i]? = some o := by
      have := congrArg (·[0]?) hl
      simpa using this
    let us := fun j => if j = i then v else vs j
    have hu : ∀ j, j ≤ i → seqA ops us a0 j = seqA ops vs a0 j := fun j => by
      induction j with
      | zero => intro _; rfl
      | succ j ih =>
        intro hj
        show (match ops[j]? with | some o => (seqA ops us a0 j).put o.dst (us j) | none => seqA ops us a0 j) = (match ops[j]? with | some o => (seqA ops vs a0 j).put o.dst (vs j) | none => seqA ops vs a0 j)
        rw [ih (by omega), show us j = vs j from if_neg (by omega)]
    refine KWalk.vals rest (i + 1) us a0 (by rw [← List.drop_drop, hl]; rfl) ?_ fun j o' hj ho' => ?_
    · show KWalk P ops S Q rest (match ops[i]? with | some o => (seqA ops us a0 i).put o.dst (us i) | none => seqA ops us a0 i)
      rw [ho, hu i (Nat.le_refl _), show us i = v from if_pos rfl]
      exact h2
    · rcases Nat.lt_or_eq_of_le (Nat.lt_succ_iff.1 hj) with hj | rfl
      · rw [hu j (by omega), show us j = vs j from if_neg (by omega)]
        exact hk j o' hj ho'
      · rw [ho] at ho'; cases ho'
        rw [hu j (Nat.le_refl _), show us j = v from if_pos rfl]
        exact h1
theorem region_kwalk {id : Nat} {a : Act} {w : World} (hm : P.follows .mixedOrders = true) (hf : rkFlat .any ops = true) (hns : Region.noSelect ops = true) (hS : S w.drew) (h : KWalk P ops S Q ops.toList a) : (Code.region id ops true).wp P Q a w := by
  obtain ⟨us, h1, h2⟩ := KWalk.vals ops.toList 0 (fun _ => undef) a (by simp) h (fun j o hj => absurd hj (Nat.not_lt_zero _))
  refine wp_region_any hm ?_
  refine region_seq (rkFlat_spec hf) hns us a h1 h2 ops.size (Array.replicate ops.size false) a _ (by simp) (by simp) ⟨rfl, rfl, fun i o k hi hk hl hs => ?_, fun _ _ => rfl⟩ hS
  exfalso
  have hlt := (Array.getElem?_eq_some_iff.1 hi).1
  simp [hlt] at hl
theorem kw_val {o : Oper} {rest : List Oper} {a a' : Act} {v : Value} (hw : Region.wanted o (yielded ops a.tmps) = true) (hy : ∀ W, S W → (execOp a.eval o).run P W = .ok (.value v) W) (ha : a' = a.put o.dst v) (h : KWalk P ops S Q rest a') : KWalk P ops S Q (o :: rest) a := ⟨v, Or.inl ⟨hw, Or.inl hy⟩, ha ▸ h⟩
theorem kw_call {o : Oper} {rest : List Oper} {a a' : Act} {v : Value} {f : FuncId} {args : Array Value} (hw : Region.wanted o (yielded ops a.tmps) = true) (hr : ∀ W, S W → (execOp a.eval o).run P W = .ok (.enter f args) W) (hc : ∀ W, S W → Calls P f args W fun e W' => e = .returned v ∧ S W') (ha : a' = a.put o.dst v) (h : KWalk P ops S Q rest a') : KWalk P ops S Q (o :: rest) a := ⟨v, Or.inl ⟨hw, Or.inr fun W hW => ⟨f, args, hr W hW, hc W hW⟩⟩, ha ▸ h⟩
/-- as kw_val; its parts are found by the argument's default -/
theorem kwL {o : Oper} {rest : List Oper} {a a' : Act} (h : KWalk P ops S Q rest a') (hx : ∃ v, Region.wanted o (yielded ops a.tmps) = true ∧ (∀ W, S W → (execOp a.eval o).run P W = .ok (.value v) W) ∧ a' = a.put o.dst v := by (refine ⟨?_, by rfl, ?_, ?_⟩; rotate_left 1; (· intro W hSw; (try dsimp only at hSw); go_simp; try with_reducible rfl); (· simp only [Act.put, List.setIfInBounds_toArray, List.set_cons_zero, List.set_cons_succ]; rfl))) : KWalk P ops S Q (o :: rest) a := by
  obtain ⟨v, hw, hy, rfl⟩ := hx
  exact ⟨v, Or.inl ⟨hw, Or.inl hy⟩, h⟩
theorem kwU {o : Oper} {rest : List Oper} {a a' : Act} (h : KWalk P ops S Q rest a') (hx : Region.wanted o (yielded ops a.tmps) = false ∧ a' = a.put o.dst undef := by (refine ⟨by rfl, ?_⟩; simp only [Act.put, List.setIfInBounds_toArray, List.set_cons_zero, List.set_cons_succ]; rfl)) : KWalk P ops S Q (o :: rest) a := by
  obtain ⟨hw, rfl⟩ := hx
  exact ⟨undef, Or.inr ⟨hw, rfl⟩, h⟩
theorem kw_nil {a : Act} (h : ∀ W, S W → Q .normal a W) : KWalk P ops S Q [] a := h
end
end Esch
