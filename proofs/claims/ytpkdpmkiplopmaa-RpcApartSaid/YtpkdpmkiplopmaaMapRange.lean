import Derived.Test.YtpkdpmkiplopmaaMaps
import Derived.Maps.RangeWalk
import Derived.Sort.MapsRangeIn
import Derived.RangeFuncSeq
/- a range over a map that is held as a list of pairs -/
namespace Esch
open Go Go.ChangeMaps Go.MapKept

/-- a walk over the map at b, its iterator at r; 'left' is still to come -/
structure RangeAt (w : World) (b r : Nat) {K V : Type} (κ : K → Value) (ν : V → Value) (m left : List (K × V)) (es : Array MapEntry) (clock since : Nat) (seen : Array Nat) (c0 : Nat) : Prop where
  map : MapAt w b κ ν m es clock
  iter : w.heap[r]? = some (.mapIter (some b) since seen c0)
  old : ∀ x ∈ es.toList, x.born < since
  sc : since ≤ c0
  sk : since ≤ clock
  left : (leftOf es seen).toList.map (fun e => (e.key, e.val)) = left.map (fun p => (κ p.1, ν p.2))
def Ranges (w : World) (b r : Nat) {K V : Type} (κ : K → Value) (ν : V → Value) (m left : List (K × V)) : Prop := ∃ es clock since seen c0, RangeAt w b r κ ν m left es clock since seen c0

section
variable {P : Program} {K V : Type} {κ : K → Value} {ν : V → Value} {m left : List (K × V)} {w w' : World} {b r : Nat}

theorem Ranges.ne (h : Ranges w b r κ ν m left) : r ≠ b := by
  obtain ⟨es, clock, since, seen, c0, h⟩ := h
  intro e
  have h1 := h.iter
  rw [e, h.map.block] at h1
  cases h1
theorem Ranges.of_blocks (h : Ranges w b r κ ν m left) (hb : w'.heap[b]? = w.heap[b]?) (hr : w'.heap[r]? = w.heap[r]?) : Ranges w' b r κ ν m left := by
  obtain ⟨es, clock, since, seen, c0, h⟩ := h
  exact ⟨es, clock, since, seen, c0, h.map.of_block hb, hr.trans h.iter, h.old, h.sc, h.sk, h.left⟩
theorem Ranges.lt (h : Ranges w b r κ ν m left) : b < w.heap.size ∧ r < w.heap.size := by
  obtain ⟨es, clock, since, seen, c0, h⟩ := h
  exact ⟨(Array.getElem?_eq_some_iff.1 h.map.block).1, (Array.getElem?_eq_some_iff.1 h.iter).1⟩
theorem Ranges.left_eq (h : Ranges w b r κ ν m left) : w.rangeLeft b r = left.length := by
  obtain ⟨es, clock, since, seen, c0, h⟩ := h
  simp only [World.rangeLeft, h.map.block, h.iter]
  have := congrArg List.length h.left
  simpa using this
theorem Ranges.walk (h : Ranges w b r κ ν m left) : ∃ o : Obj, w.heap[r]? = some o ∧ o.isWalk = true := by
  obtain ⟨es, clock, since, seen, c0, h⟩ := h
  exact ⟨_, h.iter, rfl⟩
theorem Ranges.of_walks (h : Ranges w b r κ ν m left) (hk : KeepsWalks w w') : Ranges w' b r κ ν m left := by
  obtain ⟨es, clock, since, seen, c0, h⟩ := h
  exact ⟨es, clock, since, seen, c0, ⟨hk.same b _ h.map.block rfl, h.map.pairs, h.map.apart, h.map.born, h.map.clock⟩, hk.same r _ h.iter rfl, h.old, h.sc, h.sk, h.left⟩

theorem filter_born : ∀ (pre post : List MapEntry) (e : MapEntry), ((pre ++ e :: post).map (·.born)).Pairwise (· < ·) → (pre ++ e :: post).filter (fun x => !(x.born == e.born)) = pre ++ post
  | [], post, e, h => by
    simp only [List.nil_append, List.map_cons, List.pairwise_cons, List.mem_map] at h
    simp only [List.nil_append, List.filter_cons, beq_self_eq_true, Bool.not_true, Bool.false_eq_true, if_false]
    rw [List.filter_eq_self]
    intro x hx
    have := h.1 x.born ⟨x, hx, rfl⟩
    simp; omega
  | p :: pre, post, e, h => by
    simp only [List.cons_append, List.map_cons, List.pairwise_cons, List.mem_map] at h
    have h1 := h.1 e.born ⟨e, by simp, rfl⟩
    have : (p.born == e.born) = false := by simp; omega
    simp only [List.cons_append, List.filter_cons, this, Bool.not_false, if_true]
    rw [filter_born pre post e h.2]

/-- the walk begins -/
theorem MapAt.range {mt kt et : TypeId} {es : Array MapEntry} {clock : Nat} (h : MapAt w b κ ν m es clock) (ht : P.underlying mt = some (.map kt et)) :
    ∃ w', (Instr.range mt (.map (some b))).run P w = .ok (.pointer (some ⟨w.heap.size, 0, none⟩)) w' ∧ Ranges w' b w.heap.size κ ν m m ∧ w' = w.alloc (.mapIter (some b) clock #[] clock) := by
  have hlt := (Array.getElem?_eq_some_iff.1 h.block).1
  refine ⟨_, run_range_map w mt kt et b es clock ht h.block, ⟨es, clock, clock, #[], clock, h.of_block ((MapKept.heap_alloc w _).2 b hlt), (MapKept.heap_alloc w _).1, h.clock, Nat.le_refl _, Nat.le_refl _, ?_⟩, rfl⟩
  rw [show leftOf es #[] = es from by simp [leftOf]]
  exact h.pairs

/-- the step -/
theorem Ranges.next (h : Ranges w b r κ ν m left) (ty : TypeId) :
    (left = [] ∧ (Instr.next (.pointer (some ⟨r, 0, none⟩)) false ty).run P w = .ok (.tuple #[.bool false]) w) ∨
    ∃ pre k v post w', left = pre ++ (k, v) :: post ∧ (Instr.next (.pointer (some ⟨r, 0, none⟩)) false ty).run P w = .ok (.tuple #[.bool true, κ k, ν v]) w' ∧ Ranges w' b r κ ν m (pre ++ post) ∧
      w.grownBy w' (some r) ∧ w'.heap.size = w.heap.size ∧ (Instr.entry (.pointer (some ⟨r, 0, none⟩))).run P w' = .ok (.tuple #[κ k, ν v]) w' := by
  have hne := h.ne
  obtain ⟨es, clock, since, seen, c0, h⟩ := h
  rcases run_next_at (P := P) w ty r b since c0 seen es clock h.iter h.map.block h.old h.sc with ⟨h0, hrun⟩ | ⟨e, he, w1, hal, hrun⟩
  · refine Or.inl ⟨?_, hrun⟩
    have h1 := congrArg List.length h.left
    simp only [List.length_map, Array.length_toList, h0] at h1
    exact List.length_eq_zero_iff.1 h1.symm
  · have hem : e ∈ es.toList := (mem_left he).1
    have hr1 : w1.heap[r]? = some (.mapIter (some b) since seen c0) := by rcases hal with rfl | rfl <;> exact h.iter
    have hb1 : w1.heap[b]? = w.heap[b]? := by rcases hal with rfl | rfl <;> rfl
    have hset := heap_set (o' := .mapIter (some b) since (seen.push e.born) clock) hr1
    have hb' : (setBlock w1 r (.mapIter (some b) since (seen.push e.born) clock)).heap[b]? = w.heap[b]? := (hset.2 b (fun e1 => hne e1.symm)).trans hb1
    obtain ⟨pre, post, hL⟩ := List.append_of_mem he
    have h1 := h.left
    rw [hL, List.map_append, List.map_cons] at h1
    obtain ⟨lp, lr, hl, hpre, hrest⟩ := List.map_eq_append_iff.1 h1.symm
    obtain ⟨⟨k, v⟩, lq, rfl, hkv, hpost⟩ := List.map_eq_cons_iff.1 hrest
    obtain ⟨hk, hv⟩ := Prod.mk.inj hkv
    simp only at hk hv
    rw [← hk, ← hv] at hrun
    have hborn : es.toList.map (·.born) |>.Nodup := h.map.born.imp (fun h => Nat.ne_of_lt h)
    have hleft : leftOf es (seen.push e.born) = (leftOf es seen).filter (fun x => !(x.born == e.born)) := by
      unfold leftOf
      rw [Array.filter_filter]
      congr 1
      funext x
      rw [contains_push]
      cases seen.contains x.born <;> cases (x.born == e.born) <;> rfl
    refine Or.inr ⟨lp, k, v, lq, _, hl, hrun, ⟨es, clock, since, seen.push e.born, clock, h.map.of_block hb', hset.1, h.old, h.sk, h.sk, ?_⟩, ?_, ?_, ?_⟩
    · rw [hleft, Array.toList_filter, hL, filter_born pre post e ?_, List.map_append, List.map_append, hpre, hpost]
      rw [← hL]
      have hsub : (leftOf es seen).toList.Sublist es.toList := by unfold leftOf; rw [Array.toList_filter]; exact List.filter_sublist
      exact h.map.born.sublist (hsub.map _)
    · rcases hal with rfl | rfl <;> exact ⟨rfl, rfl, rfl, by simp [setBlock], fun i _ hi => hset.2 i (fun e1 => hi (by rw [e1]))⟩
    · rcases hal with rfl | rfl <;> simp [setBlock]
    · have := run_entry_at (P := P) _ r b since seen es clock e hset.1 (hb'.trans h.map.block) hem hborn
      rw [← hk, ← hv] at this
      exact this

variable {ops : Array Oper} {rest : List Oper} {o : Oper} {a : Act} {Q : Exit → Act → World → Prop}
/-- 'range m' in a plain walk -/
theorem wpList_range_map {es : Array MapEntry} {clock : Nat} (hg : o.guard = none) (mo : Operand) (t : TypeId) (hop : o.op = Op.range t mo) (kt et : TypeId) (ht : P.underlying t = some (.map kt et)) (hm : a.eval mo = .map (some b)) (h : MapAt w b κ ν m es clock)
    (hK : ∀ w', Ranges w' b w.heap.size κ ν m m → w' = w.alloc (.mapIter (some b) clock #[] clock) → wpList P ops Q rest (a.put o.dst (.pointer (some ⟨w.heap.size, 0, none⟩))) w') : wpList P ops Q (o :: rest) a w := by
  refine wpList_plain hg fun K' hK' => ?_
  obtain ⟨w', hrun, r1, r2⟩ := h.range (P := P) ht
  unfold Oper.wp
  simp [execOp, hop, hm, hrun, Result.andThen]
  exact hK' _ _ (hK w' r1 r2)
/-- the step in a plain walk -/
theorem wpList_next_map (hg : o.guard = none) (it : Operand) (hop : o.op = Op.next it false) (hit : a.eval it = .pointer (some ⟨r, 0, none⟩)) (h : Ranges w b r κ ν m left)
    (hDone : left = [] → wpList P ops Q rest (a.put o.dst (.tuple #[.bool false])) w)
    (hMore : ∀ pre k v post w', left = pre ++ (k, v) :: post → Ranges w' b r κ ν m (pre ++ post) → w.grownBy w' (some r) → w'.heap.size = w.heap.size → (Instr.entry (.pointer (some ⟨r, 0, none⟩))).run P w' = .ok (.tuple #[κ k, ν v]) w' →
      wpList P ops Q rest (a.put o.dst (.tuple #[.bool true, κ k, ν v])) w') : wpList P ops Q (o :: rest) a w := by
  refine wpList_plain hg fun K' hK' => ?_
  unfold Oper.wp
  rcases h.next (P := P) o.type with ⟨h0, hrun⟩ | ⟨pre, k, v, post, w', hl, hrun, hR, hg', hs, hen⟩
  · simp [execOp, hop, hit, hrun, Result.andThen]
    exact hK' _ _ (hDone h0)
  · simp [execOp, hop, hit, hrun, Result.andThen]
    exact hK' _ _ (hMore pre k v post w' hl hR hg' hs hen)
end
section
variable {P : Program} {K V : Type} {κ : K → Value} {ν : V → Value} {m left : List (K × V)} {w w' : World} {b r : Nat} {F : Fence} {n : Nat}
variable {ops : Array Oper} {rest : List Oper} {o : Oper} {a : Act} {Q : Exit → Act → World → Prop}
/-- the same inside a fence -/
theorem wpListIn_range_map {es : Array MapEntry} {clock : Nat} (hg : o.guard = none) (mo : Operand) (t : TypeId) (hop : o.op = Op.range t mo) (kt et : TypeId) (ht : P.underlying t = some (.map kt et)) (hm : a.eval mo = .map (some b)) (h : MapAt w b κ ν m es clock)
    (hK : ∀ w', Ranges w' b w.heap.size κ ν m m → w' = w.alloc (.mapIter (some b) clock #[] clock) → wpListIn F n P ops Q rest (a.put o.dst (.pointer (some ⟨w.heap.size, 0, none⟩))) w') : wpListIn F n P ops Q (o :: rest) a w := by
  refine wpListIn_plain hg fun K' hK' => ?_
  obtain ⟨w', hrun, r1, r2⟩ := h.range (P := P) ht
  unfold Oper.wpIn
  refine ⟨by simp [Oper.about, hop], ?_⟩
  rw [Oper.semAt_plain F _ _ (by rw [hop]; intro c hc'; cases hc')]
  simp [execOp, hop, hm, hrun, Result.andThen]
  exact hK' _ _ (hK w' r1 r2)
theorem wpListIn_next_map (hg : o.guard = none) (it : Operand) (hop : o.op = Op.next it false) (hit : a.eval it = .pointer (some ⟨r, 0, none⟩)) (h : Ranges w b r κ ν m left)
    (hDone : left = [] → wpListIn F n P ops Q rest (a.put o.dst (.tuple #[.bool false])) w)
    (hMore : ∀ pre k v post w', left = pre ++ (k, v) :: post → Ranges w' b r κ ν m (pre ++ post) → w.grownBy w' (some r) → w'.heap.size = w.heap.size → (Instr.entry (.pointer (some ⟨r, 0, none⟩))).run P w' = .ok (.tuple #[κ k, ν v]) w' →
      wpListIn F n P ops Q rest (a.put o.dst (.tuple #[.bool true, κ k, ν v])) w') : wpListIn F n P ops Q (o :: rest) a w := by
  refine wpListIn_plain hg fun K' hK' => ?_
  unfold Oper.wpIn
  refine ⟨by simp [Oper.about, hop], ?_⟩
  rw [Oper.semAt_plain F _ _ (by rw [hop]; intro c hc'; cases hc')]
  rcases h.next (P := P) o.type with ⟨h0, hrun⟩ | ⟨pre, k, v, post, w', hl, hrun, hR, hg', hs, hen⟩
  · simp [execOp, hop, hit, hrun, Result.andThen]
    exact hK' _ _ (hDone h0)
  · simp [execOp, hop, hit, hrun, Result.andThen]
    exact hK' _ _ (hMore pre k v post w' hl hR hg' hs hen)
end
end Esch
