import Derived.Test.YtpkdpmkiplopmaaMet
import Derived.Maps.AppendAt
import Derived.Deep.AppendLies
import Derived.WalkSpells
/- rows of the call's own that read as lists; slices.Clone -/
namespace Go.Proofs.Ytpkdpmkiplopmaa
open Go.RowKit Esch

def From (B : Nat) : Nat → Prop := fun k => B ≤ k
theorem own_ints {w : World} {B : Nat} {e : TypeId} {v : Value} {l : List Int} {n : Nat} (h : w.ownsRow B e 1 v n (l.map (Value.int .i64))) : ∃ a c, v = .slice a l.length c ∧ IntsAt (From B) w a l ∧ l.length ≤ c ∧ c ≤ 9223372036854775807 ∧ (a = none → c = 0) ∧ (∀ x, a = some x → ∃ g, x = ⟨g, 0, none⟩) := by
  obtain ⟨hl, h⟩ := h
  simp only [List.length_map, Nat.mul_one] at hl
  subst hl
  rcases h with ⟨rfl, h0⟩ | ⟨g, cap, cur, rfl, hb, hg, hc, hcm, hs, ht⟩
  · have : l = [] := List.length_eq_zero_iff.1 h0
    subst this
    exact ⟨none, 0, rfl, IntsAt.nil _ _ _, by simp, by omega, fun _ => rfl, fun x hx => by cases hx⟩
  · refine ⟨_, cap, rfl, ⟨by unfold Go.maxLen at hcm; omega, fun h0 => ⟨g, 0, rfl, hb, block_lt hg, fun i hi => ?_⟩⟩, hc, (by unfold Go.maxLen at hcm; omega), (fun h => by cases h), (fun x hx => by cases hx; exact ⟨g, rfl⟩)⟩
    have h1 : cur[i]? = some (.int .i64 (l.getD i 0)) := by
      have : (cur.toList.take (l.length * 1))[i]? = (l.map (Value.int .i64))[i]? := by rw [ht]
      rw [List.getElem?_take, if_pos (by omega), Array.getElem?_toList, List.getElem?_map, List.getElem?_eq_getElem hi] at this
      rw [this, List.getD_eq_getElem?_getD, List.getElem?_eq_getElem hi]; rfl
    rw [show (⟨g, 0 + i, none⟩ : Addr) = ⟨g, i, none⟩ by rw [Nat.zero_add]]
    simp [World.cell?, hg, h1]
theorem own_lists {w : World} {S : Nat → Prop} {B : Nat} {e : TypeId} {v : Value} {ls : List (List Int)} {n : Nat} {xs : List Value} (h : w.ownsRow B e 1 v n xs) (hn : n = ls.length)
    (hx : ∀ i, i < ls.length → ∃ ia ic, xs[i]? = some (.slice ia (ls.getD i []).length ic) ∧ IntsAt S w ia (ls.getD i []) ∧ CapOk (ls.getD i []) ic) : ∃ a c, v = .slice a ls.length c ∧ ListsAt (fun k => B ≤ k ∨ S k) w a ls := by
  obtain ⟨hl, h⟩ := h
  subst hn
  rcases h with ⟨rfl, h0⟩ | ⟨g, cap, cur, rfl, hb, hg, hc, hcm, hs, ht⟩
  · have : ls = [] := List.length_eq_zero_iff.1 h0
    subst this
    exact ⟨none, 0, rfl, ListsAt.nil _ _ _⟩
  · refine ⟨_, cap, rfl, by unfold Go.maxLen at hcm; omega, fun h0 => ⟨g, 0, rfl, Or.inl hb, block_lt hg, fun i hi => ?_⟩⟩
    obtain ⟨ia, ic, h1, h2, h3⟩ := hx i hi
    refine ⟨ia, ic, ?_, h2.sub fun k _ hk => Or.inr hk, h3⟩
    have h1' : cur[i]? = some (.slice ia (ls.getD i []).length ic) := by
      have : (cur.toList.take (ls.length * 1))[i]? = xs[i]? := by rw [ht]
      rw [List.getElem?_take, if_pos (by omega), Array.getElem?_toList, h1] at this
      exact this
    rw [show (⟨g, 0 + i, none⟩ : Addr) = ⟨g, i, none⟩ by rw [Nat.zero_add]]
    simp [World.cell?, hg, h1']
theorem IntsAt.news {w : World} {b off : Nat} {l : List Int} (h : ∀ i, i < l.length → w.cell? ⟨b, off + i, none⟩ = some (.int .i64 (l.getD i 0))) :
    ∀ j u, (l.map (Value.int .i64))[j]? = some u → w.cell? ((⟨b, off, none⟩ : Addr).add j) = some u := by
  intro j u hu
  rw [List.getElem?_map] at hu
  obtain ⟨x, hx, rfl⟩ := Option.map_eq_some_iff.1 hu
  have hj := (List.getElem?_eq_some_iff.1 hx).1
  have := h j hj
  rw [List.getD_eq_getElem?_getD, hx] at this
  unfold Addr.add
  split
  · rename_i e; subst e; simpa using this
  · simpa using this
theorem one_ints (l : List Int) : ∀ u ∈ l.map (Value.int .i64), u.oneCell' = true := by
  intro u hu
  obtain ⟨x, -, rfl⟩ := List.mem_map.1 hu
  rfl

theorem Try.infoInt : (Try.prog.info? 3).map (fun i => (i.zero, i.size, i.bytes)) = some (some (.int .i64 0), 1, 8) := by kernel_rfl
theorem Try.infoInts : (Try.prog.info? 40).map (fun i => (i.zero, i.size, i.bytes)) = some (some (.slice none 0 0), 1, 24) := by kernel_rfl

/-- an append of integers: whatever the source is -/
theorem run_append_nil {w : World} {P : Program} (base : Nat) (t ty e : TypeId) (i : TypeInfo) (size : Nat) (ht : P.underlying t = some (.slice e)) (hi : P.info? e = some i)
    (v : Value) (n c : Nat) (xs : List Value) (hown : w.ownsRow base e size v n xs) : (Builtin.append_ #[t, t] ty #[v, .slice none 0 c]).run P w = .ok v w := by
  rcases hown.2 with ⟨rfl, rfl⟩ | ⟨g, cap, cur, rfl, _, _, hnc, _⟩
  · simp [Builtin.append_, run_underlying ht, sizeOf, typeInfo, hi, Builtin.lenOf, Builtin.firstCells]
  · simp [Builtin.append_, run_underlying ht, sizeOf, typeInfo, hi, Builtin.lenOf, Builtin.firstCells, hnc, storeCells]
def OwnI (w : World) (B : Nat) (v : Value) (l : List Int) : Prop := w.ownsRow B 3 1 v l.length (l.map (Value.int .i64))
theorem OwnI.nil (w : World) (B : Nat) : OwnI w B (.slice none 0 0) [] := World.ownsRow_nil _ _ _ _
theorem OwnI.made (w : World) {B : Nat} (hB : B ≤ w.heap.size) : OwnI (w.alloc (.cells #[] 3)) B (.slice (some ⟨w.heap.size, 0, none⟩) 0 0) [] := World.ownsRow_made w #[] 0 hB (Nat.zero_le _) rfl
theorem OwnI.mono {w : World} {B B' : Nat} {v : Value} {l : List Int} (h : OwnI w B v l) (hb : B' ≤ B) : OwnI w B' v l :=
  ⟨h.1, h.2.imp id fun ⟨g, cap, cur, h1, h2, h3⟩ => ⟨g, cap, cur, h1, Nat.le_trans hb h2, h3⟩⟩
theorem OwnI.alloc {w : World} {B : Nat} {v : Value} {l : List Int} (h : OwnI w B v l) (o : Obj) : OwnI (w.alloc o) B v l := World.ownsRow.alloc h o
theorem OwnI.drew {w : World} {B : Nat} {v : Value} {l : List Int} (h : OwnI w B v l) : OwnI w.drew B v l := World.ownsRow.drew h
theorem OwnI.ints {w : World} {B : Nat} {v : Value} {l : List Int} (h : OwnI w B v l) : ∃ a c, v = .slice a l.length c ∧ IntsAt (From B) w a l ∧ l.length ≤ c ∧ c ≤ 9223372036854775807 ∧ (a = none → c = 0) ∧ (∀ x, a = some x → ∃ g, x = ⟨g, 0, none⟩) := own_ints h
theorem run_appendI {w : World} (ty : TypeId) (S : Nat → Prop) (B : Nat) (v : Value) (l l' : List Int) (a' : Option Addr) (c' : Nat) (hown : OwnI w B v l) (hsrc : IntsAt S w a' l') (hlen : l.length + l'.length ≤ 1000000) (hB : B ≤ w.heap.size) :
    ∃ v' w', (Builtin.append_ #[40, 40] ty #[v, .slice a' l'.length c']).run Try.prog w = .ok v' w' ∧ OwnI w' B v' (l ++ l') ∧ w.grownBy w' v.ownBlock := by
  obtain ⟨i0, hi, hz0, hz1, hz2⟩ := info_parts Try.infoInt
  cases a' with
  | none =>
    have h0 : l' = [] := by
      rcases Nat.eq_zero_or_pos l'.length with e | hp
      · exact List.length_eq_zero_iff.1 e
      · obtain ⟨b, off, e, -⟩ := hsrc.2 hp; cases e
    subst h0
    refine ⟨v, w, run_append_nil B _ _ _ i0 1 Try.underlying40 hi v l.length c' _ hown, by rw [List.append_nil]; exact hown, ⟨rfl, rfl, rfl, Nat.le_refl _, fun _ _ _ => rfl⟩⟩
  | some ad =>
    obtain ⟨v', w', hr, h2, h3, -⟩ := run_append_own (P := Try.prog) w B 40 ty 3 i0 (.int .i64 0) 1 8 Try.underlying40 hi hz0 hz1 hz2 rfl (by decide) v l.length (l.map (Value.int .i64)) hown ad l'.length c' (l'.map (Value.int .i64)) (by simp) (by
      intro j u hu
      have hj := (List.getElem?_eq_some_iff.1 hu).1
      obtain ⟨b, off, e, -, hb, hcc⟩ := hsrc.2 (by simp at hj; omega)
      cases e
      exact IntsAt.news hcc j u hu) (one_ints l') (by unfold Go.maxLen; omega) (by omega) hB
    exact ⟨v', w', hr, by unfold OwnI; rw [List.length_append, List.map_append]; exact h2, h3⟩
/-- what lies below B is as it was -/
theorem OwnI.below {w w' : World} {B : Nat} {v : Value} {l : List Int} (h : OwnI w B v l) (hg : w.grownBy w' v.ownBlock) (hB : B ≤ w.heap.size) : Below B w w' :=
  ⟨hg.os, hg.tape, hg.output, hg.size, fun k hk => hg.block k (by omega) (fun e => by
    rcases h.2 with ⟨e', -⟩ | ⟨g, cap, cur, e', hb, -⟩
    · rw [e'] at e; cases e
    · rw [e'] at e; have e : k = g := Option.some.inj e; omega)⟩
theorem step_appendI {ops : Array Oper} {o : Oper} {a : Act} {w : World} {K : Act → World → Prop} {Q : Exit → Act → World → Prop} {E : Prop} (hgd : o.guard = none) (s x : Operand)
    (ho : o.op = .call { callee := .builtin .append, args := #[s, x], argTypes := #[40, 40] }) (S : Nat → Prop) (B : Nat) (v : Value) (l l' : List Int) (a' : Option Addr) (n' c' : Nat) (hs : a.eval s = v) (hx : a.eval x = .slice a' n' c') (hn : n' = l'.length)
    (hown : OwnI w B v l) (hsrc : IntsAt S w a' l') (hlen : l.length + l'.length ≤ 1000000) (hB : B ≤ w.heap.size)
    (h : ∀ v' w', OwnI w' B v' (l ++ l') → Below B w w' → w.grownBy w' v.ownBlock → K (a.put o.dst v') w') :
    if Region.wanted o (yielded ops a.tmps) = true then Oper.wp Try.prog o a w K Q else E := by
  have hw : Region.wanted o (yielded ops a.tmps) = true := by simp [Region.wanted, hgd]
  rw [if_pos hw]
  subst hn
  obtain ⟨v', w', hr, h2, h3⟩ := run_appendI (w := w) o.type S B v l l' a' c' hown hsrc hlen hB
  unfold Oper.wp execOp
  simp only [ho, resolve, invoke, builtin, Sem.run_bind, Sem.run_pure, Result.andThen_ok, List.map_toArray, List.map_cons, List.map_nil, hs, hx, hr]
  exact h v' w' h2 (hown.below h3 hB) h3
theorem wpList_appendI {ops : Array Oper} {rest : List Oper} {o : Oper} {a : Act} {w : World} {Q : Exit → Act → World → Prop} (hgd : o.guard = none) (s x : Operand)
    (ho : o.op = .call { callee := .builtin .append, args := #[s, x], argTypes := #[40, 40] }) (S : Nat → Prop) (B : Nat) (v : Value) (l l' : List Int) (a' : Option Addr) (n' c' : Nat) (hs : a.eval s = v) (hx : a.eval x = .slice a' n' c') (hn : n' = l'.length)
    (hown : OwnI w B v l) (hsrc : IntsAt S w a' l') (hlen : l.length + l'.length ≤ 1000000) (hB : B ≤ w.heap.size)
    (h : ∀ v' w', OwnI w' B v' (l ++ l') → Below B w w' → w.grownBy w' v.ownBlock → wpList Try.prog ops Q rest (a.put o.dst v') w') : wpList Try.prog ops Q (o :: rest) a w := by
  refine wpList_plain hgd fun K hK => ?_
  subst hn
  obtain ⟨v', w', hr, h2, h3⟩ := run_appendI (w := w) o.type S B v l l' a' c' hown hsrc hlen hB
  unfold Oper.wp execOp
  simp only [ho, resolve, invoke, builtin, Sem.run_bind, Sem.run_pure, Result.andThen_ok, List.map_toArray, List.map_cons, List.map_nil, hs, hx, hr]
  exact hK _ _ (h v' w' h2 (hown.below h3 hB) h3)
theorem OwnI.made' (w : World) {B : Nat} (o : Obj) (hB : B ≤ w.heap.size) : OwnI ((w.alloc o).alloc (.cells #[] 3)) B (.slice (some ⟨w.heap.size + 1, 0, none⟩) 0 0) [] := by
  have := OwnI.made (B := B) (w.alloc o) (by rw [World.size_alloc]; omega)
  rwa [World.size_alloc] at this
/-- one integer in a block of its own -/
theorem IntsAt.new (w : World) (u : Int) (t : TypeId) : IntsAt (· = w.heap.size) (w.alloc (.cells #[.int .i64 u] t)) (some ⟨w.heap.size, 0, none⟩) [u] := by
  refine ⟨by simp, fun _ => ⟨w.heap.size, 0, rfl, rfl, by simp, fun i hi => ?_⟩⟩
  simp only [List.length_cons, List.length_nil] at hi
  obtain rfl : i = 0 := by omega
  rw [World.cell?_alloc_new]; rfl
theorem IntsAt.grown {S : Nat → Prop} {w w' : World} {a : Option Addr} {l : List Int} {row : Option Nat} (h : IntsAt S w a l) (hg : w.grownBy w' row) (hne : ∀ k, S k → some k ≠ row) : IntsAt S w' a l := by
  refine ⟨h.1, fun h0 => ?_⟩
  obtain ⟨b, off, rfl, hb, hl, hc⟩ := h.2 h0
  exact ⟨b, off, rfl, hb, Nat.lt_of_lt_of_le hl hg.size, fun i hi => (World.cell?_of_block (hg.block b hl (hne b hb))).trans (hc i hi)⟩
theorem IntsAt.allocd {S : Nat → Prop} {w : World} {a : Option Addr} {l : List Int} (h : IntsAt S w a l) (o : Obj) : IntsAt S (w.alloc o) a l := h.mod ((Mod.refl none' _).alloc _) (fun _ _ _ => id)
theorem IntsAt.take {S : Nat → Prop} {w : World} {a : Option Addr} {l : List Int} (h : IntsAt S w a l) (k : Nat) : IntsAt S w a (l.take k) := by
  refine ⟨by have := h.1; rw [List.length_take]; omega, fun h0 => ?_⟩
  rw [List.length_take] at h0
  obtain ⟨b, off, rfl, hb, hl, hc⟩ := h.2 (by omega)
  refine ⟨b, off, rfl, hb, hl, fun i hi => ?_⟩
  rw [List.length_take] at hi
  rw [hc i (by omega)]
  simp [List.getD_eq_getElem?_getD, show i < k by omega]
theorem IntsAt.drop {S : Nat → Prop} {w : World} {b off : Nat} {l : List Int} (h : IntsAt S w (some ⟨b, off, none⟩) l) (k : Nat) : IntsAt S w (some ⟨b, off + k, none⟩) (l.drop k) := by
  refine ⟨by have := h.1; rw [List.length_drop]; omega, fun h0 => ?_⟩
  rw [List.length_drop] at h0
  obtain ⟨b', off', e, hb, hl, hc⟩ := h.2 (by omega)
  cases e
  refine ⟨b, off + k, rfl, hb, hl, fun i hi => ?_⟩
  rw [List.length_drop] at hi
  have := hc (k + i) (by omega)
  rw [show off + k + i = off + (k + i) by omega, this]
  simp [List.getD_eq_getElem?_getD, List.getElem?_drop]

/-- a list in new memory -/
def SlicePost (w : World) (l : List Int) (e : Ending) (w' : World) : Prop := ∃ a c, e = .returned (.slice a l.length c) ∧ IntsAt (From w.heap.size) w' a l ∧ Below w.heap.size w w' ∧ CapOk l c
set_option maxHeartbeats 1000000 in
theorem clone_any (S : Nat → Prop) (w : World) (a : Option Addr) (c : Nat) (l : List Int) (hl : l.length ≤ 1000) (h : IntsAt S w a l) :
    Calls Try.prog 57 #[.slice a l.length c] w (SlicePost w l) := by
  obtain ⟨hm, h⟩ := h
  have H := Lib.hid h
  clear h
  obtain ⟨i0, hi, hz0, hz1, hz2⟩ := info_parts Try.infoInt
  have q22 : ∀ (w : World) (a : Option Addr) (n c n' c' : Nat), (binOp .eql 40 (.slice a n c) (.slice none n' c')).run Try.prog w = .ok (.bool a.isNone) w := fun w a n c n' c' => Lib.run_eql_slice_nil w _ _ a n c n' c' Try.underlying40
  cases a with
  | none =>
    have h0 : l.length = 0 := by
      rcases Nat.eq_zero_or_pos l.length with e | hp
      · exact e
      · obtain ⟨b, off, e, -⟩ := H.out hp; cases e
    have : l = [] := List.length_eq_zero_iff.1 h0
    subst this
    clear h0 hi hz0 hz1 hz2
    go_enter Try.func57, Try.ntmps57
    go_wp2_with fail
    go_ret
    exact ⟨none, 0, rfl, IntsAt.nil _ _ _, Below.refl _ _, by simp, by omega⟩
  | some ad =>
    have hnew : ∀ j u, (l.map (Value.int .i64))[j]? = some u → (w.alloc (.cells #[] 3)).cell? (ad.add j) = some u := by
      intro j u hu
      have hj := (List.getElem?_eq_some_iff.1 hu).1
      obtain ⟨b, off, e, -, hb, hcc⟩ := H.out (by simp at hj; omega)
      cases e
      rw [World.cell?_alloc_lt _ _ _ (by unfold Addr.add; split <;> exact hb)]
      exact IntsAt.news hcc j u hu
    have HN := Lib.hid hnew
    clear hnew
    go_enter Try.func57, Try.ntmps57
    go_wp2_with (at_builtin; refine wpList_append_own _ rfl _ _ 40 rfl w.heap.size 3 i0 (.int .i64 0) 1 8 Try.underlying40 hi hz0 hz1 hz2 rfl (by decide) _ _ _ rfl (World.ownsRow_made w #[] 0 (Nat.le_refl _) (Nat.zero_le _) rfl) ad l.length c (l.map (Value.int .i64)) rfl ?qc1 ?qc2 ?qc3 ?qc4 ?qc5 ?qc6 ?_)
    case qc1 => simp
    case qc2 => exact HN.out
    case qc3 => exact one_ints l
    case qc4 => unfold Go.maxLen; omega
    case qc5 => omega
    case qc6 => simp
    intro v' w1 hown hgrow hnil
    have HNI := Lib.hid hnil
    clear hnil
    go_wp2
    go_ret
    obtain ⟨a', c', rfl, h2, h3, h4, -⟩ := own_ints (l := l) (by simpa using hown)
    exact ⟨a', c', rfl, h2, ((Below.refl _ w).alloc (Nat.le_refl _) _).grown hgrow (by simp) (by intro k hk; simp [Value.ownBlock] at hk; omega), h3, h4⟩
end Go.Proofs.Ytpkdpmkiplopmaa
