/- rows that grow and are cut: whatever slice whose array is known as far as its capacity reaches -/
import Derived.Test.YtakbalmbkokklaaGreatPkBase
import Derived.Deep.Upon
import Derived.Deep.RegionLaw
namespace Esch
open Go Go.RowKit

theorem tape_setCells (b : Nat) : ∀ (vs : List Value) (o : Nat) (w : World), (w.setCells b o vs).tape = w.tape
  | [], _, _ => rfl
  | v :: r, o, w => by rw [World.setCells, tape_setCells b r]; rfl
theorem size_setCells' (b : Nat) : ∀ (vs : List Value) (o : Nat) (w : World), (w.setCells b o vs).heap.size = w.heap.size
  | [], _, _ => rfl
  | v :: r, o, w => by rw [World.setCells, size_setCells' b r]; simp
theorem Mod.setCells {F : Nat → Prop} {a w : World} (h : Mod F a w) {b : Nat} (hp : b < a.heap.size → F b) (o : Nat) (vs : List Value) : Mod F a (w.setCells b o vs) :=
  ⟨(World.os_setCells _ _ _ _).trans h.os, (tape_setCells _ _ _ _).trans h.tape, (World.output_setCells _ _ _ _).trans h.output, by rw [size_setCells']; exact h.size,
    fun k hk hF => (World.heap_setCells_other w b o vs (Nat.lt_of_lt_of_le hk h.size) (fun e => by subst e; exact hF (hp hk))).trans (h.block k hk hF)⟩
/-- so many elements, as cells xs, in an array of S that is known as far as it reaches -/
structure GRowAt (w : World) (S : Nat → Prop) (size len cap : Nat) (ao : Option Addr) (xs : List Value) : Prop where
  le : len ≤ cap
  max : cap ≤ 9223372036854775807
  xsLen : xs.length = len * size
  at' : 0 < cap → ∃ b off, ao = some ⟨b, off, none⟩ ∧ S b ∧ b < w.heap.size ∧ (∀ j, j < len * size → w.cell? ⟨b, off + j, none⟩ = xs[j]?) ∧ ∀ j, j < cap * size → (w.cell? ⟨b, off + j, none⟩).isSome = true ∧ w.frozen? ⟨b, off + j, none⟩ = false
theorem GRowAt.nil (w : World) (S : Nat → Prop) (size : Nat) (ao : Option Addr) : GRowAt w S size 0 0 ao [] := ⟨Nat.le_refl _, by omega, by simp, fun h => absurd h (by omega)⟩
theorem GRowAt.mod {S F : Nat → Prop} {w w' : World} {size len cap : Nat} {ao : Option Addr} {xs : List Value} (h : GRowAt w S size len cap ao xs) (hM : Mod F w w') (hS : ∀ k, S k → k < w.heap.size → ¬ F k) : GRowAt w' S size len cap ao xs := by
  refine ⟨h.le, h.max, h.xsLen, fun h0 => ?_⟩
  obtain ⟨b, off, e, hb, hl, h1, h2⟩ := h.at' h0
  have hF := hS b hb hl
  refine ⟨b, off, e, hb, Nat.lt_of_lt_of_le hl hM.size, fun j hj => (hM.cell (p := ⟨b, off + j, none⟩) hl hF).trans (h1 j hj), fun j hj => ?_⟩
  rw [hM.cell (p := ⟨b, off + j, none⟩) hl hF, hM.frozen (p := ⟨b, off + j, none⟩) hl hF]
  exact h2 j hj
theorem GRowAt.sub {S T : Nat → Prop} {w : World} {size len cap : Nat} {ao : Option Addr} {xs : List Value} (h : GRowAt w S size len cap ao xs) (hS : ∀ k, k < w.heap.size → S k → T k) : GRowAt w T size len cap ao xs := by
  refine ⟨h.le, h.max, h.xsLen, fun h0 => ?_⟩
  obtain ⟨b, off, e, hb, hl, h1, h2⟩ := h.at' h0
  exact ⟨b, off, e, hS b hl hb, hl, h1, h2⟩
/-- the row cut at k, with the capacity k, or the old one -/
theorem GRowAt.take {S : Nat → Prop} {w : World} {size len cap : Nat} {ao : Option Addr} {xs : List Value} (h : GRowAt w S size len cap ao xs) {k c : Nat} (hk : k ≤ len) (hkc : k ≤ c) (hc : c ≤ cap) : GRowAt w S size k c ao (xs.take (k * size)) := by
  have h0 := h.le
  have hkl : k * size ≤ len * size := Nat.mul_le_mul_right _ hk
  have hcl : c * size ≤ cap * size := Nat.mul_le_mul_right _ hc
  refine ⟨hkc, by have := h.max; omega, by rw [List.length_take, h.xsLen]; omega, fun hp => ?_⟩
  obtain ⟨b, off, e, hb, hl, h1, h2⟩ := h.at' (by omega)
  exact ⟨b, off, e, hb, hl, fun j hj => by rw [List.getElem?_take, if_pos hj]; exact h1 j (by omega), fun j hj => h2 j (by omega)⟩
theorem addr_add (b o j : Nat) : (⟨b, o, none⟩ : Addr).add j = ⟨b, o + j, none⟩ := by
  unfold Addr.add
  split
  · rename_i e; subst e; simp
  · rfl
theorem GRowAt.srcTail {P : Program} {w : World} {S : Nat → Prop} {size len cap k b off : Nat} {xs : List Value} {A : Addr} (h : GRowAt w S size len cap (some ⟨b, off, none⟩) xs) (hk : k ≤ len) (hA : (if cap = k then some (⟨b, off, none⟩ : Addr) else some ⟨b, off + k * size, none⟩) = some A)
    {tx e' : TypeId} (ht : P.underlying tx = some (.slice e')) (h1 : ∀ u ∈ xs, u.oneCell' = true) : Src P size tx (.slice (some A) (len - k) (cap - k)) (len - k) (xs.drop (k * size)) w := by
  have hle := h.le
  have hkl : k * size ≤ len * size := Nat.mul_le_mul_right _ hk
  refine Src.ofSlice w ht A (len - k) (cap - k) (xs.drop (k * size)) (by rw [List.length_drop, h.xsLen, Nat.sub_mul]) (fun j u hu => ?_) (fun u hu => h1 u (List.mem_of_mem_drop hu))
  have hj := (List.getElem?_eq_some_iff.1 hu).1
  rw [List.length_drop, h.xsLen] at hj
  have hck : cap ≠ k := by
    intro e
    have : len = k := by omega
    subst this; omega
  rw [if_neg hck] at hA
  cases hA
  obtain ⟨b', off', e, -, -, h2, -⟩ := h.at' (by omega)
  cases e
  rw [addr_add, Nat.add_assoc, h2 _ (by omega), ← hu, List.getElem?_drop]
section
variable {P : Program} {w : World} {S : Nat → Prop} {size len cap : Nat} {ao : Option Addr} {xs : List Value}
/-- what is behind such a row is there -/
theorem GRowAt.src (h : GRowAt w S size len cap ao xs) {tx e' : TypeId} (hk : P.underlying tx = some (.slice e')) (h1 : ∀ u ∈ xs, u.oneCell' = true) : Src P size tx (.slice ao len cap) len xs w := by
  rcases Nat.eq_zero_or_pos cap with h0 | h0
  · have := h.le
    obtain rfl : len = 0 := by omega
    have hx := h.xsLen
    obtain rfl : xs = [] := List.length_eq_zero_iff.1 (by simpa using hx)
    subst h0
    cases ao with
    | none => exact Src.ofNil w hk 0
    | some a => exact Src.ofSlice w hk a 0 0 [] (by simp) (by simp) h1
  · obtain ⟨b, off, e, hb, hl, h2, -⟩ := h.at' h0
    subst e
    refine Src.ofSlice w hk _ len cap xs h.xsLen (fun j u hu => ?_) h1
    have hj := (List.getElem?_eq_some_iff.1 hu).1
    rw [addr_add, h2 j (by rw [← h.xsLen]; exact hj), hu]
/-- n elements more -/
theorem run_append_g (t tx ty e : TypeId) (i : TypeInfo) (z : Value) (bytes : Nat) (ht : P.underlying t = some (.slice e)) (hi : P.info? e = some i) (hz : i.zero = some z) (hsize : i.size = size) (hby : i.bytes = bytes) (hzs : z.cells.size = size)
    (h : GRowAt w S size len cap ao xs) (x : Value) (n : Nat) (news : List Value) (hs : Src P size tx x n news w) (h63 : len + n ≤ 9223372036854775807) (hbytes : (len + n) * bytes ≤ 140737488355328) :
    ∃ ao' cap' w', (Builtin.append_ #[t, tx] ty #[.slice ao len cap, x]).run P w = .ok (.slice ao' (len + n) cap') w' ∧ GRowAt w' (fun k => S k ∨ k = w.heap.size) size (len + n) cap' ao' (xs ++ news) ∧ Mod S w w' ∧ w'.heap.size ≤ w.heap.size + 1 := by
  subst hsize
  subst hby
  have hnl := hs.newsLen
  have hxl := h.xsLen
  have hlen' : (xs ++ news).length = (len + n) * i.size := by rw [List.length_append, hxl, hnl, Nat.add_mul]
  by_cases hfit : len + n ≤ cap
  · rcases Nat.eq_zero_or_pos cap with h0 | h0
    · subst h0
      obtain rfl : len = 0 := by omega
      obtain rfl : n = 0 := by omega
      obtain rfl : news = [] := List.length_eq_zero_iff.1 (by simpa using hnl)
      exact ⟨_, _, _, run_append_nothing (P := P) w t tx ty e i ht hi ao 0 0 (Nat.le_refl _) x hs, by simpa using (h.sub (fun _ _ h => Or.inl h)), Mod.refl _ _, by omega⟩
    · obtain ⟨b, off, eo, hb, hl, h1, h2⟩ := h.at' h0
      subst eo
      have hrc : (len + n) * i.size ≤ cap * i.size := Nat.mul_le_mul_right _ hfit
      have hrc' := hrc
      rw [Nat.add_mul] at hrc'
      have hsome : ∀ j, j < news.length → (w.cell? ⟨b, off + len * i.size + j, none⟩).isSome = true := fun j hj => by rw [Nat.add_assoc]; exact (h2 _ (by omega)).1
      have hrun := run_append_room_src (P := P) w t tx ty e i ht hi b off len cap x n news hs hfit hsome (fun j hj => by rw [Nat.add_assoc]; exact (h2 _ (by omega)).2)
      refine ⟨_, _, _, hrun, ⟨hfit, h.max, hlen', fun _ => ⟨b, off, rfl, Or.inl hb, by rw [size_setCells']; exact hl, fun j hj => ?_, fun j hj => ⟨?_, (World.frozen?_setCells b _ _ _ _).trans (h2 j hj).2⟩⟩⟩, (Mod.refl S w).setCells (fun _ => hb) _ _, by rw [size_setCells']; omega⟩
      · rw [Nat.add_mul] at hj
        by_cases hjo : j < len * i.size
        · rw [World.cell?_setCells_out b _ _ _ _ (fun _ _ => Or.inl (by show off + j < off + len * i.size; omega)), List.getElem?_append_left (by omega)]
          exact h1 j hjo
        · have ht' : j - len * i.size < news.length := by omega
          have := World.cell?_setCells_in b news (off + len * i.size) w hsome (j - len * i.size) ht'
          rw [show off + len * i.size + (j - len * i.size) = off + j by omega] at this
          rw [this, List.getElem?_append_right (by omega), hxl, List.getElem?_eq_getElem ht']
      · by_cases hin : len * i.size ≤ j ∧ j < len * i.size + news.length
        · have := World.cell?_setCells_in b news (off + len * i.size) w hsome (j - len * i.size) (by omega)
          rw [show off + len * i.size + (j - len * i.size) = off + j by omega] at this
          rw [this]; rfl
        · rw [World.cell?_setCells_out b _ _ _ _ (fun _ _ => by show off + j < off + len * i.size ∨ off + len * i.size + news.length ≤ off + j; omega)]
          exact (h2 j hj).1
  · have hold : (Builtin.firstCells i.size len (.slice ao len cap)).run P w.drew = .ok xs.toArray w.drew := by
      rcases Nat.eq_zero_or_pos cap with h0 | h0
      · have := h.le
        subst h0
        obtain rfl : len = 0 := by omega
        obtain rfl : xs = [] := List.length_eq_zero_iff.1 (by simpa using hxl)
        cases ao with
        | none => exact run_firstCells_none w.drew i.size 0 0 0
        | some a' => exact run_firstCells_some w.drew i.size 0 a' 0 0 [] (by simp) (by intro _ _ h'; simp at h')
      · obtain ⟨b, off, eo, hb, hl, h1, h2⟩ := h.at' h0
        subst eo
        refine run_firstCells_some w.drew i.size len ⟨b, off, none⟩ len cap xs hxl (fun j u hu => ?_)
        have hj := (List.getElem?_eq_some_iff.1 hu).1
        rw [addr_add]
        exact (h1 j (by omega)).trans hu
    have hg : cap < len + n := by omega
    have hrun := run_append_grow_src (P := P) w t tx ty e i z ht hi hz ao len cap xs hold x n news hs hg (by omega) (growslice_fits hg hbytes)
    have hge := grownCap_ge w (len + n) cap e
    have hcm := grownCap_le_maxLen w (len + n) cap e h63
    have hsz : (((xs ++ news).toArray) ++ Builtin.zeroCells z.cells (grownCap w (len + n) cap e - (len + n))).size = grownCap w (len + n) cap e * i.size := by
      rw [Array.size_append, List.size_toArray, hlen', size_zeroCells, hzs, ← Nat.add_mul]
      congr 1
      omega
    refine ⟨_, _, _, hrun, ⟨hge, hcm, hlen', fun _ => ⟨w.heap.size, 0, rfl, Or.inr rfl, by simp, fun j hj => ?_, fun j hj => ⟨?_, ?_⟩⟩⟩, ((Mod.refl S w).drew).alloc _, by simp⟩
    · have e1 : (w.drew.alloc (.cells (((xs ++ news).toArray) ++ Builtin.zeroCells z.cells (grownCap w (len + n) cap e - (len + n))) e)).cell? ⟨w.heap.size, j, none⟩ = _ := World.cell?_alloc_new w.drew _ _ j
      rw [Nat.zero_add, e1, Array.getElem?_append_left (by simp only [List.size_toArray]; rw [hlen']; exact hj), List.getElem?_toArray]
    · have e1 : (w.drew.alloc (.cells (((xs ++ news).toArray) ++ Builtin.zeroCells z.cells (grownCap w (len + n) cap e - (len + n))) e)).cell? ⟨w.heap.size, j, none⟩ = _ := World.cell?_alloc_new w.drew _ _ j
      rw [Nat.zero_add, e1, Array.getElem?_eq_getElem (by rw [hsz]; exact hj)]
      rfl
    · rw [Nat.zero_add]
      exact World.frozen?_alloc_new w.drew _ _ j
theorem step_append_g {ops : Array Oper} {o : Oper} {a : Act} {K : Act → World → Prop} {Q : Exit → Act → World → Prop} {E : Prop} (hgd : o.guard = none) (s x : Operand) (t tx : TypeId)
    (ho : o.op = .call { callee := .builtin .append, args := #[s, x], argTypes := #[t, tx] }) (e : TypeId) (i : TypeInfo) (z : Value) (bytes : Nat) (ht : P.underlying t = some (.slice e)) (hi : P.info? e = some i) (hz : i.zero = some z) (hsize : i.size = size) (hby : i.bytes = bytes) (hzs : z.cells.size = size)
    (hv : a.eval s = .slice ao len cap) (h : GRowAt w S size len cap ao xs) (xv : Value) (n : Nat) (news : List Value) (hx : a.eval x = xv) (hs : Src P size tx xv n news w) (h63 : len + n ≤ 9223372036854775807) (hbytes : (len + n) * bytes ≤ 140737488355328)
    (hK : ∀ ao' cap' w', GRowAt w' (fun k => S k ∨ k = w.heap.size) size (len + n) cap' ao' (xs ++ news) → Mod S w w' → w'.heap.size ≤ w.heap.size + 1 → K (a.put o.dst (.slice ao' (len + n) cap')) w') :
    if Region.wanted o (yielded ops a.tmps) = true then Oper.wp P o a w K Q else E := by
  have hw : Region.wanted o (yielded ops a.tmps) = true := by simp [Region.wanted, hgd]
  rw [if_pos hw]
  obtain ⟨ao', cap', w', hr, h1, h2, h3⟩ := run_append_g (P := P) t tx o.type e i z bytes ht hi hz hsize hby hzs h xv n news hs h63 hbytes
  unfold Oper.wp execOp
  simp only [ho, resolve, invoke, builtin, Sem.run_bind, Sem.run_pure, Result.andThen_ok, List.map_toArray, List.map_cons, List.map_nil, hv, hx, hr]
  exact hK ao' cap' w' h1 h2 h3
theorem wpList_append_g {ops : Array Oper} {rest : List Oper} {o : Oper} {a : Act} {Q : Exit → Act → World → Prop} (hgd : o.guard = none) (s x : Operand) (t tx : TypeId)
    (ho : o.op = .call { callee := .builtin .append, args := #[s, x], argTypes := #[t, tx] }) (e : TypeId) (i : TypeInfo) (z : Value) (bytes : Nat) (ht : P.underlying t = some (.slice e)) (hi : P.info? e = some i) (hz : i.zero = some z) (hsize : i.size = size) (hby : i.bytes = bytes) (hzs : z.cells.size = size)
    (hv : a.eval s = .slice ao len cap) (h : GRowAt w S size len cap ao xs) (xv : Value) (n : Nat) (news : List Value) (hx : a.eval x = xv) (hs : Src P size tx xv n news w) (h63 : len + n ≤ 9223372036854775807) (hbytes : (len + n) * bytes ≤ 140737488355328)
    (hK : ∀ ao' cap' w', GRowAt w' (fun k => S k ∨ k = w.heap.size) size (len + n) cap' ao' (xs ++ news) → Mod S w w' → w'.heap.size ≤ w.heap.size + 1 → wpList P ops Q rest (a.put o.dst (.slice ao' (len + n) cap')) w') :
    wpList P ops Q (o :: rest) a w := by
  refine wpList_plain hgd fun K hK' => ?_
  obtain ⟨ao', cap', w', hr, h1, h2, h3⟩ := run_append_g (P := P) t tx o.type e i z bytes ht hi hz hsize hby hzs h xv n news hs h63 hbytes
  unfold Oper.wp execOp
  simp only [ho, resolve, invoke, builtin, Sem.run_bind, Sem.run_pure, Result.andThen_ok, List.map_toArray, List.map_cons, List.map_nil, hv, hx, hr]
  exact hK' _ _ (hK ao' cap' w' h1 h2 h3)
end
end Esch
