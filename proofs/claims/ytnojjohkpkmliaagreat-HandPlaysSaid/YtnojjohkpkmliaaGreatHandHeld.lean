/- the hand: all that are held, in new memory -/
import Derived.Test.YtnojjohkpkmliaaGreatPkHand
namespace Go.Proofs.YtnojjohkpkmliaaGreat
open Go.RowKit Esch

theorem _root_.Esch.GRowAt.set1 {w : World} {S : Nat → Prop} {size len cap b off : Nat} {xs : List Value} (h : GRowAt w S size len cap (some ⟨b, off, none⟩) xs) {i : Nat} (hi : i < len * size) (v : Value) : GRowAt (w.setCell ⟨b, off + i, none⟩ v) S size len cap (some ⟨b, off, none⟩) (xs.set i v) := by
  refine ⟨h.le, h.max, by rw [List.length_set]; exact h.xsLen, fun h0 => ?_⟩
  obtain ⟨b', off', e, hb, hl, h1, h2⟩ := h.at' h0
  cases e
  have hle := h.le
  have hlc : len * size ≤ cap * size := Nat.mul_le_mul_right _ hle
  have hx := h.xsLen
  obtain ⟨y, hy⟩ := Option.isSome_iff_exists.1 (h2 i (by omega)).1
  refine ⟨b, off, rfl, hb, by simpa using hl, fun j hj => ?_, fun j hj => ⟨?_, ?_⟩⟩
  · by_cases e : j = i
    · subst e
      rw [List.getElem?_set_self (by omega)]
      go_simp
    · rw [List.getElem?_set_ne (fun e' => e e'.symm), ← h1 j hj]
      have hne : (⟨b, off + i, none⟩ : Addr) ≠ ⟨b, off + j, none⟩ := fun e' => e (by have := congrArg Addr.off e'; simp only at this; omega)
      apply World.cell?_setCell_other; exact hne
  · by_cases e : j = i
    · subst e
      go_simp
    · have hne : (⟨b, off + i, none⟩ : Addr) ≠ ⟨b, off + j, none⟩ := fun e' => e (by have := congrArg Addr.off e'; simp only at this; omega)
      rw [show (w.setCell ⟨b, off + i, none⟩ v).cell? ⟨b, off + j, none⟩ = w.cell? ⟨b, off + j, none⟩ from by apply World.cell?_setCell_other; exact hne]
      exact (h2 j hj).1
  · have := (h2 j hj).2
    go_simp
theorem heldCells_set : ∀ (es : List HeldQ) (k : Nat) (e : HeldQ), k < es.length → ∀ (x0 x1 x2 x3 x4 x5 x6 x7 x8 : Value), e.cells = [x0, x1, x2, x3, x4, x5, x6, x7, x8] →
    (((((((((heldCells es).set (k * 9) x0).set (k * 9 + 1) x1).set (k * 9 + 2) x2).set (k * 9 + 3) x3).set (k * 9 + 4) x4).set (k * 9 + 5) x5).set (k * 9 + 6) x6).set (k * 9 + 7) x7).set (k * 9 + 8) x8 = heldCells (es.set k e)
  | [], _, _, h, _, _, _, _, _, _, _, _, _, _ => absurd h (by simp)
  | a :: es, 0, e, _, x0, x1, x2, x3, x4, x5, x6, x7, x8, he => by
    rw [show heldCells ((a :: es).set 0 e) = e.cells ++ heldCells es from rfl, he, show heldCells (a :: es) = a.cells ++ heldCells es from rfl]
    rfl
  | a :: es, k + 1, e, h, x0, x1, x2, x3, x4, x5, x6, x7, x8, he => by
    have ih := heldCells_set es k e (by simpa using h) x0 x1 x2 x3 x4 x5 x6 x7 x8 he
    rw [show heldCells ((a :: es).set (k + 1) e) = a.cells ++ heldCells (es.set k e) from rfl, show heldCells (a :: es) = a.cells ++ heldCells es from rfl, ← ih]
    have hl : a.cells.length = 9 := rfl
    simp only [show (k + 1) * 9 = a.cells.length + k * 9 by rw [hl]; omega, Nat.add_assoc, List.set_append_right _ _ (Nat.le_add_right _ _), Nat.add_sub_cancel_left]
@[simp] theorem eqSlN (l c : Nat) (w : World) : (binOp .eql 25 (.slice none l c) (.slice none 0 0)).run Tryz.prog w = .ok (.bool true) w := by kernel_rfl
@[simp] theorem eqSlS (a : Addr) (l c : Nat) (w : World) : (binOp .eql 25 (.slice (some a) l c) (.slice none 0 0)).run Tryz.prog w = .ok (.bool false) w := by kernel_rfl
def ClonePost (w : World) (len : Nat) (xs : List Value) (e : Ending) (w' : World) : Prop := ∃ ao' cap', e = .returned (.slice ao' len cap') ∧ GRowAt w' (From w.heap.size) 9 len cap' ao' xs ∧ Below w.heap.size w w'
set_option maxRecDepth 100000 in
set_option maxHeartbeats 1000000 in
theorem cloneA_any {S : Nat → Prop} {w : World} {len cap : Nat} {ao : Option Addr} {xs : List Value} (h : GRowAt w S 9 len cap ao xs) (h1 : ∀ u ∈ xs, u.oneCell' = true) (hlen : len ≤ 1000) : Calls Tryz.prog 61 #[.slice ao len cap] w (ClonePost w len xs) := by
  cases ao with
  | none =>
    have hc : cap = 0 := by
      rcases Nat.eq_zero_or_pos cap with h0 | h0
      · exact h0
      · obtain ⟨b, off, e, -⟩ := h.at' h0; cases e
    have hle := h.le
    subst hc
    obtain rfl : len = 0 := by omega
    obtain rfl : xs = [] := List.length_eq_zero_iff.1 (by simpa using h.xsLen)
    clear h h1 hle hlen
    go_enter Tryz.func61, Tryz.ntmps61
    go_wp2_with fail
    go_ret
    exact ⟨none, 0, rfl, GRowAt.nil _ _ _ _, Below.refl _ _⟩
  | some a =>
    obtain ⟨j0, hi, hy0, hy1, hy2⟩ := info_parts (show (Tryz.prog.info? 42).map (fun i => (i.zero, i.size, i.bytes)) = some (some (.agg #[.int .i64 0, .int .i64 0, .int .i64 0, .int .i64 0, .int .i64 0, .int .i64 0, .string ⟨#[]⟩, .int .i64 0, .slice none 0 0]), 9, 96) by kernel_rfl)
    have hsrc : ∀ W, Mod none' w W → Src Tryz.prog 9 25 (.slice (some a) len cap) len xs W := fun W hM => (h.mod hM (fun _ _ _ => id)).src Tryz.underlying25 h1
    have HS := Lib.hid hsrc
    clear h h1 hsrc
    go_enter Tryz.func61, Tryz.ntmps61
    go_wp2_with (at_builtin; refine wpList_append_g (by rfl) (.tmp 5) (.tmp 6) 25 25 (by rfl) 42 j0 _ 96 Tryz.underlying25 hi hy0 hy1 hy2 (by rfl) (by rfl) (GRowAt.nil _ none' 9 _) _ len xs (by rfl) (HS.out _ (by (repeat' (first | (with_reducible exact (Mod.refl _ _)) | (with_reducible apply Mod.drew) | (with_reducible apply Mod.drewN) | (with_reducible apply Mod.alloc) | (with_reducible apply Mod.setCellAt) | (intro _; first | rfl | exact Or.inl rfl | exact Or.inr rfl) | (intro h; exfalso; omega))))) (by omega) (by omega) ?_; intro a6 cap6 w6 hg6 hM6 hz6)
    go_ret
    simp only [Nat.zero_add, List.nil_append] at hg6
    refine ⟨a6, cap6, rfl, hg6.sub (fun k _ hk => ?_), ?_⟩
    · rcases hk with hk | hk
      · exact hk.elim
      · show w.heap.size ≤ k; rw [hk]; simp
    · exact (show Mod none' w w6 from Mod.trans (by (repeat' (first | (with_reducible exact (Mod.refl _ _)) | (with_reducible apply Mod.drew) | (with_reducible apply Mod.drewN) | (with_reducible apply Mod.alloc) | (with_reducible apply Mod.setCellAt) | (intro _; first | rfl | exact Or.inl rfl | exact Or.inr rfl) | (intro h; exfalso; omega)))) hM6).below
/-- the loop: the first k have been put into new memory -/
structure HeldAt (w0 : World) (C : Nat → Prop) (b off n cap k : Nat) (qs : List QS) (es : List HeldQ) (w : World) : Prop where
  row : GRowAt w (From w0.heap.size) 9 n cap (some ⟨b, off, none⟩) (heldCells es)
  len : es.length = n
  qs : es.map (·.q) = qs
  new : ∀ i e, es[i]? = some e → i < k → ListsAt (fun j => w0.heap.size ≤ j ∧ j ≠ b) w e.a e.q.p.chains
  old : ∀ i e, es[i]? = some e → k ≤ i → ListsAt (fun j => C j ∧ j < w0.heap.size) w e.a e.q.p.chains
  small : ∀ e ∈ es, Small e.q.p.chains
  below : Below w0.heap.size w0 w
def HeldRel (w0 : World) (C : Nat → Prop) (b off n cap : Nat) (qs : List QS) (g : Nat) (s14 : Value) (wr : World) : Prop := ∃ (k : Nat) (es : List HeldQ), g = n - k ∧ k ≤ n ∧ s14 = .int .i64 k ∧ HeldAt w0 C b off n cap k qs es wr
theorem HeldAt.step {w0 w w2 : World} {C : Nat → Prop} {b off n cap k ic : Nat} {qs : List QS} {es : List HeldQ} {x : HeldQ} {ia : Option Addr} (h : HeldAt w0 C b off n cap k qs es w) (hx : es[k]? = some x) (hB2 : Below w.heap.size w w2) (hl : ListsAt (From w.heap.size) w2 ia x.q.p.chains)
    (x0 x1 x2 x3 x4 x5 x6 x7 x8 : Value) (he : HeldQ.cells ⟨x.q, ia, ic⟩ = [x0, x1, x2, x3, x4, x5, x6, x7, x8]) :
    HeldAt w0 C b off n cap (k + 1) qs (es.set k ⟨x.q, ia, ic⟩) (((((((((w2.setCell ⟨b, off + k * 9, none⟩ x0).setCell ⟨b, off + k * 9 + 1, none⟩ x1).setCell ⟨b, off + k * 9 + 2, none⟩ x2).setCell ⟨b, off + k * 9 + 3, none⟩ x3).setCell ⟨b, off + k * 9 + 4, none⟩ x4).setCell ⟨b, off + k * 9 + 5, none⟩ x5).setCell ⟨b, off + k * 9 + 6, none⟩ x6).setCell ⟨b, off + k * 9 + 7, none⟩ x7).setCell ⟨b, off + k * 9 + 8, none⟩ x8) := by
  have hk := (List.getElem?_eq_some_iff.1 hx).1
  have hlen := h.len
  have hbl := h.below.size
  have hz2 := hB2.size
  obtain ⟨b', off', e', hbb, hbw, -, -⟩ := h.row.at' (by have := h.row.le; omega)
  cases e'
  have hM : Mod (· = b) w2 (((((((((w2.setCell ⟨b, off + k * 9, none⟩ x0).setCell ⟨b, off + k * 9 + 1, none⟩ x1).setCell ⟨b, off + k * 9 + 2, none⟩ x2).setCell ⟨b, off + k * 9 + 3, none⟩ x3).setCell ⟨b, off + k * 9 + 4, none⟩ x4).setCell ⟨b, off + k * 9 + 5, none⟩ x5).setCell ⟨b, off + k * 9 + 6, none⟩ x6).setCell ⟨b, off + k * 9 + 7, none⟩ x7).setCell ⟨b, off + k * 9 + 8, none⟩ x8) := by (repeat' (first | (with_reducible exact (Mod.refl _ _)) | (with_reducible apply Mod.drew) | (with_reducible apply Mod.drewN) | (with_reducible apply Mod.alloc) | (with_reducible apply Mod.setCellAt) | (intro _; first | rfl | exact Or.inl rfl | exact Or.inr rfl) | (intro h; exfalso; omega)))
  have h9 : (k + 1) * 9 ≤ n * 9 := Nat.mul_le_mul_right _ (by omega)
  have row2 := h.row.mod (F := none') (Mod.of_below hB2) (fun _ _ _ => id)
  have hset : (((((((((heldCells es).set (k * 9) x0).set (k * 9 + 1) x1).set (k * 9 + 2) x2).set (k * 9 + 3) x3).set (k * 9 + 4) x4).set (k * 9 + 5) x5).set (k * 9 + 6) x6).set (k * 9 + 7) x7).set (k * 9 + 8) x8 = heldCells (es.set k ⟨x.q, ia, ic⟩) := heldCells_set es k ⟨x.q, ia, ic⟩ hk x0 x1 x2 x3 x4 x5 x6 x7 x8 he
  have hget : ∀ i e, (es.set k ⟨x.q, ia, ic⟩)[i]? = some e → (i = k ∧ e = ⟨x.q, ia, ic⟩) ∨ (i ≠ k ∧ es[i]? = some e) := by
    intro i e hi
    by_cases ei : i = k
    · subst ei
      rw [List.getElem?_set_self hk] at hi
      exact Or.inl ⟨rfl, (Option.some.inj hi).symm⟩
    · rw [List.getElem?_set_ne (fun e => ei e.symm)] at hi
      exact Or.inr ⟨ei, hi⟩
  refine ⟨?_, by rw [List.length_set]; exact hlen, ?_, fun i e hi hik => ?_, fun i e hi hik => ?_, fun e he => ?_, (h.below.trans (hB2.mono hbl)).trans ((hM.below_at (B := w0.heap.size) (by omega) (fun j hj e => by have : w0.heap.size ≤ b := hbb; omega)).mono (Nat.le_refl _))⟩
  · rw [← hset]
    simp only [Nat.add_assoc]
    exact ((((((((row2.set1 (i := k * 9) (by omega) x0).set1 (i := k * 9 + 1) (by omega) x1).set1 (i := k * 9 + 2) (by omega) x2).set1 (i := k * 9 + 3) (by omega) x3).set1 (i := k * 9 + 4) (by omega) x4).set1 (i := k * 9 + 5) (by omega) x5).set1 (i := k * 9 + 6) (by omega) x6).set1 (i := k * 9 + 7) (by omega) x7).set1 (i := k * 9 + 8) (by omega) x8
  · rw [List.map_set, ← h.qs]
    refine List.ext_getElem? (fun i => ?_)
    rw [List.getElem?_set]
    split
    · rename_i e; subst e
      rw [if_pos (by simpa using hk), List.getElem?_map, hx]; rfl
    · rfl
  · rcases hget i e hi with ⟨rfl, rfl⟩ | ⟨hne, hi⟩
    · exact (hl.mod hM (fun j hj _ e => by have : w.heap.size ≤ j := hj; omega)).sub (fun j _ hj => by have : w.heap.size ≤ j := hj; exact ⟨by omega, by omega⟩)
    · exact ((h.new i e hi (by omega)).mod (F := none') (Mod.of_below hB2) (fun _ _ _ => id)).mod hM (fun j hj _ e => hj.2 e)
  · rcases hget i e hi with ⟨rfl, rfl⟩ | ⟨hne, hi⟩
    · omega
    · exact ((h.old i e hi (by omega)).mod (F := none') (Mod.of_below hB2) (fun _ _ _ => id)).mod hM (fun j hj _ e => by have : w0.heap.size ≤ b := hbb; have := hj.2; omega)
  · obtain ⟨i, hi⟩ := List.mem_iff_getElem?.1 he
    rcases hget i e hi with ⟨-, rfl⟩ | ⟨-, hi⟩
    · exact h.small x (List.mem_of_getElem? hx)
    · exact h.small e (List.mem_of_getElem? hi)
/-- what Held tells -/
def HeldPost (w : World) (qs : List QS) (e : Ending) (w' : World) : Prop := ∃ a c es, e = .returned (.slice a qs.length c) ∧ GRowAt w' (From w.heap.size) 9 qs.length c a (heldCells es) ∧ es.map (·.q) = qs ∧ (∀ e ∈ es, ListsAt (From w.heap.size) w' e.a e.q.p.chains) ∧ Below w.heap.size w w'
set_option maxRecDepth 100000 in
set_option maxHeartbeats 2000000 in
theorem handHeld_any {w : World} {hb T : Nat} {U : Nat → Prop} {s : HdS} (h : HandAt w hb U T s) : Calls Tryz.prog 24 #[.pointer (some ⟨hb, 0, none⟩)] w (HeldPost w s.held) := by
  obtain ⟨⟨nb, Un, V, C, ao, cap, es, hI, -, -, -⟩, -⟩ := h
  have hlen : es.length = s.held.length := by rw [← hI.held, List.length_map]
  have hm := hI.most
  have c0 := hI.c0
  have c1 := hI.c1
  have hno := handNone_no c0
  have hcl := cloneA_any hI.row (heldCells_one _) (by omega)
  have HI := Lib.hid hI
  have Hlen := Lib.hid hlen
  clear hI hlen
  go_enter Tryz.func24, Tryz.ntmps24
  go_wp2_with fail
  refine hno.mono ?_
  clear hno
  rintro e w1 ⟨rfl, rfl⟩
  go_wp2_with fail
  refine hcl.mono ?_
  clear hcl
  rintro e w2 ⟨a2, cap2, rfl, hr2, hB2⟩
  obtain ⟨n, hn⟩ : ∃ n, n = es.length := ⟨_, rfl⟩
  rw [← hn] at hr2
  have hnm : n ≤ 64 := by omega
  have Hn := Lib.hid hn
  rcases Nat.eq_zero_or_pos n with h0 | h0
  · have hz : es.length = 0 := by omega
    have Hr2 := Lib.hid hr2
    rw [hz]
    clear hn hm hr2 c0 c1
    go_wp2_with fail
    go_loopg [14] 0 (fun g s14 wr => s14 = .int .i64 0 ∧ wr = w2)
    case atStart => exact ⟨rfl, rfl⟩
    case round =>
      obtain ⟨rfl, rfl⟩ := hrel
      go_wp2_with fail
      go_ret
      have he : s.held = [] := List.length_eq_zero_iff.1 (by rw [← Hlen.out]; exact hz)
      rw [he]
      have hn0 : n = 0 := by rw [Hn.out]; exact hz
      subst hn0
      have : es = [] := List.length_eq_zero_iff.1 hz
      subst this
      exact ⟨a2, cap2, [], rfl, Hr2.out, rfl, fun e he => (by cases he), hB2⟩
  · obtain ⟨b, off, rfl, hb, hbl, -, -⟩ := hr2.at' (by have := hr2.le; omega)
    have hA0 : HeldAt w1 C b off n cap2 0 s.held es w2 := ⟨hr2, Hn.out.symm, HI.out.held, fun i e _ hi => absurd hi (by omega), fun i e hi _ => ((HI.out.each e (List.mem_of_getElem? hi)).1.sub (T := fun j => C j ∧ j < w1.heap.size) (fun j hj hc => ⟨hc, hj⟩)).mod (F := none') (Mod.of_below hB2) (fun _ _ _ => id), fun e he => (HI.out.each e he).2.2, hB2⟩
    have HA0 := Lib.hid hA0
    rw [← Hn.out]
    clear hn hm hr2 c0 c1 hA0 hB2
    go_wp2_with fail
    go_loopg [14] n (fun g s14 wr => HeldRel w1 C b off n cap2 s.held g s14 wr)
    case atStart => exact ⟨0, es, rfl, Nat.zero_le _, rfl, HA0.out⟩
    case round =>
      obtain ⟨k, fs, rfl, hk, rfl, hA⟩ := hrel
      have HA := Lib.hid hA
      by_cases hlt : k < n
      · obtain ⟨x, hx⟩ : ∃ x, fs[k]? = some x := ⟨fs[k]'(by rw [hA.len]; exact hlt), List.getElem?_eq_getElem _⟩
        obtain ⟨b', off', e', hbb, hbw, hcc, hcf⟩ := hA.row.at' (by have := hA.row.le; omega)
        cases e'
        have h9 : (k + 1) * 9 ≤ n * 9 := Nat.mul_le_mul_right _ hlt
        have hcell : ∀ j, j < 9 → wr.cell? ⟨b, off + (k * 9 + j), none⟩ = x.cells[j]? := fun j hj => by rw [hcc _ (by omega)]; exact heldCells_at hx j hj
        have hfr : ∀ j, j < 9 → wr.frozen? ⟨b, off + (k * 9 + j), none⟩ = false := fun j hj => (hcf _ (by have := hA.row.le; have := Nat.mul_le_mul_right 9 this; omega)).2
        have how := handOwn_any _ wr x.q x.a x.c (hA.small x (List.mem_of_getElem? hx)) (hA.old k x hx (Nat.le_refl _))
        have Hx := Lib.hid hx
        obtain ⟨⟨xk, xu, xe, xp, xz, xn, xd, ⟨xpe, xls⟩⟩, xa, xc⟩ := x
        have a0 : wr.cell? ⟨b, off + k * 9, none⟩ = some (.int .i64 xk) := hcell 0 (by omega)
        have a1 : wr.cell? ⟨b, off + k * 9 + 1, none⟩ = some (.int .i64 xu) := hcell 1 (by omega)
        have a2 : wr.cell? ⟨b, off + k * 9 + 2, none⟩ = some (.int .i64 xe) := hcell 2 (by omega)
        have a3 : wr.cell? ⟨b, off + k * 9 + 3, none⟩ = some (.int .i64 xp) := hcell 3 (by omega)
        have a4 : wr.cell? ⟨b, off + k * 9 + 4, none⟩ = some (.int .i64 xz) := hcell 4 (by omega)
        have a5 : wr.cell? ⟨b, off + k * 9 + 5, none⟩ = some (.int .i64 xn) := hcell 5 (by omega)
        have a6 : wr.cell? ⟨b, off + k * 9 + 6, none⟩ = some (.string xd) := hcell 6 (by omega)
        have a7 : wr.cell? ⟨b, off + k * 9 + 7, none⟩ = some (.int .i64 xpe) := hcell 7 (by omega)
        have a8 : wr.cell? ⟨b, off + k * 9 + 8, none⟩ = some (.slice xa xls.length xc) := hcell 8 (by omega)
        have f0 : wr.frozen? ⟨b, off + k * 9, none⟩ = false := hfr 0 (by omega)
        have f1 : wr.frozen? ⟨b, off + k * 9 + 1, none⟩ = false := hfr 1 (by omega)
        have f2 : wr.frozen? ⟨b, off + k * 9 + 2, none⟩ = false := hfr 2 (by omega)
        have f3 : wr.frozen? ⟨b, off + k * 9 + 3, none⟩ = false := hfr 3 (by omega)
        have f4 : wr.frozen? ⟨b, off + k * 9 + 4, none⟩ = false := hfr 4 (by omega)
        have f5 : wr.frozen? ⟨b, off + k * 9 + 5, none⟩ = false := hfr 5 (by omega)
        have f6 : wr.frozen? ⟨b, off + k * 9 + 6, none⟩ = false := hfr 6 (by omega)
        have f7 : wr.frozen? ⟨b, off + k * 9 + 7, none⟩ = false := hfr 7 (by omega)
        have f8 : wr.frozen? ⟨b, off + k * 9 + 8, none⟩ = false := hfr 8 (by omega)
        have i0 : (0 : Int) ≤ k := by omega
        have i1 : (k : Int) < n := by omega
        simp only [qV] at how
        clear hA hcell hcc hcf hfr hx
        go_wp2_with fail
        refine how.mono ?_
        clear how
        rintro e w4 ⟨ia, ic, rfl, hl4, hB4⟩
        replace a0 := below_at hB4 a0 hbw
        replace f0 := (hB4.frozen (p := ⟨b, off + k * 9, none⟩) hbw).trans f0
        replace a1 := below_at hB4 a1 hbw
        replace f1 := (hB4.frozen (p := ⟨b, off + k * 9 + 1, none⟩) hbw).trans f1
        replace a2 := below_at hB4 a2 hbw
        replace f2 := (hB4.frozen (p := ⟨b, off + k * 9 + 2, none⟩) hbw).trans f2
        replace a3 := below_at hB4 a3 hbw
        replace f3 := (hB4.frozen (p := ⟨b, off + k * 9 + 3, none⟩) hbw).trans f3
        replace a4 := below_at hB4 a4 hbw
        replace f4 := (hB4.frozen (p := ⟨b, off + k * 9 + 4, none⟩) hbw).trans f4
        replace a5 := below_at hB4 a5 hbw
        replace f5 := (hB4.frozen (p := ⟨b, off + k * 9 + 5, none⟩) hbw).trans f5
        replace a6 := below_at hB4 a6 hbw
        replace f6 := (hB4.frozen (p := ⟨b, off + k * 9 + 6, none⟩) hbw).trans f6
        replace a7 := below_at hB4 a7 hbw
        replace f7 := (hB4.frozen (p := ⟨b, off + k * 9 + 7, none⟩) hbw).trans f7
        replace a8 := below_at hB4 a8 hbw
        replace f8 := (hB4.frozen (p := ⟨b, off + k * 9 + 8, none⟩) hbw).trans f8
        have hS := HA.out.step Hx.out hB4 hl4 _ _ _ _ _ _ _ _ _ (rfl : HeldQ.cells ⟨⟨xk, xu, xe, xp, xz, xn, xd, ⟨xpe, xls⟩⟩, ia, ic⟩ = _)
        have HS := Lib.hid hS
        clear hS hl4 hB4
        simp only [qV]
        go_wp2_with fail
        go_roundg (n - (k + 1))
        case measure => omega
        case rel => exact ⟨k + 1, _, rfl, by omega, by go_num, HS.out⟩
      · obtain rfl : k = n := by omega
        clear hA hlt
        go_wp2_with fail
        go_ret
        have hA := HA.out
        have hnl : s.held.length = k := by rw [← hA.qs, List.length_map, hA.len]
        refine ⟨some ⟨b, off, none⟩, cap2, fs, by rw [hnl]; rfl, by rw [hnl]; exact hA.row, hA.qs, fun e he => ?_, hA.below⟩
        obtain ⟨i, hi⟩ := List.mem_iff_getElem?.1 he
        have hil := (List.getElem?_eq_some_iff.1 hi).1
        exact (hA.new i e hi (by rw [← hA.len]; exact hil)).sub (fun _ _ hj => hj.1)
end Go.Proofs.YtnojjohkpkmliaaGreat
