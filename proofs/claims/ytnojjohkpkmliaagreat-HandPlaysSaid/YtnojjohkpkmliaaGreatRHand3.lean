/- the document's hand: Drop -/
import Derived.Test.YtnojjohkpkmliaaGreatRHand2
namespace Go.Proofs.YtnojjohkpkmliaaGreat
open Go.RowKit Esch

def RHPostC (w0 w : World) (rb : Nat) (R : Nat → Prop) (T : Nat) (r : Bool × HdS) (e : Ending) (w' : World) : Prop := e = .returned (.bool r.1) ∧ RHAt w0 w' rb (grow R w w') T r.2 ∧ Mod R w w'
theorem RHAt.grow0 {w0 w w1 : World} {rb T : Nat} {R : Nat → Prop} {s : HdS} (h : RHAt w0 w rb R T s) (hz : w0.heap.size ≤ w1.heap.size) : RHAt w0 w rb (Go.Proofs.YtnojjohkpkmliaaGreat.grow R w1 w) T s :=
  h.wide (fun _ hk => Or.inl hk) (fun k hk => hk.elim (h.lt k) (fun h => ⟨h.2, by omega⟩)) (Nat.le_refl _)
theorem RHAt.postC {w0 w w' : World} {rb T : Nat} {R : Nat → Prop} {s : HdS} (h : RHAt w0 w rb R T s) (hB : Below w.heap.size w w') : RHPostC w0 w rb R T (false, s) (.returned (.bool false)) w' := ⟨rfl, (h.below hB).grow0 h.base, Mod.of_below hB⟩
section
variable {w0 w : World} {rb T : Nat} {R : Nat → Prop} {s : HdS}
set_option maxHeartbeats 1000000 in
theorem rHdrop_out (h : RHAt w0 w rb R T s) (k : Int) (hk : k < 0 ∨ (s.held.length : Int) ≤ k) :
    Calls Tryz.prog 23 #[.pointer (some ⟨rb, 0, none⟩), .int .i64 k] w (RHPostC w0 w rb R T (false, s)) := by
  have H := Lib.hid h
  obtain ⟨⟨qb, Rn, V, ao, cap, es, hI, hR⟩, hlt⟩ := h
  have c1 := hI.c1
  have hlen : es.length = s.held.length := by rw [← hI.held, List.length_map]
  rcases hk with hk | hk
  · clear hI hR hlt hlen
    go_enter Tryz.func23, Tryz.ntmps23
    go_wp2_with fail
    go_ret
    exact H.out.postC (Below.refl _ _)
  · have hk0 : (0 : Int) ≤ k := by omega
    have hk1 : (es.length : Int) ≤ k := by omega
    clear hI hR hlt hlen hk
    go_enter Tryz.func23, Tryz.ntmps23
    go_wp2_with fail
    go_ret
    exact H.out.postC (Below.refl _ _)
theorem RHIn.erase {w0 w w8 : World} {rb qb T n cap cap' k : Nat} {Rn V R : Nat → Prop} {ao ao' : Option Addr} {es : List HeldQ} {s : HdS} (h : RHIn w0 w rb qb Rn V ao cap es T s) (hk : k < es.length) (hR : ∀ k, Rn k ∨ V k ∨ k = rb → R k) (hl : ∀ k, R k → k < w.heap.size ∧ w0.heap.size ≤ k) (hB : Below w.heap.size w w8)
    (hg : GRowAt w8 (From w.heap.size) 9 n cap' ao' (heldCells (es.take k) ++ heldCells (es.drop (k + 1)))) (hn : n = k + (es.length - (k + 1))) :
    RHPostC w0 w rb R T (true, { s with held := s.held.eraseIdx k }) (.returned (.bool true)) (w8.setCell ⟨rb, 1, none⟩ (.slice ao' n cap')) := by
  have he : es.take k ++ es.drop (k + 1) = es.eraseIdx k := (List.eraseIdx_eq_take_drop_succ es k).symm
  rw [← heldCells_append, he] at hg
  have hl' : (es.eraseIdx k).length = es.length - 1 := List.length_eraseIdx_of_lt hk
  obtain ⟨h1, h2⟩ := h.setRow hR hl hB hg (by omega) (fun e he => h.each e (List.mem_of_mem_eraseIdx he)) (by have := h.most; omega)
  have hh : (es.eraseIdx k).map (·.q) = s.held.eraseIdx k := by
    rw [← h.held, List.eraseIdx_eq_take_drop_succ, List.eraseIdx_eq_take_drop_succ, List.map_append, List.map_take, List.map_drop]
  rw [hh] at h1
  refine ⟨rfl, h1.wide (fun j hj => ?_) (fun j hj => ?_) (by omega), h2.mono (fun j _ e => hR j (Or.inr (Or.inr e)))⟩
  · rcases hj with hj | hj
    · exact Or.inl hj
    · exact Or.inr ⟨hj.1, by simpa using hj.2⟩
  · have hb := hB.size
    have hz := h.below.size
    rcases hj with hj | hj
    · have := hl j hj; exact ⟨by simp only [World.size_setCell]; omega, this.2⟩
    · simp only [World.size_setCell] at hj ⊢
      omega
set_option maxRecDepth 100000 in
set_option maxHeartbeats 8000000 in
theorem rHdrop_in (h : RHAt w0 w rb R T s) (k : Nat) (hk : k < s.held.length) :
    Calls Tryz.prog 23 #[.pointer (some ⟨rb, 0, none⟩), .int .i64 (k : Nat)] w (RHPostC w0 w rb R T (true, { s with held := s.held.eraseIdx k })) := by
  obtain ⟨⟨qb, Rn, V, ao, cap, es, hI, hR⟩, hlt⟩ := h
  have hlen : es.length = s.held.length := by rw [← hI.held, List.length_map]
  have hke : k < es.length := by omega
  have hle := hI.row.le
  have hmx := hI.row.max
  obtain ⟨b, off, rfl, hVb, hbl, hc, hf⟩ := hI.row.at' (by omega)
  have c1 := hI.c1
  have f1 := hI.f1
  have hrl := cell_lt hI.c0
  have i0 : (0 : Int) ≤ k := by omega
  have i1 : (k : Int) < es.length := by omega
  have i2 : (es.length : Int) ≤ cap := by omega
  have i3 : (cap : Int) ≤ 9223372036854775807 := by omega
  have n0 : k ≤ cap := by omega
  have n1 : k + 1 ≤ es.length := by omega
  have n2 : k + 1 ≤ cap := by omega
  have i4 : IntKind.i64.wrap ((k : Int) + 1) = ((k + 1 : Nat) : Int) := by rw [wrap_i64' (by omega) (by omega)]; omega
  have i5 : (0 : Int) ≤ (k : Int) + 1 := by omega
  have i6 : (k : Int) + 1 ≤ es.length := by omega
  have hm64 := hI.most
  obtain ⟨A, hA⟩ : ∃ A : Addr, (if cap = k + 1 then some (⟨b, off, none⟩ : Addr) else some ⟨b, off + (k + 1) * 9, none⟩) = some A := by split <;> exact ⟨_, rfl⟩
  obtain ⟨j0, hi, hy0, hy1, hy2⟩ := info_parts (show (Tryz.prog.info? 42).map (fun i => (i.zero, i.size, i.bytes)) = some (some (.agg #[.int .i64 0, .int .i64 0, .int .i64 0, .int .i64 0, .int .i64 0, .int .i64 0, .string ⟨#[]⟩, .int .i64 0, .slice none 0 0]), 9, 96) by kernel_rfl)
  have HS : Hid (∀ W, Mod none' w W → Src Tryz.prog 9 25 (.slice (some ⟨b, off, none⟩) k cap) k (heldCells (es.take k)) W ∧ Src Tryz.prog 9 25 (.slice (some A) (es.length - (k + 1)) (cap - (k + 1))) (es.length - (k + 1)) (heldCells (es.drop (k + 1))) W) := Lib.hid (fun W hM => by
    have hr := hI.row.mod hM (fun _ _ _ => id)
    have h1 := hr.take (k := k) (c := cap) (by omega) (by omega) (Nat.le_refl _)
    have h2 := hr.srcTail (k := k + 1) (by omega) hA Tryz.underlying25 (heldCells_one _)
    rw [heldCells_take] at h1
    rw [heldCells_drop] at h2
    exact ⟨h1.src Tryz.underlying25 (heldCells_one _), h2⟩)
  have HI := Lib.hid hI
  have HR := Lib.hid hR
  have HLT := Lib.hid hlt
  have Hke := Lib.hid hke
  clear hI hR hlt hlen hc hf hVb hk hke
  go_enter Tryz.func23, Tryz.ntmps23
  go_wp2_with fail
  go_region_law
    (first
      | (refine step_append_g (by rfl) (.tmp 17) (.tmp 23) 25 25 (by rfl) 42 j0 _ 96 Tryz.underlying25 hi hy0 hy1 hy2 (by rfl) (by rfl) (GRowAt.nil _ none' 9 _) _ k (heldCells (es.take k)) (by rfl) (HS.out _ (by (repeat' (first | (with_reducible exact (Mod.refl _ _)) | (with_reducible apply Mod.drew) | (with_reducible apply Mod.drewN) | (with_reducible apply Mod.alloc) | (with_reducible apply Mod.setCellAt) | (intro _; first | rfl | exact Or.inl rfl | exact Or.inr rfl) | (intro h; exfalso; omega))))).1 (by omega) (by omega) ?_
         intro a6 cap6 w6 hg6 hM6 hz6
         simp only [Nat.zero_add, List.nil_append] at hg6
         have hMW6 : Mod none' w w6 := Mod.trans (by (repeat' (first | (with_reducible exact (Mod.refl _ _)) | (with_reducible apply Mod.drew) | (with_reducible apply Mod.drewN) | (with_reducible apply Mod.alloc) | (with_reducible apply Mod.setCellAt) | (intro _; first | rfl | exact Or.inl rfl | exact Or.inr rfl) | (intro h; exfalso; omega)))) hM6
         have c16 := hMW6.at c1 id
         have f16 := (hMW6.frozen (p := ⟨rb, 1, none⟩) hrl id).trans f1
         have hz6' := hMW6.size
         have hrl6 : rb < w6.heap.size := Nat.lt_of_lt_of_le hrl hMW6.size)
      | (refine step_append_g (by rfl) (.tmp 24) (.tmp 31) 25 25 (by rfl) 42 j0 _ 96 Tryz.underlying25 hi hy0 hy1 hy2 (by rfl) (by rfl) (hg6.mod (F := none') (by (repeat' (first | (with_reducible exact (Mod.refl _ _)) | (with_reducible apply Mod.drew) | (with_reducible apply Mod.drewN) | (with_reducible apply Mod.alloc) | (with_reducible apply Mod.setCellAt) | (intro _; first | rfl | exact Or.inl rfl | exact Or.inr rfl) | (intro h; exfalso; omega)))) (fun _ _ _ => id)) _ (es.length - (k + 1)) (heldCells (es.drop (k + 1))) (by rfl) (HS.out _ (Mod.trans hMW6 (by (repeat' (first | (with_reducible exact (Mod.refl _ _)) | (with_reducible apply Mod.drew) | (with_reducible apply Mod.drewN) | (with_reducible apply Mod.alloc) | (with_reducible apply Mod.setCellAt) | (intro _; first | rfl | exact Or.inl rfl | exact Or.inr rfl) | (intro h; exfalso; omega)))))).2 (by omega) (by omega) ?_
         intro a8 cap8 w8 hg8 hM8 hz8
         have hB8 : Below w.heap.size w w8 := Below.trans (show Below w.heap.size w _ from by
           have hB6 := hMW6.below
           (repeat (first | with_reducible exact hB6 | with_reducible refine Below.drew ?_ | with_reducible refine Esch.below_drewN ?_ _ | with_reducible refine Below.setCell ?_ (by first | omega | (simp; done) | (simp; omega)) _ | with_reducible refine Below.alloc ?_ (by first | omega | (simp; done) | (simp; omega)) _))) (hM8.below_at (by first | exact hz6' | (simp only [World.size_alloc]; exact Nat.le_trans hz6' (by omega)) | (simp; omega)) (fun j hj e => by
           rcases e with e | e
           · exact e
           · simp at e; omega))
         have c18 := below_at hB8 c1 hrl
         have f18 := (hB8.frozen (p := ⟨rb, 1, none⟩) hrl).trans f1)
      | fail)
  all_goals
    have hgE : GRowAt w8 (From w.heap.size) 9 (k + (es.length - (k + 1))) cap8 a8 (heldCells (es.take k) ++ heldCells (es.drop (k + 1))) := hg8.sub (fun j _ hj => by
      show w.heap.size ≤ j
      rcases hj with (hj | hj) | hj
      · exact hj.elim
      · first
          | omega
          | (simp at hj; omega)
      · first
          | omega
          | (simp at hj; omega))
    have HE := Lib.hid (HI.out.erase Hke.out HR.out HLT.out hB8 hgE rfl)
    clear hgE hg8 hM8 hB8 hg6 hM6 hMW6
    go_wp2_with fail
    go_ret
    exact HE.out
end
end Go.Proofs.YtnojjohkpkmliaaGreat
