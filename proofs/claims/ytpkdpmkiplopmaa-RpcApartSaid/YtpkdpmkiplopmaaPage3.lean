import Derived.Test.YtpkdpmkiplopmaaPage2
/- pages: made, trimmed, their tail -/
namespace Go.Proofs.Ytpkdpmkiplopmaa
open Go.RowKit Esch

def PgNew (w : World) (room : Nat) (e : Ending) (w' : World) : Prop := ∃ b mb, e = .returned (.tuple #[.pointer (some ⟨b, 0, none⟩), .int .i64 0]) ∧ PagesAt w' b mb (pg0 room) ∧ w.heap.size ≤ b ∧ w.heap.size ≤ mb ∧ Below w.heap.size w w'
set_option maxHeartbeats 1000000 in
theorem pnew_any (w : World) (room : Nat) (h1 : 1 ≤ room) (h2 : room ≤ 4096) : Calls Try.prog 87 #[.int .i64 room] w (PgNew w room) := by
  have hmm := @run_makeMap Try.prog
  have g1 : (1 : Int) ≤ room := by omega
  have g2 : (room : Int) ≤ 4096 := by omega
  go_enter Try.func87, Try.ntmps87
  go_wp2_with fail
  go_ret2
  refine ⟨w.heap.size + 1, w.heap.size, rfl, ⟨by go_simp; rfl, by go_simp, by go_simp; rfl, by go_simp, ⟨#[], 0, ⟨?_, rfl, List.nodup_nil, List.Pairwise.nil, fun e he => by simp at he⟩⟩, by omega⟩, by omega, Nat.le_refl _, by (repeat (first | with_reducible exact (Below.refl _ _) | with_reducible refine Below.drew ?_ | with_reducible refine Esch.below_drewN ?_ _ | with_reducible refine Below.setCell ?_ (by first | omega | (simp; done) | (simp; omega)) _ | with_reducible refine Below.alloc ?_ (by first | omega | (simp; done) | (simp; omega)) _))⟩
  exact (Below.heap_alloc _ _ _ (by simp)).trans (alloc_new w _)
theorem pnew_no (w : World) (room : Int) (h : room < 1 ∨ 4096 < room) : Calls Try.prog 87 #[.int .i64 room] w fun e w' => e = .returned (.tuple #[.pointer none, .int .i64 1]) ∧ w' = w := by
  rcases h with h | h
  · go_enter Try.func87, Try.ntmps87
    go_wp2_with fail
    go_ret2
    exact ⟨rfl, rfl⟩
  · have h' : ¬ room < 1 := by omega
    go_enter Try.func87, Try.ntmps87
    go_wp2_with fail
    go_ret2
    exact ⟨rfl, rfl⟩
def TrimRel (w : World) (b mb : Nat) (s : PgS) (bl : Nat) (g : Nat) (wr : World) : Prop :=
  ∃ e : Nat, g = bl - e ∧ s.edge ≤ e ∧ e ≤ max s.edge bl ∧ PagesAt wr b mb { s with edge := e, m := s.m.filter fun p => decide ((e : Int) ≤ p.1) } ∧ Mod (fun k => k = b ∨ k = mb) w wr
set_option maxRecDepth 100000 in
set_option maxHeartbeats 1000000 in
theorem ptrim_any (w : World) (b mb : Nat) (s : PgS) (hok : s.ok) (h : PagesAt w b mb s) (a : Int) :
    Calls Try.prog 118 #[.pointer (some ⟨b, 0, none⟩), .int .i64 a] w (PgPost w b mb (s.trim a)) := by
  have H := Lib.hid h
  unfold PgPost PgS.trim
  by_cases h0 : a < 0
  · rw [if_pos (Or.inl h0)]
    clear h hok
    go_enter Try.func118, Try.ntmps118
    go_wp2_with fail
    go_ret
    exact ⟨rfl, H.out.keep (by (repeat' (first | (with_reducible exact (Mod.refl _ _)) | (with_reducible apply Mod.drew) | (with_reducible apply Mod.drewN) | (with_reducible apply Mod.alloc) | (with_reducible apply Mod.setCellAt) | (intro _; first | rfl | exact Or.inl rfl | exact Or.inr rfl) | (intro h; exfalso; omega)))), by (repeat' (first | (with_reducible exact (Mod.refl _ _)) | (with_reducible apply Mod.drew) | (with_reducible apply Mod.drewN) | (with_reducible apply Mod.alloc) | (with_reducible apply Mod.setCellAt) | (intro _; first | rfl | exact Or.inl rfl | exact Or.inr rfl) | (intro h; exfalso; omega)))⟩
  · by_cases h1 : 4096 < a
    · rw [if_pos (Or.inr h1)]
      clear h hok
      go_enter Try.func118, Try.ntmps118
      go_wp2_with fail
      go_ret
      exact ⟨rfl, H.out.keep (by (repeat' (first | (with_reducible exact (Mod.refl _ _)) | (with_reducible apply Mod.drew) | (with_reducible apply Mod.drewN) | (with_reducible apply Mod.alloc) | (with_reducible apply Mod.setCellAt) | (intro _; first | rfl | exact Or.inl rfl | exact Or.inr rfl) | (intro h; exfalso; omega)))), by (repeat' (first | (with_reducible exact (Mod.refl _ _)) | (with_reducible apply Mod.drew) | (with_reducible apply Mod.drewN) | (with_reducible apply Mod.alloc) | (with_reducible apply Mod.setCellAt) | (intro _; first | rfl | exact Or.inl rfl | exact Or.inr rfl) | (intro h; exfalso; omega)))⟩
    · rw [if_neg (by omega)]
      obtain ⟨bl, rfl⟩ : ∃ bl : Nat, a = bl := ⟨a.toNat, by omega⟩
      rw [Int.toNat_natCast]
      have hbl : bl ≤ 4096 := by omega
      have hT0 : TrimRel w b mb s bl (bl - s.edge) w := ⟨s.edge, rfl, Nat.le_refl _, by omega, by rw [filter_all (fun p hp => (hok.keys p hp).1)]; exact h, Mod.refl _ _⟩
      have HT0 := Lib.hid hT0
      have hg1 : (bl : Int) ≤ 4096 := by omega
      have hedge := hok.edge
      clear h hok h0 h1 hT0
      go_enter Try.func118, Try.ntmps118
      go_wp2_with fail
      go_loopg [] (bl - s.edge) (fun g wr => TrimRel w b mb s bl g wr)
      case atStart => exact HT0.out
      case round =>
        obtain ⟨e, rfl, he1, he2, hP, hM⟩ := hrel
        have HP := Lib.hid hP
        obtain ⟨c0, c1, c2, f2, ⟨es, clock, hm⟩, hne⟩ := hP
        simp only at c0 c2 hm
        by_cases hlt : e < bl
        · have hlt' : (e : Int) < bl := by omega
          obtain ⟨es', hdel, hm'⟩ := (hm.of_block (w' := wr.drew) rfl).delete keySpot Try.underlying103 (e : Int) #[103, 180] 0 rfl
          rw [filter_step] at hm'
          simp only [κs1] at hdel
          obtain ⟨W2, hW2⟩ : ∃ W2, W2 = putObj wr.drew mb (.map es' clock) := ⟨_, rfl⟩
          have hM2 : Mod (fun k => k = b ∨ k = mb) w W2 := by rw [hW2]; exact (hM.drew).putObj (fun _ => Or.inr rfl) _
          rw [← hW2] at hdel hm'
          have hblk : W2.heap[b]? = wr.heap[b]? := by rw [hW2, putObj_other _ _ _ _ hne]; rfl
          have d0 := (World.cell?_of_block (a := ⟨b, 0, none⟩) hblk).trans c0
          have d1 := (World.cell?_of_block (a := ⟨b, 1, none⟩) hblk).trans c1
          have d2 := (World.cell?_of_block (a := ⟨b, 2, none⟩) hblk).trans c2
          have e2 := (World.frozen?_of_block (a := ⟨b, 2, none⟩) hblk).trans f2
          have Hm' := Lib.hid hm'
          have HM2 := Lib.hid hM2
          have Hhl := Lib.hid hlt
          clear hm hm' hM hM2 hW2 hlt hblk
          go_wp2_with fail
          refine region_tail 9 (by kernel_rfl) (by kernel_rfl) (fun T hT K hK => ?_)
          simp only [List.take_succ_cons, List.take_zero]
          repeat still_step
          refine wpStill_nil (hK _ ?_)
          clear hK
          simp only [List.drop_succ_cons, List.drop_zero] at hT
          subst hT
          go_wp2
          go_roundg (bl - (e + 1))
          case measure => have := Hhl.out; omega
          case rel =>
            have := Hhl.out
            refine ⟨e + 1, rfl, by omega, by omega, ⟨by go_simp, by go_simp, by go_simp, by go_simp, ⟨es', clock, Hm'.out.of_block ?_⟩, hne⟩, by (repeat' (first | (with_reducible exact HM2.out) | (with_reducible apply Mod.drew) | (with_reducible apply Mod.drewN) | (with_reducible apply Mod.alloc) | (with_reducible apply Mod.setCellAt) | (intro _; first | rfl | exact Or.inl rfl | exact Or.inr rfl) | (intro h; exfalso; omega)))⟩
            exact Below.heap_setCell _ _ _ _ (fun e => hne e.symm)
        · have hge : (bl : Int) ≤ e := by omega
          have heq : max s.edge bl = e := by omega
          clear hlt
          go_wp2_with fail
          go_ret
          rw [heq]
          exact ⟨rfl, HP.out.keep (by (repeat' (first | (with_reducible exact (Mod.refl _ _)) | (with_reducible apply Mod.drew) | (with_reducible apply Mod.drewN) | (with_reducible apply Mod.alloc) | (with_reducible apply Mod.setCellAt) | (intro _; first | rfl | exact Or.inl rfl | exact Or.inr rfl) | (intro h; exfalso; omega)))), by (repeat' (first | (with_reducible exact hM) | (with_reducible apply Mod.drew) | (with_reducible apply Mod.drewN) | (with_reducible apply Mod.alloc) | (with_reducible apply Mod.setCellAt) | (intro _; first | rfl | exact Or.inl rfl | exact Or.inr rfl) | (intro h; exfalso; omega)))⟩
end Go.Proofs.Ytpkdpmkiplopmaa
