import Derived.Test.YtpkdpmkiplopmaaPage3
/- pages: the page behind all that are there -/
namespace Go.Proofs.Ytpkdpmkiplopmaa
open Go.RowKit Esch

theorem tailOf_snoc (l : List (Int × (Int × ByteArray))) (p : Int × (Int × ByteArray)) (e : Int) : tailOf e (l ++ [p]) = max (tailOf e l) (p.1 + 1) := by
  induction l generalizing e with
  | nil => rfl
  | cons q l ih => rw [List.cons_append, tailOf, ih, tailOf]
def TailRel (w : World) (mb r : Nat) (s : PgS) (g : Nat) (sv : Value) (wr : World) : Prop :=
  ∃ (seen left : List (Int × (Int × ByteArray))), g = left.length ∧ Ranges wr mb r κs1 κc s.m left ∧ (seen ++ left).Perm s.m ∧ sv = .int .i64 (tailOf s.edge seen) ∧ Below w.heap.size w wr
set_option maxRecDepth 100000 in
set_option maxHeartbeats 1000000 in
theorem ptail_any (w : World) (b mb : Nat) (s : PgS) (hok : s.ok) (h : PagesAt w b mb s) :
    Calls Try.prog 119 #[.pointer (some ⟨b, 0, none⟩)] w fun e w' => e = .returned (.int .i64 s.tail) ∧ Below w.heap.size w w' := by
  obtain ⟨c0, c1, c2, f2, ⟨es, clock, hm⟩, hne⟩ := h
  have Hok := Lib.hid hok
  have hml := block_lt hm.block
  clear hok
  go_enter Try.func119, Try.ntmps119
  go_wp2_with (at_range; refine wpList_range_map rfl _ _ rfl _ _ Try.underlying103 rfl hm ?_; intro w2 hR2 e2)
  go_frame
  have hB2 : Below w.heap.size w w2 := by rw [e2]; exact (Below.refl _ w).alloc (Nat.le_refl _) _
  clear e2 hm
  obtain ⟨r, hr⟩ : ∃ r, r = w.heap.size := ⟨_, rfl⟩
  rw [← hr] at hR2 ⊢
  have hrw : w.heap.size ≤ r := by omega
  clear hr
  go_loopg [3] s.m.length (fun g sv wr => TailRel w mb r s g sv wr)
  case atStart => exact ⟨[], s.m, rfl, hR2, List.Perm.refl _, rfl, hB2⟩
  case round =>
    clear hR2 hB2
    obtain ⟨seen, left, rfl, hR, hperm, rfl, hB⟩ := hrel
    have Hperm := Lib.hid hperm
    clear hperm
    go_wp2_with (at_next; refine wpList_next_map rfl _ rfl rfl hR ?_ ?_)
    · intro hl0
      have HL := Lib.hid hl0
      clear hl0
      go_wp2_with fail
      go_ret
      refine ⟨?_, hB⟩
      have hp := Hperm.out
      rw [HL.out, List.append_nil] at hp
      unfold PgS.tail
      rw [tailOf_perm hp]
      rfl
    · intro pre u nk nd post w3 hl hR3 hg3 hs3 hen
      obtain ⟨n, hn⟩ : ∃ n : Int × ByteArray, n = (nk, nd) := ⟨_, rfl⟩
      rw [← hn] at hl
      have HL := Lib.hid hl
      have hB3 : Below w.heap.size w w3 := hB.grown hg3 hB.size (fun k e => by cases e; exact hrw)
      have hz3 := hB3.size
      have hu : (u, n) ∈ s.m := (Hperm.out.mem_iff).1 (by rw [hl]; simp)
      obtain ⟨u1, u2⟩ := Hok.out.keys _ hu
      simp only at u1 u2
      have hpn : (seen ++ [(u, n)] ++ (pre ++ post)).Perm s.m := by
        refine List.Perm.trans ?_ Hperm.out
        rw [hl, List.append_assoc]
        exact List.Perm.append_left seen (by simpa using (List.perm_middle (a := (u, n)) (l₁ := pre) (l₂ := post)).symm)
      have hsn := tailOf_snoc seen (u, n) s.edge
      have hs0 : ∀ p ∈ seen, p.1 < 4096 := fun p hp => (Hok.out.keys p ((Hperm.out.mem_iff).1 (by simp [hp]))).2
      have htb := tailOf_bounds (l := seen) (e := s.edge) (by omega) (by have := Hok.out.edge; omega) hs0
      generalize tailOf s.edge seen = tv at hsn htb ⊢
      obtain ⟨t0, t1⟩ := htb
      have Hsn := Lib.hid hsn
      have Hpn := Lib.hid hpn
      have u0 : 0 ≤ u := by omega
      clear hl hg3 hs3 hR hB hpn hsn hs0 hu
      simp only [κs1, κc] at hen ⊢
      go_wp2_with fail
      all_goals go_roundg (pre ++ post).length
      all_goals first
        | (show _ < _; rw [HL.out]; simp; done)
        | (refine ⟨seen ++ [(u, n)], pre ++ post, rfl, ?_, Hpn.out, ?_, hB3.alloc hB3.size _⟩
           · have hlt3 := hR3.lt
             exact hR3.of_blocks (by simp [hlt3.1]) (by simp [hlt3.2])
           · rw [Hsn.out]
             show Value.int .i64 _ = Value.int .i64 (max tv (u + 1))
             congr 1
             omega)
end Go.Proofs.Ytpkdpmkiplopmaa
