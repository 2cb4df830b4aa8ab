import Derived.Test.YtpkdpmkiplopmaaPack
/- fields that are packed: what is good -/
namespace Go.Proofs.Ytpkdpmkiplopmaa
open Go.RowKit Esch

theorem packNew_any (w : World) : Calls Try.prog 45 #[] w fun e w' => ∃ b, e = .returned (.pointer (some ⟨b, 0, none⟩)) ∧ PkAt w.heap.size b [] false w' ∧ Below w.heap.size w w' := by
  go_enter Try.func45, Try.ntmps45
  go_wp2_with fail
  go_ret
  refine ⟨w.heap.size, rfl, ⟨Nat.le_refl _, .pointer none, .slice none 0 0, alloc_new _ _, Or.inl rfl, World.ownsRow_nil _ _ _ _, by simp [Value.ownBlock]⟩, by (repeat (first | with_reducible exact (Below.refl _ _) | with_reducible refine Below.drew ?_ | with_reducible refine Esch.below_drewN ?_ _ | with_reducible refine Below.setCell ?_ (by first | omega | (simp; done) | (simp; omega)) _ | with_reducible refine Below.alloc ?_ (by first | omega | (simp; done) | (simp; omega)) _))⟩
theorem putB_data (v n : Nat) : (⟨(putB v n).toArray⟩ : ByteArray).data.toList = putB v n := rfl
theorem putB_size (v n : Nat) : (⟨(putB v n).toArray⟩ : ByteArray).size = n := by show (putB v n).toArray.size = n; simp [putB_length]
set_option maxRecDepth 100000 in
set_option maxHeartbeats 1000000 in
theorem put_ok (w : World) (B b : Nat) (bs : List UInt8) (bad : Bool) (v n : Nat) (hn : sizedB n = true) (hv : v < 256 ^ n) (hv63 : v < 9223372036854775808) (h : PkAt B b bs bad w) (hlen : bs.length ≤ 900000) (hBw : B ≤ w.heap.size) :
    Calls Try.prog 68 #[.pointer (some ⟨b, 0, none⟩), .int .i64 v, .int .i64 n] w fun e w' => e = .returned (.tuple #[]) ∧ PkAt B b (bs ++ putB v n) bad w' ∧ Below B w w' := by
  have hsz := sized_any w n
  rw [hn] at hsz
  have hnn : n = 1 ∨ n = 2 ∨ n = 4 ∨ n = 8 := by simp only [sizedB, Bool.or_eq_true, beq_iff_eq] at hn; omega
  have hput := shiftPut_any w v n (by omega) (by omega)
  have hws := fun W (hW : Below w.heap.size w W) (hP : PkAt B b bs bad W) => writeString_any W B b bs bad ⟨(putB v n).toArray⟩ hP (by rw [putB_size]; omega) (Nat.le_trans hBw hW.size)
  have H := Lib.hid h
  have Hv := Lib.hid hv63
  have hkeep : ∀ W, Below w.heap.size w W → PkAt B b bs bad W := fun W hW => by
    obtain ⟨h1, p, q, h2, h3, h4, h5⟩ := H.out
    refine ⟨h1, p, q, (hW.block b h2.lt).trans h2, h3, ⟨h4.1, ?_⟩, h5⟩
    rcases h4.2 with hh | ⟨g, cap, cur, e, hg, hgb, rest⟩
    · exact .inl hh
    · exact .inr ⟨g, cap, cur, e, hg, (hW.block g (block_lt hgb)).trans hgb, rest⟩
  have HK := Lib.hid hkeep
  have hq : n = 8 ∨ (n < 8 ∧ (v : Int) / 2 ^ (8 * n) = 0) := by
    rcases hnn with rfl | rfl | rfl | rfl
    · right; exact ⟨by omega, by simp at hv ⊢; omega⟩
    · right; exact ⟨by omega, by simp at hv ⊢; omega⟩
    · right; exact ⟨by omega, by simp at hv ⊢; omega⟩
    · left; rfl
  have hw : IntKind.u64.wrap (v : Int) = (v : Int) := by rw [IntKind.wrap_u64]; omega
  clear hn hv hv63 h hkeep
  rcases hq with rfl | ⟨h8, hq⟩
  · go_enter Try.func68, Try.ntmps68
    go_wp2_with fail
    refine hsz.mono ?_
    clear hsz
    rintro e w0 ⟨rfl, rfl⟩
    go_wp2_with fail
    have hputd : Calls Try.prog 89 #[.int .u64 v, .int .i64 8] w0.drew (StrPost w0.drew (putB v 8)) := shiftPut_any w0.drew v 8 (by have := Hv.out; omega) (by omega)
    clear hput
    go_region_held3 (fun _ => True) (exact trivial)
      (first
        | (go_at_call 88; (with_reducible refine hws1.mono ?_); rintro e w2 ⟨rfl, hP2, hB2⟩)
        | (go_at_call 89; (with_reducible refine hputd.mono ?_); rintro e w1 ⟨rfl, hB1'⟩
           have hB1 : Below w0.heap.size w0 w1 := ⟨hB1'.os, hB1'.tape, hB1'.output, hB1'.size, hB1'.block⟩
           have hws1 := hws w1 hB1 (HK.out w1 hB1)))
    go_wp2_with fail
    go_end0
    exact ⟨rfl, hP2, (hB1.mono hBw).trans hB2⟩
  · go_enter Try.func68, Try.ntmps68
    go_wp2_with fail
    refine hsz.mono ?_
    clear hsz
    rintro e w0 ⟨rfl, rfl⟩
    go_wp2_with fail
    have hputd := shiftPut_any w0.drew v n (by have := Hv.out; omega) (by omega)
    clear hput
    go_region_held3 (fun _ => True) (exact trivial)
      (first
        | (go_at_call 88; (with_reducible refine hws1.mono ?_); rintro e w2 ⟨rfl, hP2, hB2⟩)
        | (go_at_call 89; (with_reducible refine hputd.mono ?_); rintro e w1 ⟨rfl, hB1'⟩
           have hB1 : Below w0.heap.size w0 w1 := ⟨hB1'.os, hB1'.tape, hB1'.output, hB1'.size, hB1'.block⟩
           have hws1 := hws w1 hB1 (HK.out w1 hB1)))
    go_wp2_with fail
    go_end0
    exact ⟨rfl, hP2, (hB1.mono hBw).trans hB2⟩
set_option maxRecDepth 100000 in
set_option maxHeartbeats 1000000 in
theorem pkNum_ok (w : World) (B b : Nat) (bs : List UInt8) (bad : Bool) (v n : Nat) (hn : sizedB n = true) (hv : v < 256 ^ n) (hv63 : v < 9223372036854775808) (h : PkAt B b bs bad w) (hlen : bs.length ≤ 900000) (hBw : B ≤ w.heap.size) :
    Calls Try.prog 46 #[.pointer (some ⟨b, 0, none⟩), .int .i64 v, .int .i64 n] w fun e w' => e = .returned (.tuple #[]) ∧ PkAt B b (bs ++ putB v n) bad w' ∧ Below B w w' := by
  have hp := put_ok w B b bs bad v n hn hv hv63 h hlen hBw
  clear hn hv hv63 h
  go_enter Try.func46, Try.ntmps46
  go_wp2_with fail
  refine hp.mono ?_
  rintro e w1 ⟨rfl, hP, hB⟩
  go_wp2_with fail
  go_end0
  exact ⟨rfl, hP, hB⟩
set_option maxHeartbeats 1000000 in
theorem bldLen_any (w : World) (B b : Nat) (bs : List UInt8) (bad : Bool) (h : PkAt B b bs bad w) :
    Calls Try.prog 69 #[.pointer (some ⟨b, 0, none⟩)] w fun e w' => e = .returned (.int .i64 bs.length) ∧ w' = w := by
  obtain ⟨hBb, p, v, hblk, hp, hown, hne⟩ := h
  obtain ⟨c0, c1, c2, hf, hsh⟩ := hblk.cells
  obtain ⟨ao, cap, rfl⟩ : ∃ ao cap, v = .slice ao bs.length cap := by
    rcases hown.2 with ⟨hv, h0⟩ | ⟨g, cap, cur, hv, _⟩
    · exact ⟨none, 0, by rw [hv, h0]⟩
    · exact ⟨_, _, hv⟩
  clear hf hp hown hne hblk
  go_enter Try.func69, Try.ntmps69
  go_wp2_with fail
  go_ret
  exact ⟨rfl, rfl⟩
theorem Try.cellsByte : Try.prog.cellsOf 5 = 1 := by kernel_rfl
set_option maxRecDepth 100000 in
set_option maxHeartbeats 1000000 in
theorem bldString_any (w : World) (B b : Nat) (l : List UInt8) (bad : Bool) (h : PkAt B b l bad w) (h0 : l ≠ []) :
    Calls Try.prog 70 #[.pointer (some ⟨b, 0, none⟩)] w fun e w' => e = .returned (.string ⟨l.toArray⟩) ∧ Below B w w' := by
  obtain ⟨hBb, p, v, hblk, hp, hown, hne⟩ := h
  have hl0 : l.length ≠ 0 := by simpa using h0
  obtain ⟨g, cap, cur, rfl, hbg, hg, hnc, hcm, hcs, htake⟩ : ∃ g cap cur, v = .slice (some ⟨g, 0, none⟩) l.length cap ∧ B ≤ g ∧ w.heap[g]? = some (.cells cur 5 (0, 0)) ∧ l.length ≤ cap ∧ cap ≤ maxLen ∧ cur.size = cap * 1 ∧ cur.toList.take (l.length * 1) = Lib.byteCells l := by
    rcases hown.2 with ⟨_, hz⟩ | ⟨g, cap, cur, hv, r⟩
    · exact absurd hz hl0
    · exact ⟨g, cap, cur, hv, r⟩
  have hblkd : PkBlk w.drew b p (.slice (some ⟨g, 0, none⟩) l.length cap) bad := hblk
  obtain ⟨c0, c1, c2, hf, hsh⟩ := hblkd.cells
  have hSD : (Builtin.unsafeSliceData_ #[113] 145 #[.slice (some ⟨g, 0, none⟩) l.length cap]).run Try.prog w.drew = .ok (.pointer (some ⟨g, 0, none⟩)) w.drew :=
    Lib.run_unsafeSliceData_row _ _ _ _ _ _ (by omega)
  have hUS : (Builtin.unsafeString_ #[145, 3] 9 #[.pointer (some ⟨g, 0, none⟩), .int .i64 l.length]).run Try.prog w.drew = .ok (.string ⟨l.toArray⟩) (w.drew.freeze ⟨g, 0, none⟩ l.length) := by
    refine Lib.run_unsafeString_row w.drew 145 3 9 5 Try.underlying145 Try.cellsByte g cur.size (by unfold World.shape?; rw [show w.drew.heap[g]? = some (.cells cur 5 (0, 0)) from hg]) l h0 (by omega) (by unfold maxLen at hcm; omega) ?_
    intro j x hx
    exact hown.cells (g := g) rfl j (.int .u8 x.toNat) (by simp [Lib.byteCells, hx])
  clear hf hown hblk hblkd hg htake hsh hp hne
  go_enter Try.func70, Try.ntmps70
  go_wp2_with fail
  go_region
  all_goals go_wp2_with fail
  all_goals go_ret
  all_goals exact ⟨rfl, Lib.below_freeze (Below.drew (Below.refl B w)) (p := ⟨g, 0, none⟩) hbg _⟩
set_option maxRecDepth 100000 in
set_option maxHeartbeats 1000000 in
theorem pkDone_ok (w : World) (B b : Nat) (l : List UInt8) (h : PkAt B b l false w) (h0 : l ≠ []) (hl : l.length ≤ 65536) (hBw : B ≤ w.heap.size) :
    Calls Try.prog 47 #[.pointer (some ⟨b, 0, none⟩)] w fun e w' => e = .returned (.tuple #[.string ⟨l.toArray⟩, .int .i64 0]) ∧ Below B w w' := by
  have hlen := bldLen_any w B b l false h
  have hstr := bldString_any w B b l false h h0
  obtain ⟨hBb, p, v, hblk, hp, hown, hne⟩ := h
  obtain ⟨c0, c1, c2, hf, hsh⟩ := hblk.cells
  clear hf hp hown hne hblk hsh
  go_enter Try.func47, Try.ntmps47
  go_wp2_with fail
  refine hlen.mono ?_
  clear hlen
  rintro e w1 ⟨rfl, rfl⟩
  go_wp2_with fail
  refine hstr.mono ?_
  clear hstr
  rintro e w2 ⟨rfl, hB2⟩
  go_wp2_with fail
  go_ret2
  exact ⟨rfl, hB2⟩
end Go.Proofs.Ytpkdpmkiplopmaa
