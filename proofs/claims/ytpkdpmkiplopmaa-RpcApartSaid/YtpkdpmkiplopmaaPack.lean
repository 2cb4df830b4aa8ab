import Derived.Test.YtpkdpmkiplopmaaUnpack
import Derived.Lib.Builder
import Derived.Lib.AppendStr
import Derived.Lib.UnsafeStr
import Derived.Laws.Externs
import Derived.Laws.AppendOwn
/- fields that are packed: package pack, over a strings.Builder in its struct's first cells -/
namespace Go.Proofs.Ytpkdpmkiplopmaa
open Go.RowKit Esch

def PkBlk (w : World) (b : Nat) (p v : Value) (bad : Bool) : Prop := w.heap[b]? = some (.cells #[p, v, .bool bad] 117 (0, 0))
theorem PkBlk.cells {w : World} {b : Nat} {p v : Value} {bad : Bool} (h : PkBlk w b p v bad) : w.cell? ⟨b, 0, none⟩ = some p ∧ w.cell? ⟨b, 1, none⟩ = some v ∧ w.cell? ⟨b, 2, none⟩ = some (.bool bad) ∧ (∀ o, w.frozen? ⟨b, o, none⟩ = false) ∧ w.shape? b = some (117, 3) := by
  unfold PkBlk at h
  exact ⟨by simp [World.cell?, h], by simp [World.cell?, h], by simp [World.cell?, h], fun o => by simp [World.frozen?, h], by simp [World.shape?, h]⟩
theorem PkBlk.lt {w : World} {b : Nat} {p v : Value} {bad : Bool} (h : PkBlk w b p v bad) : b < w.heap.size := block_lt h
theorem PkBlk.set0 {w : World} {b : Nat} {p v : Value} {bad : Bool} (h : PkBlk w b p v bad) (q : Value) : PkBlk (w.setCell ⟨b, 0, none⟩ q) b q v bad := by
  unfold PkBlk at h ⊢; simp [World.setCell, Array.getElem?_modify, h]
theorem PkBlk.set1 {w : World} {b : Nat} {p v : Value} {bad : Bool} (h : PkBlk w b p v bad) (q : Value) : PkBlk (w.setCell ⟨b, 1, none⟩ q) b p q bad := by
  unfold PkBlk at h ⊢; simp [World.setCell, Array.getElem?_modify, h]
theorem PkBlk.set2 {w : World} {b : Nat} {p v : Value} {bad : Bool} (h : PkBlk w b p v bad) (q : Bool) : PkBlk (w.setCell ⟨b, 2, none⟩ (.bool q)) b p v q := by
  unfold PkBlk at h ⊢; simp [World.setCell, Array.getElem?_modify, h]
theorem Try.infoBuilder : (Try.prog.info? 115).map (·.size) = some 2 := by kernel_rfl
theorem Try.liesPacker : liesAt Try.prog Try.prog.depth 117 (3 / Try.prog.cellsOf 117) 0 115 1 = true := by kernel_rfl
set_option maxRecDepth 100000 in
set_option maxHeartbeats 1000000 in
/-- the builder's look at itself -/
theorem copyCheck_any (w : World) (b : Nat) (p v : Value) (bad : Bool) (h : PkBlk w b p v bad) (hp : p = .pointer none ∨ p = .pointer (some ⟨b, 0, none⟩)) :
    Calls Try.prog 108 #[.pointer (some ⟨b, 0, none⟩)] w fun e w' => e = .returned (.tuple #[]) ∧ PkBlk w' b (.pointer (some ⟨b, 0, none⟩)) v bad ∧ Mod (· = b) w w' := by
  obtain ⟨j, hj, hjs⟩ := Option.map_eq_some_iff.1 Try.infoBuilder
  obtain ⟨c0, c1, c2, hf, hsh⟩ := h.cells
  have f0 := hf 0
  have H := Lib.hid h
  rcases hp with rfl | rfl
  · clear hf h
    go_enter Try.func108, Try.ntmps108
    go_wp2_with fail
    rw [Lib.run_to_unsafe w ⟨b, 0, none⟩ Try.underlying112 Try.underlying170 hj (by rw [hjs]; decide) hsh (Nat.zero_lt_succ 2)]
    simp only [Result.andThen]
    rw [Oper.upon_value]
    go_wp2_with fail
    rw [run_callFunc_extern Try.func120 (by kernel_rfl) (by kernel_rfl) (by kernel_rfl) (e := Extern.AbiNoEscape.same) (by kernel_rfl)]
    rw [Lib.run_noEscape]
    simp only [Result.andThen]
    rw [Oper.upon_value]
    go_wp2_with fail
    rw [Lib.run_from_unsafe w ⟨b, 0, none⟩ Try.underlying170 Try.underlying112 hj hsh Try.liesPacker]
    simp only [Result.andThen]
    rw [Oper.upon_value]
    go_wp2_with fail
    go_end0
    exact ⟨rfl, H.out.set0 _, (Mod.refl (· = b) w).setCellAt (fun _ => rfl) _⟩
  · clear hf h
    go_enter Try.func108, Try.ntmps108
    go_wp2_with fail
    rw [Lib.run_neq_ptr_same w _ Try.underlying112 hj]
    go_wp2_with fail
    go_end0
    exact ⟨rfl, H.out, Mod.refl _ _⟩

def PkAt (B b : Nat) (bs : List UInt8) (bad : Bool) (w : World) : Prop :=
  B ≤ b ∧ ∃ p v, PkBlk w b p v bad ∧ (p = .pointer none ∨ p = .pointer (some ⟨b, 0, none⟩)) ∧ w.ownsRow B 5 1 v bs.length (Lib.byteCells bs) ∧ v.ownBlock ≠ some b
set_option maxRecDepth 100000 in
set_option maxHeartbeats 1000000 in
theorem writeString_any (w : World) (B b : Nat) (bs : List UInt8) (bad : Bool) (s : ByteArray) (h : PkAt B b bs bad w) (hlen : bs.length + s.size ≤ 1000000) (hBw : B ≤ w.heap.size) :
    Calls Try.prog 88 #[.pointer (some ⟨b, 0, none⟩), .string s] w fun e w' => e = .returned (.tuple #[.int .i64 s.size, .nilIface]) ∧ PkAt B b (bs ++ s.data.toList) bad w' ∧ Below B w w' := by
  obtain ⟨hBb, p, v, hblk, hp, hown, hne⟩ := h
  have hcc := copyCheck_any w b p v bad hblk hp
  obtain ⟨i0, hi, hz0, hz1, hz2⟩ := info_parts Try.infoByte
  have hbl := hblk.lt
  have hvl : ∀ k, v.ownBlock = some k → B ≤ k ∧ k < w.heap.size := by
    intro k hk
    rcases hown.2 with ⟨e, -⟩ | ⟨g, cap, cur, e, hg, hgb, -⟩
    · rw [e] at hk; cases hk
    · rw [e] at hk; have hk : g = k := Option.some.inj hk; subst hk; exact ⟨hg, block_lt hgb⟩
  have Hown := Lib.hid hown
  clear hblk hown
  go_enter Try.func88, Try.ntmps88
  go_wp2_with fail
  refine hcc.mono ?_
  clear hcc
  rintro e w1 ⟨rfl, hb1, hM1⟩
  have hz1w := hM1.size
  have hown1 : w1.ownsRow B 5 1 v bs.length (Lib.byteCells bs) := by
    refine ⟨Hown.out.1, ?_⟩
    rcases Hown.out.2 with hn | ⟨g, cap, cur, e, hg, hgb, rest⟩
    · exact .inl hn
    · refine .inr ⟨g, cap, cur, e, hg, ?_, rest⟩
      rw [hM1.block g (block_lt hgb) (fun e2 => hne (by rw [e, ← e2]; rfl))]; exact hgb
  obtain ⟨c0, c1, c2, hf, hsh⟩ := hb1.cells
  have Hb1 := Lib.hid hb1
  clear hf hb1
  go_wp2_with (at_builtin; refine Lib.wpList_append_own_string _ rfl _ _ 113 9 rfl B 5 i0 Try.underlying113 Try.underlying9 hi hz0 hz1 hz2 _ _ _ rfl hown1 s rfl ?c3 ?c4 ?c5 ?_)
  case c3 => unfold maxLen; omega
  case c4 => omega
  case c5 => omega
  intro v' w2 hown2 hg2 _
  have hb2 : PkBlk w2 b (.pointer (some ⟨b, 0, none⟩)) v bad := by
    unfold PkBlk; rw [hg2.block b (by omega) (fun e => hne e.symm)]; exact Hb1.out
  obtain ⟨d0, d1, d2, hf, -⟩ := hb2.cells
  have f1 := hf 1
  have hv2 : v'.ownBlock ≠ some b := by
    intro e
    rcases hown2.2 with ⟨e2, -⟩ | ⟨g, cap, cur, e2, hg, hgb, -⟩
    · rw [e2] at e; cases e
    · rw [e2] at e
      have e : g = b := Option.some.inj e
      subst e
      unfold PkBlk at hb2
      rw [hb2] at hgb
      cases hgb
  obtain ⟨ao, n', cap, rfl⟩ : ∃ ao n' cap, v' = .slice ao n' cap := by
    rcases hown2.2 with ⟨hv, _⟩ | ⟨g, cap, cur, hv, _⟩
    · exact ⟨_, _, _, hv⟩
    · exact ⟨_, _, _, hv⟩
  have Hb2 := Lib.hid hb2
  clear hf hb2
  go_wp2_with fail
  go_ret2
  have hM3 : Mod (· = b) w2 (w2.setCell ⟨b, 1, none⟩ (.slice ao n' cap)) := (Mod.refl (· = b) w2).setCellAt (fun _ => rfl) _
  refine ⟨rfl, ⟨hBb, _, _, Hb2.out.set1 _, Or.inr rfl, ?_, hv2⟩, ?_⟩
  · rw [List.length_append, Lib.byteCells_append, Array.length_toList]
    refine ⟨hown2.1, ?_⟩
    rcases hown2.2 with hn | ⟨g, cap2, cur, e, hg, hgb, rest⟩
    · exact .inl hn
    · refine .inr ⟨g, cap2, cur, e, hg, ?_, rest⟩
      rw [hM3.block g (block_lt hgb) (fun e2 => hv2 (by rw [e, ← e2]; rfl))]; exact hgb
  · refine ((hM1.below_at hBw (fun k hk e => by omega)).grown hg2 (by omega) (fun k hk => (hvl k hk).1)).setCell (p := ⟨b, 1, none⟩) hBb _
end Go.Proofs.Ytpkdpmkiplopmaa
