import Derived.Test.YtmnkackkeppheaaGreatPkByt
import Derived.Lib.Builder
import Derived.Lib.AppendStr
import Derived.Lib.UnsafeStr
import Derived.Laws.Externs
import Derived.Laws.AppendOwn
import Derived.Test.YtmnkackkeppheaaGreatPkBase
/- fields that are packed: package pack, over a strings.Builder in its struct's first cells -/
namespace Go.Proofs.YtmnkackkeppheaaGreat
open Go.RowKit Esch

def PkBlk (w : World) (b : Nat) (p v : Value) (bad : Bool) : Prop := w.heap[b]? = some (.cells #[p, v, .bool bad] 158 (0, 0))
theorem PkBlk.cells {w : World} {b : Nat} {p v : Value} {bad : Bool} (h : PkBlk w b p v bad) : w.cell? ⟨b, 0, none⟩ = some p ∧ w.cell? ⟨b, 1, none⟩ = some v ∧ w.cell? ⟨b, 2, none⟩ = some (.bool bad) ∧ (∀ o, w.frozen? ⟨b, o, none⟩ = false) ∧ w.shape? b = some (158, 3) := by
  unfold PkBlk at h
  exact ⟨by simp [World.cell?, h], by simp [World.cell?, h], by simp [World.cell?, h], fun o => by simp [World.frozen?, h], by simp [World.shape?, h]⟩
theorem PkBlk.lt {w : World} {b : Nat} {p v : Value} {bad : Bool} (h : PkBlk w b p v bad) : b < w.heap.size := block_lt h
theorem PkBlk.set0 {w : World} {b : Nat} {p v : Value} {bad : Bool} (h : PkBlk w b p v bad) (q : Value) : PkBlk (w.setCell ⟨b, 0, none⟩ q) b q v bad := by
  unfold PkBlk at h ⊢; simp [World.setCell, Array.getElem?_modify, h]
theorem PkBlk.set1 {w : World} {b : Nat} {p v : Value} {bad : Bool} (h : PkBlk w b p v bad) (q : Value) : PkBlk (w.setCell ⟨b, 1, none⟩ q) b p q bad := by
  unfold PkBlk at h ⊢; simp [World.setCell, Array.getElem?_modify, h]
theorem PkBlk.set2 {w : World} {b : Nat} {p v : Value} {bad : Bool} (h : PkBlk w b p v bad) (q : Bool) : PkBlk (w.setCell ⟨b, 2, none⟩ (.bool q)) b p v q := by
  unfold PkBlk at h ⊢; simp [World.setCell, Array.getElem?_modify, h]
theorem Tryz.infoBuilder : (Tryz.prog.info? 156).map (·.size) = some 2 := by kernel_rfl
theorem Tryz.liesPacker : liesAt Tryz.prog Tryz.prog.depth 158 (3 / Tryz.prog.cellsOf 158) 0 156 1 = true := by kernel_rfl
set_option maxRecDepth 100000 in
set_option maxHeartbeats 1000000 in
/-- the builder's look at itself -/
theorem copyCheck_any (w : World) (b : Nat) (p v : Value) (bad : Bool) (h : PkBlk w b p v bad) (hp : p = .pointer none ∨ p = .pointer (some ⟨b, 0, none⟩)) :
    Calls Tryz.prog 111 #[.pointer (some ⟨b, 0, none⟩)] w fun e w' => e = .returned (.tuple #[]) ∧ PkBlk w' b (.pointer (some ⟨b, 0, none⟩)) v bad ∧ Mod (· = b) w w' := by
  obtain ⟨j, hj, hjs⟩ := Option.map_eq_some_iff.1 Tryz.infoBuilder
  obtain ⟨c0, c1, c2, hf, hsh⟩ := h.cells
  have f0 := hf 0
  have H := Lib.hid h
  rcases hp with rfl | rfl
  · clear hf h
    go_enter Tryz.func111, Tryz.ntmps111
    go_wp2_with fail
    rw [Lib.run_to_unsafe w ⟨b, 0, none⟩ Tryz.underlying154 Tryz.underlying237 hj (by rw [hjs]; decide) hsh (Nat.zero_lt_succ 2)]
    simp only [Result.andThen]
    rw [Oper.upon_value]
    go_wp2_with fail
    rw [run_callFunc_extern Tryz.func130 (by kernel_rfl) (by kernel_rfl) (by kernel_rfl) (e := Extern.AbiNoEscape.same) (by kernel_rfl)]
    rw [Lib.run_noEscape]
    simp only [Result.andThen]
    rw [Oper.upon_value]
    go_wp2_with fail
    rw [Lib.run_from_unsafe w ⟨b, 0, none⟩ Tryz.underlying237 Tryz.underlying154 hj hsh Tryz.liesPacker]
    simp only [Result.andThen]
    rw [Oper.upon_value]
    go_wp2_with fail
    go_end0
    exact ⟨rfl, H.out.set0 _, (Mod.refl (· = b) w).setCellAt (fun _ => rfl) _⟩
  · clear hf h
    go_enter Tryz.func111, Tryz.ntmps111
    go_wp2_with fail
    rw [Lib.run_neq_ptr_same w _ Tryz.underlying154 hj]
    go_wp2_with fail
    go_end0
    exact ⟨rfl, H.out, Mod.refl _ _⟩

def PkAt (B b : Nat) (bs : List UInt8) (bad : Bool) (w : World) : Prop :=
  B ≤ b ∧ ∃ p v, PkBlk w b p v bad ∧ (p = .pointer none ∨ p = .pointer (some ⟨b, 0, none⟩)) ∧ w.ownsRow B 5 1 v bs.length (Lib.byteCells bs) ∧ v.ownBlock ≠ some b
set_option maxRecDepth 100000 in
set_option maxHeartbeats 1000000 in
theorem writeString_any (w : World) (B b : Nat) (bs : List UInt8) (bad : Bool) (s : ByteArray) (h : PkAt B b bs bad w) (hlen : bs.length + s.size ≤ 1000000) (hBw : B ≤ w.heap.size) :
    Calls Tryz.prog 71 #[.pointer (some ⟨b, 0, none⟩), .string s] w fun e w' => e = .returned (.tuple #[.int .i64 s.size, .nilIface]) ∧ PkAt B b (bs ++ s.data.toList) bad w' ∧ Below B w w' := by
  obtain ⟨hBb, p, v, hblk, hp, hown, hne⟩ := h
  have hcc := copyCheck_any w b p v bad hblk hp
  obtain ⟨i0, hi, hz0, hz1, hz2⟩ := info_parts Tryz.infoByte
  have hbl := hblk.lt
  have hvl : ∀ k, v.ownBlock = some k → B ≤ k ∧ k < w.heap.size := by
    intro k hk
    rcases hown.2 with ⟨e, -⟩ | ⟨g, cap, cur, e, hg, hgb, -⟩
    · rw [e] at hk; cases hk
    · rw [e] at hk; have hk : g = k := Option.some.inj hk; subst hk; exact ⟨hg, block_lt hgb⟩
  have Hown := Lib.hid hown
  clear hblk hown
  go_enter Tryz.func71, Tryz.ntmps71
  go_wp2_with fail
  refine hcc.mono ?_
  clear hcc
  rintro e w1 ⟨rfl, hb1, hM1⟩
  have hz1w := hM1.size
  have hown1 : w1.ownsRow B 5 1 v bs.length (Lib.byteCells bs) := by
    refine ⟨Hown.out.1, ?_⟩
    rcases Hown.out.2 with hn | ⟨g, cap, cur, e, hg, hgb, rest⟩
    · exact .inl hn
    · refine .inr ⟨g, cap, cur, e, hg, ?_, rest⟩
      rw [hM1.block g (block_lt hgb) (fun e2 => hne (by rw [e, ← e2]; rfl))]; exact hgb
  obtain ⟨c0, c1, c2, hf, hsh⟩ := hb1.cells
  have Hb1 := Lib.hid hb1
  clear hf hb1
  go_wp2_with (at_builtin; refine Lib.wpList_append_own_string _ rfl _ _ 139 9 rfl B 5 i0 Tryz.underlying139 Tryz.underlying9 hi hz0 hz1 hz2 _ _ _ rfl hown1 s rfl ?c3 ?c4 ?c5 ?_)
  case c3 => unfold maxLen; omega
  case c4 => omega
  case c5 => omega
  intro v' w2 hown2 hg2 _
  have hb2 : PkBlk w2 b (.pointer (some ⟨b, 0, none⟩)) v bad := by
    unfold PkBlk; rw [hg2.block b (by omega) (fun e => hne e.symm)]; exact Hb1.out
  obtain ⟨d0, d1, d2, hf, -⟩ := hb2.cells
  have f1 := hf 1
  have hv2 : v'.ownBlock ≠ some b := by
    intro e
    rcases hown2.2 with ⟨e2, -⟩ | ⟨g, cap, cur, e2, hg, hgb, -⟩
    · rw [e2] at e; cases e
    · rw [e2] at e
      have e : g = b := Option.some.inj e
      subst e
      unfold PkBlk at hb2
      rw [hb2] at hgb
      cases hgb
  obtain ⟨ao, n', cap, rfl⟩ : ∃ ao n' cap, v' = .slice ao n' cap := by
    rcases hown2.2 with ⟨hv, _⟩ | ⟨g, cap, cur, hv, _⟩
    · exact ⟨_, _, _, hv⟩
    · exact ⟨_, _, _, hv⟩
  have Hb2 := Lib.hid hb2
  clear hf hb2
  go_wp2_with fail
  go_ret2
  have hM3 : Mod (· = b) w2 (w2.setCell ⟨b, 1, none⟩ (.slice ao n' cap)) := (Mod.refl (· = b) w2).setCellAt (fun _ => rfl) _
  refine ⟨rfl, ⟨hBb, _, _, Hb2.out.set1 _, Or.inr rfl, ?_, hv2⟩, ?_⟩
  · rw [List.length_append, Lib.byteCells_append, Array.length_toList]
    refine ⟨hown2.1, ?_⟩
    rcases hown2.2 with hn | ⟨g, cap2, cur, e, hg, hgb, rest⟩
    · exact .inl hn
    · refine .inr ⟨g, cap2, cur, e, hg, ?_, rest⟩
      rw [hM3.block g (block_lt hgb) (fun e2 => hv2 (by rw [e, ← e2]; rfl))]; exact hgb
  · refine ((hM1.below_at hBw (fun k hk e => by omega)).grown hg2 (by omega) (fun k hk => (hvl k hk).1)).setCell (p := ⟨b, 1, none⟩) hBb _
end Go.Proofs.YtmnkackkeppheaaGreat
/- fields that are packed: what is good -/
namespace Go.Proofs.YtmnkackkeppheaaGreat
open Go.RowKit Esch

theorem packNew_any (w : World) : Calls Tryz.prog 40 #[] w fun e w' => ∃ b, e = .returned (.pointer (some ⟨b, 0, none⟩)) ∧ PkAt w.heap.size b [] false w' ∧ Below w.heap.size w w' := by
  go_enter Tryz.func40, Tryz.ntmps40
  go_wp2_with fail
  go_ret
  refine ⟨w.heap.size, rfl, ⟨Nat.le_refl _, .pointer none, .slice none 0 0, alloc_new _ _, Or.inl rfl, World.ownsRow_nil _ _ _ _, by simp [Value.ownBlock]⟩, by exact belC (Below.refl _ _)⟩
theorem putB_size (v n : Nat) : (⟨(putB v n).toArray⟩ : ByteArray).size = n := by show (putB v n).toArray.size = n; simp [putB_length]
set_option maxRecDepth 100000 in
set_option maxHeartbeats 1000000 in
theorem put_ok (w : World) (B b : Nat) (bs : List UInt8) (bad : Bool) (v n : Nat) (hn : sizedB n = true) (hv : v < 256 ^ n) (hv63 : v < 9223372036854775808) (h : PkAt B b bs bad w) (hlen : bs.length ≤ 900000) (hBw : B ≤ w.heap.size) :
    Calls Tryz.prog 108 #[.pointer (some ⟨b, 0, none⟩), .int .i64 v, .int .i64 n] w fun e w' => e = .returned (.tuple #[]) ∧ PkAt B b (bs ++ putB v n) bad w' ∧ Below B w w' := by
  have hsz := sized_any w n
  rw [hn] at hsz
  have hnn : n = 1 ∨ n = 2 ∨ n = 4 ∨ n = 8 := by simp only [sizedB, Bool.or_eq_true, beq_iff_eq] at hn; omega
  have hput := shiftPut_any w v n (by omega) (by omega)
  have hws := fun W (hW : Below w.heap.size w W) (hP : PkAt B b bs bad W) => writeString_any W B b bs bad ⟨(putB v n).toArray⟩ hP (by rw [putB_size]; omega) (Nat.le_trans hBw hW.size)
  have H := Lib.hid h
  have Hv := Lib.hid hv63
  have hkeep : ∀ W, Below w.heap.size w W → PkAt B b bs bad W := fun W hW => by
    obtain ⟨h1, p, q, h2, h3, h4, h5⟩ := H.out
    refine ⟨h1, p, q, (hW.block b h2.lt).trans h2, h3, ⟨h4.1, ?_⟩, h5⟩
    rcases h4.2 with hh | ⟨g, cap, cur, e, hg, hgb, rest⟩
    · exact .inl hh
    · exact .inr ⟨g, cap, cur, e, hg, (hW.block g (block_lt hgb)).trans hgb, rest⟩
  have HK := Lib.hid hkeep
  have hq : n = 8 ∨ (n < 8 ∧ (v : Int) / 2 ^ (8 * n) = 0) := by
    rcases hnn with rfl | rfl | rfl | rfl
    · right; exact ⟨by omega, by simp at hv ⊢; omega⟩
    · right; exact ⟨by omega, by simp at hv ⊢; omega⟩
    · right; exact ⟨by omega, by simp at hv ⊢; omega⟩
    · left; rfl
  have hw : IntKind.u64.wrap (v : Int) = (v : Int) := by rw [IntKind.wrap_u64]; omega
  clear hn hv hv63 h hkeep
  rcases hq with rfl | ⟨h8, hq⟩
  · go_enter Tryz.func108, Tryz.ntmps108
    go_wp2_with fail
    refine hsz.mono ?_
    clear hsz
    rintro e w0 ⟨rfl, rfl⟩
    go_wp2_with fail
    have hputd : Calls Tryz.prog 110 #[.int .u64 v, .int .i64 8] w0.drew (StrPost w0.drew (putB v 8)) := shiftPut_any w0.drew v 8 (by have := Hv.out; omega) (by omega)
    clear hput
    go_region_held3 (fun _ => True) (exact trivial)
      (first
        | (go_at_call 71; (with_reducible refine hws1.mono ?_); rintro e w2 ⟨rfl, hP2, hB2⟩)
        | (go_at_call 110; (with_reducible refine hputd.mono ?_); rintro e w1 ⟨rfl, hB1'⟩
           have hB1 : Below w0.heap.size w0 w1 := ⟨hB1'.os, hB1'.tape, hB1'.output, hB1'.size, hB1'.block⟩
           have hws1 := hws w1 hB1 (HK.out w1 hB1)))
    go_wp2_with fail
    go_end0
    exact ⟨rfl, hP2, (hB1.mono hBw).trans hB2⟩
  · go_enter Tryz.func108, Tryz.ntmps108
    go_wp2_with fail
    refine hsz.mono ?_
    clear hsz
    rintro e w0 ⟨rfl, rfl⟩
    go_wp2_with fail
    have hputd := shiftPut_any w0.drew v n (by have := Hv.out; omega) (by omega)
    clear hput
    go_region_held3 (fun _ => True) (exact trivial)
      (first
        | (go_at_call 71; (with_reducible refine hws1.mono ?_); rintro e w2 ⟨rfl, hP2, hB2⟩)
        | (go_at_call 110; (with_reducible refine hputd.mono ?_); rintro e w1 ⟨rfl, hB1'⟩
           have hB1 : Below w0.heap.size w0 w1 := ⟨hB1'.os, hB1'.tape, hB1'.output, hB1'.size, hB1'.block⟩
           have hws1 := hws w1 hB1 (HK.out w1 hB1)))
    go_wp2_with fail
    go_end0
    exact ⟨rfl, hP2, (hB1.mono hBw).trans hB2⟩
set_option maxHeartbeats 1000000 in
theorem bldLen_any (w : World) (B b : Nat) (bs : List UInt8) (bad : Bool) (h : PkAt B b bs bad w) :
    Calls Tryz.prog 72 #[.pointer (some ⟨b, 0, none⟩)] w fun e w' => e = .returned (.int .i64 bs.length) ∧ w' = w := by
  obtain ⟨hBb, p, v, hblk, hp, hown, hne⟩ := h
  obtain ⟨c0, c1, c2, hf, hsh⟩ := hblk.cells
  obtain ⟨ao, cap, rfl⟩ : ∃ ao cap, v = .slice ao bs.length cap := by
    rcases hown.2 with ⟨hv, h0⟩ | ⟨g, cap, cur, hv, _⟩
    · exact ⟨none, 0, by rw [hv, h0]⟩
    · exact ⟨_, _, hv⟩
  clear hf hp hown hne hblk
  go_enter Tryz.func72, Tryz.ntmps72
  go_wp2_with fail
  go_ret
  exact ⟨rfl, rfl⟩
theorem Tryz.cellsByte : Tryz.prog.cellsOf 5 = 1 := by kernel_rfl
set_option maxRecDepth 100000 in
set_option maxHeartbeats 1000000 in
theorem bldString_any (w : World) (B b : Nat) (l : List UInt8) (bad : Bool) (h : PkAt B b l bad w) (h0 : l ≠ []) :
    Calls Tryz.prog 73 #[.pointer (some ⟨b, 0, none⟩)] w fun e w' => e = .returned (.string ⟨l.toArray⟩) ∧ Below B w w' := by
  obtain ⟨hBb, p, v, hblk, hp, hown, hne⟩ := h
  have hl0 : l.length ≠ 0 := by simpa using h0
  obtain ⟨g, cap, cur, rfl, hbg, hg, hnc, hcm, hcs, htake⟩ : ∃ g cap cur, v = .slice (some ⟨g, 0, none⟩) l.length cap ∧ B ≤ g ∧ w.heap[g]? = some (.cells cur 5 (0, 0)) ∧ l.length ≤ cap ∧ cap ≤ maxLen ∧ cur.size = cap * 1 ∧ cur.toList.take (l.length * 1) = Lib.byteCells l := by
    rcases hown.2 with ⟨_, hz⟩ | ⟨g, cap, cur, hv, r⟩
    · exact absurd hz hl0
    · exact ⟨g, cap, cur, hv, r⟩
  have hblkd : PkBlk w.drew b p (.slice (some ⟨g, 0, none⟩) l.length cap) bad := hblk
  obtain ⟨c0, c1, c2, hf, hsh⟩ := hblkd.cells
  have hSD : (Builtin.unsafeSliceData_ #[139] 212 #[.slice (some ⟨g, 0, none⟩) l.length cap]).run Tryz.prog w.drew = .ok (.pointer (some ⟨g, 0, none⟩)) w.drew :=
    Lib.run_unsafeSliceData_row _ _ _ _ _ _ (by omega)
  have hUS : (Builtin.unsafeString_ #[212, 3] 9 #[.pointer (some ⟨g, 0, none⟩), .int .i64 l.length]).run Tryz.prog w.drew = .ok (.string ⟨l.toArray⟩) (w.drew.freeze ⟨g, 0, none⟩ l.length) := by
    refine Lib.run_unsafeString_row w.drew 212 3 9 5 Tryz.underlying212 Tryz.cellsByte g cur.size (by unfold World.shape?; rw [show w.drew.heap[g]? = some (.cells cur 5 (0, 0)) from hg]) l h0 (by omega) (by unfold maxLen at hcm; omega) ?_
    intro j x hx
    exact hown.cells (g := g) rfl j (.int .u8 x.toNat) (by simp [Lib.byteCells, hx])
  clear hf hown hblk hblkd hg htake hsh hp hne
  go_enter Tryz.func73, Tryz.ntmps73
  go_wp2_with fail
  go_region
  all_goals go_wp2_with fail
  all_goals go_ret
  all_goals exact ⟨rfl, Lib.below_freeze (Below.drew (Below.refl B w)) (p := ⟨g, 0, none⟩) hbg _⟩
set_option maxRecDepth 100000 in
set_option maxHeartbeats 1000000 in
theorem pkDone_ok (w : World) (B b : Nat) (l : List UInt8) (h : PkAt B b l false w) (h0 : l ≠ []) (hl : l.length ≤ 65536) (hBw : B ≤ w.heap.size) :
    Calls Tryz.prog 44 #[.pointer (some ⟨b, 0, none⟩)] w fun e w' => e = .returned (.tuple #[.string ⟨l.toArray⟩, .int .i64 0]) ∧ Below B w w' := by
  have hlen := bldLen_any w B b l false h
  have hstr := bldString_any w B b l false h h0
  obtain ⟨hBb, p, v, hblk, hp, hown, hne⟩ := h
  obtain ⟨c0, c1, c2, hf, hsh⟩ := hblk.cells
  clear hf hp hown hne hblk hsh
  go_enter Tryz.func44, Tryz.ntmps44
  go_wp2_with fail
  refine hlen.mono ?_
  clear hlen
  rintro e w1 ⟨rfl, rfl⟩
  go_wp2_with fail
  refine hstr.mono ?_
  clear hstr
  rintro e w2 ⟨rfl, hB2⟩
  go_wp2_with fail
  go_ret2
  exact ⟨rfl, hB2⟩
end Go.Proofs.YtmnkackkeppheaaGreat
/- fields that are packed, beside blocks of others' that stay -/
namespace Esch
open Go Go.RowKit Go.Lib
section
variable {P : Program}
theorem append_own_where (w : World) (base : Nat) (t u ty e : TypeId) (i : TypeInfo) (ht : P.underlying t = some (.slice e)) (hu : P.underlying u = some .string) (hi : P.info? e = some i) (hz : i.zero = some (.int .u8 0))
    (hsize : i.size = 1) (hby : i.bytes = 1) (v : Value) (n : Nat) (xs : List Value) (hown : w.ownsRow base e 1 v n xs) (s : ByteArray) (h63 : n + s.size ≤ maxLen) (hbytes : n + s.size ≤ 140737488355328)
    (v' : Value) (w' : World) (hr : (Builtin.append_ #[t, u] ty #[v, .string s]).run P w = .ok v' w') (k : Nat) (hk : v'.ownBlock = some k) : v.ownBlock = some k ∨ w.heap.size ≤ k := by
  have hxl : xs.length = n := by simpa using hown.1
  rcases hown.2 with ⟨rfl, rfl⟩ | ⟨g, cap, cur, rfl, hbg, hg, hnc, hcm, hcs, htake⟩
  · obtain ⟨v2, w2, hr2, h2, -, -⟩ := run_append_own_string (P := P) w w.heap.size t u ty e i ht hu hi hz hsize hby _ 0 xs ⟨hown.1, .inl ⟨rfl, rfl⟩⟩ s h63 hbytes (Nat.le_refl _)
    rw [hr] at hr2
    cases hr2
    rcases h2.2 with ⟨e, -⟩ | ⟨g, cap, cur, e, hg, -⟩
    · rw [e] at hk; cases hk
    · rw [e] at hk; cases hk; exact Or.inr hg
  · by_cases hroom : n + s.size ≤ cap
    · have hcs2 : cur.size = cap := by simpa using hcs
      have hr2 := run_append_room_string (P := P) w t u ty e i ht hu hi hsize g n cap cur hg s hroom (by omega)
      rw [hr] at hr2
      cases hr2
      exact Or.inl hk
    · have holds : ∀ j u, xs[j]? = some u → w.cell? ((⟨g, 0, none⟩ : Addr).add j) = some u := hown.cells (g := g) rfl
      have hr2 := run_append_grow_string (P := P) w t u ty e i (.int .u8 0) ht hu hi hz ⟨g, 0, none⟩ n cap xs (by rw [hsize]; simpa using hxl) holds s (by omega) (by simp only [maxLen] at h63; omega) (by rw [hby]; exact growslice_fits (by omega) (by omega))
      rw [hr] at hr2
      cases hr2
      cases hk
      exact Or.inr (Nat.le_refl _)
theorem wpList_append_strX {ops : Array Oper} {rest : List Oper} {o : Oper} {a : Act} {w : World} {Q : Exit → Act → World → Prop} (hgd : o.guard = none) (sl x : Operand) (t u : TypeId)
    (ho : o.op = .call { callee := .builtin .append, args := #[sl, x], argTypes := #[t, u] })
    (base : Nat) (e : TypeId) (i : TypeInfo) (ht : P.underlying t = some (.slice e)) (hu : P.underlying u = some .string) (hi : P.info? e = some i) (hz : i.zero = some (.int .u8 0))
    (hsize : i.size = 1) (hby : i.bytes = 1)
    (v : Value) (n : Nat) (xs : List Value) (hs : a.eval sl = v) (hown : w.ownsRow base e 1 v n xs) (s : ByteArray) (hx : a.eval x = .string s)
    (h63 : n + s.size ≤ maxLen) (hbytes : n + s.size ≤ 140737488355328) (hbase : base ≤ w.heap.size)
    (h : ∀ v' w', w'.ownsRow base e 1 v' (n + s.size) (xs ++ strCells s) → w.grownBy w' v.ownBlock → (∀ k, v'.ownBlock = some k → v.ownBlock = some k ∨ w.heap.size ≤ k) → wpList P ops Q rest (a.put o.dst v') w') : wpList P ops Q (o :: rest) a w := by
  refine wpList_plain hgd fun K hK => ?_
  obtain ⟨v', w', hr, h2, h3, h4⟩ := run_append_own_string (P := P) w base t u o.type e i ht hu hi hz hsize hby v n xs hown s h63 hbytes hbase
  have hwh := append_own_where (P := P) w base t u o.type e i ht hu hi hz hsize hby v n xs hown s h63 hbytes v' w' hr
  unfold Oper.wp execOp
  simp only [ho, resolve, invoke, builtin, Sem.run_bind, Sem.run_pure, Result.andThen_ok, List.map_toArray, List.map_cons, List.map_nil, hs, hx, hr]
  exact hK _ _ (h v' w' h2 h3 hwh)
end
end Esch
namespace Go.Proofs.YtmnkackkeppheaaGreat
open Go.RowKit Esch

/-- the blocks from B on that are not X's -/
abbrev FX (X : Nat → Prop) (B k : Nat) : Prop := B ≤ k ∧ ¬ X k
/-- a packer none of whose blocks is X's -/
structure PkX (X : Nat → Prop) (B b : Nat) (bs : List UInt8) (bad : Bool) (w : World) : Prop where
  at' : PkAt B b bs bad w
  xb : ¬ X b
  xl : ∀ k, X k → k < w.heap.size
  xo : ∀ v k, w.cell? ⟨b, 1, none⟩ = some v → v.ownBlock = some k → ¬ X k
theorem PkAt.mod {F : Nat → Prop} {B b : Nat} {bs : List UInt8} {bad : Bool} {w w' : World} (h : PkAt B b bs bad w) (hM : Mod F w w') (hb : ¬ F b) (ho : ∀ v k, w.cell? ⟨b, 1, none⟩ = some v → v.ownBlock = some k → ¬ F k) : PkAt B b bs bad w' := by
  obtain ⟨h1, p, q, h2, h3, h4, h5⟩ := h
  have hc := h2.cells.2.1
  refine ⟨h1, p, q, (hM.block b h2.lt hb).trans h2, h3, ⟨h4.1, ?_⟩, h5⟩
  rcases h4.2 with hh | ⟨g, cap, cur, e, hg, hgb, rest⟩
  · exact .inl hh
  · exact .inr ⟨g, cap, cur, e, hg, (hM.block g (block_lt hgb) (ho q g hc (by rw [e]; rfl))).trans hgb, rest⟩
theorem PkAt.lt {B b : Nat} {bs : List UInt8} {bad : Bool} {w : World} (h : PkAt B b bs bad w) : b < w.heap.size ∧ ∀ v k, w.cell? ⟨b, 1, none⟩ = some v → v.ownBlock = some k → k < w.heap.size := by
  obtain ⟨h1, p, q, h2, h3, h4, h5⟩ := h
  refine ⟨h2.lt, fun v k hc hk => ?_⟩
  rw [h2.cells.2.1] at hc
  cases hc
  rcases h4.2 with ⟨hh, -⟩ | ⟨g, cap, cur, e, hg, hgb, rest⟩
  · rw [hh] at hk; cases hk
  · rw [e] at hk; cases hk; exact block_lt hgb
theorem PkX.below {X : Nat → Prop} {B b : Nat} {bs : List UInt8} {bad : Bool} {w w' : World} (h : PkX X B b bs bad w) (hB : Below w.heap.size w w') : PkX X B b bs bad w' := by
  obtain ⟨hb, ho⟩ := h.at'.lt
  obtain ⟨-, p, q, h2, -⟩ := h.at'
  refine ⟨h.at'.mod (F := none') (Mod.of_below hB) id (fun _ _ _ _ => id), h.xb, fun k hk => Nat.lt_of_lt_of_le (h.xl k hk) hB.size, fun v k hc hk => h.xo v k ?_ hk⟩
  have hc0 := h2.cells.2.1
  rw [below_at hB hc0 hb] at hc
  rw [hc0]; exact hc
set_option maxRecDepth 100000 in
set_option maxHeartbeats 1000000 in
theorem writeX_any (X : Nat → Prop) (w : World) (B b : Nat) (bs : List UInt8) (bad : Bool) (s : ByteArray) (hX : PkX X B b bs bad w) (hlen : bs.length + s.size ≤ 1000000) (hBw : B ≤ w.heap.size) :
    Calls Tryz.prog 71 #[.pointer (some ⟨b, 0, none⟩), .string s] w fun e w' => e = .returned (.tuple #[.int .i64 s.size, .nilIface]) ∧ PkX X B b (bs ++ s.data.toList) bad w' ∧ Mod (FX X B) w w' := by
  have HX := Lib.hid hX
  obtain ⟨hBb, p, v, hblk, hp, hown, hne⟩ := hX.at'
  have hxo := hX.xo v
  rw [hblk.cells.2.1] at hxo
  have HXO := Lib.hid (fun k => hxo k rfl)
  clear hX hxo
  have hcc := copyCheck_any w b p v bad hblk hp
  obtain ⟨i0, hi, hz0, hz1, hz2⟩ := info_parts Tryz.infoByte
  have hbl := hblk.lt
  have hvl : ∀ k, v.ownBlock = some k → B ≤ k ∧ k < w.heap.size := by
    intro k hk
    rcases hown.2 with ⟨e, -⟩ | ⟨g, cap, cur, e, hg, hgb, -⟩
    · rw [e] at hk; cases hk
    · rw [e] at hk; have hk : g = k := Option.some.inj hk; subst hk; exact ⟨hg, block_lt hgb⟩
  have Hown := Lib.hid hown
  clear hblk hown
  go_enter Tryz.func71, Tryz.ntmps71
  go_wp2_with fail
  refine hcc.mono ?_
  clear hcc
  rintro e w1 ⟨rfl, hb1, hM1⟩
  have hz1w := hM1.size
  have hown1 : w1.ownsRow B 5 1 v bs.length (Lib.byteCells bs) := by
    refine ⟨Hown.out.1, ?_⟩
    rcases Hown.out.2 with hn | ⟨g, cap, cur, e, hg, hgb, rest⟩
    · exact .inl hn
    · refine .inr ⟨g, cap, cur, e, hg, ?_, rest⟩
      rw [hM1.block g (block_lt hgb) (fun e2 => hne (by rw [e, ← e2]; rfl))]; exact hgb
  obtain ⟨c0, c1, c2, hf, hsh⟩ := hb1.cells
  have Hb1 := Lib.hid hb1
  clear hf hb1
  go_wp2_with (at_builtin; refine wpList_append_strX rfl _ _ 139 9 rfl B 5 i0 Tryz.underlying139 Tryz.underlying9 hi hz0 hz1 hz2 _ _ _ rfl hown1 s rfl ?c3 ?c4 ?c5 ?_)
  case c3 => unfold maxLen; omega
  case c4 => omega
  case c5 => omega
  intro v' w2 hown2 hg2 hwh
  have HWH := Lib.hid hwh
  clear hwh
  have hb2 : PkBlk w2 b (.pointer (some ⟨b, 0, none⟩)) v bad := by
    unfold PkBlk; rw [hg2.block b (by omega) (fun e => hne e.symm)]; exact Hb1.out
  obtain ⟨d0, d1, d2, hf, -⟩ := hb2.cells
  have f1 := hf 1
  have hv2 : v'.ownBlock ≠ some b := by
    intro e
    rcases hown2.2 with ⟨e2, -⟩ | ⟨g, cap, cur, e2, hg, hgb, -⟩
    · rw [e2] at e; cases e
    · rw [e2] at e
      have e : g = b := Option.some.inj e
      subst e
      unfold PkBlk at hb2
      rw [hb2] at hgb
      cases hgb
  obtain ⟨ao, n', cap, rfl⟩ : ∃ ao n' cap, v' = .slice ao n' cap := by
    rcases hown2.2 with ⟨hv, _⟩ | ⟨g, cap, cur, hv, _⟩
    · exact ⟨_, _, _, hv⟩
    · exact ⟨_, _, _, hv⟩
  have Hb2 := Lib.hid hb2
  clear hf hb2
  go_wp2_with fail
  go_ret2
  have hM3 : Mod (· = b) w2 (w2.setCell ⟨b, 1, none⟩ (.slice ao n' cap)) := (Mod.refl (· = b) w2).setCellAt (fun _ => rfl) _
  have hbl2 : b < w2.heap.size := Hb2.out.lt
  have hMg : Mod (FX X B) w1 w2 := ⟨hg2.os, hg2.tape, hg2.output, hg2.size, fun k hk hF => hg2.block k hk (fun e => hF ⟨(hvl k e.symm).1, HXO.out k e.symm⟩)⟩
  have hMA : Mod (FX X B) w (w2.setCell ⟨b, 1, none⟩ (.slice ao n' cap)) := ((hM1.mono fun k _ e => by rw [show k = b from e]; exact ⟨hBb, HX.out.xb⟩).trans hMg).trans (hM3.mono fun k _ e => by rw [show k = b from e]; exact ⟨hBb, HX.out.xb⟩)
  refine ⟨rfl, ⟨⟨hBb, _, _, Hb2.out.set1 _, Or.inr rfl, ?_, hv2⟩, HX.out.xb, fun k hk => Nat.lt_of_lt_of_le (HX.out.xl k hk) hMA.size, fun v2 k hc hk hx => ?_⟩, hMA⟩
  · rw [List.length_append, Lib.byteCells_append, Array.length_toList]
    refine ⟨hown2.1, ?_⟩
    rcases hown2.2 with hn | ⟨g, cap2, cur, e, hg, hgb, rest⟩
    · exact .inl hn
    · refine .inr ⟨g, cap2, cur, e, hg, ?_, rest⟩
      rw [hM3.block g (block_lt hgb) (fun e2 => hv2 (by rw [e, ← e2]; rfl))]; exact hgb
  · rw [(Hb2.out.set1 _).cells.2.1] at hc
    cases hc
    rcases HWH.out k hk with h3 | h3
    · exact HXO.out k h3 hx
    · have := HX.out.xl k hx; have := hM1.size; omega
set_option maxRecDepth 100000 in
set_option maxHeartbeats 1000000 in
theorem putX_ok (X : Nat → Prop) (w : World) (B b : Nat) (bs : List UInt8) (bad : Bool) (v n : Nat) (hn : sizedB n = true) (hv : v < 256 ^ n) (hv63 : v < 9223372036854775808) (h : PkX X B b bs bad w) (hlen : bs.length ≤ 900000) (hBw : B ≤ w.heap.size) :
    Calls Tryz.prog 108 #[.pointer (some ⟨b, 0, none⟩), .int .i64 v, .int .i64 n] w fun e w' => e = .returned (.tuple #[]) ∧ PkX X B b (bs ++ putB v n) bad w' ∧ Mod (FX X B) w w' := by
  have hsz := sized_any w n
  rw [hn] at hsz
  have hnn : n = 1 ∨ n = 2 ∨ n = 4 ∨ n = 8 := by simp only [sizedB, Bool.or_eq_true, beq_iff_eq] at hn; omega
  have hput := shiftPut_any w v n (by omega) (by omega)
  have hws := fun W (hW : Below w.heap.size w W) (hP : PkX X B b bs bad W) => writeX_any X W B b bs bad ⟨(putB v n).toArray⟩ hP (by rw [putB_size]; omega) (Nat.le_trans hBw hW.size)
  have H := Lib.hid h
  have Hv := Lib.hid hv63
  have hkeep : ∀ W, Below w.heap.size w W → PkX X B b bs bad W := fun W hW => H.out.below hW
  have HK := Lib.hid hkeep
  have hq : n = 8 ∨ (n < 8 ∧ (v : Int) / 2 ^ (8 * n) = 0) := by
    rcases hnn with rfl | rfl | rfl | rfl
    · right; exact ⟨by omega, by simp at hv ⊢; omega⟩
    · right; exact ⟨by omega, by simp at hv ⊢; omega⟩
    · right; exact ⟨by omega, by simp at hv ⊢; omega⟩
    · left; rfl
  have hw : IntKind.u64.wrap (v : Int) = (v : Int) := by rw [IntKind.wrap_u64]; omega
  clear hn hv hv63 h hkeep
  rcases hq with rfl | ⟨h8, hq⟩
  · go_enter Tryz.func108, Tryz.ntmps108
    go_wp2_with fail
    refine hsz.mono ?_
    clear hsz
    rintro e w0 ⟨rfl, rfl⟩
    go_wp2_with fail
    have hputd : Calls Tryz.prog 110 #[.int .u64 v, .int .i64 8] w0.drew (StrPost w0.drew (putB v 8)) := shiftPut_any w0.drew v 8 (by have := Hv.out; omega) (by omega)
    clear hput
    go_region_held3 (fun _ => True) (exact trivial)
      (first
        | (go_at_call 71; (with_reducible refine hws1.mono ?_); rintro e w2 ⟨rfl, hP2, hB2⟩)
        | (go_at_call 110; (with_reducible refine hputd.mono ?_); rintro e w1 ⟨rfl, hB1'⟩
           have hB1 : Below w0.heap.size w0 w1 := ⟨hB1'.os, hB1'.tape, hB1'.output, hB1'.size, hB1'.block⟩
           have hws1 := hws w1 hB1 (HK.out w1 hB1)))
    go_wp2_with fail
    go_end0
    exact ⟨rfl, hP2, (Mod.of_below hB1).trans hB2⟩
  · go_enter Tryz.func108, Tryz.ntmps108
    go_wp2_with fail
    refine hsz.mono ?_
    clear hsz
    rintro e w0 ⟨rfl, rfl⟩
    go_wp2_with fail
    have hputd := shiftPut_any w0.drew v n (by have := Hv.out; omega) (by omega)
    clear hput
    go_region_held3 (fun _ => True) (exact trivial)
      (first
        | (go_at_call 71; (with_reducible refine hws1.mono ?_); rintro e w2 ⟨rfl, hP2, hB2⟩)
        | (go_at_call 110; (with_reducible refine hputd.mono ?_); rintro e w1 ⟨rfl, hB1'⟩
           have hB1 : Below w0.heap.size w0 w1 := ⟨hB1'.os, hB1'.tape, hB1'.output, hB1'.size, hB1'.block⟩
           have hws1 := hws w1 hB1 (HK.out w1 hB1)))
    go_wp2_with fail
    go_end0
    exact ⟨rfl, hP2, (Mod.of_below hB1).trans hB2⟩
set_option maxRecDepth 100000 in
set_option maxHeartbeats 1000000 in
theorem putXi_ok (X : Nat → Prop) (w : World) (B b : Nat) (bs : List UInt8) (bad : Bool) (v n : Nat) (hn : sizedB n = true) (hv : v < 256 ^ n) (hv63 : v < 9223372036854775808) (h : PkX X B b bs bad w) (hlen : bs.length ≤ 900000) (hBw : B ≤ w.heap.size) :
    Calls Tryz.prog 70 #[.pointer (some ⟨b, 0, none⟩), .int .i64 v, .int .i64 n] w fun e w' => e = .returned (.tuple #[]) ∧ PkX X B b (bs ++ putB v n) bad w' ∧ Mod (FX X B) w w' := by
  have hsz := sized_any w n
  rw [hn] at hsz
  have hnn : n = 1 ∨ n = 2 ∨ n = 4 ∨ n = 8 := by simp only [sizedB, Bool.or_eq_true, beq_iff_eq] at hn; omega
  have hput := shiftPut_any w v n (by omega) (by omega)
  have hws := fun W (hW : Below w.heap.size w W) (hP : PkX X B b bs bad W) => writeX_any X W B b bs bad ⟨(putB v n).toArray⟩ hP (by rw [putB_size]; omega) (Nat.le_trans hBw hW.size)
  have H := Lib.hid h
  have Hv := Lib.hid hv63
  have hkeep : ∀ W, Below w.heap.size w W → PkX X B b bs bad W := fun W hW => H.out.below hW
  have HK := Lib.hid hkeep
  have hq : n = 8 ∨ (n < 8 ∧ (v : Int) / 2 ^ (8 * n) = 0) := by
    rcases hnn with rfl | rfl | rfl | rfl
    · right; exact ⟨by omega, by simp at hv ⊢; omega⟩
    · right; exact ⟨by omega, by simp at hv ⊢; omega⟩
    · right; exact ⟨by omega, by simp at hv ⊢; omega⟩
    · left; rfl
  have hw : IntKind.u64.wrap (v : Int) = (v : Int) := by rw [IntKind.wrap_u64]; omega
  clear hn hv hv63 h hkeep
  rcases hq with rfl | ⟨h8, hq⟩
  · go_enter Tryz.func70, Tryz.ntmps70
    go_wp2_with fail
    refine hsz.mono ?_
    clear hsz
    rintro e w0 ⟨rfl, rfl⟩
    go_wp2_with fail
    have hputd : Calls Tryz.prog 110 #[.int .u64 v, .int .i64 8] w0.drew (StrPost w0.drew (putB v 8)) := shiftPut_any w0.drew v 8 (by have := Hv.out; omega) (by omega)
    clear hput
    go_region_held3 (fun _ => True) (exact trivial)
      (first
        | (go_at_call 71; (with_reducible refine hws1.mono ?_); rintro e w2 ⟨rfl, hP2, hB2⟩)
        | (go_at_call 110; (with_reducible refine hputd.mono ?_); rintro e w1 ⟨rfl, hB1'⟩
           have hB1 : Below w0.heap.size w0 w1 := ⟨hB1'.os, hB1'.tape, hB1'.output, hB1'.size, hB1'.block⟩
           have hws1 := hws w1 hB1 (HK.out w1 hB1)))
    go_wp2_with fail
    go_end0
    exact ⟨rfl, hP2, (Mod.of_below hB1).trans hB2⟩
  · go_enter Tryz.func70, Tryz.ntmps70
    go_wp2_with fail
    refine hsz.mono ?_
    clear hsz
    rintro e w0 ⟨rfl, rfl⟩
    go_wp2_with fail
    have hputd := shiftPut_any w0.drew v n (by have := Hv.out; omega) (by omega)
    clear hput
    go_region_held3 (fun _ => True) (exact trivial)
      (first
        | (go_at_call 71; (with_reducible refine hws1.mono ?_); rintro e w2 ⟨rfl, hP2, hB2⟩)
        | (go_at_call 110; (with_reducible refine hputd.mono ?_); rintro e w1 ⟨rfl, hB1'⟩
           have hB1 : Below w0.heap.size w0 w1 := ⟨hB1'.os, hB1'.tape, hB1'.output, hB1'.size, hB1'.block⟩
           have hws1 := hws w1 hB1 (HK.out w1 hB1)))
    go_wp2_with fail
    go_end0
    exact ⟨rfl, hP2, (Mod.of_below hB1).trans hB2⟩
set_option maxRecDepth 100000 in
set_option maxHeartbeats 1000000 in
theorem pkNumX_ok (X : Nat → Prop) (w : World) (B b : Nat) (bs : List UInt8) (bad : Bool) (v n : Nat) (hn : sizedB n = true) (hv : v < 256 ^ n) (hv63 : v < 9223372036854775808) (h : PkX X B b bs bad w) (hlen : bs.length ≤ 900000) (hBw : B ≤ w.heap.size) :
    Calls Tryz.prog 69 #[.pointer (some ⟨b, 0, none⟩), .int .i64 v, .int .i64 n] w fun e w' => e = .returned (.tuple #[]) ∧ PkX X B b (bs ++ putB v n) bad w' ∧ Mod (FX X B) w w' := by
  have hp := putX_ok X w B b bs bad v n hn hv hv63 h hlen hBw
  clear hn hv hv63 h
  go_enter Tryz.func69, Tryz.ntmps69
  go_wp2_with fail
  refine hp.mono ?_
  rintro e w1 ⟨rfl, hP, hB⟩
  go_wp2_with fail
  go_end0
  exact ⟨rfl, hP, hB⟩
end Go.Proofs.YtmnkackkeppheaaGreat
/- package image: put -/
namespace Go.Proofs.YtmnkackkeppheaaGreat
open Go.RowKit Esch

set_option linter.unusedSimpArgs false
set_option linter.unusedVariables false
theorem flat_len (l : List Nat) (n : Nat) : (l.flatMap (putB · n)).length = n * l.length := by
  induction l with
  | nil => rfl
  | cons a l ih => rw [List.flatMap_cons, List.length_append, ih, putB_length, List.length_cons, Nat.mul_succ, Nat.add_comm]
theorem PkX.more {X : Nat → Prop} {B b : Nat} {bs : List UInt8} {bad : Bool} {w w' : World} (h : PkX X B b bs bad w) (hB : Below w.heap.size w w') (Y : Nat → Prop) (hY : ∀ k, Y k → X k ∨ (w.heap.size ≤ k ∧ k < w'.heap.size)) : PkX Y B b bs bad w' := by
  obtain ⟨hb, ho⟩ := h.at'.lt
  have h2 := h.below hB
  refine ⟨h2.at', fun hx => ?_, fun k hk => ?_, fun v k hc hk hx => ?_⟩
  · rcases hY b hx with g | g
    · exact h.xb g
    · omega
  · rcases hY k hk with g | g
    · exact h2.xl k g
    · exact g.2
  · rcases hY k hx with g | g
    · exact h2.xo v k hc hk g
    · obtain ⟨-, p, q, h3, -⟩ := h.at'
      have hc0 := h3.cells.2.1
      rw [below_at hB hc0 hb] at hc
      have := ho v k (by rw [hc0]; exact hc) hk
      omega
theorem PkX.less {X Y : Nat → Prop} {B b : Nat} {bs : List UInt8} {bad : Bool} {w : World} (h : PkX X B b bs bad w) (hY : ∀ k, Y k → X k) : PkX Y B b bs bad w := ⟨h.at', fun e => h.xb (hY b e), fun k hk => h.xl k (hY k hk), fun v k hc hk e => h.xo v k hc hk (hY k e)⟩
end Go.Proofs.YtmnkackkeppheaaGreat
/- fields that are packed, whatever the numbers: those that do not fit spoil -/
namespace Esch
open Go Go.RowKit
/-- does a number fit in so many bytes? -/
def fitB (v : Int) (n : Nat) : Bool := decide (0 ≤ v) && (decide (n = 8) || decide (v < 256 ^ n))
end Esch
namespace Go.Proofs.YtmnkackkeppheaaGreat
open Go.RowKit Esch

set_option linter.unusedSimpArgs false
set_option linter.unusedVariables false
abbrev PkS := List UInt8 × Bool
def pkN (s : PkS) (v : Int) (n : Nat) : PkS := if fitB v n = true then (s.1 ++ putB v.toNat n, s.2) else (s.1, true)
/-- a packer in a state, none of its blocks X's -/
abbrev PkV (X : Nat → Prop) (B b : Nat) (s : PkS) (w : World) : Prop := PkX X B b s.1 s.2 w
def PutV (X : Nat → Prop) (w : World) (B b : Nat) (s : PkS) (e : Ending) (w' : World) : Prop := e = .returned (.tuple #[]) ∧ PkV X B b s w' ∧ Mod (FX X B) w w'
theorem PkX.spoil {X : Nat → Prop} {B b : Nat} {bs : List UInt8} {bad : Bool} {w : World} (h : PkX X B b bs bad w) : PkX X B b bs true (w.setCell ⟨b, 2, none⟩ (.bool true)) := by
  obtain ⟨hBb, p, v, hblk, hp, hown, hne⟩ := h.at'
  have hM : Mod (· = b) w (w.setCell ⟨b, 2, none⟩ (.bool true)) := (Mod.refl (· = b) w).setCellAt (fun _ => rfl) _
  have hb2 := hblk.set2 true
  refine ⟨⟨hBb, p, v, hb2, hp, ⟨hown.1, ?_⟩, hne⟩, h.xb, fun k hk => Nat.lt_of_lt_of_le (h.xl k hk) hM.size, fun v2 k hc hk => ?_⟩
  · rcases hown.2 with hn | ⟨g, cap, cur, e, hg, hgb, rest⟩
    · exact .inl hn
    · exact .inr ⟨g, cap, cur, e, hg, (hM.block g (block_lt hgb) (fun e2 => hne (by rw [e, ← e2]; rfl))).trans hgb, rest⟩
  · rw [hb2.cells.2.1] at hc
    cases hc
    exact h.xo v k hblk.cells.2.1 hk
set_option maxRecDepth 100000 in
set_option maxHeartbeats 2000000 in
theorem putV_bad (X : Nat → Prop) (w : World) (B b : Nat) (bs : List UInt8) (bad : Bool) (v : Int) (n : Nat) (hn : sizedB n = true) (hv : -9223372036854775808 ≤ v ∧ v < 9223372036854775808) (h : PkX X B b bs bad w) (hq : fitB v n = false) :
    Calls Tryz.prog 108 #[.pointer (some ⟨b, 0, none⟩), .int .i64 v, .int .i64 n] w (PutV X w B b (bs, true)) := by
  have hsz := sized_any w n
  rw [hn] at hsz
  have hnn : n = 1 ∨ n = 2 ∨ n = 4 ∨ n = 8 := by simp only [sizedB, Bool.or_eq_true, beq_iff_eq] at hn; omega
  by_cases h0 : v < 0
  · clear hq hn hnn
    have H := Lib.hid h
    have hblk : ∃ p q, PkBlk w b p q bad := by obtain ⟨-, p, q, h2, -⟩ := h.at'; exact ⟨p, q, h2⟩
    obtain ⟨p, q, hblk⟩ := hblk
    obtain ⟨d0, d1, d2, hf, -⟩ := hblk.cells
    have f2 := hf 2
    have hbl := hblk.lt
    clear hblk hf h
    go_enter Tryz.func108, Tryz.ntmps108
    go_wp2_with fail
    refine hsz.mono ?_
    clear hsz
    rintro e w0 ⟨rfl, rfl⟩
    go_wp2_with fail
    go_end0
    exact ⟨rfl, H.out.spoil, (Mod.refl (FX X B) _).setCellAt (b := b) (fun _ => ⟨H.out.at'.1, H.out.xb⟩) _⟩
  · have hq2 : ¬ n = 8 ∧ ¬ v < 256 ^ n := by
      unfold fitB at hq
      rw [decide_eq_true (by omega), Bool.true_and, Bool.or_eq_false_iff, decide_eq_false_iff_not, decide_eq_false_iff_not] at hq
      exact hq
    have h00 : ¬ v < 0 := h0
    have hlt : (n : Int) < 8 := by omega
    have hw : IntKind.u64.wrap v = v := by rw [IntKind.wrap_u64]; omega
    have hsh : ¬ (v / 2 ^ (8 * n) = 0) := by
      obtain ⟨-, h2⟩ := hq2
      intro e
      rcases hnn with rfl | rfl | rfl | rfl
      · simp at h2 e; omega
      · simp at h2 e; omega
      · simp at h2 e; omega
      · omega
    have hsh2 : (v / 2 ^ (8 * n) != 0) = true := by simpa using hsh
    clear hq hn hq2 hnn hsh
    have H := Lib.hid h
    have hblk : ∃ p q, PkBlk w b p q bad := by obtain ⟨-, p, q, h2, -⟩ := h.at'; exact ⟨p, q, h2⟩
    obtain ⟨p, q, hblk⟩ := hblk
    obtain ⟨d0, d1, d2, hf, -⟩ := hblk.cells
    have f2 := hf 2
    have hbl := hblk.lt
    clear hblk hf h
    go_enter Tryz.func108, Tryz.ntmps108
    go_wp2_with fail
    refine hsz.mono ?_
    clear hsz
    rintro e w0 ⟨rfl, rfl⟩
    go_wp2_with fail
    go_end0
    exact ⟨rfl, H.out.spoil, (Mod.refl (FX X B) _).setCellAt (b := b) (fun _ => ⟨H.out.at'.1, H.out.xb⟩) _⟩
theorem fit_lt {v : Int} {n : Nat} (hn : n ≤ 8) (hv : v < 9223372036854775808) (h : fitB v n = true) : 0 ≤ v ∧ v.toNat < 256 ^ n ∧ v.toNat < 9223372036854775808 := by
  unfold fitB at h
  rw [Bool.and_eq_true, Bool.or_eq_true, decide_eq_true_eq, decide_eq_true_eq, decide_eq_true_eq] at h
  obtain ⟨h0, h1⟩ := h
  refine ⟨h0, ?_, by omega⟩
  rcases h1 with h1 | h1
  · subst h1; have : (256 : Nat) ^ 8 = 18446744073709551616 := by decide
    omega
  · have : ((256 ^ n : Nat) : Int) = (256 : Int) ^ n := Int.natCast_pow 256 n
    omega
set_option maxRecDepth 100000 in
set_option maxHeartbeats 2000000 in
theorem pkNumV_any (X : Nat → Prop) (w : World) (B b : Nat) (s : PkS) (v : Int) (n : Nat) (hn : sizedB n = true) (hv : -9223372036854775808 ≤ v ∧ v < 9223372036854775808) (h : PkV X B b s w) (hlen : s.1.length ≤ 900000) (hBw : B ≤ w.heap.size) :
    Calls Tryz.prog 69 #[.pointer (some ⟨b, 0, none⟩), .int .i64 v, .int .i64 n] w (PutV X w B b (pkN s v n)) := by
  have h8 : n ≤ 8 := by simp only [sizedB, Bool.or_eq_true, beq_iff_eq] at hn; omega
  obtain ⟨bs, bad⟩ := s
  unfold pkN
  by_cases hq : fitB v n = true
  · rw [if_pos hq]
    obtain ⟨h0, h1, h2⟩ := fit_lt h8 hv.2 hq
    have hp := pkNumX_ok X w B b bs bad v.toNat n hn h1 h2 h hlen hBw
    rw [show ((v.toNat : Nat) : Int) = v by omega] at hp
    exact hp
  · rw [if_neg hq]
    have hp := putV_bad X w B b bs bad v n hn hv h (by simpa using hq)
    clear hn hv h hq hlen h8
    go_enter Tryz.func69, Tryz.ntmps69
    go_wp2_with fail
    refine hp.mono ?_
    rintro e w1 ⟨rfl, hP, hB⟩
    go_wp2_with fail
    go_end0
    exact ⟨rfl, hP, hB⟩
def pkL (s : PkS) (l : List Int) (n : Nat) : PkS := l.foldl (fun s v => pkN s v n) s
theorem pkN_len (s : PkS) (v : Int) (n : Nat) : (pkN s v n).1.length ≤ s.1.length + n := by
  unfold pkN
  split
  · rw [List.length_append, putB_length]; omega
  · simp
theorem pkL_len (l : List Int) (n : Nat) : ∀ s : PkS, (pkL s l n).1.length ≤ s.1.length + n * l.length := by
  induction l with
  | nil => intro s; simp [pkL]
  | cons a l ih =>
    intro s
    have h1 := ih (pkN s a n)
    have h2 := pkN_len s a n
    show (pkL (pkN s a n) l n).1.length ≤ _
    rw [List.length_cons, Nat.mul_succ]
    omega
theorem pkL_snoc (s : PkS) (l : List Int) (v : Int) (n : Nat) : pkL s (l ++ [v]) n = pkN (pkL s l n) v n := by unfold pkL; rw [List.foldl_append]; rfl
def PvRel (X : Nat → Prop) (w : World) (B b n : Nat) (s : PkS) (l : List Int) (g : Nat) (v : Value) (wr : World) : Prop :=
  ∃ i : Nat, g = l.length - i ∧ i ≤ l.length ∧ v = .int .i64 i ∧ PkV X B b (pkL s (l.take i) n) wr ∧ Mod (FX X B) w wr
set_option maxRecDepth 100000 in
set_option maxHeartbeats 2000000 in
theorem putVI (X : Nat → Prop) (w : World) (B b n q cp : Nat) (s : PkS) (l : List Int) (hn : sizedB n = true) (h : PkV X B b s w) (hl : ∀ v ∈ l, -9223372036854775808 ≤ v ∧ v < 9223372036854775808) (hq : X q) (hc : ∀ i, i < l.length → w.cell? ⟨q, i, none⟩ = some (.int .i64 (l.getD i 0))) (hlen : s.1.length ≤ 800000 ∧ l.length ≤ 100) (hBw : B ≤ w.heap.size) :
    Calls Tryz.prog 41 #[.pointer (some ⟨b, 0, none⟩), .int .i64 n, .slice (some ⟨q, 0, none⟩) l.length cp] w (PutV X w B b (pkL s l n)) := by
  have HX := Lib.hid h
  have HL := Lib.hid hl
  have HLN := Lib.hid hlen
  have HBW := Lib.hid hBw
  have HN := Lib.hid hn
  have hxq := h.xl q hq
  have hn8 : n ≤ 8 := by simp only [sizedB, Bool.or_eq_true, beq_iff_eq] at hn; omega
  have HN8 := Lib.hid hn8
  clear h hl hn hBw hlen hn8
  go_enter Tryz.func41, Tryz.ntmps41
  go_wp2_with fail
  go_loopg [10] l.length (fun g v wr => PvRel X w B b n s l g v wr)
  case atStart => exact ⟨0, rfl, Nat.zero_le _, rfl, HX.out, Mod.refl _ _⟩
  case round =>
    obtain ⟨i, rfl, hi, rfl, hP, hM⟩ := hrel
    by_cases hlt : i < l.length
    · have f0 := hM.at (hc i hlt) (fun e => e.2 hq)
      have hvv := HL.out _ (show l.getD i 0 ∈ l by rw [List.getD_eq_getElem?_getD, List.getElem?_eq_getElem hlt]; exact List.getElem_mem hlt)
      have HT := Lib.hid (take_one l 0 hlt)
      have hlt2 := pkL_len (l.take i) n s
      have hlt3 := List.length_take_le i l
      generalize l.getD i 0 = v at *
      have hcall := pkNumV_any X wr B b _ v n HN.out hvv hP (by have := HLN.out.1; have := HLN.out.2; have := HN8.out; have : n * (l.take i).length ≤ 8 * 100 := Nat.mul_le_mul this (by omega); omega) (Nat.le_trans HBW.out hM.size)
      have hil2 : (0 : Int) ≤ i ∧ (i : Int) < l.length := by omega
      have hi1 : i + 1 ≤ l.length := hlt
      have hms : l.length - (i + 1) < l.length - i := Nat.sub_lt_sub_left hlt (Nat.lt_succ_self i)
      have hwr1 := Lib.hid (show wrap64 ((i : Int) + 1) = ((i + 1 : Nat) : Int) by unfold wrap64; have := HLN.out.2; omega)
      have HM := Lib.hid hM
      clear hP hM hvv hlt2 hlt3
      go_wp2_with fail
      refine hcall.mono ?_
      clear hcall
      rintro e w2 ⟨rfl, hP2, hM2⟩
      have HP2 := Lib.hid hP2
      have HM2 := Lib.hid (HM.out.trans hM2)
      clear hP2 hM2
      go_wp2_with fail
      go_roundg (l.length - (i + 1))
      case measure => exact hms
      case rel => exact ⟨i + 1, rfl, hi1, by first | rfl | rw [hwr1.out], by rw [HT.out, pkL_snoc]; exact HP2.out, HM2.out⟩
    · obtain rfl : i = l.length := by omega
      rw [List.take_length] at hP
      have HP := Lib.hid hP
      have HM := Lib.hid hM
      clear hP hM
      go_wp2_with fail
      go_end0
      exact ⟨rfl, HP.out, HM.out⟩
set_option maxRecDepth 100000 in
set_option maxHeartbeats 2000000 in
theorem putVL (X : Nat → Prop) (w : World) (B b n q cp : Nat) (s : PkS) (l : List Int) (hn : sizedB n = true) (h : PkV X B b s w) (hl : ∀ v ∈ l, -9223372036854775808 ≤ v ∧ v < 9223372036854775808) (hq : X q) (hc : ∀ i, i < l.length → w.cell? ⟨q, i, none⟩ = some (.int .i64 (l.getD i 0))) (hlen : s.1.length ≤ 800000 ∧ l.length ≤ 100) (hBw : B ≤ w.heap.size) :
    Calls Tryz.prog 43 #[.pointer (some ⟨b, 0, none⟩), .int .i64 n, .slice (some ⟨q, 0, none⟩) l.length cp] w (PutV X w B b (pkL s l n)) := by
  have HX := Lib.hid h
  have HL := Lib.hid hl
  have HLN := Lib.hid hlen
  have HBW := Lib.hid hBw
  have HN := Lib.hid hn
  have hxq := h.xl q hq
  have hn8 : n ≤ 8 := by simp only [sizedB, Bool.or_eq_true, beq_iff_eq] at hn; omega
  have HN8 := Lib.hid hn8
  clear h hl hn hBw hlen hn8
  go_enter Tryz.func43, Tryz.ntmps43
  go_wp2_with fail
  go_loopg [10] l.length (fun g v wr => PvRel X w B b n s l g v wr)
  case atStart => exact ⟨0, rfl, Nat.zero_le _, rfl, HX.out, Mod.refl _ _⟩
  case round =>
    obtain ⟨i, rfl, hi, rfl, hP, hM⟩ := hrel
    by_cases hlt : i < l.length
    · have f0 := hM.at (hc i hlt) (fun e => e.2 hq)
      have hvv := HL.out _ (show l.getD i 0 ∈ l by rw [List.getD_eq_getElem?_getD, List.getElem?_eq_getElem hlt]; exact List.getElem_mem hlt)
      have HT := Lib.hid (take_one l 0 hlt)
      have hlt2 := pkL_len (l.take i) n s
      have hlt3 := List.length_take_le i l
      generalize l.getD i 0 = v at *
      have hcall := pkNumV_any X wr B b _ v n HN.out hvv hP (by have := HLN.out.1; have := HLN.out.2; have := HN8.out; have : n * (l.take i).length ≤ 8 * 100 := Nat.mul_le_mul this (by omega); omega) (Nat.le_trans HBW.out hM.size)
      have hil2 : (0 : Int) ≤ i ∧ (i : Int) < l.length := by omega
      have hi1 : i + 1 ≤ l.length := hlt
      have hms : l.length - (i + 1) < l.length - i := Nat.sub_lt_sub_left hlt (Nat.lt_succ_self i)
      have hwr1 := Lib.hid (show wrap64 ((i : Int) + 1) = ((i + 1 : Nat) : Int) by unfold wrap64; have := HLN.out.2; omega)
      have HM := Lib.hid hM
      clear hP hM hvv hlt2 hlt3
      go_wp2_with fail
      refine hcall.mono ?_
      clear hcall
      rintro e w2 ⟨rfl, hP2, hM2⟩
      have HP2 := Lib.hid hP2
      have HM2 := Lib.hid (HM.out.trans hM2)
      clear hP2 hM2
      go_wp2_with fail
      go_roundg (l.length - (i + 1))
      case measure => exact hms
      case rel => exact ⟨i + 1, rfl, hi1, by first | rfl | rw [hwr1.out], by rw [HT.out, pkL_snoc]; exact HP2.out, HM2.out⟩
    · obtain rfl : i = l.length := by omega
      rw [List.take_length] at hP
      have HP := Lib.hid hP
      have HM := Lib.hid hM
      clear hP hM
      go_wp2_with fail
      go_end0
      exact ⟨rfl, HP.out, HM.out⟩
theorem rowVI (X : Nat → Prop) (w : World) (B b n cp qb : Nat) (T : TypeId) (s : PkS) (l : List Int) (hqb : qb = w.heap.size) (hn : sizedB n = true) (h : PkV X B b s w) (hl : ∀ v ∈ l, -9223372036854775808 ≤ v ∧ v < 9223372036854775808) (hlen : s.1.length ≤ 800000 ∧ l.length ≤ 100) (hBw : B ≤ w.heap.size) :
    Calls Tryz.prog 41 #[.pointer (some ⟨b, 0, none⟩), .int .i64 n, .slice (some ⟨qb, 0, none⟩) l.length cp] (w.alloc (.cells (l.map (Value.int .i64)).toArray T)) (PutV X w B b (pkL s l n)) := by
  subst hqb
  have hB1 : Below w.heap.size w (w.alloc (.cells (l.map (Value.int .i64)).toArray T)) := by exact belC (Below.refl _ _)
  have hp := h.more hB1 (fun k => X k ∨ k = w.heap.size) (fun k hk => hk.imp id fun e => ⟨by omega, by simp; omega⟩)
  refine (putVI (fun k => X k ∨ k = w.heap.size) _ B b n w.heap.size cp s l hn hp hl (Or.inr rfl) (fun i hi => ?_) hlen (by simp; omega)).mono ?_
  · have hb : (w.alloc (.cells (l.map (Value.int .i64)).toArray T)).heap[w.heap.size]? = some (.cells (l.map (Value.int .i64)).toArray T) := heap_alloc_new _ _
    unfold World.cell?
    simp only [hb]
    simp [List.getD_eq_getElem?_getD, List.getElem?_eq_getElem hi]
  · rintro e w' ⟨rfl, hP, hM⟩
    exact ⟨rfl, hP.less (fun k hk => Or.inl hk), (Mod.of_below hB1).trans (hM.mono fun k hk e => ⟨e.1, fun hx => e.2 (Or.inl hx)⟩)⟩
theorem rowVL (X : Nat → Prop) (w : World) (B b n cp qb : Nat) (T : TypeId) (s : PkS) (l : List Int) (hqb : qb = w.heap.size) (hn : sizedB n = true) (h : PkV X B b s w) (hl : ∀ v ∈ l, -9223372036854775808 ≤ v ∧ v < 9223372036854775808) (hlen : s.1.length ≤ 800000 ∧ l.length ≤ 100) (hBw : B ≤ w.heap.size) :
    Calls Tryz.prog 43 #[.pointer (some ⟨b, 0, none⟩), .int .i64 n, .slice (some ⟨qb, 0, none⟩) l.length cp] (w.alloc (.cells (l.map (Value.int .i64)).toArray T)) (PutV X w B b (pkL s l n)) := by
  subst hqb
  have hB1 : Below w.heap.size w (w.alloc (.cells (l.map (Value.int .i64)).toArray T)) := by exact belC (Below.refl _ _)
  have hp := h.more hB1 (fun k => X k ∨ k = w.heap.size) (fun k hk => hk.imp id fun e => ⟨by omega, by simp; omega⟩)
  refine (putVL (fun k => X k ∨ k = w.heap.size) _ B b n w.heap.size cp s l hn hp hl (Or.inr rfl) (fun i hi => ?_) hlen (by simp; omega)).mono ?_
  · have hb : (w.alloc (.cells (l.map (Value.int .i64)).toArray T)).heap[w.heap.size]? = some (.cells (l.map (Value.int .i64)).toArray T) := heap_alloc_new _ _
    unfold World.cell?
    simp only [hb]
    simp [List.getD_eq_getElem?_getD, List.getElem?_eq_getElem hi]
  · rintro e w' ⟨rfl, hP, hM⟩
    exact ⟨rfl, hP.less (fun k hk => Or.inl hk), (Mod.of_below hB1).trans (hM.mono fun k hk e => ⟨e.1, fun hx => e.2 (Or.inl hx)⟩)⟩
end Go.Proofs.YtmnkackkeppheaaGreat
/- package pack: Text and Done, of a packer in any state -/
namespace Go.Proofs.YtmnkackkeppheaaGreat
open Go.RowKit Esch

set_option linter.unusedSimpArgs false
set_option linter.unusedVariables false
def pkT (s : PkS) (t : Nm) : PkS := ((pkN s t.length 2).1 ++ t, (pkN s t.length 2).2)
theorem pkT_len (s : PkS) (t : Nm) : (pkT s t).1.length ≤ s.1.length + 2 + t.length := by
  unfold pkT
  rw [List.length_append]
  have := pkN_len s t.length 2
  omega
set_option maxRecDepth 100000 in
set_option maxHeartbeats 2000000 in
theorem pkTextV (X : Nat → Prop) (w : World) (B b : Nat) (s : PkS) (t : Nm) (ht : t.length ≤ 255) (h : PkV X B b s w) (hlen : s.1.length ≤ 800000) (hBw : B ≤ w.heap.size) :
    Calls Tryz.prog 42 #[.pointer (some ⟨b, 0, none⟩), .string (bs t)] w (PutV X w B b (pkT s t)) := by
  obtain ⟨l, bad⟩ := s
  have hfit : fitB (t.length : Int) 2 = true := by
    unfold fitB
    rw [decide_eq_true (by omega : (0 : Int) ≤ t.length), Bool.true_and, decide_eq_false (by decide : ¬ 2 = 8), Bool.false_or, decide_eq_true (by omega : (t.length : Int) < 256 ^ 2)]
  have hsz : (bs t).size = t.length := by show t.toArray.size = _; simp
  have hput := putXi_ok X w B b l bad t.length 2 rfl (by omega) (by omega) h (by simp only at hlen; omega) hBw
  have e1 : pkT (l, bad) t = ((l ++ putB t.length 2) ++ t, bad) := by unfold pkT pkN; rw [if_pos hfit]; rfl
  have hwr := fun W (hP : PkX X B b (l ++ putB t.length 2) bad W) (hB : B ≤ W.heap.size) => writeX_any X W B b _ bad (bs t) hP (by rw [List.length_append, putB_length, hsz]; simp only at hlen; omega) hB
  rw [e1]
  have HWR := Lib.hid hwr
  have HBW := Lib.hid hBw
  have hsz2 : ((bs t).size : Int) = t.length := by rw [hsz]
  have hd : (bs t).data.toList = t := rfl
  have HD := Lib.hid hd
  clear h hfit hwr hlen ht e1 hBw hd
  go_enter Tryz.func42, Tryz.ntmps42
  go_wp2_with fail
  refine hput.mono ?_
  clear hput
  rintro e w1 ⟨rfl, hP, hM⟩
  have hw2 := HWR.out w1 hP (Nat.le_trans HBW.out hM.size)
  clear hP
  go_wp2_with fail
  refine hw2.mono ?_
  clear hw2
  rintro e w2 ⟨rfl, hP2, hM2⟩
  rw [HD.out] at hP2
  go_wp2_with fail
  go_end0
  exact ⟨rfl, hP2, hM.trans hM2⟩
/-- what a packer comes to -/
def doneP (s : PkS) : ByteArray × Int := if s.2 = true then (⟨#[]⟩, 11) else if 65536 < s.1.length then (⟨#[]⟩, 2) else (⟨s.1.toArray⟩, 0)
set_option maxRecDepth 100000 in
set_option maxHeartbeats 1000000 in
theorem pkDoneV (w : World) (B b : Nat) (s : PkS) (h : PkAt B b s.1 s.2 w) (h0 : s.2 = false → s.1 ≠ []) (hBw : B ≤ w.heap.size) :
    Calls Tryz.prog 44 #[.pointer (some ⟨b, 0, none⟩)] w fun e w' => e = .returned (.tuple #[.string (doneP s).1, .int .i64 (doneP s).2]) ∧ Below B w w' := by
  obtain ⟨l, bad⟩ := s
  simp only at h h0
  cases bad
  · by_cases hl : 65536 < l.length
    · have hlen := bldLen_any w B b l false h
      rw [show doneP (l, false) = (⟨#[]⟩, 2) by unfold doneP; rw [if_neg (fun e => by cases e), if_pos hl]]
      obtain ⟨hBb, p, v, hblk, hp, hown, hne⟩ := h
      obtain ⟨c0, c1, c2, hf, hsh⟩ := hblk.cells
      have hl2 : (65536 : Int) < l.length := by omega
      clear hf hp hown hne hblk hsh h0 hl
      go_enter Tryz.func44, Tryz.ntmps44
      go_wp2_with fail
      refine hlen.mono ?_
      clear hlen
      rintro e w1 ⟨rfl, rfl⟩
      go_wp2_with fail
      go_ret2
      exact ⟨rfl, Below.refl _ _⟩
    · rw [show doneP (l, false) = (⟨l.toArray⟩, 0) by unfold doneP; rw [if_neg (fun e => by cases e), if_neg hl]]
      exact pkDone_ok w B b l h (h0 rfl) (by omega) hBw
  · rw [show doneP (l, true) = (⟨#[]⟩, 11) by unfold doneP; rw [if_pos rfl]]
    obtain ⟨hBb, p, v, hblk, hp, hown, hne⟩ := h
    obtain ⟨c0, c1, c2, hf, hsh⟩ := hblk.cells
    clear hf hp hown hne hblk hsh h0
    go_enter Tryz.func44, Tryz.ntmps44
    go_wp2_with fail
    go_ret2
    exact ⟨rfl, Below.refl _ _⟩
end Go.Proofs.YtmnkackkeppheaaGreat
