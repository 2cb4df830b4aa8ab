/- inode.Table.Dump, as far as no file has parts -/
import Derived.Test.YtakbalmbkokklaaGreatInoOwn
import Derived.Test.YtakbalmbkokklaaGreatInoAll
namespace Esch
open Go Go.RowKit
def inCof (x : InS) : InC := ⟨x.ino, x.kind, x.links, x.opens, x.size, none, 0, []⟩
def valS (x : InS) : InP := ⟨x.ino, x.kind, x.links, x.opens, x.size, []⟩
theorem pcOk_of (w : World) (S : Nat → Prop) (x : InS) : PcOk w S (inCof x) := ⟨RwAt.nil _ _ _ _, fun _ _ => rfl, Nat.zero_le _⟩
end Esch
namespace Go.Proofs.YtakbalmbkokklaaGreat
open Go.RowKit Esch Go.Shelf

theorem Tryz.infoInode : (Tryz.prog.info? 85).map (fun i => (i.zero, i.size, i.bytes)) = some (some (.agg #[.int .i64 0, .int .i64 0, .int .i64 0, .int .i64 0, .int .i64 0, .slice none 0 0]), 6, 64) := by kernel_rfl
set_option maxRecDepth 100000 in
set_option maxHeartbeats 1000000 in
theorem clonePt_nil (w : World) : Calls Tryz.prog 137 #[.slice none 0 0] w fun e w' => e = .returned (.slice none 0 0) ∧ w' = w := by
  have q22 : ∀ (w : World) (a : Option Addr) (n c n' c' : Nat), (binOp .eql 83 (.slice a n c) (.slice none n' c')).run Tryz.prog w = .ok (.bool a.isNone) w := fun w a n c n' c' => Lib.run_eql_slice_nil w _ _ a n c n' c' Tryz.underlying83
  go_enter Tryz.func137, Tryz.ntmps137
  go_wp2_with fail
  go_ret
  exact ⟨rfl, rfl⟩
def DumpRel (w : World) (s : TabS) (l : List Int) (g : Nat) (v3 v10 : Value) (wr : World) : Prop :=
  ∃ (i : Nat) (ao : Option Addr) (cap : Nat), g = l.length - i ∧ i ≤ l.length ∧ v10 = .int .i64 i ∧ v3 = .slice ao i cap ∧ GRowAt wr (From w.heap.size) 6 i cap ao (((l.take i).map (fun j => inCof (s.at j))).flatMap InC.cells) ∧ Below w.heap.size w wr
def DumpPost (w : World) (s : TabS) (e : Ending) (w' : World) : Prop := ∃ a c, e = .returned (.slice a (sortI (s.m.map (·.1))).length c) ∧ InosAt w' (From w.heap.size) a ((sortI (s.m.map (·.1))).map (fun j => inCof (s.at j))) ∧ Below w.heap.size w w'
set_option linter.unusedSimpArgs false in
set_option maxRecDepth 100000 in
set_option maxHeartbeats 4000000 in
theorem inoDump_any (w : World) (b : Nat) (S : Nat → Prop) (s : TabS) (h : TabAt w b S s) (hl : s.m.length ≤ 100000) :
    Calls Tryz.prog 116 #[.pointer (some ⟨b, 0, none⟩)] w (DumpPost w s) := by
  obtain ⟨j0, hi, hy0, hy1, hy2⟩ := info_parts Tryz.infoInode
  have hall := inoAll_any w b S s h hl
  have hcl := fun W => clonePt_nil W
  obtain ⟨sb, lt, mb, c0, c1, f1, ⟨es, ck, hm⟩, sm, n1⟩ := h
  have hl0 := cell_lt c0
  have hml := block_lt hm.block
  have hsl : (sortI (s.m.map (·.1))).length = s.m.length := by unfold sortI; simp
  have HM := Lib.hid hm
  unfold DumpPost
  unfold AllPost at hall
  generalize hks : sortI (s.m.map (·.1)) = ks at *
  have Hll := Lib.hid (show ks.length ≤ 100000 by omega)
  clear hm f1 c1 n1 sm hl hsl hks
  go_enter Tryz.func116, Tryz.ntmps116
  go_wp2_with fail
  refine hall.mono ?_
  clear hall
  rintro e w1 ⟨a, c, rfl, hN, hC, hB1⟩
  have HN := Lib.hid hN
  have HB1 := Lib.hid hB1
  have d0 := below_at hB1 c0 hl0
  clear hN hC hB1 c0
  go_wp2_with fail
  go_loopg [3, 10] ks.length (fun g s3 s10 wr => DumpRel w1 s ks g s3 s10 wr)
  case atStart => exact ⟨0, none, 0, rfl, Nat.zero_le _, rfl, rfl, GRowAt.nil _ _ _ _, Below.refl _ _⟩
  case round =>
    obtain ⟨i, ao, cap, rfl, hil, rfl, rfl, hG, hB'⟩ := hrel
    have HG := Lib.hid hG
    have HB' := Lib.hid hB'
    clear hG hB'
    by_cases hlt : i < ks.length
    · obtain ⟨bk, off, rfl, hSb, hbl, hc⟩ := HN.out (by omega)
      have f0 := below_at HB'.out (hc i hlt) hbl
      have HT := Lib.hid (take_one ks 0 hlt)
      have hlt' := Lib.hid hlt
      have hbl' : bk < wr.heap.size := cell_lt f0
      have d1 := below_at HB'.out d0 (Nat.lt_of_lt_of_le hl0 HB1.out.size)
      have hld1 := cell_lt d1
      have hil2 : (0 : Int) ≤ i ∧ (i : Int) < ks.length := by omega
      generalize ks.getD i 0 = kn at *
      have hlk := (HM.out.of_block ((HB1.out.trans (HB'.out.mono HB1.out.size)).block mb hml)).look keyInt Tryz.underlying82 zeroIn kn false
      rw [show ((get s.m kn).map inV).getD (inV in0) = inV (s.at kn) by unfold TabS.at; cases get s.m kn <;> rfl] at hlk
      simp only [Bool.false_eq_true, if_false] at hlk
      obtain ⟨u, hu⟩ : ∃ u, u = s.at kn := ⟨_, rfl⟩
      rw [← hu] at hlk
      have HU := Lib.hid hu
      obtain ⟨x0, x1, x2, x3, x4⟩ := u
      simp only [inV, iV] at hlk
      have hwr := Lib.hid (show wrap64 ((i : Int) + 1) = ((i + 1 : Nat) : Int) by unfold wrap64; have := Hll.out; omega)
      have hms : ks.length - (i + 1) < ks.length - i := by omega
      have hcl1 := hcl (wr.alloc (.cells #[.int .i64 x0, .int .i64 x1, .int .i64 x2, .int .i64 x3, .int .i64 x4, .slice none 0 0] 85))
      clear hc hbl hu
      go_wp2_with fail
      refine hcl1.mono ?_
      clear hcl1 hlk
      rintro e w5 ⟨rfl, rfl⟩
      go_wp2_with (at_builtin; refine wpList_append_g (by rfl) (.tmp 24) (.tmp 26) 153 153 (by rfl) 85 j0 _ 64 Tryz.underlying153 hi hy0 hy1 hy2 (by rfl) (by rfl) (HG.out.mod (F := none') (by exact modC (Mod.refl _ _)) (fun _ _ _ => id)) _ 1 (InC.cells (inCof ⟨x0, x1, x2, x3, x4⟩)) (by rfl) (src_inc _ _ Tryz.underlying153 (wr.heap.size + 1) _ 85 (by first | exact heap_alloc_new _ _ | (rw [show wr.heap.size + 1 = (wr.alloc (.cells #[.int .i64 x0, .int .i64 x1, .int .i64 x2, .int .i64 x3, .int .i64 x4, .slice none 0 0] 85)).heap.size by simp]; exact heap_alloc_new _ _)) _) (by have := Hll.out; omega) (by have := Hll.out; omega) ?_; intro a6 cap6 w6 hg6 hM6 hz6)
      have hzB := HB'.out.size
      have hB5 : Below w1.heap.size w1 ((wr.alloc (.cells #[.int .i64 x0, .int .i64 x1, .int .i64 x2, .int .i64 x3, .int .i64 x4, .slice none 0 0] 85)).alloc (.cells #[.int .i64 x0, .int .i64 x1, .int .i64 x2, .int .i64 x3, .int .i64 x4, .slice none 0 0] 85)) := by exact belC HB'.out
      have hB6 : Below w1.heap.size w1 w6 := hB5.trans (hM6.below_at (by simp only [World.size_alloc]; omega) (fun k hk e => by have e : w1.heap.size ≤ k := e; omega))
      have hg7 : GRowAt w6 (From w1.heap.size) 6 (i + 1) cap6 a6 (((ks.take (i + 1)).map (fun j => inCof (s.at j))).flatMap InC.cells) := by
        rw [HT.out, List.map_append, List.flatMap_append, show ([kn].map (fun j => inCof (s.at j))).flatMap InC.cells = InC.cells (inCof (s.at kn)) from List.append_nil _, ← HU.out]
        exact hg6.sub (fun k _ hk => by
          rcases hk with hk | hk
          · exact hk
          · show w1.heap.size ≤ k; rw [hk]; simp only [World.size_alloc]; have := HB'.out.size; omega)
      have HG6 := Lib.hid hg7
      have HB6 := Lib.hid hB6
      clear hg6 hM6 hz6 hg7 hB6 hB5
      go_wp2_with fail
      go_roundg (ks.length - (i + 1))
      case measure => exact hms
      case rel => exact ⟨i + 1, a6, cap6, rfl, hlt'.out, by first | rfl | rw [hwr.out], rfl, HG6.out, HB6.out⟩
    · obtain rfl : i = ks.length := by omega
      have hg := HG.out
      rw [List.take_length] at hg
      go_wp2_with fail
      go_ret
      refine ⟨ao, cap, rfl, ⟨?_, fun x hx => ?_⟩, HB1.out.trans (HB'.out.mono HB1.out.size)⟩
      · rw [List.length_map]
        exact hg.row.sub (fun k _ hk => Nat.le_trans HB1.out.size hk)
      · obtain ⟨j, -, rfl⟩ := List.mem_map.1 hx
        exact pcOk_of _ _ _
end Go.Proofs.YtakbalmbkokklaaGreat
