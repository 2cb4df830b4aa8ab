/- what the laws of the tree wake them by -/
import Derived.Test.YtakbalmbkokklaaGreatPkWk
import Derived.Test.YtakbalmbkokklaaGreatPkTreeM
import Derived.Test.YtakbalmbkokklaaGreatPkTree2
namespace Go.Proofs.YtakbalmbkokklaaGreat
open Go.RowKit Esch

set_option maxRecDepth 100000 in
set_option maxHeartbeats 4000000 in
theorem wakes22_any (w : World) : Calls Tryz.prog 10 #[] w fun e w' => e = .returned (.bool true) ∧ Below w.heap.size w w' := by
  have hok1 : wk1.ok := tr0_ok.mk' wpA 1
  have hok2 : wk2.ok := hok1.mk' wpAB 2
  have hok3 : wk3.ok := hok2.rename wpAB wpD
  have hok4 : wk4.ok := hok3.rmdir wpA
  go_enter Tryz.func10, Tryz.ntmps10
  go_wp2_with fail
  refine (trNew_any _).mono ?_
  rintro e w1 ⟨b, rfl, hT, hB⟩
  have hm1 := fun W S hW => trMkdir_any W b S tr0 hW tr0_ok wpA
  have hm2 := fun W S hW => trCreate_any W b S wk1 hW hok1 wpAB
  have hm3 := fun W S hW => trRmdir_any W b S wk2 hW hok2 wpA
  have hm4 := fun W S hW => trRename_any W b S wk2 hW hok2 wpA wpAC
  have hm5 := fun W S hW => trRename_any W b S wk2 hW hok2 wpAB wpD
  have hm6 := fun W S hW => trRmdir_any W b S wk3 hW hok3 wpA
  have hm7 := fun W S hW => trList_any W b S wk4 hW [47] (by rw [wk4_m]; decide)
  have hm8 := fun W S hW => trStat_any W b S wk4 hW wpD
  have hm9 := fun W S hW => check_true W b S wk4 hW wk4_good (by rw [wk4_m]; decide) (by rw [wk4_t]; decide)
  unfold ErrPost at hm1 hm2 hm3 hm4 hm5 hm6
  rw [show (tr0.mk' wpA 1).run tr0 = (0, wk1) from Prod.ext wk1_e rfl] at hm1
  rw [show (wk1.mk' wpAB 2).run wk1 = (0, wk2) from Prod.ext wk2_e rfl] at hm2
  rw [wk2_r] at hm3
  rw [wk2_m] at hm4
  rw [show (wk2.rename wpAB wpD).run wk2 = (0, wk3) from Prod.ext wk3_e rfl] at hm5
  rw [show (wk3.rmdir wpA).run wk3 = (0, wk4) from Prod.ext wk4_e rfl] at hm6
  clear hok1 hok2 hok3 hok4
  go_wp2_with fail
  have h1 : Calls Tryz.prog 12 #[.pointer (some ⟨b, 0, none⟩), .string ⟨#[47, 97]⟩] _ _ := hm1 _ _ hT
  refine h1.mono ?_
  clear h1 hm1 hT
  rintro e w2 ⟨rfl, hT, hM⟩
  have hB := hB.trans (hM.below_at hB.size (fun k hk e => by omega))
  clear hM
  go_wp2_with fail
  have h1 : Calls Tryz.prog 19 #[.pointer (some ⟨b, 0, none⟩), .string ⟨#[47, 97, 47, 98]⟩] _ _ := hm2 _ _ hT
  refine h1.mono ?_
  clear h1 hm2 hT
  rintro e w3 ⟨rfl, hT, hM⟩
  have hB := hB.trans (hM.below_at hB.size (fun k hk e => by omega))
  clear hM
  go_wp2_with fail
  have h1 : Calls Tryz.prog 15 #[.pointer (some ⟨b, 0, none⟩), .string ⟨#[47, 97]⟩] _ _ := hm3 _ _ hT
  refine h1.mono ?_
  clear h1 hm3 hT
  rintro e w4 ⟨rfl, hT, hM⟩
  have hB := hB.trans (hM.below_at hB.size (fun k hk e => by omega))
  clear hM
  go_wp2_with fail
  have h1 : Calls Tryz.prog 32 #[.pointer (some ⟨b, 0, none⟩), .string ⟨#[47, 97]⟩, .string ⟨#[47, 97, 47, 99]⟩] _ _ := hm4 _ _ hT
  refine h1.mono ?_
  clear h1 hm4 hT
  rintro e w5 ⟨rfl, hT, hM⟩
  have hB := hB.trans (hM.below_at hB.size (fun k hk e => by omega))
  clear hM
  go_wp2_with fail
  have h1 : Calls Tryz.prog 32 #[.pointer (some ⟨b, 0, none⟩), .string ⟨#[47, 97, 47, 98]⟩, .string ⟨#[47, 100]⟩] _ _ := hm5 _ _ hT
  refine h1.mono ?_
  clear h1 hm5 hT
  rintro e w6 ⟨rfl, hT, hM⟩
  have hB := hB.trans (hM.below_at hB.size (fun k hk e => by omega))
  clear hM
  go_wp2_with fail
  have h1 : Calls Tryz.prog 15 #[.pointer (some ⟨b, 0, none⟩), .string ⟨#[47, 97]⟩] _ _ := hm6 _ _ hT
  refine h1.mono ?_
  clear h1 hm6 hT
  rintro e w7 ⟨rfl, hT, hM⟩
  have hB := hB.trans (hM.below_at hB.size (fun k hk e => by omega))
  clear hM
  go_wp2_with fail
  have h1 : Calls Tryz.prog 13 #[.pointer (some ⟨b, 0, none⟩), .string ⟨#[47]⟩] _ _ := hm7 _ _ hT
  rw [wk4_l] at h1
  refine h1.mono ?_
  clear h1 hm7
  rintro e w8 ⟨a, c, l, rfl, hls, hnm, -, hB8⟩
  have hl1 : l = [[100]] := by
    obtain ⟨k, ⟨hp, -⟩, rfl⟩ := (show NamesOfD wk4.n.m 1 l from hls)
    rw [wk4_m] at hp
    rw [List.perm_singleton.1 (show k.Perm [((1, [100]), 3)] from hp)]
    rfl
  subst hl1
  have hT8 := hT.below' hB8
  have hB9 := hB.trans (hB8.mono hB.size)
  have hst : Calls Tryz.prog 14 #[.pointer (some ⟨b, 0, none⟩), .string ⟨#[47, 100]⟩] _ _ := hm8 _ _ hT8
  rw [wk4_s] at hst
  unfold StatPost at hst
  rw [show statV (statOf wk4 (.ok 3)) = .agg #[.int .i64 3, .int .i64 2, .int .i64 1, .int .i64 0] from by show statV (wk4.t.at 3) = _; rw [wk4_at]; rfl, show Res.code (.ok 3 : Res Int) = 0 from rfl] at hst
  rw [show Res.code (.ok 1 : Res Int) = 0 from rfl]
  have hnm8 := Lib.hid hnm
  clear hm8 hT hB8 hls hnm hB
  go_wp2_with fail
  refine hst.mono ?_
  clear hst
  rintro e w10 ⟨rfl, hB10⟩
  have hz10 := hB10.size
  have hT10 := Lib.hid (hT8.below' hB10)
  have hN10 := Lib.hid (hnm8.out.below hB10)
  have hB11 := Lib.hid (hB9.trans (hB10.mono hB9.size))
  clear hT8 hB10 hnm8 hB9
  go_wp2_with fail
  obtain ⟨W12, hW12⟩ : ∃ W12, W12 = (w10.alloc (.cells #[.int .i64 3, .int .i64 2, .int .i64 1, .int .i64 0] 32)).alloc (.cells #[.string ⟨#[100]⟩] 9) := ⟨_, rfl⟩
  rw [← hW12]
  have hB12 : Below w10.heap.size w10 W12 := by rw [hW12]; exact belC (Below.refl _ _)
  have c0 : W12.cell? ⟨w10.heap.size, 0, none⟩ = some (.int .i64 3) := by rw [hW12]; go_simp
  have hy : NmsAt (From w10.heap.size) W12 (some ⟨w10.heap.size + 1, 0, none⟩) [[100]] := fun _ => ⟨w10.heap.size + 1, 0, rfl, by show w10.heap.size ≤ _; omega, by rw [hW12]; simp, fun i hi => by
    have hi : i < 1 := hi
    obtain rfl : i = 0 := by omega
    rw [hW12]; go_simp; rfl⟩
  have htx : Calls Tryz.prog 34 #[.slice a 1 c, .slice (some ⟨w10.heap.size + 1, 0, none⟩) 1 1] W12 _ := texts_any W12 _ _ a _ c 1 [[100]] [[100]] (hN10.out.below hB12) hy (by decide)
  refine htx.mono ?_
  clear htx hy
  rintro e w13 ⟨rfl, hB13⟩
  have c1 := below_at hB13 c0 (cell_lt c0)
  have hB1213 := hB12.trans (hB13.mono hB12.size)
  have hck := hm9 _ _ (hT10.out.below' hB1213)
  have hBz := Lib.hid (hB11.out.trans (hB1213.mono hB11.out.size))
  clear hB12 hB13 hB1213 c0 hW12 hm9
  rw [show decide (([[100]] : List Nm) = [[100]]) = true from rfl]
  go_wp2_with fail
  refine hck.mono ?_
  rintro e w14 ⟨rfl, hB14⟩
  have hBy := Lib.hid (hBz.out.trans (hB14.mono hBz.out.size))
  clear hB14
  go_wp2_with fail
  go_ret
  exact ⟨rfl, hBy.out⟩
end Go.Proofs.YtakbalmbkokklaaGreat
