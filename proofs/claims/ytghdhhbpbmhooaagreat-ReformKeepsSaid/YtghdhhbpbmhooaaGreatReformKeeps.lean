/-
  The law ReformKeeps: records that were appended ahead of a change of the projection are read behind it as they were, whichever units leave, or are down and leave, and whatever becomes of its questions; the tail lies above all of them; and what is appended then lies there.
  Conditions: none.
-/
import Derived.Test.YtghdhhbpbmhooaaGreatKeepOk3
import Derived.Test.YtghdhhbpbmhooaaGreatCrash
import Derived.Test.YtghdhhbpbmhooaaGreatCopyK
import Derived.Test.YtghdhhbpbmhooaaGreatKeepAns
import Derived.Test.YtghdhhbpbmhooaaGreatRefNext
import Derived.Test.YtghdhhbpbmhooaaGreatKvS
import Derived.Test.YtghdhhbpbmhooaaGreatRow
namespace Go.Proofs.YtghdhhbpbmhooaaGreat
open Go.RowKit Esch Go.ChangeShapes Go.WideShapes Go.ChangeAt

abbrev tBehind : ByteArray := ⟨#[98, 101, 104, 105, 110, 100]⟩
def txK (recs : List ByteArray) (i : Nat) : ByteArray := if i < recs.length then recO recs i else tBehind
theorem txK_lt {recs : List ByteArray} {i : Nat} (h : i < recs.length) : txK recs i = strOfNums [(i : Int)] ++ recs.getD i ⟨#[]⟩ := by unfold txK; rw [if_pos h]; rfl
theorem txK_end (recs : List ByteArray) : txK recs recs.length = tBehind := by unfold txK; rw [if_neg (by omega)]
theorem strs_size (i : Nat) (rc : ByteArray) (h : rc.size ≤ 500) : (strOfNums [(i : Int)] ++ rc).size ≤ 4096 := by
  rw [ByteArray.size_append, strOfNums_size]
  simp only [List.length_cons, List.length_nil]
  omega
def KpRel1 (w0 : World) (hb : Nat) (recs : List ByteArray) (g : Nat) (s10 : Value) (wr : World) : Prop :=
  ∃ (i : Nat) (V : Nat → Prop) (hd : HdS) (M : Pgs), g = recs.length - i ∧ i ≤ recs.length ∧ s10 = .int .i64 i ∧ Hd1 w0 (60 * i) hb V hd wr ∧ Kv hd.nd 100 (4 * i) M E0 D0 0 i (lay0 qOld) ∧ P1 M i (txK recs) ∧ ∀ j, j < i → (recs.getD j ⟨#[]⟩).size ≤ 500
def KpRel2 (w0 w1 : World) (hb : Nat) (V : Nat → Prop) (c m : Nat) (M : Pgs) (q : Proj) (g : Nat) (s12 : Value) (wr : World) : Prop :=
  ∃ (i : Nat) (hd : HdS) (D : Nat → Bool), g = 5 - i ∧ i ≤ 5 ∧ s12 = .int .i64 i ∧ Hd1 w0 c hb V hd wr ∧ Kv hd.nd 100 (4 * m) M E0 D 0 m (lay0 qOld) ∧ (∀ u : Nat, D u = true → (u : Int) ∉ q.units) ∧ Mod V w1 wr
def KpRel3 (w0 : World) (hb c : Nat) (recs : List ByteArray) (q : Proj) (E : Nat → Int) (D : Nat → Bool) (L : LayS) (g : Nat) (s18 : Value) (wr : World) : Prop :=
  ∃ (i : Nat) (V : Nat → Prop) (hd : HdS) (M : Pgs), g = recs.length - i ∧ i ≤ recs.length ∧ s18 = .int .i64 i ∧ Hd1 w0 (c + 30 * i) hb V hd wr ∧ Kv hd.nd 100 (4 * recs.length + 3 * i) M E D 1 recs.length L ∧ JF M recs.length q (txK recs)
theorem five {i : Nat} (h : i < 5) : ([0, 1, 2, 3, 4] : List Int).getD i 0 = (i : Int) := by
  have : i = 0 ∨ i = 1 ∨ i = 2 ∨ i = 3 ∨ i = 4 := by omega
  rcases this with rfl | rfl | rfl | rfl | rfl <;> rfl
set_option maxRecDepth 100000 in
set_option maxHeartbeats 16000000 in
theorem reformKeeps_walk (S : Nat → Prop) (la : Option Addr) (recs : List ByteArray) (lc : Nat) (q : Proj) (qa : Option Addr) (qc : Nat) (fa : Option Addr) (fates : List Int) (fc : Nat) (w : World) (hrs : StrsAt w la recs) (hrl : recs.length ≤ 9223372036854775807) (hq : ListsAt S w qa q.chains) (hfa : BytesAt w fa fates) (hfl : fates.length ≤ 9223372036854775807) :
    Calls Tryz.prog 7 #[.slice la recs.length lc, .agg #[.int .i64 q.epoch, .slice qa q.chains.length qc], .slice fa fates.length fc] w fun r w' => r = .returned (.bool true) ∧ Below w.heap.size w w' := by
  obtain ⟨W0, hW0, hB0, hz0, p0, p1⟩ := oneBox w 24 (.int .i64 q.epoch) (.slice qa q.chains.length qc)
  have HQ : Hid (∀ W, Below W0.heap.size W0 W → ListsAt (fun _ => True) W qa q.chains) := Lib.hid fun W hB => ((hq.mod (F := none') (Mod.of_below hB0) (fun _ _ _ => id)).mod (F := none') (Mod.of_below hB) (fun _ _ _ => id)).sub (fun _ _ _ => trivial)
  have HRS := Lib.hid hrs
  have HFA := Lib.hid hfa
  have HW0 := Lib.hid hW0
  have HBW0 := Lib.hid hB0
  have l0 : w.heap.size < W0.heap.size := by omega
  obtain ⟨lq, hlq⟩ : ∃ lq, lq = largeProj q.chains := ⟨_, rfl⟩
  obtain ⟨nq, hnq⟩ : ∃ nq, nq = nextB qOld q := ⟨_, rfl⟩
  have Hsq : Hid (lq = false → Small q.chains) := Lib.hid (by rw [hlq]; exact small_ofA)
  have HLq : Hid (∀ W, Below W0.heap.size W0 W → Calls Tryz.prog 8 #[.agg #[.int .i64 q.epoch, .slice qa q.chains.length qc]] W fun r w' => r = .returned (.bool lq) ∧ Below W.heap.size W w') := Lib.hid fun W hB => by rw [hlq]; exact largeProj_any _ W q.epoch qa qc q.chains (HQ.out W hB)
  have HNq : Hid (∀ W, Below W0.heap.size W0 W → ∀ T b, ListsAt T W (some ⟨b, 0, none⟩) qOld.chains → Calls Tryz.prog 23 #[.agg #[.int .i64 0, .slice (some ⟨b, 0, none⟩) 2 2], .agg #[.int .i64 q.epoch, .slice qa q.chains.length qc]] W (BoolBelow W nq)) := Lib.hid fun W hB T b hl => by rw [hnq]; exact rnext_any _ W 0 q.epoch _ _ 2 qc qOld.chains q.chains (hl.sub (fun _ _ _ => trivial)) (HQ.out W hB)
  have Hnq := Lib.hid hnq
  have d0 : W0.drew.cell? ⟨w.heap.size, 0, none⟩ = some (.int .i64 q.epoch) := p0
  have d1 : W0.drew.cell? ⟨w.heap.size, 1, none⟩ = some (.slice qa q.chains.length qc) := p1
  clear hW0 hq hlq hnq hB0 hz0 hrs hfa
  go_enter Tryz.func7, Tryz.ntmps7
  by_cases h12 : 12 < recs.length
  · have h12' : (12 : Int) < recs.length := by omega
    clear h12
    go_wp2_with fail
    rw [← HW0.out]
    refine wp_region_held_drew (S := fun w' => w'.cell? ⟨w.heap.size, 0, none⟩ = some (.int .i64 q.epoch)) (by kernel_rfl) d0 (fun hHeld => ?_)
    refine takeL 0 ?_
    refine takeL 1 ?_
    refine takeL 2 ?_
    refine takeL 3 ?_
    refine takeU 4 ?_
    refine takeU 5 ?_
    refine takeU 6 ?_
    refine takeL 7 ?_
    refine takeL 8 ?_
    refine takeU 9 ?_
    refine takeU 10 ?_
    refine takeL 11 ?_
    refine takeL 12 ?_
    refine takeU 13 ?_
    refine takeU 14 ?_
    refine takeU 15 ?_
    refine takeU 16 ?_
    refine takeL 17 ?_
    refine wpAnyH_done (by kernel_rfl) ?_ _
    go_wp2_with fail
    refine (wakes18_any _).mono ?_
    rintro e wz ⟨rfl, hBz⟩
    go_wp2_with fail
    go_ret
    exact ⟨rfl, HBW0.out.trans (((Below.refl W0.heap.size W0).drew.trans (hBz.mono ((Below.refl W0.heap.size W0).drew).size)).mono HBW0.out.size)⟩
  have h12' : ¬ (12 : Int) < recs.length := by omega
  have H12 := Lib.hid (show recs.length ≤ 12 by omega)
  have HD12 := Lib.hid (show decide ((12 : Int) < recs.length) = false from decide_eq_false (by omega))
  clear h12
  by_cases h60 : 60 < fates.length
  · have h60' : (60 : Int) < fates.length := by omega
    clear h60
    go_wp2_with fail
    rw [← HW0.out]
    refine wp_region_held_drew (S := fun w' => w'.cell? ⟨w.heap.size, 0, none⟩ = some (.int .i64 q.epoch)) (by kernel_rfl) d0 (fun hHeld => ?_)
    refine takeL 0 ?_
    refine takeL 1 ?_
    refine takeL 2 ?_
    rw [HD12.out]
    refine takeL 3 ?_
    refine takeL 4 ?_
    refine takeL 5 ?_
    refine takeL 6 ?_
    refine takeL 7 ?_
    refine takeL 8 ?_
    refine takeU 9 ?_
    refine takeU 10 ?_
    refine takeL 11 ?_
    refine takeL 12 ?_
    refine takeU 13 ?_
    refine takeU 14 ?_
    refine takeU 15 ?_
    refine takeU 16 ?_
    refine takeL 17 ?_
    refine wpAnyH_done (by kernel_rfl) ?_ _
    go_wp2_with fail
    refine (wakes18_any _).mono ?_
    rintro e wz ⟨rfl, hBz⟩
    go_wp2_with fail
    go_ret
    exact ⟨rfl, HBW0.out.trans (((Below.refl W0.heap.size W0).drew.trans (hBz.mono ((Below.refl W0.heap.size W0).drew).size)).mono HBW0.out.size)⟩
  have h60' : ¬ (60 : Int) < fates.length := by omega
  have H60 := Lib.hid (show fates.length ≤ 60 by omega)
  have HD60 := Lib.hid (show decide ((60 : Int) < fates.length) = false from decide_eq_false (by omega))
  clear h60
  go_wp2_with fail
  rw [← HW0.out]
  refine wp_region_held_drew (S := fun w' => w'.cell? ⟨w.heap.size, 0, none⟩ = some (.int .i64 q.epoch) ∧ w'.cell? ⟨w.heap.size, 1, none⟩ = some (.slice qa q.chains.length qc)) (by kernel_rfl) ⟨d0, d1⟩ (fun hHeld => ?_)
  refine takeL 0 ?_
  refine takeL 1 ?_
  refine takeL 2 ?_
  rw [HD12.out]
  refine takeL 3 ?_
  refine takeL 4 ?_
  refine takeL 5 ?_
  refine takeL 6 ?_
  rw [HD60.out]
  refine takeL 7 ?_
  refine takeL 8 ?_
  refine takeL 9 ?_
  refine wpAnyH_ready (rs := [10]) (by kernel_rfl) (by simp) ?_
  refine AllReadyH.cons (o := _) rfl (fun K hK => ?_) AllReadyH.nil
  go_simp
  go_at_call 8
  with_reducible refine (HLq.out _ (below_drew (Below.refl _ _))).mono ?_
  rintro e w2 ⟨rfl, hB2'⟩
  have hBN : Below W0.heap.size W0 w2 := below_drew hB2'
  clear hB2' d0 d1
  have x0 := below_at hBN p0 l0
  have x1 := below_at hBN p1 l0
  have HB2 := Lib.hid hBN
  clear hBN
  try go_wp2_with fail
  refine hK.out _ _ ⟨x0, x1⟩ (fun hHeld => ?_)
  clear hK K
  try simp only [Act.put, List.setIfInBounds_toArray, List.set_cons_zero, List.set_cons_succ]
  refine takeL 11 ?_
  refine takeL 12 ?_
  cases lq
  rotate_left 1
  · skip
    refine takeU 13 ?_
    refine takeU 14 ?_
    refine takeU 15 ?_
    refine takeU 16 ?_
    refine takeL 17 ?_
    refine wpAnyH_done (by kernel_rfl) ?_ _
    go_wp2_with fail
    refine (wakes18_any _).mono ?_
    rintro e wz ⟨rfl, hBz⟩
    go_wp2_with fail
    go_ret
    exact ⟨rfl, HBW0.out.trans ((HB2.out.trans (hBz.mono (HB2.out).size)).mono HBW0.out.size)⟩
  have Hsmq : Hid (Small q.chains) := Lib.hid (Hsq.out rfl)
  clear Hsq
  refine takeL 14 ?_
  refine wpAnyH_ready (rs := [13]) (by kernel_rfl) (by simp) ?_
  refine AllReadyH.cons (o := _) rfl (fun K hK => ?_) AllReadyH.nil
  go_simp
  go_at_call 24
  with_reducible refine (old18_any _).mono ?_
  rintro e w6 ⟨bo2, rfl, hlo, hB6⟩
  have hBN : Below W0.heap.size W0 w6 := HB2.out.trans (hB6.mono HB2.out.size)
  clear x0 x1 hB6
  have x0 := below_at hBN p0 l0
  have x1 := below_at hBN p1 l0
  have HB6 := Lib.hid hBN
  have HLO := Lib.hid hlo
  clear hBN HB2 hlo
  try go_wp2_with fail
  refine hK.out _ _ ⟨x0, x1⟩ (fun hHeld => ?_)
  clear hK K
  try simp only [Act.put, List.setIfInBounds_toArray, List.set_cons_zero, List.set_cons_succ]
  refine wpAnyH_ready (rs := [15]) (by kernel_rfl) (by simp) ?_
  refine AllReadyH.cons (o := _) rfl (fun K hK => ?_) AllReadyH.nil
  go_simp
  go_at_call 23
  with_reducible refine (HNq.out _ HB6.out _ _ HLO.out).mono ?_
  rintro e w7 ⟨rfl, hB7⟩
  have hBN : Below W0.heap.size W0 w7 := HB6.out.trans (hB7.mono HB6.out.size)
  clear x0 x1 hB7
  have x0 := below_at hBN p0 l0
  have x1 := below_at hBN p1 l0
  have HB7 := Lib.hid hBN
  clear hBN HB6 HLO
  try go_wp2_with fail
  refine hK.out _ _ ⟨x0, x1⟩ (fun hHeld => ?_)
  clear hK K
  try simp only [Act.put, List.setIfInBounds_toArray, List.set_cons_zero, List.set_cons_succ]
  refine takeL 16 ?_
  refine takeL 17 ?_
  refine wpAnyH_done (by kernel_rfl) ?_ _
  clear hHeld x0 x1
  cases nq
  · skip
    go_wp2_with fail
    refine (wakes18_any _).mono ?_
    rintro e wz ⟨rfl, hBz⟩
    go_wp2_with fail
    go_ret
    exact ⟨rfl, HBW0.out.trans ((HB7.out.trans (hBz.mono (HB7.out).size)).mono HBW0.out.size)⟩
  go_wp2_with fail
  refine (old18_any _).mono ?_
  rintro e w8 ⟨b8, rfl, hl8, hB8⟩
  have hB08 := HB7.out.trans (hB8.mono HB7.out.size)
  go_wp2_with fail
  have hmk : Calls Tryz.prog 25 #[.agg #[.int .i64 0, .slice (some ⟨b8, 0, none⟩) 2 2], .int .i64 100] _ _ := made_any _ w8 qOld _ 2 100 (by decide) hl8 (by decide) (by decide)
  refine hmk.mono ?_
  clear hmk hl8
  rintro e w9 ⟨hb, hrb, nb, rfl, hH9, -, hB9⟩
  have hD : Hd1 W0 0 hb _ hdO w9 := Hd1.start hH9 hB08 hB9
  obtain ⟨V, hV⟩ : ∃ V, V = grow none' w8 w9 := ⟨_, rfl⟩
  rw [← hV] at hD
  have HD := Lib.hid hD
  clear hD hV hH9 hB08 hB9 hB8 HB7
  go_wp2_with fail
  go_loopg [10] recs.length (fun g s10 wr => KpRel1 W0 hb recs g s10 wr)
  case atStart => exact ⟨0, V, hdO, _, rfl, Nat.zero_le _, rfl, HD.out, kv_start, p1_start _, fun j hj => absurd hj (by omega)⟩
  case round =>
    clear HD
    obtain ⟨i, Vr, hd, M, rfl, hi, rfl, hDr, hK, hP, hsz⟩ := hrel
    have HDr := Lib.hid hDr
    have HK := Lib.hid hK
    have HP := Lib.hid hP
    have Hsz := Lib.hid hsz
    have i0 : (0 : Int) ≤ i := by omega
    clear hDr hK hP hsz
    by_cases hil : i < recs.length
    · obtain ⟨sb, soff, rfl, hsb, hsc, -⟩ := HRS.out.get HBW0.out hil
      obtain ⟨rc, hrc⟩ : ∃ rc, rc = recs.getD i ⟨#[]⟩ := ⟨_, rfl⟩
      rw [← hrc] at hsc
      have Hrc := Lib.hid hrc
      have Htx := Lib.hid (show txK recs i = strOfNums [(i : Int)] ++ rc by rw [hrc]; exact txK_lt hil)
      have hsl : sb < W0.heap.size := Nat.lt_of_lt_of_le hsb HBW0.out.size
      have Hns := Lib.hid (show ¬ Vr sb from fun e => by have := HDr.out.old sb e; omega)
      have k0 := below_at HDr.out.below hsc hsl
      have i1 : (i : Int) < recs.length := by omega
      clear hsc hrc
      by_cases hbig : 500 < rc.size
      · have hbig' : (500 : Int) < rc.size := by omega
        clear hbig
        go_wp2_with fail
        refine (wakes18_any _).mono ?_
        rintro e wz ⟨rfl, hBz⟩
        go_wp2_with fail
        go_ret
        exact ⟨rfl, HBW0.out.trans ((HDr.out.below.trans (hBz.mono (HDr.out.below).size)).mono HBW0.out.size)⟩
      · have hbig' : (rc.size : Int) ≤ 500 := by omega
        have Hbig := Lib.hid (show rc.size ≤ 500 by omega)
        have hu8 : IntKind.u8.wrap (i : Int) = i := u8_small (by have := H12.out; omega)
        have h12n := H12.out
        clear hbig
        go_wp2_with fail
        have hadd : ∀ W, (Op.stringOp .add (strOfNums [(i : Int)]) rc).run Tryz.prog W = .ok (.string (strOfNums [(i : Int)] ++ rc)) W := fun W => run_string_add_sum _ _ _ (by have := Hbig.out; rw [strOfNums_size]; simp only [List.length_cons, List.length_nil]; omega)
        have kd : wr.drew.cell? ⟨sb, soff + i, none⟩ = some (.string rc) := k0
        have hsr : sb < wr.heap.size := cell_lt k0
        clear k0
        refine wp_region_held_drew (S := fun w' => w'.cell? ⟨sb, soff + i, none⟩ = some (.string rc)) (by kernel_rfl) kd (fun hHeld => ?_)
        refine takeL 0 ?_
        refine takeL 2 ?_
        refine takeL 3 ?_
        refine takeL 6 ?_
        refine takeL 7 ?_
        refine takeL 8 ?_
        refine takeL 9 ?_
        refine takeL 12 ?_
        refine wpAnyH_ready (rs := [1, 4]) (by kernel_rfl) (by simp) ?_
        refine AllReadyH.cons (o := _) rfl (fun K hK => ?_) (AllReadyH.cons (o := _) rfl (fun K hK => ?_) AllReadyH.nil)
        · go_simp
          go_at_call 24
          with_reducible refine (old18_any _).mono ?_
          rintro e wa ⟨bo, rfl, hlo, hBa⟩
          have hBa' : Below wr.heap.size wr wa := below_drew hBa
          have ka := below_at hBa' kd hsr
          clear hBa
          try go_wp2_with fail
          refine hK.out _ _ ka (fun hHeld => ?_)
          clear hK K
          try simp only [Act.put, List.setIfInBounds_toArray, List.set_cons_zero, List.set_cons_succ]
          refine wpAnyH_ready (rs := [4]) (by kernel_rfl) (by simp) ?_
          refine AllReadyH.cons (o := _) rfl (fun K hK => ?_) AllReadyH.nil
          go_simp
          obtain ⟨WX, hWX⟩ : ∃ W, W = wa.alloc (.cells #[.int .u8 (i : Int)] 5) := ⟨_, rfl⟩
          have hBX : Below wa.heap.size wa WX := by rw [hWX]; exact belC (Below.refl _ _)
          have e0 := below_at hBX ka (cell_lt ka)
          have e3 : WX.cell? ⟨wa.heap.size, 0, none⟩ = some (.int .u8 (i : Int)) := by rw [hWX]; go_simp
          have HBx := Lib.hid (hBa'.trans (hBX.mono hBa'.size))
          have HLO := Lib.hid (hlo.mod (F := none') (Mod.of_below hBX) (fun _ _ _ => id))
          have HNA : ¬ Vr wa.heap.size := fun e => by have h1 := HDr.out.lt _ e; have h2 := hBa'.size; omega
          rw [← hWX]
          clear hWX hBX hlo ka hBa'
          try go_wp2_with fail
          refine hK.out _ _ e0 (fun hHeld => ?_)
          clear hK K
          try simp only [Act.put, List.setIfInBounds_toArray, List.set_cons_zero, List.set_cons_succ]
          refine wpAnyH_mono2 (S2 := fun w' => w'.cell? ⟨sb, soff + i, none⟩ = some (.string rc) ∧ w'.cell? ⟨wa.heap.size, 0, none⟩ = some (.int .u8 (i : Int))) (fun _ h => h.1) ?_
          replace hHeld := And.intro hHeld e3
          have hcv := fun W => conv_one W wa.heap.size (i : Int)
          refine takeL 5 ?_
          refine takeL 10 ?_
          refine wpAnyH_ready (rs := [11]) (by kernel_rfl) (by simp) ?_
          refine AllReadyH.cons (o := _) rfl (fun K hK => ?_) AllReadyH.nil
          go_simp
          go_at_call 39
          have hpu : Calls Tryz.prog 39 #[.pointer (some ⟨hb, 0, none⟩), .agg #[.int .i64 0, .slice (some ⟨bo, 0, none⟩) 2 2], .string (strOfNums [(i : Int)] ++ rc)] WX _ := put18_any (HDr.out.below' HBx.out) (by omega) _ qOld (strOfNums [(i : Int)] ++ rc) _ 2 ⟨by decide, by decide⟩ HLO.out (by have := strs_size i rc Hbig.out; omega)
          unfold Pu18Post at hpu
          obtain ⟨n', M', g1, g2, g3, g4⟩ := put_old (hd := hd) HK.out HP.out (by rw [Htx.out]; exact strs_size i rc Hbig.out) (by omega) (by omega)
          rw [Htx.out] at g1 g2
          rw [g1, g2] at hpu
          with_reducible refine hpu.mono ?_
          clear hpu hcv
          rintro e w8 ⟨rfl, hD8, hM8⟩
          have v0 := hM8.at e0 Hns.out
          have v3 := hM8.at e3 HNA
          have HD8 := Lib.hid hD8
          have HK8 := Lib.hid g3
          have HP8 := Lib.hid g4
          clear hD8 hM8 g1 g2 g3 g4
          try go_wp2_with fail
          refine hK.out _ _ ⟨v0, v3⟩ (fun hHeld => ?_)
          clear hK K
          try simp only [Act.put, List.setIfInBounds_toArray, List.set_cons_zero, List.set_cons_succ]
          refine takeL 13 ?_
          refine wpAnyH_done (by kernel_rfl) ?_ _
          clear hHeld v0 v3 e0 e3
          go_wp2_with fail
          go_roundg (recs.length - (i + 1))
          case measure => omega
          case rel => exact ⟨i + 1, _, _, _, rfl, by omega, by go_num, HD8.out.more (by omega), HK8.out.mono (by omega), HP8.out, fun j hj => by
            by_cases e : j = i
            · subst e; rw [← Hrc.out]; exact Hbig.out
            · exact Hsz.out j (by omega)⟩
        · go_simp
          obtain ⟨wa, hwa⟩ : ∃ W, W = (wr.alloc (.cells #[.int .u8 (i : Int)] 5)).drew := ⟨_, rfl⟩
          have hBa : Below wr.heap.size wr wa := by rw [hwa]; exact belC (Below.refl _ _)
          have ka := below_at hBa kd hsr
          have e3a : wa.cell? ⟨wr.heap.size, 0, none⟩ = some (.int .u8 (i : Int)) := by rw [hwa]; go_simp
          rw [← hwa]
          clear hwa
          try go_wp2_with fail
          refine hK.out _ _ ka (fun hHeld => ?_)
          clear hK K
          try simp only [Act.put, List.setIfInBounds_toArray, List.set_cons_zero, List.set_cons_succ]
          refine wpAnyH_mono2 (S2 := fun w' => w'.cell? ⟨sb, soff + i, none⟩ = some (.string rc) ∧ w'.cell? ⟨wr.heap.size, 0, none⟩ = some (.int .u8 (i : Int))) (fun _ h => h.1) ?_
          replace hHeld := And.intro hHeld e3a
          have hcv := fun W => conv_one W wr.heap.size (i : Int)
          refine takeL 5 ?_
          refine takeL 10 ?_
          refine wpAnyH_ready (rs := [1]) (by kernel_rfl) (by simp) ?_
          refine AllReadyH.cons (o := _) rfl (fun K hK => ?_) AllReadyH.nil
          go_simp
          go_at_call 24
          with_reducible refine (old18_any _).mono ?_
          rintro e WX ⟨bo, rfl, hlo, hBX⟩
          have e0 := below_at hBX ka (cell_lt ka)
          have e3 := below_at hBX e3a (cell_lt e3a)
          have HBx := Lib.hid (hBa.trans (hBX.mono hBa.size))
          have HLO := Lib.hid hlo
          have HNA : ¬ Vr wr.heap.size := fun e => by have h1 := HDr.out.lt _ e; omega
          clear hBX hlo ka hBa e3a
          try go_wp2_with fail
          refine hK.out _ _ ⟨e0, e3⟩ (fun hHeld => ?_)
          clear hK K
          try simp only [Act.put, List.setIfInBounds_toArray, List.set_cons_zero, List.set_cons_succ]
          refine wpAnyH_ready (rs := [11]) (by kernel_rfl) (by simp) ?_
          refine AllReadyH.cons (o := _) rfl (fun K hK => ?_) AllReadyH.nil
          go_simp
          go_at_call 39
          have hpu : Calls Tryz.prog 39 #[.pointer (some ⟨hb, 0, none⟩), .agg #[.int .i64 0, .slice (some ⟨bo, 0, none⟩) 2 2], .string (strOfNums [(i : Int)] ++ rc)] WX _ := put18_any (HDr.out.below' HBx.out) (by omega) _ qOld (strOfNums [(i : Int)] ++ rc) _ 2 ⟨by decide, by decide⟩ HLO.out (by have := strs_size i rc Hbig.out; omega)
          unfold Pu18Post at hpu
          obtain ⟨n', M', g1, g2, g3, g4⟩ := put_old (hd := hd) HK.out HP.out (by rw [Htx.out]; exact strs_size i rc Hbig.out) (by omega) (by omega)
          rw [Htx.out] at g1 g2
          rw [g1, g2] at hpu
          with_reducible refine hpu.mono ?_
          clear hpu hcv
          rintro e w8 ⟨rfl, hD8, hM8⟩
          have v0 := hM8.at e0 Hns.out
          have v3 := hM8.at e3 HNA
          have HD8 := Lib.hid hD8
          have HK8 := Lib.hid g3
          have HP8 := Lib.hid g4
          clear hD8 hM8 g1 g2 g3 g4
          try go_wp2_with fail
          refine hK.out _ _ ⟨v0, v3⟩ (fun hHeld => ?_)
          clear hK K
          try simp only [Act.put, List.setIfInBounds_toArray, List.set_cons_zero, List.set_cons_succ]
          refine takeL 13 ?_
          refine wpAnyH_done (by kernel_rfl) ?_ _
          clear hHeld v0 v3 e0 e3
          go_wp2_with fail
          go_roundg (recs.length - (i + 1))
          case measure => omega
          case rel => exact ⟨i + 1, _, _, _, rfl, by omega, by go_num, HD8.out.more (by omega), HK8.out.mono (by omega), HP8.out, fun j hj => by
            by_cases e : j = i
            · subst e; rw [← Hrc.out]; exact Hbig.out
            · exact Hsz.out j (by omega)⟩
    · obtain rfl : i = recs.length := by omega
      clear hil hi
      have h12n := H12.out
      go_wp2_with fail
      refine (old18_any _).mono ?_
      rintro e w10 ⟨b10, rfl, hl10, hB10⟩
      have hru : Calls Tryz.prog 40 #[.agg #[.int .i64 0, .slice (some ⟨b10, 0, none⟩) 2 2]] w10 _ := runits_any _ w10 0 (some ⟨b10, 0, none⟩) 2 qOld.chains ⟨by decide, by decide⟩ hl10
      rw [show unitsOf qOld.chains.flatten = [0, 1, 2, 3, 4] from by decide] at hru
      go_wp2_with fail
      refine hru.mono ?_
      clear hru hl10
      rintro e w11 ⟨ua, uc, rfl, hu11, hB11, -⟩
      have HD11 := Lib.hid ((HDr.out.below' hB10).below' hB11)
      obtain ⟨ub, uo, rfl, hub, hul, huc⟩ := hu11.2 (by decide)
      have HUC := Lib.hid huc
      have hub' : w10.heap.size ≤ ub := hub
      have Hnu := Lib.hid (show ¬ Vr ub from fun e => by have h1 := HDr.out.lt _ e; have h2 := hB10.size; omega)
      clear hB10 hB11 hu11 hub hub' huc HDr
      simp only [List.length_cons, List.length_nil, Nat.zero_add, Nat.reduceAdd]
      go_wp2_with fail
      go_loopg [12] 5 (fun g s12 wr => KpRel2 W0 w11 hb Vr (60 * recs.length) recs.length M q g s12 wr)
      case atStart => exact ⟨0, hd, D0, rfl, by omega, rfl, HD11.out, HK.out, (fun u h => by cases h), Mod.refl _ _⟩
      case round =>
        clear HD11 HK
        obtain ⟨j, hd2, D, rfl, hj, rfl, hD2, hK2, hDq, hM2⟩ := hrel
        have HD2 := Lib.hid hD2
        have HK2 := Lib.hid hK2
        have HDq := Lib.hid hDq
        have HM2 := Lib.hid hM2
        have j0 : (0 : Int) ≤ j := by omega
        clear hD2 hK2 hDq hM2
        by_cases hj5 : j < 5
        · have j1 : (j : Int) < 5 := by omega
          have hBr := HD2.out.below
          have q0 : wr.drew.cell? ⟨w.heap.size, 0, none⟩ = some (.int .i64 q.epoch) := below_at hBr p0 l0
          have q1 : wr.drew.cell? ⟨w.heap.size, 1, none⟩ = some (.slice qa q.chains.length qc) := below_at hBr p1 l0
          have qu : wr.drew.cell? ⟨ub, uo + j, none⟩ = some (.int .i64 j) := by
            have h := HM2.out.at (HUC.out j hj5) Hnu.out
            rw [five hj5] at h
            exact h
          have hlq : w.heap.size < wr.heap.size := by have := hBr.size; omega
          have hlu : ub < wr.heap.size := cell_lt (show wr.cell? ⟨ub, uo + j, none⟩ = _ from qu)
          have hru := runits_any _ wr.drew q.epoch qa qc q.chains Hsmq.out (HQ.out wr.drew hBr.drew)
          obtain ⟨g, hg⟩ : ∃ g, g = decide ((j : Int) ∈ unitsOf q.chains.flatten) := ⟨_, rfl⟩
          have Hg := Lib.hid hg
          clear hg
          by_cases hjf : j < fates.length
          · have hjf' : (j : Int) < fates.length := by omega
            obtain ⟨fb, foff, fv, rfl, hfc, f0, f1⟩ := HFA.out.get (HBW0.out.trans (hBr.mono HBW0.out.size)).drew hjf
            have hlf : fb < wr.heap.size := cell_lt (show wr.cell? ⟨fb, foff + j, none⟩ = _ from hfc)
            clear hjf hBr
            by_cases hfv : fv % 2 = 1
            · have hfe : (fv.tmod 2 == 1) = true := by rw [Int.tmod_eq_emod_of_nonneg f0]; simpa using hfv
              clear hfv
              go_wp2_with fail
              refine wp_region_held_drew (S := fun w' => w'.cell? ⟨w.heap.size, 0, none⟩ = some (.int .i64 q.epoch) ∧ w'.cell? ⟨w.heap.size, 1, none⟩ = some (.slice qa q.chains.length qc) ∧ w'.cell? ⟨ub, uo + j, none⟩ = some (.int .i64 j) ∧ w'.cell? ⟨fb, foff + j, none⟩ = some (.int .u8 fv)) (by kernel_rfl) ⟨q0, q1, qu, hfc⟩ (fun hHeld => ?_)
              refine takeL 0 ?_
              refine takeL 2 ?_
              refine takeL 3 ?_
              refine takeL 4 ?_
              refine takeL 5 ?_
              refine wpAnyH_ready (rs := [1]) (by kernel_rfl) (by simp) ?_
              refine AllReadyH.cons (o := _) rfl (fun K hK => ?_) AllReadyH.nil
              go_simp
              go_at_call 40
              with_reducible refine hru.mono ?_
              clear hru
              rintro e wa ⟨a1, n1, rfl, hl1, hB1', -⟩
              have hB1 : Below wr.heap.size wr wa := below_drew hB1'
              have y0 := below_at hB1 q0 hlq
              have y1 := below_at hB1 q1 hlq
              have yu := below_at hB1 qu hlu
              have yf := below_at hB1 hfc hlf
              have hha := has_any _ wa a1 n1 _ (j : Int) hl1
              rw [← Hg.out] at hha
              have HDa := Lib.hid (HD2.out.below' hB1)
              have HMa := Lib.hid (HM2.out.trans (Mod.of_below hB1))
              clear hB1 hB1' hl1
              try go_wp2_with fail
              refine hK.out _ _ ⟨y0, y1, yu, yf⟩ (fun hHeld => ?_)
              clear hK K
              try simp only [Act.put, List.setIfInBounds_toArray, List.set_cons_zero, List.set_cons_succ]
              refine wpAnyH_ready (rs := [6]) (by kernel_rfl) (by simp) ?_
              refine AllReadyH.cons (o := _) rfl (fun K hK => ?_) AllReadyH.nil
              go_simp
              go_at_call 41
              with_reducible refine hha.mono ?_
              clear hha
              rintro e _ ⟨rfl, rfl⟩
              try go_wp2_with fail
              refine hK.out _ _ ⟨y0, y1, yu, yf⟩ (fun hHeld => ?_)
              clear hK K
              try simp only [Act.put, List.setIfInBounds_toArray, List.set_cons_zero, List.set_cons_succ]
              refine takeL 7 ?_
              refine takeL 8 ?_
              clear q0 q1 qu
              cases g
              · skip
                refine takeL 9 ?_
                refine takeL 10 ?_
                refine takeL 11 ?_
                refine takeL 12 ?_
                refine takeL 13 ?_
                refine takeL 14 ?_
                refine takeL 15 ?_
                refine takeL 16 ?_
                refine takeL 17 ?_
                refine takeL 18 ?_
                refine takeL 19 ?_
                refine takeL 20 ?_
                refine takeL 21 ?_
                refine wpAnyH_done (by kernel_rfl) ?_ _
                clear hHeld y0 y1 yf hfc
                obtain ⟨nb3, ub3, c1, c2, c3, c4⟩ := (HDa.out.crash (i := j) (by omega)).at'
                have hcn := c2 wa.drew ((Mod.refl _ _).drew)
                have hcu := c3 wa.drew ((Mod.refl _ _).drew)
                have C4 := Lib.hid c4
                have C1 := Lib.hid c1
                have yud : wa.drew.cell? ⟨ub, uo + j, none⟩ = some (.int .i64 j) := yu
                clear c1 c2 c3 c4
                go_wp2_with fail
                refine wp_region_held_drew (S := fun w' => w'.cell? ⟨ub, uo + j, none⟩ = some (.int .i64 j)) (by kernel_rfl) yud (fun hHeld => ?_)
                refine takeL 0 ?_
                refine takeL 2 ?_
                refine takeL 3 ?_
                refine takeL 4 ?_
                refine takeL 5 ?_
                refine wpAnyH_ready (rs := [1]) (by kernel_rfl) (by simp) ?_
                refine AllReadyH.cons (o := _) rfl (fun K hK => ?_) AllReadyH.nil
                go_simp
                go_at_call 27
                with_reducible refine hcn.mono ?_
                rintro e _ ⟨rfl, rfl⟩
                try go_wp2_with fail
                refine hK.out _ _ yud (fun hHeld => ?_)
                clear hK K
                try simp only [Act.put, List.setIfInBounds_toArray, List.set_cons_zero, List.set_cons_succ]
                refine wpAnyH_ready (rs := [6]) (by kernel_rfl) (by simp) ?_
                refine AllReadyH.cons (o := _) rfl (fun K hK => ?_) AllReadyH.nil
                go_simp
                go_at_call 42
                with_reducible refine hcu.mono ?_
                rintro e wb ⟨rfl, hMb⟩
                have yb := hMb.at yud id
                have hcc := C4.out wb (((Mod.refl _ _).drew).trans hMb)
                have HMb := Lib.hid hMb
                clear hMb
                try go_wp2_with fail
                refine hK.out _ _ yb (fun hHeld => ?_)
                clear hK K
                try simp only [Act.put, List.setIfInBounds_toArray, List.set_cons_zero, List.set_cons_succ]
                refine wpAnyH_ready (rs := [7]) (by kernel_rfl) (by simp) ?_
                refine AllReadyH.cons (o := _) rfl (fun K hK => ?_) AllReadyH.nil
                go_simp
                go_at_call 43
                with_reducible refine hcc.mono ?_
                rintro e wc ⟨rfl, hDc, hMc⟩
                have hne : ¬ ub = ub3 := fun e => Hnu.out (by rw [e]; exact C1.out)
                have yc := hMc.at yb hne
                have HDc := Lib.hid hDc
                have HMc := Lib.hid (show Mod Vr w11 wc from HMa.out.trans' ((mod_none (((Mod.refl _ _).drew).trans HMb.out)).trans hMc) (fun k _ e => by have e : k = ub3 := e; subst e; exact C1.out))
                clear hDc hMc hcc hcn hcu
                try go_wp2_with fail
                refine hK.out _ _ yc (fun hHeld => ?_)
                clear hK K
                try simp only [Act.put, List.setIfInBounds_toArray, List.set_cons_zero, List.set_cons_succ]
                refine wpAnyH_done (by kernel_rfl) ?_ _
                clear hHeld yud yb yc
                go_wp2_with fail
                go_roundg (5 - (j + 1))
                case measure => omega
                case rel => exact ⟨j + 1, _, _, rfl, by omega, by go_num, HDc.out, kv_crash HK2.out j, fun u hu => by
                  by_cases e : u = j
                  · subst e
                    have hg := of_decide_eq_false Hg.out.symm
                    exact fun h => hg (mem_unitsOf.2 h)
                  · simp only [if_neg e] at hu
                    exact HDq.out u hu, HMc.out⟩
              · skip
                refine takeU 9 ?_
                refine takeU 10 ?_
                refine takeU 11 ?_
                refine takeU 12 ?_
                refine takeL 13 ?_
                refine takeL 14 ?_
                refine takeU 15 ?_
                refine takeU 16 ?_
                refine takeU 17 ?_
                refine takeU 18 ?_
                refine takeU 19 ?_
                refine takeU 20 ?_
                refine takeL 21 ?_
                refine wpAnyH_done (by kernel_rfl) ?_ _
                clear hHeld y0 y1 yf hfc
                go_wp2_with fail
                go_roundg (5 - (j + 1))
                case measure => omega
                case rel => exact ⟨j + 1, hd2, D, rfl, by omega, by go_num, HDa.out, HK2.out, HDq.out, HMa.out⟩
            · have hfe : (fv.tmod 2 == 1) = false := by rw [Int.tmod_eq_emod_of_nonneg f0]; simpa using hfv
              clear hfv
              go_wp2_with fail
              refine wp_region_held_drew (S := fun w' => w'.cell? ⟨w.heap.size, 0, none⟩ = some (.int .i64 q.epoch) ∧ w'.cell? ⟨w.heap.size, 1, none⟩ = some (.slice qa q.chains.length qc) ∧ w'.cell? ⟨ub, uo + j, none⟩ = some (.int .i64 j) ∧ w'.cell? ⟨fb, foff + j, none⟩ = some (.int .u8 fv)) (by kernel_rfl) ⟨q0, q1, qu, hfc⟩ (fun hHeld => ?_)
              refine takeL 0 ?_
              refine takeL 2 ?_
              refine takeL 3 ?_
              refine takeL 4 ?_
              refine takeL 5 ?_
              refine wpAnyH_ready (rs := [1]) (by kernel_rfl) (by simp) ?_
              refine AllReadyH.cons (o := _) rfl (fun K hK => ?_) AllReadyH.nil
              go_simp
              go_at_call 40
              with_reducible refine hru.mono ?_
              clear hru
              rintro e wa ⟨a1, n1, rfl, hl1, hB1', -⟩
              have hB1 : Below wr.heap.size wr wa := below_drew hB1'
              have y0 := below_at hB1 q0 hlq
              have y1 := below_at hB1 q1 hlq
              have yu := below_at hB1 qu hlu
              have yf := below_at hB1 hfc hlf
              have hha := has_any _ wa a1 n1 _ (j : Int) hl1
              rw [← Hg.out] at hha
              have HDa := Lib.hid (HD2.out.below' hB1)
              have HMa := Lib.hid (HM2.out.trans (Mod.of_below hB1))
              clear hB1 hB1' hl1
              try go_wp2_with fail
              refine hK.out _ _ ⟨y0, y1, yu, yf⟩ (fun hHeld => ?_)
              clear hK K
              try simp only [Act.put, List.setIfInBounds_toArray, List.set_cons_zero, List.set_cons_succ]
              refine wpAnyH_ready (rs := [6]) (by kernel_rfl) (by simp) ?_
              refine AllReadyH.cons (o := _) rfl (fun K hK => ?_) AllReadyH.nil
              go_simp
              go_at_call 41
              with_reducible refine hha.mono ?_
              clear hha
              rintro e _ ⟨rfl, rfl⟩
              try go_wp2_with fail
              refine hK.out _ _ ⟨y0, y1, yu, yf⟩ (fun hHeld => ?_)
              clear hK K
              try simp only [Act.put, List.setIfInBounds_toArray, List.set_cons_zero, List.set_cons_succ]
              refine takeL 7 ?_
              refine takeL 8 ?_
              clear q0 q1 qu
              cases g
              · skip
                refine takeL 9 ?_
                refine takeL 10 ?_
                refine takeL 11 ?_
                refine takeL 12 ?_
                refine takeL 13 ?_
                refine takeL 14 ?_
                refine takeL 15 ?_
                refine takeL 16 ?_
                refine takeL 17 ?_
                refine takeL 18 ?_
                refine takeL 19 ?_
                refine takeL 20 ?_
                refine takeL 21 ?_
                refine wpAnyH_done (by kernel_rfl) ?_ _
                clear hHeld y0 y1 yf hfc
                go_wp2_with fail
                go_roundg (5 - (j + 1))
                case measure => omega
                case rel => exact ⟨j + 1, hd2, D, rfl, by omega, by go_num, HDa.out, HK2.out, HDq.out, HMa.out⟩
              · skip
                refine takeU 9 ?_
                refine takeU 10 ?_
                refine takeU 11 ?_
                refine takeU 12 ?_
                refine takeL 13 ?_
                refine takeL 14 ?_
                refine takeU 15 ?_
                refine takeU 16 ?_
                refine takeU 17 ?_
                refine takeU 18 ?_
                refine takeU 19 ?_
                refine takeU 20 ?_
                refine takeL 21 ?_
                refine wpAnyH_done (by kernel_rfl) ?_ _
                clear hHeld y0 y1 yf hfc
                go_wp2_with fail
                go_roundg (5 - (j + 1))
                case measure => omega
                case rel => exact ⟨j + 1, hd2, D, rfl, by omega, by go_num, HDa.out, HK2.out, HDq.out, HMa.out⟩
          · have HDn := Lib.hid (show decide (j < fates.length) = false from decide_eq_false (by omega))
            clear hjf hBr
            go_wp2_with fail
            refine wp_region_held_drew (S := fun w' => w'.cell? ⟨w.heap.size, 0, none⟩ = some (.int .i64 q.epoch) ∧ w'.cell? ⟨w.heap.size, 1, none⟩ = some (.slice qa q.chains.length qc) ∧ w'.cell? ⟨ub, uo + j, none⟩ = some (.int .i64 j)) (by kernel_rfl) ⟨q0, q1, qu⟩ (fun hHeld => ?_)
            refine takeL 0 ?_
            refine takeL 2 ?_
            refine takeL 3 ?_
            refine takeL 4 ?_
            refine takeL 5 ?_
            refine wpAnyH_ready (rs := [1]) (by kernel_rfl) (by simp) ?_
            refine AllReadyH.cons (o := _) rfl (fun K hK => ?_) AllReadyH.nil
            go_simp
            go_at_call 40
            with_reducible refine hru.mono ?_
            clear hru
            rintro e wa ⟨a1, n1, rfl, hl1, hB1', -⟩
            have hB1 : Below wr.heap.size wr wa := below_drew hB1'
            have y0 := below_at hB1 q0 hlq
            have y1 := below_at hB1 q1 hlq
            have yu := below_at hB1 qu hlu
            skip
            have hha := has_any _ wa a1 n1 _ (j : Int) hl1
            rw [← Hg.out] at hha
            have HDa := Lib.hid (HD2.out.below' hB1)
            have HMa := Lib.hid (HM2.out.trans (Mod.of_below hB1))
            clear hB1 hB1' hl1
            try go_wp2_with fail
            refine hK.out _ _ ⟨y0, y1, yu⟩ (fun hHeld => ?_)
            clear hK K
            try simp only [Act.put, List.setIfInBounds_toArray, List.set_cons_zero, List.set_cons_succ]
            refine wpAnyH_ready (rs := [6]) (by kernel_rfl) (by simp) ?_
            refine AllReadyH.cons (o := _) rfl (fun K hK => ?_) AllReadyH.nil
            go_simp
            go_at_call 41
            with_reducible refine hha.mono ?_
            clear hha
            rintro e _ ⟨rfl, rfl⟩
            try go_wp2_with fail
            refine hK.out _ _ ⟨y0, y1, yu⟩ (fun hHeld => ?_)
            clear hK K
            try simp only [Act.put, List.setIfInBounds_toArray, List.set_cons_zero, List.set_cons_succ]
            refine takeL 7 ?_
            refine takeL 8 ?_
            clear q0 q1 qu
            cases g
            · skip
              refine takeL 9 ?_
              refine takeL 10 ?_
              refine takeL 11 ?_
              refine takeL 12 ?_
              rw [HDn.out]
              refine takeL 13 ?_
              refine takeL 14 ?_
              refine takeU 15 ?_
              refine takeU 16 ?_
              refine takeU 17 ?_
              refine takeU 18 ?_
              refine takeU 19 ?_
              refine takeU 20 ?_
              refine takeL 21 ?_
              refine wpAnyH_done (by kernel_rfl) ?_ _
              clear hHeld y0 y1
              go_wp2_with fail
              go_roundg (5 - (j + 1))
              case measure => omega
              case rel => exact ⟨j + 1, hd2, D, rfl, by omega, by go_num, HDa.out, HK2.out, HDq.out, HMa.out⟩
            · skip
              refine takeU 9 ?_
              refine takeU 10 ?_
              refine takeU 11 ?_
              refine takeU 12 ?_
              refine takeL 13 ?_
              refine takeL 14 ?_
              refine takeU 15 ?_
              refine takeU 16 ?_
              refine takeU 17 ?_
              refine takeU 18 ?_
              refine takeU 19 ?_
              refine takeU 20 ?_
              refine takeL 21 ?_
              refine wpAnyH_done (by kernel_rfl) ?_ _
              clear hHeld y0 y1
              go_wp2_with fail
              go_roundg (5 - (j + 1))
              case measure => omega
              case rel => exact ⟨j + 1, hd2, D, rfl, by omega, by go_num, HDa.out, HK2.out, HDq.out, HMa.out⟩
        · obtain rfl : j = 5 := by omega
          clear hj5 hj
          have hBr := HD2.out.below
          have hBw := HBW0.out.trans (hBr.mono HBW0.out.size)
          have x0 := below_at hBr p0 l0
          have x1 := below_at hBr p1 l0
          have hfar : BytesAt wr fa fates := fun h0 => by
            obtain ⟨b, off, e, hb', hc'⟩ := HFA.out h0
            exact ⟨b, off, e, Nat.lt_of_lt_of_le hb' hBw.size, fun k hk => ⟨below_at hBw (hc' k hk).1 hb', (hc' k hk).2⟩⟩
          have hch := change18_any HD2.out (by omega) _ q qa qc Hsmq.out (HQ.out wr hBr) fa fates fc hfar (by have := H60.out; omega) (fun b off e h0 hV => by
            obtain ⟨b', off', e', hb', -⟩ := HFA.out h0
            rw [e] at e'; cases e'
            have := HD2.out.old b hV
            have := HBW0.out.size
            omega)
          obtain ⟨g1, g2, E, g3, g4⟩ := keep_change (hd := hd2) HK2.out HP.out (by omega) Hnq.out.symm HDq.out fates
          unfold Ch18Post at hch
          rw [g2, decide_eq_true g1] at hch
          obtain ⟨hd3, hhd3⟩ : ∃ hd3, hd3 = (stC hd2 q fates (fates.length + 60)).1 := ⟨_, rfl⟩
          rw [← hhd3] at hch g3
          have HK3 := Lib.hid g3
          have HE := Lib.hid g4
          have hJ := jf_of g4.nx HP.out
          have HJ := Lib.hid hJ
          clear g1 g2 g3 g4 hhd3 hfar hBr hBw hJ
          go_wp2_with fail
          refine hch.mono ?_
          clear hch x0 x1
          rintro e w13 ⟨rfl, hD13, -⟩
          have HD13 := Lib.hid hD13
          clear hD13
          go_wp2_with fail
          refine (old18_any _).mono ?_
          rintro e w14 ⟨b14, rfl, hl14, hB14⟩
          have HD14 := Lib.hid (HD13.out.below' hB14)
          have hse : Calls Tryz.prog 36 #[.pointer (some ⟨hb, 0, none⟩), .agg #[.int .i64 0, .slice (some ⟨b14, 0, none⟩) 2 2], .slice none 0 0] w14 _ := see18_any HD14.out (by have := H60.out; omega) _ qOld _ 2 ⟨by decide, by decide⟩ hl14 none [] 0 (fun h => absurd h (by simp)) (by simp) (fun _ _ e => by cases e)
          obtain ⟨n4, g1, g2, g3⟩ := keep_see (hd := hd3) HK3.out rfl HE.out (by omega)
          unfold Ta18Post at hse
          rw [show ([] : List Int).length + 20 = 20 from rfl, g1, g2] at hse
          have HK4 := Lib.hid g3
          clear g1 g2 g3 hl14 hB14 HD13
          go_wp2_with fail
          refine hse.mono ?_
          clear hse
          rintro e w15 ⟨rfl, hD15, -⟩
          have HD15 := Lib.hid hD15
          clear hD15 HD14
          obtain ⟨⟨nb2, lb2, hn, hla, hno⟩, -⟩ := HD15.out.lay
          have hn := hn w15.drew ((Mod.refl _ _).drew)
          have hla := hla w15.drew ((Mod.refl _ _).drew)
          have hno := hno w15.drew ((Mod.refl _ _).drew)
          unfold CopyPost at hno
          rw [show ({ hd3 with nd := n4 } : HdS).nd.l.p = q from by show n4.l.p = q; rw [HK4.out.l]; rfl] at hno
          have hBr := HD15.out.below
          have d0 : w15.drew.cell? ⟨w.heap.size, 0, none⟩ = some (.int .i64 q.epoch) := below_at hBr p0 l0
          have d1 : w15.drew.cell? ⟨w.heap.size, 1, none⟩ = some (.slice qa q.chains.length qc) := below_at hBr p1 l0
          have l15 : w.heap.size < w15.heap.size := by have := hBr.size; omega
          clear hBr
          go_wp2_with fail
          refine wp_region_held_drew (S := fun w' => w'.cell? ⟨w.heap.size, 0, none⟩ = some (.int .i64 q.epoch) ∧ w'.cell? ⟨w.heap.size, 1, none⟩ = some (.slice qa q.chains.length qc)) (by kernel_rfl) ⟨d0, d1⟩ (fun hHeld => ?_)
          refine takeL 0 ?_
          refine takeL 1 ?_
          refine takeL 2 ?_
          refine takeL 3 ?_
          refine takeL 4 ?_
          refine takeL 5 ?_
          refine takeL 6 ?_
          refine takeL 7 ?_
          refine takeL 8 ?_
          refine takeL 9 ?_
          refine takeL 10 ?_
          refine takeL 11 ?_
          refine takeL 12 ?_
          refine takeL 13 ?_
          refine takeL 14 ?_
          refine takeL 15 ?_
          refine takeL 16 ?_
          refine takeL 17 ?_
          refine takeL 18 ?_
          refine takeL 19 ?_
          refine takeL 20 ?_
          refine takeL 21 ?_
          refine takeL 25 ?_
          refine wpAnyH_ready (rs := [22]) (by kernel_rfl) (by simp) ?_
          refine AllReadyH.cons (o := _) rfl (fun K hK => ?_) AllReadyH.nil
          go_simp
          go_at_call 27
          with_reducible refine hn.mono ?_
          rintro e _ ⟨rfl, rfl⟩
          try go_wp2_with fail
          refine hK.out _ _ ⟨d0, d1⟩ (fun hHeld => ?_)
          clear hK K
          try simp only [Act.put, List.setIfInBounds_toArray, List.set_cons_zero, List.set_cons_succ]
          refine wpAnyH_ready (rs := [23]) (by kernel_rfl) (by simp) ?_
          refine AllReadyH.cons (o := _) rfl (fun K hK => ?_) AllReadyH.nil
          go_simp
          go_at_call 28
          with_reducible refine hla.mono ?_
          rintro e _ ⟨rfl, rfl⟩
          try go_wp2_with fail
          refine hK.out _ _ ⟨d0, d1⟩ (fun hHeld => ?_)
          clear hK K
          try simp only [Act.put, List.setIfInBounds_toArray, List.set_cons_zero, List.set_cons_succ]
          refine wpAnyH_ready (rs := [24]) (by kernel_rfl) (by simp) ?_
          refine AllReadyH.cons (o := _) rfl (fun K hK => ?_) AllReadyH.nil
          go_simp
          go_at_call 29
          with_reducible refine hno.mono ?_
          rintro e w16 ⟨ay, ny, rfl, hly, hB16'⟩
          have hB16 : Below w15.heap.size w15 w16 := below_drew hB16'
          have e0 := below_at hB16 d0 l15
          have e1 := below_at hB16 d1 l15
          have HD16 := Lib.hid (HD15.out.below' hB16)
          have hpr := projection_any (fun _ => True) w16 q.epoch q.epoch ay qa ny qc q.chains q.chains (hly.sub (fun _ _ _ => trivial)) (HQ.out w16 HD16.out.below)
          rw [decide_eq_true ⟨rfl, rfl⟩] at hpr
          have l16 : w.heap.size < w16.heap.size := by have := hB16.size; omega
          clear hB16 hB16' hly hn hla hno d0 d1
          try go_wp2_with fail
          refine hK.out _ _ ⟨e0, e1⟩ (fun hHeld => ?_)
          clear hK K
          try simp only [Act.put, List.setIfInBounds_toArray, List.set_cons_zero, List.set_cons_succ]
          refine wpAnyH_ready (rs := [26]) (by kernel_rfl) (by simp) ?_
          refine AllReadyH.cons (o := _) rfl (fun K hK => ?_) AllReadyH.nil
          go_simp
          go_at_call 31
          with_reducible refine hpr.mono ?_
          clear hpr
          rintro e w17 ⟨rfl, hB17⟩
          have z0 := below_at hB17 e0 l16
          have z1 := below_at hB17 e1 l16
          have HD17 := Lib.hid (HD16.out.below' hB17)
          clear hB17
          try go_wp2_with fail
          refine hK.out _ _ ⟨z0, z1⟩ (fun hHeld => ?_)
          clear hK K
          try simp only [Act.put, List.setIfInBounds_toArray, List.set_cons_zero, List.set_cons_succ]
          refine takeL 27 ?_
          refine takeL 28 ?_
          refine wpAnyH_done (by kernel_rfl) ?_ _
          clear hHeld e0 e1 z0 z1
          obtain ⟨C0, hC0⟩ : ∃ C0, C0 = 60 * recs.length + fates.length + 60 + ([] : List Int).length + 20 := ⟨_, rfl⟩
          have hC1 : C0 ≤ 1000 := by have := H60.out; simp only [List.length_nil] at hC0; omega
          have HD18 : Hid (Hd1 W0 C0 hb _ { hd3 with nd := n4 } w17) := Lib.hid (HD17.out.more (Nat.le_of_eq hC0.symm))
          clear hC0 HD15 HD16 HD17
          go_wp2_with fail
          go_loopg [18] recs.length (fun g s18 wr => KpRel3 W0 hb C0 recs q E D ((lay0 qOld).count q) g s18 wr)
          case atStart => exact ⟨0, _, { hd3 with nd := n4 }, M, rfl, Nat.zero_le _, rfl, HD18.out, HK4.out, HJ.out⟩
          case round =>
            clear HD18 HK4 HJ HK3 HK2 HD2
            obtain ⟨k, V3, hd5, M5, rfl, hk, rfl, hD5, hK5, hJ5⟩ := hrel
            have HD5 := Lib.hid hD5
            have HK5 := Lib.hid hK5
            have HJ5 := Lib.hid hJ5
            have k0 : (0 : Int) ≤ k := by omega
            clear hD5 hK5 hJ5
            by_cases hkl : k < recs.length
            · have k1 : (k : Int) < recs.length := by omega
              obtain ⟨sb, soff, rfl, hsb, hsc, -⟩ := HRS.out.get HBW0.out hkl
              obtain ⟨rc, hrc⟩ : ∃ rc, rc = recs.getD k ⟨#[]⟩ := ⟨_, rfl⟩
              rw [← hrc] at hsc
              have Hbig := Lib.hid (show rc.size ≤ 500 by rw [hrc]; exact Hsz.out k hkl)
              have Htx := Lib.hid (show txK recs k = strOfNums [(k : Int)] ++ rc by rw [hrc]; exact txK_lt hkl)
              have hsl : sb < W0.heap.size := Nat.lt_of_lt_of_le hsb HBW0.out.size
              have HSC := Lib.hid hsc
              clear hsc hrc
              go_wp2_with fail
              refine (old18_any _).mono ?_
              rintro e w20 ⟨b20, rfl, hl20, hB20⟩
              have HD20 := Lib.hid (HD5.out.below' hB20)
              have hrd : Calls Tryz.prog 37 #[.pointer (some ⟨hb, 0, none⟩), .agg #[.int .i64 0, .slice (some ⟨b20, 0, none⟩) 2 2], .int .i64 k, .bool true, .slice none 0 0] w20 _ := read16_any HD20.out (by first | omega | (simp only [List.length_nil]; omega)) _ qOld k true _ 2 ⟨by decide, by decide⟩ hl20 none [] 0 (fun h => absurd h (by simp)) (by simp) (fun _ _ e => by cases e)
              obtain ⟨n6, M6, g1, g2, g3, g4⟩ := keep_readO (hd := hd5) HK5.out rfl HE.out HJ5.out hkl (by omega) (by rw [Htx.out]; exact strs_size k rc Hbig.out) (by omega)
              unfold Rd16Post at hrd
              rw [show ([] : List Int).length + 30 = 30 from rfl, g1, g2, Htx.out] at hrd
              have HK6 := Lib.hid g3
              have HJ6 := Lib.hid g4
              clear g1 g2 g3 g4 hl20 hB20 HD5 HK5 HJ5
              go_wp2_with fail
              refine hrd.mono ?_
              clear hrd
              rintro e w21 ⟨rfl, hD21, -⟩
              have HD21 := Lib.hid hD21
              have kc : w21.drew.cell? ⟨sb, soff + k, none⟩ = some (.string rc) := below_at HD21.out.below HSC.out hsl
              have hu8 : IntKind.u8.wrap (k : Int) = k := u8_small (by omega)
              have hadd : ∀ W, (Op.stringOp .add (strOfNums [(k : Int)]) rc).run Tryz.prog W = .ok (.string (strOfNums [(k : Int)] ++ rc)) W := fun W => run_string_add_sum _ _ _ (by have := Hbig.out; rw [strOfNums_size]; simp only [List.length_cons, List.length_nil]; omega)
              have hcv := fun W => conv_one W w21.heap.size (k : Int)
              have hss : ((strOfNums [(k : Int)] ++ rc).toList == (strOfNums [(k : Int)] ++ rc).toList) = true := beq_self_eq_true _
              have hlc : sb < w21.heap.size := cell_lt (show w21.cell? ⟨sb, soff + k, none⟩ = _ from kc)
              clear hD21 HD20
              go_wp2_with fail
              refine wp_region_held_drew (S := fun w' => w'.cell? ⟨sb, soff + k, none⟩ = some (.string rc)) (by kernel_rfl) kc (fun hHeld => ?_)
              refine takeL 0 ?_
              refine takeL 1 ?_
              refine takeL 2 ?_
              refine takeL 3 ?_
              refine takeL 4 ?_
              refine takeL 5 ?_
              refine takeL 6 ?_
              refine takeL 7 ?_
              refine takeL 8 ?_
              refine takeL 9 ?_
              refine takeL 10 ?_
              refine takeL 11 ?_
              refine takeL 12 ?_
              refine takeL 13 ?_
              refine takeL 16 ?_
              refine takeL 17 ?_
              refine takeL 18 ?_
              refine takeL 19 ?_
              refine wpAnyH_ready (rs := [14]) (by kernel_rfl) (by simp) ?_
              refine AllReadyH.cons (o := _) rfl (fun K hK => ?_) AllReadyH.nil
              go_simp
              obtain ⟨w22, hw22⟩ : ∃ W, W = (w21.alloc (.cells #[.int .u8 (k : Int)] 5)).drew := ⟨_, rfl⟩
              have hB22 : Below w21.heap.size w21 w22 := by rw [hw22]; exact belC (Below.refl _ _)
              have kc2 := below_at hB22 kc hlc
              have e3 : w22.cell? ⟨w21.heap.size, 0, none⟩ = some (.int .u8 (k : Int)) := by rw [hw22]; go_simp
              rw [← hw22]
              have HD22 := Lib.hid (HD21.out.below' hB22)
              clear hw22 hB22
              try go_wp2_with fail
              refine hK.out _ _ kc2 (fun hHeld => ?_)
              clear hK K
              try simp only [Act.put, List.setIfInBounds_toArray, List.set_cons_zero, List.set_cons_succ]
              refine wpAnyH_mono2 (S2 := fun w' => w'.cell? ⟨sb, soff + k, none⟩ = some (.string rc) ∧ w'.cell? ⟨w21.heap.size, 0, none⟩ = some (.int .u8 (k : Int))) (fun _ h => h.1) ?_
              replace hHeld := And.intro hHeld e3
              refine takeL 15 ?_
              refine takeL 20 ?_
              refine takeL 21 ?_
              refine takeL 22 ?_
              refine wpAnyH_done (by kernel_rfl) ?_ _
              clear hHeld kc kc2 e3 hcv hadd hss hu8 HD21
              go_wp2_with fail
              go_roundg (recs.length - (k + 1))
              case measure => omega
              case rel => exact ⟨k + 1, _, _, _, rfl, by omega, by go_num, HD22.out.more (by simp only [List.length_nil]; omega), HK6.out.mono (by omega), HJ6.out⟩
            · obtain rfl : k = recs.length := by omega
              clear hkl hk
              go_wp2_with fail
              refine (old18_any _).mono ?_
              rintro e w20 ⟨b20, rfl, hl20, hB20⟩
              have HD20 := Lib.hid (HD5.out.below' hB20)
              have hpu : Calls Tryz.prog 39 #[.pointer (some ⟨hb, 0, none⟩), .agg #[.int .i64 0, .slice (some ⟨b20, 0, none⟩) 2 2], .string tBehind] w20 _ := put18_any HD20.out (by omega) _ qOld tBehind _ 2 ⟨by decide, by decide⟩ hl20 (by decide)
              obtain ⟨n6, M6, g1, g2, g3, g4⟩ := keep_put (hd := hd5) HK5.out rfl HE.out HJ5.out (by omega) (by rw [txK_end]; decide) (by omega)
              rw [txK_end] at g1 g2
              unfold Pu18Post at hpu
              rw [g1, g2] at hpu
              have HK6 := Lib.hid g3
              have HJ6 := Lib.hid g4
              clear g1 g2 g3 g4 hl20 hB20 HD5 HK5 HJ5
              go_wp2_with fail
              refine hpu.mono ?_
              clear hpu
              rintro e w21 ⟨rfl, hD21, -⟩
              have HD21 := Lib.hid hD21
              have hBr := hD21.below
              have x0 := below_at hBr p0 l0
              have x1 := below_at hBr p1 l0
              have hrd : Calls Tryz.prog 37 #[.pointer (some ⟨hb, 0, none⟩), .agg #[.int .i64 q.epoch, .slice qa q.chains.length qc], .int .i64 recs.length, .bool true, .slice none 0 0] w21 _ := read16_any hD21 (by first | omega | (simp only [List.length_nil]; omega)) _ q recs.length true qa qc Hsmq.out (HQ.out w21 hBr) none [] 0 (fun h => absurd h (by simp)) (by simp) (fun _ _ e => by cases e)
              obtain ⟨n7, M7, g1, g2, g3, g4⟩ := keep_readQ (hd := { hd5 with nd := n6 }) (i := recs.length) HK6.out HE.out HJ6.out (by omega) (by omega) (by rw [txK_end]; decide) (by omega)
              unfold Rd16Post at hrd
              rw [show ([] : List Int).length + 30 = 30 from rfl, g1, g2, txK_end] at hrd
              clear g1 g2 g3 g4 hD21 hBr HD20
              go_wp2_with fail
              refine hrd.mono ?_
              clear hrd x0 x1
              rintro e w22 ⟨rfl, hD22, -⟩
              have HB22 := Lib.hid hD22.below
              clear hD22
              go_wp2_with fail
              refine (wakes18_any _).mono ?_
              rintro e wz ⟨rfl, hBz⟩
              go_wp2_with fail
              go_ret
              exact ⟨rfl, HBW0.out.trans ((HB22.out.trans (hBz.mono (HB22.out).size)).mono HBW0.out.size)⟩

set_option maxRecDepth 100000 in
set_option maxHeartbeats 2000000 in
theorem reformKeeps_lifted (os : Os) (started : os.Started) (H : Type) (enc : TypeId × Value → H) :
    ReturnsInHanded {} Tryz.checked os 7 .any (Rows.reformKeepsSpec.pre6 enc Tryz.prog Tryz.f7 Rows.reformKeepsRow.domain false) (Rows.reformKeepsSpec.post enc Tryz.prog Tryz.f7 false true false false) := by
  refine returnsInHanded_of_change (C := Tryz.checked) Tryz.ownP started (by kernel_rfl) Tryz.func7
    (ChangeSpec.witness6 (enc := enc) (C := Tryz.checked) false ⟨#[], #[.slice none 0 0, .agg #[.int .i64 0, .slice none 0 0], .slice none 0 0], []⟩ 8 (by kernel_rfl) (by kernel_rfl) (by kernel_rfl) (by kernel_rfl)) ?_
  intro W base args ds gs before hval0 hW hcnd _
  have hval : ∀ (j : Nat) t v, Tryz.f7.params[j]? = some t → args[j]? = some v → Value.okWide Tryz.prog W .any base t v := hval0
  have hW' := hW
  obtain ⟨p, q, hA0, hV, rfl, hfz, hnd⟩ := hW
  have hA : DataW.TrodAll enc Tryz.prog W 0 (fun _ => true) true Tryz.f7.params.toList args.toList ds p := hA0
  rw [Tryz.params7] at hA hval
  obtain ⟨v0, vs0, d0, ds0, p0, q0, hargs, rfl, rfl, h0, r0⟩ := trodAll_cons hA
  obtain ⟨v1, vs1, d1, ds1, p1, q1, rfl, rfl, rfl, h1, r1⟩ := trodAll_cons r0
  obtain ⟨v2, vs2, d2, ds2, p2, q2, rfl, rfl, rfl, h2, r2⟩ := trodAll_cons r1
  obtain ⟨rfl, rfl, rfl⟩ := trodAll_nil r2
  obtain rfl : args = #[v0, v1, v2] := by cases args; simp_all
  obtain ⟨rfl, rfl⟩ := trodVars_none hV
  obtain ⟨cs0, x0, hv0, hr0⟩ := open_arg (n := 9) (T := .slice .str) (by kernel_rfl) (hval 0 82 v0 rfl rfl) h0
  obtain ⟨cs1, x1, hv1, hr1⟩ := open_arg (n := 9) (T := tyProj) (by kernel_rfl) (hval 1 24 v1 rfl rfl) h1
  obtain ⟨cs2, x2, hv2, hr2⟩ := open_arg (n := 9) (T := .slice (.int .u8)) (by kernel_rfl) (hval 2 83 v2 rfl rfl) h2
  simp only [tyProj, Ty.isStruct, Bool.false_eq_true, if_false, if_true] at hv0 hv1 hv2
  obtain ⟨a0, recs, k0, e0, hp0, hn0⟩ := rd_strs hr0
  obtain ⟨pe, pa, ls, pc, e1, hp⟩ := rd_proj hr1
  obtain ⟨a2, fates, k2, e2, hp2, hn2⟩ := rd_u8s hr2
  rw [e0] at hv0
  rw [e2] at hv2
  subst e1
  subst hv0
  subst hv1
  subst hv2
  clear hA0 hval0
  refine (reformKeeps_walk _ a0 recs k0 ⟨pe, ls⟩ pa pc a2 fates k2 W hp0 hn0 hp hp2 hn2).mono fun e W' ⟨he, hb⟩ => ?_
  subst he
  exact ⟨_, rfl, law_post Tryz.laidOutP (by kernel_rfl) rfl Tryz.underlying4 hW' rfl rfl rfl rfl hb⟩

theorem reformKeeps_holds : Rows.ReformKeepsSaid :=
  OpenClaim.holds_of_wide 7 Tryz.f7 rfl rfl rfl rfl rfl rfl rfl ⟨rfl, rfl, rfl, rfl, rfl⟩ rfl rfl rfl rfl rfl (by kernel_rfl) Tryz.func7 (by kernel_rfl)
    (of_decide_eq_true (by kernel_rfl)) (by unfold Func.isWrapper; first | (rw [if_pos (by decide +kernel)]; kernel_rfl) | (rw [if_neg (by decide +kernel)]; exact ⟨rfl, rfl⟩))
    (fun os started H enc _ => reformKeeps_lifted os started H enc)
end Go.Proofs.YtghdhhbpbmhooaaGreat
