import Derived.Test.YtakbalmbkokklaaGreatRTree
import Derived.Test.YtakbalmbkokklaaGreatInoAll
import Derived.Test.YtakbalmbkokklaaGreatInoDump
/- the inodes' numbers rise -/
namespace Esch
open Go

def Rise (s : TabS) : Prop := (s.m.map (·.1)).Pairwise (· < ·)
theorem rise_keep {s : TabS} {x : InS} (hr : Rise s) (h : s.has x.ino = true) (b : Bool) : Rise (s.keep x b) := by
  have hs : (Esch.set s.m x.ino x).map (·.1) = s.m.map (·.1) := by
    obtain ⟨pre, post, hm, hp⟩ := find_split s h
    rw [KI.setEq hm hp, hm]; simp
  have h1 : Rise ⟨Esch.set s.m x.ino x, s.next⟩ := by
    show ((Esch.set s.m x.ino x).map (·.1)).Pairwise _
    rw [hs]; exact hr
  unfold TabS.keep
  split
  · exact h1.sublist (List.Sublist.map _ List.filter_sublist)
  · exact h1
theorem rise_link {s : TabS} (hr : Rise s) (h : InoOk s) (i d : Int) : Rise (s.link i d).2 := by
  unfold TabS.link
  split; · exact hr
  split; · exact hr
  split; · exact hr
  rename_i h1 _ _
  have hh : s.has i = true := by simpa using h1
  exact rise_keep (x := { s.at i with links := (s.at i).links + d }) hr (by show s.has (s.at i).ino = true; rw [h i hh]; exact hh) _
theorem rise_cut {s : TabS} (hr : Rise s) (h : InoOk s) (i n : Int) : Rise (s.cut i n).2 := by
  unfold TabS.cut
  split; · exact hr
  split; · exact hr
  split; · exact hr
  rename_i h1 _ _
  have hh : s.has i = true := by simpa using h1
  exact rise_keep (x := { s.at i with size := n }) hr (by show s.has (s.at i).ino = true; rw [h i hh]; exact hh) _
theorem rise_make {s : TabS} (hr : Rise s) (h : ∀ i, s.has i = true → i < s.next) (k : Int) : Rise (s.make k).2 := by
  unfold TabS.make
  split; · exact hr
  split; · exact hr
  have hno : ∀ p ∈ s.m, p.1 ≠ s.next := fun p hp e => by
    have : s.has p.1 = true := has_mem.2 (List.mem_map.2 ⟨p, hp, rfl⟩)
    have := h _ this
    omega
  show ((Esch.set s.m s.next (⟨s.next, k, 0, 0, 0⟩ : InS)).map (·.1)).Pairwise _
  rw [set_miss _ _ _ hno, List.map_append, List.pairwise_append]
  refine ⟨hr, by simp, fun a ha b hb => ?_⟩
  simp only [List.map_cons, List.map_nil, List.mem_singleton] at hb
  subst hb
  exact h a (has_mem.2 ha)
theorem GoodS.step_rise {s : TrS} (h : GoodS s) (hr : Rise s.t) (k z : Int) (p q : Nm) : Rise (s.step k z p q).2.t := by
  have hdr : ∀ x, Rise (s.drop x).t := fun x => rise_link hr h.inoOk _ _
  have hmk : ∀ k, Rise (((s.mk' p k).run s).2).t := fun k => by
    refine run_all (P := fun s : TrS => Rise s.t) hr ?_
    unfold TrS.mk'
    refine Res.all_bind _ _ fun x _ => Res.all_bind _ _ fun _ _ => Res.all_bind _ _ fun _ _ => Res.all_bind _ _ fun _ _ => ?_
    exact rise_link (rise_make hr (fun i hi => (h.ino i hi).2.2.1) k) (make_ino h.inoOk k) _ _
  unfold TrS.step
  split; · exact hmk 1
  split
  · refine run_all (P := fun s : TrS => Rise s.t) hr ?_
    unfold TrS.rmdir
    exact Res.all_bind _ _ fun x _ => Res.all_bind _ _ fun _ _ => Res.all_bind _ _ fun _ _ => Res.all_bind _ _ fun _ _ => hdr x
  split; · exact hmk 2
  split
  · refine run_all (P := fun s : TrS => Rise s.t) hr ?_
    unfold TrS.lnk
    exact Res.all_bind _ _ fun i _ => Res.all_bind _ _ fun _ _ => Res.all_bind _ _ fun x _ => Res.all_bind _ _ fun _ _ => Res.all_bind _ _ fun _ _ => Res.all_bind _ _ fun _ _ => rise_link hr h.inoOk _ _
  split
  · refine run_all (P := fun s : TrS => Rise s.t) hr ?_
    unfold TrS.unlink
    exact Res.all_bind _ _ fun x _ => Res.all_bind _ _ fun _ _ => Res.all_bind _ _ fun _ _ => hdr x
  split
  · refine run_all (P := fun s : TrS => Rise s.t) hr ?_
    unfold TrS.rename
    refine Res.all_bind _ _ fun x _ => Res.all_bind _ _ fun _ _ => Res.all_bind _ _ fun y _ => ?_
    split
    · exact hr
    · refine Res.all_bind _ _ fun _ _ => Res.all_bind _ _ fun _ _ => ?_
      show Rise (if y.ino ≠ 0 then s.drop y else s).t
      split
      · exact hdr y
      · exact hr
  split
  · refine run_all (P := fun s : TrS => Rise s.t) hr ?_
    unfold TrS.trunc
    exact Res.all_bind _ _ fun i _ => Res.all_bind _ _ fun _ _ => rise_cut hr h.inoOk _ _
  exact hr
theorem Rise.sorted {s : TabS} (h : Rise s) : sortI (s.m.map (·.1)) = s.m.map (·.1) := by
  unfold sortI
  refine List.mergeSort_of_pairwise (h.imp fun hab => decide_eq_true (by omega))
/-- what is kept while the tree goes on, with the order -/
structure GR (s : TrS) : Prop where
  gk : GK s
  rise : Rise s.t
theorem GoodS.vals {s : TrS} (h : GoodS s) : (s.t.m.map (·.1)).map (fun j => s.t.at j) = s.t.m.map (·.2) := by
  rw [List.map_map]
  refine List.map_congr_left fun p hp => ?_
  show s.t.at p.1 = p.2
  unfold TabS.at
  rw [(mem_iff_get h.nd p.1 p.2).1 hp]
  rfl
end Esch
/- law20.Same is true of a table and the document's, where both are of one state -/
namespace Esch
open Go Go.RowKit
theorem vals_of {s : TabS} (hk : KI s) : (s.m.map (·.1)).map (fun j => s.at j) = s.m.map (·.2) := by
  rw [List.map_map]
  refine List.map_congr_left fun p hp => ?_
  show s.at p.1 = p.2
  unfold TabS.at
  rw [(mem_iff_get hk.nd p.1 p.2).1 hp]
  rfl
def refInos (s : TabS) : List InC := s.m.map fun p => inCof p.2
theorem refInos_at {w : World} {b : Nat} {T : Nat → Prop} {s : TabS} (h : RTabAt w b T s) : ∃ ao cap, w.cell? ⟨b, 0, none⟩ = some (.slice ao s.m.length cap) ∧ w.cell? ⟨b, 1, none⟩ = some (.int .i64 s.next) ∧ InosAt w T ao (refInos s) := by
  obtain ⟨tb, lt, ao, cap, c0, f0, c1, f1, hg⟩ := h
  refine ⟨ao, cap, c0, c1, ⟨?_, fun x hx => ?_⟩⟩
  · have e : (refInos s).flatMap InC.cells = inoCells s.m := by
      unfold refInos inoCells
      rw [List.flatMap_map]
      rfl
    rw [e, show (refInos s).length = s.m.length from List.length_map _]
    exact hg.row.sub (fun k _ hk => hk.1)
  · obtain ⟨p, -, rfl⟩ := List.mem_map.1 hx
    exact pcOk_of _ _ _
end Esch
namespace Go.Proofs.YtakbalmbkokklaaGreat
open Go.RowKit Esch Go.Shelf

def Dump2Post (w : World) (s : TabS) (e : Ending) (w' : World) : Prop := ∃ a c k, e = .returned (.slice a k.length c) ∧ InosAt w' (From w.heap.size) a k ∧ k.map InC.val = (refInos s).map InC.val ∧ k.length = s.m.length ∧ Below w.heap.size w w'
theorem dump2_any (w : World) (b : Nat) (S : Nat → Prop) (s : TabS) (h : TabAt w b S s) (hk : KI s) (hr : Rise s) : Calls Tryz.prog 116 #[.pointer (some ⟨b, 0, none⟩)] w (Dump2Post w s) := by
  refine (inoDump_any w b S s h (by have := hk.len; omega)).mono ?_
  rintro e w' ⟨a, c, rfl, hI, hB⟩
  refine ⟨a, c, _, by rw [List.length_map], hI, ?_, by rw [List.length_map, hr.sorted, List.length_map], hB⟩
  rw [hr.sorted, List.map_map]
  unfold refInos
  rw [List.map_map]
  have h1 := congrArg (List.map fun x => (inCof x).val) (vals_of hk)
  simpa [List.map_map, Function.comp_def] using h1
def STRel (w : World) (n g : Nat) (v6 : Value) (wr : World) : Prop := ∃ i : Nat, g = n - i ∧ i ≤ n ∧ v6 = .int .i64 i ∧ Below w.heap.size w wr
set_option linter.unusedSimpArgs false in
set_option maxRecDepth 100000 in
set_option maxHeartbeats 4000000 in
theorem sameTab_any (w : World) (tb qb : Nat) (S T : Nat → Prop) (s : TabS) (h : TabAt w tb S s) (hq : RTabAt w qb T s) (hk : KI s) (hr : Rise s) :
    Calls Tryz.prog 75 #[.pointer (some ⟨tb, 0, none⟩), .pointer (some ⟨qb, 0, none⟩)] w fun e w' => e = .returned (.bool true) ∧ Below w.heap.size w w' := by
  have hnx := fun W (hW : Below w.heap.size w W) => inoNext_any W tb S s (h.below' hW)
  have hdm := fun W (hW : Below w.heap.size w W) => dump2_any W tb S s (h.below' hW) hk hr
  have hal := fun W (hW : Below w.heap.size w W) => inoAll_any W tb S s (h.below' hW) (by have := hk.len; omega)
  obtain ⟨ao, cap, c0, c1, hI⟩ := refInos_at hq
  have HI := Lib.hid hI
  have hqb := cell_lt c0
  have HQB := Lib.hid hqb
  have hl8 : s.m.length ≤ 100000 := by have := hk.len; omega
  have HL8 := Lib.hid hl8
  have hrl : (refInos s).length = s.m.length := List.length_map _
  have HRL := Lib.hid hrl
  have HS := Lib.hid hr.sorted
  have HKI := Lib.hid hk
  obtain ⟨n, hn⟩ : ∃ n, n = s.m.length := ⟨_, rfl⟩
  rw [← hn] at c0 hl8
  have HN := Lib.hid hn
  have hKd : w.drew.cell? ⟨qb, 0, none⟩ = some (.slice ao n cap) ∧ w.drew.cell? ⟨qb, 1, none⟩ = some (.int .i64 s.next) := ⟨c0, c1⟩
  have hnx1 := hnx w.drew (by exact belC (Below.refl _ _))
  have hdm1 := hdm w.drew (by exact belC (Below.refl _ _))
  clear hI hk hr hrl hn h hq hnx hdm
  go_enter Tryz.func75, Tryz.ntmps75
  go_wp2_with fail
  go_region_held3 (fun W' => W'.cell? ⟨qb, 0, none⟩ = some (.slice ao n cap) ∧ W'.cell? ⟨qb, 1, none⟩ = some (.int .i64 s.next))
    (first
      | with_reducible exact hKd
      | with_reducible exact hK3
      | with_reducible exact hK4
      | with_reducible exact hK5)
    (first
      | (go_at_call 113; (with_reducible refine hnx1.mono ?_); rintro e w2 ⟨rfl, rfl⟩)
      | (go_at_call 116; (with_reducible refine hdm1.mono ?_); rintro e w3 ⟨a3, c3, k3, rfl, hI3, hv3, hl3, hB3⟩
         have hK3 : w3.cell? ⟨qb, 0, none⟩ = some (.slice ao n cap) ∧ w3.cell? ⟨qb, 1, none⟩ = some (.int .i64 s.next) := ⟨below_at hB3 hKd.1 HQB.out, below_at hB3 hKd.2 HQB.out⟩
         have hown := inoOwn_any w3 _ a3 c3 k3 hI3 (by rw [hl3]; exact HL8.out)
         have HV3 := Lib.hid hv3
         have HLL3 := Lib.hid hl3
         have HB3 := Lib.hid (show Below w.heap.size w w3 from ⟨hB3.os, hB3.tape, hB3.output, hB3.size, hB3.block⟩)
         clear hI3 hv3 hl3 hB3)
      | (go_at_call 115; (with_reducible refine hown.mono ?_); rintro e w4 ⟨a4, c4, k4, rfl, hI4, hv4, hB4⟩
         have hK4 : w4.cell? ⟨qb, 0, none⟩ = some (.slice ao n cap) ∧ w4.cell? ⟨qb, 1, none⟩ = some (.int .i64 s.next) := ⟨below_at hB4 hK3.1 (cell_lt hK3.1), below_at hB4 hK3.2 (cell_lt hK3.2)⟩
         have HB4 := Lib.hid (HB3.out.trans (hB4.mono HB3.out.size))
         have hl4 : k4.length = k3.length := by simpa using congrArg List.length hv4
         have hsm : Calls Tryz.prog 114 #[.slice a4 k4.length c4, .slice ao n cap] w4 fun e w' => e = .returned (.bool true) ∧ Below w4.heap.size w4 w' := by
           have h1 := rInoSame_any w4 _ _ a4 ao c4 cap k4 (refInos s) hI4 (HI.out.below' HB4.out) (by rw [hl4, HLL3.out]; exact HL8.out)
           rw [HRL.out, ← HN.out, hv4, HV3.out, decide_eq_true rfl] at h1
           exact h1
         clear hI4 hv4 hl4 hB4)
      | (go_at_call 114; (with_reducible refine hsm.mono ?_); rintro e w5 ⟨rfl, hB5⟩
         have hK5 : w5.cell? ⟨qb, 0, none⟩ = some (.slice ao n cap) ∧ w5.cell? ⟨qb, 1, none⟩ = some (.int .i64 s.next) := ⟨below_at hB5 hK4.1 (cell_lt hK4.1), below_at hB5 hK4.2 (cell_lt hK4.2)⟩
         have HB5 := Lib.hid (HB4.out.trans (hB5.mono HB4.out.size))
         clear hB5))
  have hal5 := hal w5 HB5.out
  unfold AllPost at hal5
  rw [HS.out, List.length_map, ← HN.out] at hal5
  have q0 := hK5.1
  have hq5 := cell_lt q0
  clear hal hown hsm hKd hK3 hK4 hK5 hnx1 hdm1
  go_wp2_with fail
  refine hal5.mono ?_
  clear hal5
  rintro e w6 ⟨a6, c6, rfl, hN6, -, hB6⟩
  have HN6 := Lib.hid hN6
  have HB6 := Lib.hid (HB5.out.trans (hB6.mono HB5.out.size))
  have q6 := below_at hB6 q0 hq5
  have hq6 := cell_lt q6
  clear hN6 hB6 q0 hq5
  go_wp2_with fail
  go_loopg [6] n (fun g s6 wr => STRel w6 n g s6 wr)
  case atStart => exact ⟨0, rfl, Nat.zero_le _, rfl, Below.refl _ _⟩
  case round =>
    obtain ⟨i, rfl, hi, rfl, hB⟩ := hrel
    have HB := Lib.hid hB
    clear hB
    by_cases hlt : i < n
    · have him : i < s.m.length := by rw [← HN.out]; exact hlt
      obtain ⟨ab, aof, rfl, -, hal, hac⟩ := HN6.out (by rw [List.length_map]; omega)
      have f0 := below_at HB.out (hac i (by rw [List.length_map]; exact him)) hal
      obtain ⟨rb, ro, rfl, -, hrl, hrc⟩ := (HI.out.row.below' HB6.out).elem InC.cells_len default (i := i) (by rw [HRL.out]; exact him)
      have g0 := below_at HB.out (hrc 0 (by decide)) hrl
      have e1 : (s.m.map (·.1)).getD i 0 = (s.m.getD i (0, in0)).1 := by
        rw [List.getD_eq_getElem?_getD, List.getElem?_map, List.getElem?_eq_getElem him, List.getD_eq_getElem?_getD, List.getElem?_eq_getElem him]; rfl
      have e2 : (refInos s).getD i default = inCof (s.m.getD i (0, in0)).2 := by
        unfold refInos
        rw [List.getD_eq_getElem?_getD, List.getElem?_map, List.getElem?_eq_getElem him, List.getD_eq_getElem?_getD, List.getElem?_eq_getElem him]; rfl
      have e3 := HKI.out.ino _ (getDmem s.m (0, in0) him)
      rw [e1] at f0
      rw [e2] at g0
      have g0 : wr.cell? ⟨rb, ro + i * 6, none⟩ = some (.int .i64 (s.m.getD i (0, in0)).2.ino) := g0
      rw [e3] at g0
      generalize (s.m.getD i (0, in0)).1 = kv at *
      have qr := below_at HB.out q6 hq6
      have hKr : wr.drew.cell? ⟨ab, aof + i, none⟩ = some (.int .i64 kv) ∧ wr.drew.cell? ⟨qb, 0, none⟩ = some (.slice (some ⟨rb, ro, none⟩) n cap) ∧ wr.drew.cell? ⟨rb, ro + i * 6, none⟩ = some (.int .i64 kv) := ⟨f0, qr, g0⟩
      have hil2 : (0 : Int) ≤ i ∧ (i : Int) < n := by omega
      have hi1 : i + 1 ≤ n := hlt
      have hms : n - (i + 1) < n - i := by omega
      have hwr1 := Lib.hid (show wrap64 ((i : Int) + 1) = ((i + 1 : Nat) : Int) by unfold wrap64; omega)
      clear f0 g0 qr e1 e2 e3 hac hrc him
      go_wp2_with fail
      refine wp_region_held_drew (S := fun W' => W'.cell? ⟨ab, aof + i, none⟩ = some (.int .i64 kv) ∧ W'.cell? ⟨qb, 0, none⟩ = some (.slice (some ⟨rb, ro, none⟩) n cap) ∧ W'.cell? ⟨rb, ro + i * 6, none⟩ = some (.int .i64 kv)) (by kernel_rfl) hKr (fun hHeld => ?_)
      refine takeL 0 ?_
      refine takeL 1 ?_
      refine takeL 2 ?_
      refine takeL 3 ?_
      refine takeL 4 ?_
      refine takeL 5 ?_
      refine takeL 6 ?_
      refine takeL 7 ?_
      refine takeL 8 ?_
      refine takeL 9 ?_
      refine takeL 10 ?_
      refine takeL 11 ?_
      refine takeL 12 ?_
      refine wpAnyH_done (by kernel_rfl) ?_ _
      clear hHeld
      go_wp2_with fail
      go_roundg (n - (i + 1))
      case measure => exact hms
      case rel => exact ⟨i + 1, rfl, hi1, by first | rfl | rw [hwr1.out], HB.out.drew⟩
    · obtain rfl : i = n := by omega
      go_wp2_with fail
      go_ret
      exact ⟨rfl, HB6.out.trans (HB.out.mono HB6.out.size)⟩
end Go.Proofs.YtakbalmbkokklaaGreat
