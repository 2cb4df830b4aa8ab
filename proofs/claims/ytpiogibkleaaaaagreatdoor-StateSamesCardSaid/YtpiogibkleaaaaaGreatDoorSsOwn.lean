/- the document's own copies of names and handles; how it compares handles -/
import Derived.Test.YtpiogibkleaaaaaGreatDoorPkSm
namespace Esch
open Go Go.RowKit
theorem src3 {α : Type} {P : Program} {W : World} (tx e' : TypeId) (hk : P.underlying tx = some (.slice e')) (b : Nat) (f : α → List Value) (x : α) (hf : ∀ x, (f x).length = 3) (h1 : ∀ x, ∀ u ∈ f x, u.oneCell' = true) (t : TypeId) (hb : W.heap[b]? = some (.cells (f x).toArray t)) (c : Nat) : Src P 3 tx (.slice (some ⟨b, 0, none⟩) 1 c) 1 (f x) W := by
  refine Src.ofSlice W hk _ 1 c (f x) (by rw [hf]) (fun j u hu => ?_) (h1 x)
  rw [addr_add, Nat.zero_add]
  simp [World.cell?, hb, hu]
theorem flatTk {α : Type} {f : α → List Value} (l : List α) (d : α) {i : Nat} (hi : i < l.length) : (l.take (i + 1)).flatMap f = (l.take i).flatMap f ++ f (l.getD i d) := by
  rw [take_one l d hi, List.flatMap_append, List.flatMap_singleton]
theorem enC_one (x : EqK) : ∀ u ∈ enC x, u.oneCell' = true := fun u hu => by
  simp only [enC, List.mem_cons, List.not_mem_nil, or_false] at hu
  rcases hu with rfl | rfl | rfl <;> rfl
theorem hdC_one (x : Hd) : ∀ u ∈ hdC x, u.oneCell' = true := fun u hu => by
  simp only [hdC, List.mem_cons, List.not_mem_nil, or_false] at hu
  rcases hu with rfl | rfl | rfl <;> rfl
end Esch
namespace Go.Proofs.YtpiogibkleaaaaaGreatDoor
open Go.RowKit Esch Go.Shelf

theorem Tryz.infoRE2 : (Tryz.prog.info? 148).map (fun i => (i.zero, i.size, i.bytes)) = some (some (.agg #[.int .i64 0, .string ⟨#[]⟩, .int .i64 0]), 3, 32) := by kernel_rfl
theorem Tryz.infoRH2 : (Tryz.prog.info? 149).map (fun i => (i.zero, i.size, i.bytes)) = some (some (.agg #[.int .i64 0, .int .i64 0, .int .i64 0]), 3, 24) := by kernel_rfl
def own21Rel (w : World) (l : List EqK) (g : Nat) (v3 v4 : Value) (wr : World) : Prop :=
  ∃ (i : Nat) (ao : Option Addr) (cap : Nat), g = l.length - i ∧ i ≤ l.length ∧ v4 = .int .i64 i ∧ v3 = .slice ao i cap ∧ GRowAt wr (From w.heap.size) 3 i cap ao ((l.take i).flatMap enC) ∧ Below w.heap.size w wr
def own21Post (w : World) (l : List EqK) (e : Ending) (w' : World) : Prop := ∃ a c, e = .returned (.slice a l.length c) ∧ RwAt w' (From w.heap.size) 3 l.length a (l.flatMap enC) ∧ (l.length ≤ c ∧ c ≤ 9223372036854775807) ∧ Below w.heap.size w w'
set_option linter.unusedSimpArgs false in
set_option maxRecDepth 100000 in
set_option maxHeartbeats 4000000 in
theorem own21_any (w : World) (S : Nat → Prop) (a : Option Addr) (c : Nat) (l : List EqK) (h : RwAt w S 3 l.length a (l.flatMap enC)) (hl : l.length ≤ 100000) :
    Calls Tryz.prog 35 #[.slice a l.length c] w (own21Post w l) := by
  obtain ⟨j0, hi, hy0, hy1, hy2⟩ := info_parts Tryz.infoRE2
  have HE := Lib.hid h
  have Hll := Lib.hid hl
  clear h hl
  go_enter Tryz.func35, Tryz.ntmps35
  go_wp2_with fail
  go_loopg [3, 4] l.length (fun g s3 s4 wr => own21Rel w l g s3 s4 wr)
  case atStart => exact ⟨0, none, 0, rfl, Nat.zero_le _, rfl, rfl, GRowAt.nil _ _ _ _, Below.refl _ _⟩
  case round =>
    obtain ⟨i, ao, cap, rfl, hil, rfl, rfl, hG, hB'⟩ := hrel
    have HG := Lib.hid hG
    have HB' := Lib.hid hB'
    clear hG hB'
    by_cases hlt : i < l.length
    · obtain ⟨bk, off, rfl, hSb, hbl, hc⟩ := HE.out.elem enC_len default hlt
      have HT := Lib.hid (flatTk (f := enC) l default hlt)
      have hlt' := Lib.hid hlt
      have HBK := Lib.hid hbl
      generalize l.getD i default = ent at *
      obtain ⟨ed, en, ei⟩ := ent
      have f0 : wr.cell? ⟨bk, off + i * 3, none⟩ = some (.int .i64 ed) := below_at HB'.out (hc 0 (by decide)) hbl
      have f1 : wr.cell? ⟨bk, off + i * 3 + 1, none⟩ = some (.string (bs en)) := below_at HB'.out (hc 1 (by decide)) hbl
      have f2 : wr.cell? ⟨bk, off + i * 3 + 2, none⟩ = some (.int .i64 ei) := below_at HB'.out (hc 2 (by decide)) hbl
      have hbl' : bk < wr.heap.size := cell_lt f0
      have hil2 : (0 : Int) ≤ i ∧ (i : Int) < l.length := by omega
      have hwr := Lib.hid (show wrap64 ((i : Int) + 1) = ((i + 1 : Nat) : Int) by unfold wrap64; have := Hll.out; omega)
      have hms : l.length - (i + 1) < l.length - i := Nat.sub_lt_sub_left hlt (Nat.lt_succ_self i)
      clear hc hbl
      go_wp2_with fail
      refine wp_region_held_drew (S := fun W' => W'.cell? ⟨bk, off + i * 3, none⟩ = some (.int .i64 ed) ∧ W'.cell? ⟨bk, off + i * 3 + 1, none⟩ = some (.string (bs en)) ∧ W'.cell? ⟨bk, off + i * 3 + 2, none⟩ = some (.int .i64 ei)) (by kernel_rfl) ⟨f0, f1, f2⟩ (fun hHeld => ?_)
      refine takeL 0 ?_
      refine takeL 1 ?_
      refine takeL 2 ?_
      refine takeL 3 ?_
      refine takeL 4 ?_
      refine takeL 5 ?_
      refine takeL 6 ?_
      refine takeL 7 ?_
      refine takeL 8 ?_
      refine takeL 9 ?_
      refine takeL 10 ?_
      refine takeL 11 ?_
      refine takeL 12 ?_
      refine takeL 13 ?_
      refine takeL 14 ?_
      refine takeL 15 ?_
      refine takeL 16 ?_
      refine wpAnyH_ready (rs := [17]) (by kernel_rfl) (by simp) ?_
      refine AllReadyH.cons (o := _) rfl (fun K hK => ?_) AllReadyH.nil
      go_simp
      have hB4 : Below wr.heap.size wr (wr.drew.alloc (.cells (enC (ed, en, ei)).toArray 148)) := by exact belC (Below.refl _ _)
      try go_wp2_with fail
      refine hK _ _ ⟨below_at hB4 f0 hbl', below_at hB4 f1 hbl', below_at hB4 f2 hbl'⟩ (fun hHeld => ?_)
      clear hK K
      try simp only [Act.put, List.setIfInBounds_toArray, List.set_cons_zero, List.set_cons_succ]
      refine wpAnyH_ready (rs := [18]) (by kernel_rfl) (by simp) ?_
      refine AllReadyH.cons (o := _) rfl (fun K hK => ?_) AllReadyH.nil
      refine step_append_g (by rfl) (.tmp 11) (.tmp 28) 105 105 (by rfl) 148 j0 _ 32 Tryz.underlying105 hi hy0 hy1 hy2 (by rfl) (by rfl) (HG.out.mod (F := none') (Mod.of_below hB4) (fun _ _ _ => id)) _ 1 (enC (ed, en, ei)) (by rfl) (src3 (W := wr.drew.alloc (.cells (enC (ed, en, ei)).toArray 148)) _ _ Tryz.underlying105 wr.heap.size enC (ed, en, ei) enC_len enC_one 148 (heap_alloc_new wr.drew _) _) (by have := Hll.out; omega) (by have := Hll.out; omega) ?_
      intro a6 cap6 w6 hg6 hM6 hz6
      have hB46 : Below w.heap.size wr w6 := (hB4.mono HB'.out.size).trans (hM6.below_at (Nat.le_trans HB'.out.size hB4.size) (fun k hk e => by have e : w.heap.size ≤ k := e; omega))
      try go_wp2_with fail
      refine hK _ _ ⟨below_at hB46 f0 HBK.out, below_at hB46 f1 HBK.out, below_at hB46 f2 HBK.out⟩ (fun hHeld => ?_)
      clear hK K
      try simp only [Act.put, List.setIfInBounds_toArray, List.set_cons_zero, List.set_cons_succ]
      refine takeL 19 ?_
      refine wpAnyH_done (by kernel_rfl) ?_ _
      clear hHeld
      have hz1 := HB'.out.size
      have hB6 : Below w.heap.size w w6 := HB'.out.trans hB46
      have hg7 : GRowAt w6 (From w.heap.size) 3 (i + 1) cap6 a6 ((l.take (i + 1)).flatMap enC) := by
        rw [HT.out]
        exact hg6.sub (fun k _ hk => by
          rcases hk with hk | hk
          · exact hk
          · show w.heap.size ≤ k; rw [hk]; have := HB'.out.size; simp; omega)
      have HG6 := Lib.hid hg7
      have HB6 := Lib.hid hB6
      clear hg6 hM6 hz6 hg7 hB6 hB46 hB4
      go_wp2_with fail
      go_roundg (l.length - (i + 1))
      case measure => exact hms
      case rel => exact ⟨i + 1, a6, cap6, rfl, hlt'.out, by first | rfl | rw [hwr.out], rfl, HG6.out, HB6.out⟩
    · obtain rfl : i = l.length := by omega
      have hg := HG.out
      rw [List.take_length] at hg
      go_wp2_with fail
      go_ret
      exact ⟨ao, cap, rfl, hg.row, ⟨hg.le, hg.max⟩, HB'.out⟩
def own23Rel (w : World) (l : List Hd) (g : Nat) (v3 v4 : Value) (wr : World) : Prop :=
  ∃ (i : Nat) (ao : Option Addr) (cap : Nat), g = l.length - i ∧ i ≤ l.length ∧ v4 = .int .i64 i ∧ v3 = .slice ao i cap ∧ GRowAt wr (From w.heap.size) 3 i cap ao ((l.take i).flatMap hdC) ∧ Below w.heap.size w wr
def own23Post (w : World) (l : List Hd) (e : Ending) (w' : World) : Prop := ∃ a c, e = .returned (.slice a l.length c) ∧ RwAt w' (From w.heap.size) 3 l.length a (l.flatMap hdC) ∧ (l.length ≤ c ∧ c ≤ 9223372036854775807) ∧ Below w.heap.size w w'
set_option linter.unusedSimpArgs false in
set_option maxRecDepth 100000 in
set_option maxHeartbeats 4000000 in
theorem own23_any (w : World) (S : Nat → Prop) (a : Option Addr) (c : Nat) (l : List Hd) (h : RwAt w S 3 l.length a (l.flatMap hdC)) (hl : l.length ≤ 100000) :
    Calls Tryz.prog 36 #[.slice a l.length c] w (own23Post w l) := by
  obtain ⟨j0, hi, hy0, hy1, hy2⟩ := info_parts Tryz.infoRH2
  have HE := Lib.hid h
  have Hll := Lib.hid hl
  clear h hl
  go_enter Tryz.func36, Tryz.ntmps36
  go_wp2_with fail
  go_loopg [3, 4] l.length (fun g s3 s4 wr => own23Rel w l g s3 s4 wr)
  case atStart => exact ⟨0, none, 0, rfl, Nat.zero_le _, rfl, rfl, GRowAt.nil _ _ _ _, Below.refl _ _⟩
  case round =>
    obtain ⟨i, ao, cap, rfl, hil, rfl, rfl, hG, hB'⟩ := hrel
    have HG := Lib.hid hG
    have HB' := Lib.hid hB'
    clear hG hB'
    by_cases hlt : i < l.length
    · obtain ⟨bk, off, rfl, hSb, hbl, hc⟩ := HE.out.elem hdC_len default hlt
      have HT := Lib.hid (flatTk (f := hdC) l default hlt)
      have hlt' := Lib.hid hlt
      have HBK := Lib.hid hbl
      generalize l.getD i default = ent at *
      obtain ⟨⟨ed, en⟩, ei⟩ := ent
      have f0 : wr.cell? ⟨bk, off + i * 3, none⟩ = some (.int .i64 ed) := below_at HB'.out (hc 0 (by decide)) hbl
      have f1 : wr.cell? ⟨bk, off + i * 3 + 1, none⟩ = some (.int .i64 en) := below_at HB'.out (hc 1 (by decide)) hbl
      have f2 : wr.cell? ⟨bk, off + i * 3 + 2, none⟩ = some (.int .i64 ei) := below_at HB'.out (hc 2 (by decide)) hbl
      have hbl' : bk < wr.heap.size := cell_lt f0
      have hil2 : (0 : Int) ≤ i ∧ (i : Int) < l.length := by omega
      have hwr := Lib.hid (show wrap64 ((i : Int) + 1) = ((i + 1 : Nat) : Int) by unfold wrap64; have := Hll.out; omega)
      have hms : l.length - (i + 1) < l.length - i := Nat.sub_lt_sub_left hlt (Nat.lt_succ_self i)
      clear hc hbl
      go_wp2_with fail
      refine wp_region_held_drew (S := fun W' => W'.cell? ⟨bk, off + i * 3, none⟩ = some (.int .i64 ed) ∧ W'.cell? ⟨bk, off + i * 3 + 1, none⟩ = some (.int .i64 en) ∧ W'.cell? ⟨bk, off + i * 3 + 2, none⟩ = some (.int .i64 ei)) (by kernel_rfl) ⟨f0, f1, f2⟩ (fun hHeld => ?_)
      refine takeL 0 ?_
      refine takeL 1 ?_
      refine takeL 2 ?_
      refine takeL 3 ?_
      refine takeL 4 ?_
      refine takeL 5 ?_
      refine takeL 6 ?_
      refine takeL 7 ?_
      refine takeL 8 ?_
      refine takeL 9 ?_
      refine takeL 10 ?_
      refine takeL 11 ?_
      refine takeL 12 ?_
      refine takeL 13 ?_
      refine takeL 14 ?_
      refine takeL 15 ?_
      refine takeL 16 ?_
      refine wpAnyH_ready (rs := [17]) (by kernel_rfl) (by simp) ?_
      refine AllReadyH.cons (o := _) rfl (fun K hK => ?_) AllReadyH.nil
      go_simp
      have hB4 : Below wr.heap.size wr (wr.drew.alloc (.cells (hdC ((ed, en), ei)).toArray 149)) := by exact belC (Below.refl _ _)
      try go_wp2_with fail
      refine hK _ _ ⟨below_at hB4 f0 hbl', below_at hB4 f1 hbl', below_at hB4 f2 hbl'⟩ (fun hHeld => ?_)
      clear hK K
      try simp only [Act.put, List.setIfInBounds_toArray, List.set_cons_zero, List.set_cons_succ]
      refine wpAnyH_ready (rs := [18]) (by kernel_rfl) (by simp) ?_
      refine AllReadyH.cons (o := _) rfl (fun K hK => ?_) AllReadyH.nil
      refine step_append_g (by rfl) (.tmp 11) (.tmp 28) 99 99 (by rfl) 149 j0 _ 24 Tryz.underlying99 hi hy0 hy1 hy2 (by rfl) (by rfl) (HG.out.mod (F := none') (Mod.of_below hB4) (fun _ _ _ => id)) _ 1 (hdC ((ed, en), ei)) (by rfl) (src3 (W := wr.drew.alloc (.cells (hdC ((ed, en), ei)).toArray 149)) _ _ Tryz.underlying99 wr.heap.size hdC ((ed, en), ei) hdC_len hdC_one 149 (heap_alloc_new wr.drew _) _) (by have := Hll.out; omega) (by have := Hll.out; omega) ?_
      intro a6 cap6 w6 hg6 hM6 hz6
      have hB46 : Below w.heap.size wr w6 := (hB4.mono HB'.out.size).trans (hM6.below_at (Nat.le_trans HB'.out.size hB4.size) (fun k hk e => by have e : w.heap.size ≤ k := e; omega))
      try go_wp2_with fail
      refine hK _ _ ⟨below_at hB46 f0 HBK.out, below_at hB46 f1 HBK.out, below_at hB46 f2 HBK.out⟩ (fun hHeld => ?_)
      clear hK K
      try simp only [Act.put, List.setIfInBounds_toArray, List.set_cons_zero, List.set_cons_succ]
      refine takeL 19 ?_
      refine wpAnyH_done (by kernel_rfl) ?_ _
      clear hHeld
      have hz1 := HB'.out.size
      have hB6 : Below w.heap.size w w6 := HB'.out.trans hB46
      have hg7 : GRowAt w6 (From w.heap.size) 3 (i + 1) cap6 a6 ((l.take (i + 1)).flatMap hdC) := by
        rw [HT.out]
        exact hg6.sub (fun k _ hk => by
          rcases hk with hk | hk
          · exact hk
          · show w.heap.size ≤ k; rw [hk]; have := HB'.out.size; simp; omega)
      have HG6 := Lib.hid hg7
      have HB6 := Lib.hid hB6
      clear hg6 hM6 hz6 hg7 hB6 hB46 hB4
      go_wp2_with fail
      go_roundg (l.length - (i + 1))
      case measure => exact hms
      case rel => exact ⟨i + 1, a6, cap6, rfl, hlt'.out, by first | rfl | rw [hwr.out], rfl, HG6.out, HB6.out⟩
    · obtain rfl : i = l.length := by omega
      have hg := HG.out
      rw [List.take_length] at hg
      go_wp2_with fail
      go_ret
      exact ⟨ao, cap, rfl, hg.row, ⟨hg.le, hg.max⟩, HB'.out⟩
def XRel (n : Nat) (x y : List Hd) (w : World) (g : Nat) (s5 : Value) (wr : World) : Prop := ∃ i : Nat, g = n - i ∧ i ≤ n ∧ s5 = .int .i64 i ∧ x.take i = y.take i ∧ Below w.heap.size w wr
set_option maxRecDepth 100000 in
set_option maxHeartbeats 4000000 in
theorem rHdSame_any (w : World) (S T : Nat → Prop) (a b : Option Addr) (c d : Nat) (x y : List Hd) (hx : RwAt w S 3 x.length a (x.flatMap hdC)) (hy : RwAt w T 3 y.length b (y.flatMap hdC)) (h8 : x.length ≤ 100000) :
    Calls Tryz.prog 33 #[.slice a x.length c, .slice b y.length d] w fun e w' => e = .returned (.bool (decide (x = y))) ∧ Below w.heap.size w w' := by
  by_cases hl : x.length = y.length
  rotate_left 1
  · have hl2 : ((x.length : Int) != y.length) = true := by simp only [bne_iff_ne, ne_eq]; omega
    rw [decide_eq_false (fun e => hl (by rw [e]))]
    go_enter Tryz.func33, Tryz.ntmps33
    go_wp2_with fail
    go_ret
    exact ⟨rfl, Below.refl _ _⟩
  · have hl2 : ((x.length : Int) != y.length) = false := by simp only [bne_eq_false_iff_eq]; omega
    have HX := Lib.hid hx
    have HY := Lib.hid hy
    have HL := Lib.hid hl
    obtain ⟨n, hn⟩ : ∃ n, n = x.length := ⟨_, rfl⟩
    rw [← hl, ← hn]
    obtain ⟨dv, hdv⟩ : ∃ dv, dv = decide (x = y) := ⟨_, rfl⟩
    rw [← hdv]
    have HDV := Lib.hid hdv
    clear hdv
    have Hn := Lib.hid hn
    have hn8 : n ≤ 100000 := by omega
    clear hx hy hl hl2 h8 hn
    go_enter Tryz.func33, Tryz.ntmps33
    go_wp2_with fail
    go_loopg [5] n (fun g s5 wr => XRel n x y w g s5 wr)
    case atStart => exact ⟨0, rfl, Nat.zero_le _, rfl, rfl, Below.refl _ _⟩
    case round =>
      obtain ⟨i, rfl, hi, rfl, hte, hB⟩ := hrel
      have HT := Lib.hid hte
      have HB := Lib.hid hB
      clear hte hB
      by_cases hlt : i < n
      · have hix : i < x.length := by have := Hn.out; omega
        have hiy : i < y.length := by have := HL.out; omega
        obtain ⟨xb, xo, rfl, -, hxl, hxc⟩ := HX.out.elem hdC_len default hix
        obtain ⟨yb, yo, rfl, -, hyl, hyc⟩ := HY.out.elem hdC_len default hiy
        have HTX := Lib.hid (take_one x default hix)
        have HTY := Lib.hid (take_one y default hiy)
        generalize x.getD i default = u at *
        generalize y.getD i default = v at *
        obtain ⟨⟨u0, u1⟩, u2⟩ := u
        obtain ⟨⟨v0, v1⟩, v2⟩ := v
        have f0 : wr.drew.cell? ⟨xb, xo + i * 3, none⟩ = some (.int .i64 u0) := below_at HB.out (hxc 0 (by decide)) hxl
        have f1 : wr.drew.cell? ⟨xb, xo + i * 3 + 1, none⟩ = some (.int .i64 u1) := below_at HB.out (hxc 1 (by decide)) hxl
        have f2 : wr.drew.cell? ⟨xb, xo + i * 3 + 2, none⟩ = some (.int .i64 u2) := below_at HB.out (hxc 2 (by decide)) hxl
        have g0 : wr.drew.cell? ⟨yb, yo + i * 3, none⟩ = some (.int .i64 v0) := below_at HB.out (hyc 0 (by decide)) hyl
        have g1 : wr.drew.cell? ⟨yb, yo + i * 3 + 1, none⟩ = some (.int .i64 v1) := below_at HB.out (hyc 1 (by decide)) hyl
        have g2 : wr.drew.cell? ⟨yb, yo + i * 3 + 2, none⟩ = some (.int .i64 v2) := below_at HB.out (hyc 2 (by decide)) hyl
        have hil2 : (0 : Int) ≤ i ∧ (i : Int) < n := by omega
        have hi1 : i + 1 ≤ n := hlt
        have hms : n - (i + 1) < n - i := Nat.sub_lt_sub_left hlt (Nat.lt_succ_self i)
        have hwr1 := Lib.hid (show wrap64 ((i : Int) + 1) = ((i + 1 : Nat) : Int) by unfold wrap64; omega)
        clear hxc hyc
        by_cases huv : ((u0, u1), u2) = ((v0, v1), v2)
        · cases huv
          go_wp2_with fail
          refine wp_region_held_drew (S := fun W' => W'.cell? ⟨xb, xo + i * 3, none⟩ = some (.int .i64 u0) ∧ W'.cell? ⟨xb, xo + i * 3 + 1, none⟩ = some (.int .i64 u1) ∧ W'.cell? ⟨xb, xo + i * 3 + 2, none⟩ = some (.int .i64 u2) ∧ W'.cell? ⟨yb, yo + i * 3, none⟩ = some (.int .i64 u0) ∧ W'.cell? ⟨yb, yo + i * 3 + 1, none⟩ = some (.int .i64 u1) ∧ W'.cell? ⟨yb, yo + i * 3 + 2, none⟩ = some (.int .i64 u2)) (by kernel_rfl) ⟨f0, f1, f2, g0, g1, g2⟩ (fun hHeld => ?_)
          refine takeL 0 ?_
          refine takeL 1 ?_
          refine takeL 2 ?_
          refine takeL 3 ?_
          refine takeL 4 ?_
          refine takeL 5 ?_
          refine takeL 6 ?_
          refine takeL 7 ?_
          refine takeL 8 ?_
          refine takeL 9 ?_
          refine takeL 10 ?_
          refine takeL 11 ?_
          refine takeL 12 ?_
          refine takeL 13 ?_
          refine takeL 14 ?_
          refine takeL 15 ?_
          refine takeL 16 ?_
          refine takeL 17 ?_
          refine takeL 18 ?_
          refine takeL 19 ?_
          refine takeL 20 ?_
          refine takeL 21 ?_
          refine takeL 22 ?_
          refine takeL 23 ?_
          refine takeL 24 ?_
          refine takeL 25 ?_
          refine takeL 26 ?_
          refine takeL 27 ?_
          refine takeL 28 ?_
          refine takeL 29 ?_
          refine takeL 30 ?_
          refine takeL 31 ?_
          refine takeL 32 ?_
          refine takeL 33 ?_
          refine takeL 34 ?_
          refine takeL 35 ?_
          refine takeL 36 ?_
          refine wpAnyH_done (by kernel_rfl) ?_ _
          clear hHeld
          go_wp2_with fail
          go_roundg (n - (i + 1))
          case measure => exact hms
          case rel => exact ⟨i + 1, rfl, hi1, by first | rfl | rw [hwr1.out], by rw [HTX.out, HTY.out, HT.out], HB.out.drew⟩
        · have hdv : dv = false := by
            rw [HDV.out]
            refine decide_eq_false (fun e => ?_)
            subst e
            have h1 := HTX.out
            rw [HTY.out] at h1
            exact huv (by simpa using (List.append_cancel_left h1).symm)
          subst hdv
          have HUV := Lib.hid huv
          clear huv
          by_cases e0 : u0 = v0
          · subst e0
            by_cases e1 : u1 = v1
            · subst e1
              have e2 : (u2 != v2) = true := by simp only [bne_iff_ne, ne_eq]; intro e; exact HUV.out (by rw [e])
              go_wp2_with fail
              refine wp_region_held_drew (S := fun W' => W'.cell? ⟨xb, xo + i * 3, none⟩ = some (.int .i64 u0) ∧ W'.cell? ⟨xb, xo + i * 3 + 1, none⟩ = some (.int .i64 u1) ∧ W'.cell? ⟨xb, xo + i * 3 + 2, none⟩ = some (.int .i64 u2) ∧ W'.cell? ⟨yb, yo + i * 3, none⟩ = some (.int .i64 u0) ∧ W'.cell? ⟨yb, yo + i * 3 + 1, none⟩ = some (.int .i64 u1) ∧ W'.cell? ⟨yb, yo + i * 3 + 2, none⟩ = some (.int .i64 v2)) (by kernel_rfl) ⟨f0, f1, f2, g0, g1, g2⟩ (fun hHeld => ?_)
              refine takeL 0 ?_
              refine takeL 1 ?_
              refine takeL 2 ?_
              refine takeL 3 ?_
              refine takeL 4 ?_
              refine takeL 5 ?_
              refine takeL 6 ?_
              refine takeL 7 ?_
              refine takeL 8 ?_
              refine takeL 9 ?_
              refine takeL 10 ?_
              refine takeL 11 ?_
              refine takeL 12 ?_
              refine takeL 13 ?_
              refine takeL 14 ?_
              refine takeL 15 ?_
              refine takeL 16 ?_
              refine takeL 17 ?_
              refine takeL 18 ?_
              refine takeL 19 ?_
              refine takeL 20 ?_
              refine takeL 21 ?_
              refine takeL 22 ?_
              refine takeL 23 ?_
              refine takeL 24 ?_
              refine takeL 25 ?_
              refine takeL 26 ?_
              refine takeL 27 ?_
              refine takeL 28 ?_
              refine takeL 29 ?_
              refine takeL 30 ?_
              refine takeL 31 ?_
              refine takeL 32 ?_
              refine takeL 33 ?_
              refine takeL 34 ?_
              refine takeL 35 ?_
              refine takeL 36 ?_
              refine wpAnyH_done (by kernel_rfl) ?_ _
              clear hHeld
              go_wp2_with fail
              go_ret
              exact ⟨rfl, HB.out.drew⟩
            · have e1' : (u1 != v1) = true := by simp only [bne_iff_ne, ne_eq]; exact e1
              clear e1
              go_wp2_with fail
              refine wp_region_held_drew (S := fun W' => W'.cell? ⟨xb, xo + i * 3, none⟩ = some (.int .i64 u0) ∧ W'.cell? ⟨xb, xo + i * 3 + 1, none⟩ = some (.int .i64 u1) ∧ W'.cell? ⟨xb, xo + i * 3 + 2, none⟩ = some (.int .i64 u2) ∧ W'.cell? ⟨yb, yo + i * 3, none⟩ = some (.int .i64 u0) ∧ W'.cell? ⟨yb, yo + i * 3 + 1, none⟩ = some (.int .i64 v1) ∧ W'.cell? ⟨yb, yo + i * 3 + 2, none⟩ = some (.int .i64 v2)) (by kernel_rfl) ⟨f0, f1, f2, g0, g1, g2⟩ (fun hHeld => ?_)
              refine takeL 0 ?_
              refine takeL 1 ?_
              refine takeL 2 ?_
              refine takeL 3 ?_
              refine takeL 4 ?_
              refine takeL 5 ?_
              refine takeL 6 ?_
              refine takeL 7 ?_
              refine takeL 8 ?_
              refine takeL 9 ?_
              refine takeL 10 ?_
              refine takeL 11 ?_
              refine takeL 12 ?_
              refine takeL 13 ?_
              refine takeL 14 ?_
              refine takeL 15 ?_
              refine takeL 16 ?_
              refine takeL 17 ?_
              refine takeL 18 ?_
              refine takeL 19 ?_
              refine takeL 20 ?_
              refine takeL 21 ?_
              refine takeL 22 ?_
              refine takeL 23 ?_
              refine takeL 24 ?_
              refine takeU 25 ?_
              refine takeU 26 ?_
              refine takeU 27 ?_
              refine takeU 28 ?_
              refine takeU 29 ?_
              refine takeU 30 ?_
              refine takeU 31 ?_
              refine takeU 32 ?_
              refine takeU 33 ?_
              refine takeU 34 ?_
              refine takeU 35 ?_
              refine takeL 36 ?_
              refine wpAnyH_done (by kernel_rfl) ?_ _
              clear hHeld
              go_wp2_with fail
              go_ret
              exact ⟨rfl, HB.out.drew⟩
          · have e0' : (u0 != v0) = true := by simp only [bne_iff_ne, ne_eq]; exact e0
            clear e0
            go_wp2_with fail
            refine wp_region_held_drew (S := fun W' => W'.cell? ⟨xb, xo + i * 3, none⟩ = some (.int .i64 u0) ∧ W'.cell? ⟨xb, xo + i * 3 + 1, none⟩ = some (.int .i64 u1) ∧ W'.cell? ⟨xb, xo + i * 3 + 2, none⟩ = some (.int .i64 u2) ∧ W'.cell? ⟨yb, yo + i * 3, none⟩ = some (.int .i64 v0) ∧ W'.cell? ⟨yb, yo + i * 3 + 1, none⟩ = some (.int .i64 v1) ∧ W'.cell? ⟨yb, yo + i * 3 + 2, none⟩ = some (.int .i64 v2)) (by kernel_rfl) ⟨f0, f1, f2, g0, g1, g2⟩ (fun hHeld => ?_)
            refine takeL 0 ?_
            refine takeL 1 ?_
            refine takeL 2 ?_
            refine takeL 3 ?_
            refine takeL 4 ?_
            refine takeL 5 ?_
            refine takeL 6 ?_
            refine takeL 7 ?_
            refine takeL 8 ?_
            refine takeL 9 ?_
            refine takeL 10 ?_
            refine takeL 11 ?_
            refine takeU 12 ?_
            refine takeU 13 ?_
            refine takeU 14 ?_
            refine takeU 15 ?_
            refine takeU 16 ?_
            refine takeU 17 ?_
            refine takeU 18 ?_
            refine takeU 19 ?_
            refine takeU 20 ?_
            refine takeU 21 ?_
            refine takeU 22 ?_
            refine takeL 23 ?_
            refine takeL 24 ?_
            refine takeU 25 ?_
            refine takeU 26 ?_
            refine takeU 27 ?_
            refine takeU 28 ?_
            refine takeU 29 ?_
            refine takeU 30 ?_
            refine takeU 31 ?_
            refine takeU 32 ?_
            refine takeU 33 ?_
            refine takeU 34 ?_
            refine takeU 35 ?_
            refine takeL 36 ?_
            refine wpAnyH_done (by kernel_rfl) ?_ _
            clear hHeld
            go_wp2_with fail
            go_ret
            exact ⟨rfl, HB.out.drew⟩
      · obtain rfl : i = n := by omega
        have hxy : x = y := by
          have h1 := HT.out
          rw [List.take_of_length_le (by have := Hn.out; omega), List.take_of_length_le (by have := Hn.out; have := HL.out; omega)] at h1
          exact h1
        have hdv : dv = true := by rw [HDV.out]; exact decide_eq_true hxy
        subst hdv
        clear hxy
        go_wp2_with fail
        go_ret
        exact ⟨rfl, HB.out⟩
end Go.Proofs.YtpiogibkleaaaaaGreatDoor
