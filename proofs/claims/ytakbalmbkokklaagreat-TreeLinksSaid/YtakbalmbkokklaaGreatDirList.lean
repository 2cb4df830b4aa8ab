/- package dir: All, List -/
import Derived.Test.YtakbalmbkokklaaGreatDirSome
namespace Go.Proofs.YtakbalmbkokklaaGreat
open Go.RowKit Esch Go.Shelf

theorem such_all (w : World) : Such w 60 #[] (fun _ => true) := fun W e _ => by
  obtain ⟨⟨d, n⟩, i⟩ := e
  simp only [entC, strV]
  show Calls Tryz.prog 60 #[_] W _
  go_enter Tryz.func60, Tryz.ntmps60
  go_wp2_with fail
  go_ret
  exact ⟨rfl, by exact belC (Below.refl _ _)⟩
theorem dirAll_any (w : World) (b : Nat) (S : Nat → Prop) (s : DirS) (h : DirAt w b S s) (hl : s.m.length ≤ 100000) :
    Calls Tryz.prog 27 #[.pointer (some ⟨b, 0, none⟩)] w (SomePost w s.m (fun _ => true)) := by
  have hs := dirSome_any w b S s h 60 #[] (fun _ => true) hl (enters_of Tryz.func60 (by kernel_rfl) rfl) (such_all w)
  go_enter Tryz.func27, Tryz.ntmps27
  go_wp2_with fail
  refine hs.mono ?_
  clear hs
  rintro e w1 ⟨a, c, l, rfl, h1, h2, h3, h4⟩
  go_wp2_with fail
  go_ret
  exact ⟨a, c, l, rfl, h1, h2, h3, h4⟩
theorem such_dir (w : World) (b : Nat) (d : Int) (hc : w.cell? ⟨b, 0, none⟩ = some (.int .i64 d)) : Such w 83 #[.pointer (some ⟨b, 0, none⟩)] (fun e => e.1.1 == d) := fun W e hB => by
  obtain ⟨⟨d', n⟩, i⟩ := e
  have c1 := below_at hB hc (cell_lt hc)
  have hl := cell_lt c1
  simp only [entC, strV]
  show Calls Tryz.prog 83 #[_, _] W _
  go_enter Tryz.func83, Tryz.ntmps83
  go_wp2_with fail
  go_ret
  exact ⟨rfl, by exact belC (Below.refl _ _)⟩
def ListRel (w : World) (l : List Ent) (g : Nat) (v5 v12 : Value) (wr : World) : Prop :=
  ∃ (i : Nat) (ao : Option Addr) (cap : Nat), g = l.length - i ∧ i ≤ l.length ∧ v12 = .int .i64 i ∧ v5 = .slice ao i cap ∧ GRowAt wr (From w.heap.size) 1 i cap ao (((l.take i).map (·.1.2)).map strV) ∧ Below w.heap.size w wr
def NamesOfD (m : List Ent) (d : Int) (l : List Nm) : Prop := ∃ k, SortedOf m (fun e => e.1.1 == d) k ∧ l = k.map (·.1.2)
def DListPost (w : World) (m : List Ent) (d : Int) (e : Ending) (w' : World) : Prop :=
  ∃ a c l, e = .returned (.slice a l.length c) ∧ NamesOfD m d l ∧ NmsAt (From w.heap.size) w' a l ∧ CapN l.length c ∧ Below w.heap.size w w'
set_option maxRecDepth 100000 in
set_option maxHeartbeats 4000000 in
theorem dirList_any (w : World) (b : Nat) (S : Nat → Prop) (s : DirS) (h : DirAt w b S s) (d : Int) (hl : s.m.length ≤ 100000) :
    Calls Tryz.prog 43 #[.pointer (some ⟨b, 0, none⟩), .int .i64 d] w (DListPost w s.m d) := by
  have hmf : ∀ (fn : Fn) (first cap : Array Value) (w : World), (Instr.makeFunc fn first cap).run Tryz.prog w = .ok (.func fn first cap) w := fun _ _ _ _ => rfl
  obtain ⟨i0, hi, hz0, hz1, hz2⟩ := info_parts Tryz.infoStr
  obtain ⟨W1, hW1⟩ : ∃ W1, W1 = w.alloc (.cells #[.int .i64 d] 3) := ⟨_, rfl⟩
  have hB1 : Below w.heap.size w W1 := by rw [hW1]; exact belC (Below.refl _ _)
  have c0 : W1.cell? ⟨w.heap.size, 0, none⟩ = some (.int .i64 d) := by rw [hW1]; go_simp
  have hs : Calls Tryz.prog 59 #[.pointer (some ⟨b, 0, none⟩), .func (.func 83) #[] #[.pointer (some ⟨w.heap.size, 0, none⟩)]] W1 _ :=
    dirSome_any W1 b S s (h.below' hB1) 83 #[.pointer (some ⟨w.heap.size, 0, none⟩)] (fun e => e.1.1 == d) hl (enters_of Tryz.func83 (by kernel_rfl) rfl) (such_dir W1 w.heap.size d c0)
  have Hl := Lib.hid hl
  have HW1 := Lib.hid hW1
  have HB1 := Lib.hid hB1
  clear hW1 hB1 c0 h hl
  go_enter Tryz.func43, Tryz.ntmps43
  go_wp2_with fail
  rw [← HW1.out]
  refine hs.mono ?_
  clear hs
  rintro e w1 ⟨a, c, l, rfl, h1, h2, h3, h4⟩
  have hB2 : Below w.heap.size w w1 := HB1.out.trans (h4.mono HB1.out.size)
  have hll : l.length ≤ 100000 := by
    have e1 := h1.1.length_eq
    have e2 := List.length_filter_le (fun e => e.1.1 == d) s.m
    have e3 := Hl.out
    omega
  have HS := Lib.hid h1
  have HE := Lib.hid h2
  have Hll := Lib.hid hll
  have HB2 := Lib.hid hB2
  clear h1 h2 h3 h4 hll hB2
  go_wp2_with fail
  go_loopg [5, 12] l.length (fun g s5 s12 wr => ListRel w1 l g s5 s12 wr)
  case atStart => exact ⟨0, none, 0, rfl, Nat.zero_le _, rfl, rfl, GRowAt.nil _ _ _ _, Below.refl _ _⟩
  case round =>
    obtain ⟨i, ao, cap, rfl, hil, rfl, rfl, hG, hB'⟩ := hrel
    have HG := Lib.hid hG
    have HB' := Lib.hid hB'
    clear hG hB'
    by_cases hlt : i < l.length
    · obtain ⟨bk, off, rfl, hSb, hbl, hc⟩ := HE.out (by omega)
      obtain ⟨e0, e1, e2⟩ := hc i hlt
      have f0 := below_at HB'.out e0 hbl
      have f1 := below_at HB'.out e1 hbl
      have f2 := below_at HB'.out e2 hbl
      have hbl' : bk < wr.heap.size := cell_lt f0
      have hil2 : (0 : Int) ≤ i ∧ (i : Int) < l.length := by omega
      have htk : (l.take (i + 1)).map (·.1.2) = (l.take i).map (·.1.2) ++ [(l.getD i default).1.2] := by
        rw [List.take_succ_eq_append_getElem hlt, List.map_append, List.getD_eq_getElem?_getD, List.getElem?_eq_getElem hlt]; rfl
      have HT := Lib.hid htk
      generalize l.getD i default = ent at *
      obtain ⟨⟨ed, en⟩, ei⟩ := ent
      clear e0 e1 e2 hc htk hbl
      go_wp2_with (at_builtin; refine wpList_append_g (by rfl) (.tmp 16) (.tmp 19) 22 22 (by rfl) 9 i0 _ 16 Tryz.underlying22 hi hz0 hz1 hz2 (by rfl) (by rfl) (HG.out.mod (F := none') (by exact modC (Mod.refl _ _)) (fun _ _ _ => id)) _ 1 [strV en] (by rfl) (src_str _ _ Tryz.underlying22 (wr.heap.size + 1) en 9 (by first | exact heap_alloc_new _ _ | (rw [show wr.heap.size + 1 = (wr.alloc (.cells #[.int .i64 ed, .string (bs en), .int .i64 ei] 54)).heap.size by simp]; exact heap_alloc_new _ _)) _) (by have := Hll.out; omega) (by have := Hll.out; omega) ?_; intro a6 cap6 w6 hg6 hM6 hz6)
      have hz1 := HB'.out.size
      have hB5 : Below w1.heap.size w1 ((wr.alloc (.cells #[.int .i64 ed, .string (bs en), .int .i64 ei] 54)).alloc (.cells #[strV en] 9)) := by exact belC HB'.out
      have hB6 : Below w1.heap.size w1 w6 := hB5.trans (hM6.below_at (by simp only [World.size_alloc]; omega) (fun k hk e => by have e : w1.heap.size ≤ k := e; omega))
      have hg7 : GRowAt w6 (From w1.heap.size) 1 (i + 1) cap6 a6 (((l.take (i + 1)).map (·.1.2)).map strV) := by
        rw [HT.out, List.map_append]
        exact hg6.sub (fun k _ hk => by
          rcases hk with hk | hk
          · exact hk
          · show w1.heap.size ≤ k; rw [hk]; simp only [World.size_alloc]; have := HB'.out.size; omega)
      have HG6 := Lib.hid hg7
      have HB6 := Lib.hid hB6
      clear hg6 hM6 hz6 hg7 hB6
      have hwr : wrap64 ((i : Int) + 1) = ((i + 1 : Nat) : Int) := by unfold wrap64; have := Hll.out; omega
      go_roundg (l.length - (i + 1))
      case measure => omega
      case rel => exact ⟨i + 1, a6, cap6, rfl, by omega, (by rw [hwr]), rfl, HG6.out, HB6.out⟩
    · obtain rfl : i = l.length := by omega
      go_wp2_with fail
      go_ret
      have hg := HG.out
      rw [List.take_length] at hg
      have hm : (l.map (·.1.2)).length = l.length := List.length_map _
      rw [← hm] at hg
      obtain ⟨k1, k2⟩ := grow_nms hg
      exact ⟨ao, cap, l.map (·.1.2), by rw [hm]; rfl, ⟨l, HS.out, rfl⟩, (show NmsAt (From w.heap.size) wr ao (l.map (·.1.2)) from k1.sub (fun k _ hk => Nat.le_trans HB2.out.size hk)), k2, HB2.out.trans (HB'.out.mono HB2.out.size)⟩
end Go.Proofs.YtakbalmbkokklaaGreat
