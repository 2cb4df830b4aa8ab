import Derived.Test.YtakbalmbkokklaaGreatPkTreeM
import Derived.Test.YtakbalmbkokklaaGreatPkBase
import Derived.Test.YtakbalmbkokklaaGreatPkPath
import Derived.Laws.MakeOwn
/- the document's inodes, as far as no file has parts: New, Find, Make -/
namespace Esch
open Go Go.RowKit

def inC (x : InS) : List Value := [.int .i64 x.ino, .int .i64 x.kind, .int .i64 x.links, .int .i64 x.opens, .int .i64 x.size, .slice none 0 0]
def inoCells (m : List (Int × InS)) : List Value := m.flatMap fun p => inC p.2
theorem inoCells_len (m : List (Int × InS)) : (inoCells m).length = m.length * 6 := by
  induction m with
  | nil => rfl
  | cons a m ih =>
    have : (inoCells (a :: m)).length = 6 + (inoCells m).length := by
      show (inC a.2 ++ inoCells m).length = _
      rw [List.length_append]; rfl
    rw [this, ih, List.length_cons]; omega
theorem inoCells_app (a b : List (Int × InS)) : inoCells (a ++ b) = inoCells a ++ inoCells b := by unfold inoCells; rw [List.flatMap_append]
theorem inoCells_one (m : List (Int × InS)) : ∀ u ∈ inoCells m, u.oneCell' = true := by
  intro u hu
  unfold inoCells at hu
  obtain ⟨p, -, hp⟩ := List.mem_flatMap.1 hu
  simp only [inC, List.mem_cons, List.not_mem_nil, or_false] at hp
  rcases hp with rfl | rfl | rfl | rfl | rfl | rfl <;> rfl
theorem inoCells_take (m : List (Int × InS)) (k : Nat) : (inoCells m).take (k * 6) = inoCells (m.take k) := by
  induction m generalizing k with
  | nil => simp [inoCells]
  | cons a m ih =>
    cases k with
    | zero => simp [inoCells]
    | succ k =>
      have h1 : inoCells (a :: m) = inC a.2 ++ inoCells m := rfl
      have h2 : inoCells ((a :: m).take (k + 1)) = inC a.2 ++ inoCells (m.take k) := rfl
      rw [h1, h2, List.take_append, show (inC a.2).length = 6 from rfl, List.take_of_length_le (by show 6 ≤ _; omega), show (k + 1) * 6 - 6 = k * 6 by omega, ih]
theorem inoCells_drop (m : List (Int × InS)) (k : Nat) : (inoCells m).drop (k * 6) = inoCells (m.drop k) := by
  have h1 := List.take_append_drop (k * 6) (inoCells m)
  have h2 : inoCells m = inoCells (m.take k) ++ inoCells (m.drop k) := by rw [← inoCells_app, List.take_append_drop]
  rw [inoCells_take] at h1
  rw [h2] at h1
  rw [← h2] at h1
  exact List.append_cancel_left (h1.trans h2)
/-- the document's table in memory: all blocks in T -/
structure RTabAt (w : World) (b : Nat) (T : Nat → Prop) (s : TabS) : Prop where
  tb : T b
  lt : ∀ k, T k → k < w.heap.size
  ex : ∃ ao cap, w.cell? ⟨b, 0, none⟩ = some (.slice ao s.m.length cap) ∧ w.frozen? ⟨b, 0, none⟩ = false ∧ w.cell? ⟨b, 1, none⟩ = some (.int .i64 s.next) ∧ w.frozen? ⟨b, 1, none⟩ = false ∧ GRowAt w (fun k => T k ∧ k ≠ b) 6 s.m.length cap ao (inoCells s.m)
theorem RTabAt.mod {w w' : World} {b : Nat} {T F : Nat → Prop} {s : TabS} (h : RTabAt w b T s) (hM : Mod F w w') (hF : ∀ k, T k → ¬ F k) : RTabAt w' b T s := by
  obtain ⟨tb, lt, ao, cap, c0, f0, c1, f1, hg⟩ := h
  have hl := cell_lt c0
  exact ⟨tb, fun k hk => Nat.lt_of_lt_of_le (lt k hk) hM.size, ao, cap, hM.at c0 (hF b tb), (hM.frozen (p := ⟨b, 0, none⟩) hl (hF b tb)).trans f0, hM.at c1 (hF b tb), (hM.frozen (p := ⟨b, 1, none⟩) hl (hF b tb)).trans f1, hg.mod hM (fun k hk _ => hF k hk.1)⟩
theorem RTabAt.below' {w w' : World} {b : Nat} {T : Nat → Prop} {s : TabS} (h : RTabAt w b T s) (hB : Below w.heap.size w w') : RTabAt w' b T s := h.mod (F := none') (Mod.of_below hB) fun _ _ => id
def growS (T : Nat → Prop) (w w' : World) : Nat → Prop := fun k => T k ∨ (w.heap.size ≤ k ∧ k < w'.heap.size)
theorem RTabAt.wide {w : World} {b : Nat} {T U : Nat → Prop} {s : TabS} (h : RTabAt w b T s) (hU : ∀ k, T k → U k) (hl : ∀ k, U k → k < w.heap.size) : RTabAt w b U s := by
  obtain ⟨tb, lt, ao, cap, c0, f0, c1, f1, hg⟩ := h
  exact ⟨hU b tb, hl, ao, cap, c0, f0, c1, f1, hg.sub (fun k _ hk => ⟨hU k hk.1, hk.2⟩)⟩
theorem RTabAt.grow {w w1 : World} {b : Nat} {T : Nat → Prop} {s : TabS} (h : RTabAt w b T s) : RTabAt w b (growS T w1 w) s := h.wide (fun _ hk => Or.inl hk) (fun k hk => hk.elim (h.lt k) (fun h => h.2))
/-- the cells of an inode in the row -/
theorem inoAt {w : World} {S : Nat → Prop} {pre post : List (Int × InS)} {i : Int} {x : InS} {n cap : Nat} {ao : Option Addr} (h : GRowAt w S 6 n cap ao (inoCells (pre ++ (i, x) :: post))) : ∃ rb ro, ao = some ⟨rb, ro, none⟩ ∧ S rb ∧ rb < w.heap.size ∧
    w.cell? ⟨rb, ro + pre.length * 6, none⟩ = some (.int .i64 x.ino) ∧ w.cell? ⟨rb, ro + pre.length * 6 + 1, none⟩ = some (.int .i64 x.kind) ∧ w.cell? ⟨rb, ro + pre.length * 6 + 2, none⟩ = some (.int .i64 x.links) ∧
    w.cell? ⟨rb, ro + pre.length * 6 + 3, none⟩ = some (.int .i64 x.opens) ∧ w.cell? ⟨rb, ro + pre.length * 6 + 4, none⟩ = some (.int .i64 x.size) ∧ w.cell? ⟨rb, ro + pre.length * 6 + 5, none⟩ = some (.slice none 0 0) ∧
    ∀ j, j < 6 → w.frozen? ⟨rb, ro + pre.length * 6 + j, none⟩ = false := by
  have hx := h.xsLen
  rw [inoCells_len, List.length_append, List.length_cons] at hx
  have hle := h.le
  obtain ⟨rb, ro, e, hb, hl, h1, h2⟩ := h.at' (by omega)
  have hc : ∀ j, j < 6 → w.cell? ⟨rb, ro + pre.length * 6 + j, none⟩ = (inC x)[j]? := fun j hj => by
    have := h1 (pre.length * 6 + j) (by omega)
    rw [← Nat.add_assoc] at this
    rw [this, inoCells_app, List.getElem?_append_right (by rw [inoCells_len]; omega), inoCells_len, Nat.add_sub_cancel_left]
    show (inC x ++ inoCells post)[j]? = _
    rw [List.getElem?_append_left (by show j < 6; exact hj)]
  exact ⟨rb, ro, e, hb, hl, hc 0 (by omega), hc 1 (by omega), hc 2 (by omega), hc 3 (by omega), hc 4 (by omega), hc 5 (by omega), fun j hj => by rw [Nat.add_assoc]; exact (h2 _ (by omega)).2⟩
/-- keys are numbers, once each; counts in range -/
structure KI (s : TabS) : Prop where
  nd : (s.m.map (·.1)).Nodup
  ino : ∀ p ∈ s.m, p.2.ino = p.1
  len : s.m.length ≤ 64
def FindR (s : TabS) (i r : Int) : Prop := (s.has i = false ∧ r = -1) ∨ ∃ pre post, s.m = pre ++ (i, s.at i) :: post ∧ (∀ p ∈ pre, p.1 ≠ i) ∧ r = (pre.length : Nat)
theorem find_split (s : TabS) {i : Int} (h : s.has i = true) : ∃ pre post, s.m = pre ++ (i, s.at i) :: post ∧ ∀ p ∈ pre, p.1 ≠ i := by
  unfold TabS.has at h
  unfold TabS.at
  cases e : get s.m i with
  | none => rw [e] at h; cases h
  | some x => exact get_some e
end Esch
namespace Go.Proofs.YtakbalmbkokklaaGreat
open Go.RowKit Esch Go.Shelf

/-- a changed cell of a row -/
theorem _root_.Esch.GRowAt.put1 {w : World} {S : Nat → Prop} {size len cap b off : Nat} {xs : List Value} (h : GRowAt w S size len cap (some ⟨b, off, none⟩) xs) {i : Nat} (hi : i < len * size) (v : Value) : GRowAt (w.setCell ⟨b, off + i, none⟩ v) S size len cap (some ⟨b, off, none⟩) (xs.set i v) := by
  refine ⟨h.le, h.max, by rw [List.length_set]; exact h.xsLen, fun h0 => ?_⟩
  obtain ⟨b', off', e, hb, hl, h1, h2⟩ := h.at' h0
  cases e
  have hle := h.le
  have hlc : len * size ≤ cap * size := Nat.mul_le_mul_right _ hle
  have hx := h.xsLen
  obtain ⟨y, hy⟩ := Option.isSome_iff_exists.1 (h2 i (by omega)).1
  refine ⟨b, off, rfl, hb, by simpa using hl, fun j hj => ?_, fun j hj => ⟨?_, ?_⟩⟩
  · by_cases e : j = i
    · subst e
      rw [List.getElem?_set_self (by omega)]
      go_simp
    · rw [List.getElem?_set_ne (fun e' => e e'.symm), ← h1 j hj]
      have hne : (⟨b, off + i, none⟩ : Addr) ≠ ⟨b, off + j, none⟩ := fun e' => e (by have := congrArg Addr.off e'; simp only at this; omega)
      apply World.cell?_setCell_other; exact hne
  · by_cases e : j = i
    · subst e
      go_simp
    · have hne : (⟨b, off + i, none⟩ : Addr) ≠ ⟨b, off + j, none⟩ := fun e' => e (by have := congrArg Addr.off e'; simp only at this; omega)
      rw [show (w.setCell ⟨b, off + i, none⟩ v).cell? ⟨b, off + j, none⟩ = w.cell? ⟨b, off + j, none⟩ from by apply World.cell?_setCell_other; exact hne]
      exact (h2 j hj).1
  · have := (h2 j hj).2
    go_simp
theorem rinoNew_any (w : World) : Calls Tryz.prog 63 #[] w fun e w' => ∃ b, e = .returned (.pointer (some ⟨b, 0, none⟩)) ∧ RTabAt w' b (fun k => w.heap.size ≤ k ∧ k < w'.heap.size) tr0.t ∧ Below w.heap.size w w' := by
  go_enter Tryz.func63, Tryz.ntmps63
  go_wp2_with fail
  go_ret
  refine ⟨w.heap.size + 1, rfl, ⟨⟨by omega, by simp⟩, fun k hk => hk.2, some ⟨w.heap.size, 0, none⟩, 1, by go_simp; rfl, by go_simp, by go_simp; rfl, by go_simp, Nat.le_refl _, by omega, rfl, fun _ => ⟨w.heap.size, 0, rfl, ⟨⟨Nat.le_refl _, by simp; omega⟩, by omega⟩, by simp; omega, fun j hj => ?_, fun j hj => ?_⟩⟩, by exact belC (Below.refl _ _)⟩
  · have hj : j < 6 := hj
    obtain rfl | rfl | rfl | rfl | rfl | rfl : j = 0 ∨ j = 1 ∨ j = 2 ∨ j = 3 ∨ j = 4 ∨ j = 5 := by omega
    all_goals go_simp; rfl
  · have hj : j < 6 := hj
    obtain rfl | rfl | rfl | rfl | rfl | rfl : j = 0 ∨ j = 1 ∨ j = 2 ∨ j = 3 ∨ j = 4 ∨ j = 5 := by omega
    all_goals exact ⟨by go_simp, by go_simp⟩
def RFindRel (s : TabS) (i : Int) (w : World) (g : Nat) (s5 : Value) (wr : World) : Prop := ∃ k : Nat, g = s.m.length - k ∧ k ≤ s.m.length ∧ s5 = .int .i64 k ∧ (∀ p ∈ s.m.take k, p.1 ≠ i) ∧ wr = w
set_option maxRecDepth 100000 in
set_option maxHeartbeats 4000000 in
theorem rFind_any (w : World) (b : Nat) (T : Nat → Prop) (s : TabS) (h : RTabAt w b T s) (hk : KI s) (i : Int) :
    Calls Tryz.prog 104 #[.pointer (some ⟨b, 0, none⟩), .int .i64 i] w fun e w' => (∃ r, e = .returned (.int .i64 r) ∧ FindR s i r) ∧ w' = w := by
  obtain ⟨tb, lt, ao, cap, c0, f0, c1, f1, hg⟩ := h
  have HG := Lib.hid hg
  have HK := Lib.hid hk
  have hl64 := hk.len
  clear hg f0 c1 f1 hk
  go_enter Tryz.func104, Tryz.ntmps104
  go_wp2_with fail
  go_loopg [5] s.m.length (fun g s5 wr => RFindRel s i w g s5 wr)
  case atStart => exact ⟨0, rfl, Nat.zero_le _, rfl, fun p hp => absurd hp (by simp), rfl⟩
  case round =>
    obtain ⟨k, rfl, hkl, rfl, hno, rfl⟩ := hrel
    have HNO := Lib.hid hno
    clear hno
    by_cases hlt : k < s.m.length
    · obtain ⟨⟨pi, px⟩, hp⟩ : ∃ p, s.m[k]? = some p := ⟨_, List.getElem?_eq_getElem hlt⟩
      have hsp : s.m = s.m.take k ++ (pi, px) :: s.m.drop (k + 1) := by
        have h1 := List.take_append_drop k s.m
        rw [List.drop_eq_getElem_cons hlt] at h1
        have h2 : s.m[k] = (pi, px) := by rw [List.getElem?_eq_getElem hlt] at hp; exact Option.some.inj hp
        rw [h2] at h1
        exact h1.symm
      have hpl : (s.m.take k).length = k := by rw [List.length_take]; omega
      have hg2 := HG.out
      rw [show inoCells s.m = inoCells (s.m.take k ++ (pi, px) :: s.m.drop (k + 1)) by rw [← hsp]] at hg2
      obtain ⟨rb, ro, rfl, hS, hrl, d0, -⟩ := inoAt hg2
      rw [hpl, HK.out.ino _ (List.mem_of_getElem? hp)] at d0
      simp only at d0
      have hil : (0 : Int) ≤ k ∧ (k : Int) < s.m.length := by omega
      have hms : s.m.length - (k + 1) < s.m.length - k := by omega
      have hwr := Lib.hid (show wrap64 ((k : Int) + 1) = ((k + 1 : Nat) : Int) by unfold wrap64; omega)
      have HSP := Lib.hid hsp
      have HPL := Lib.hid hpl
      have Hlt := Lib.hid hlt
      have hbl := cell_lt c0
      clear hg2 hsp hpl hp hS
      by_cases hpi : pi = i
      · subst hpi
        have hR : FindR s pi k := Or.inr ⟨s.m.take k, s.m.drop (k + 1), by
          have hat : s.at pi = px := by
            unfold TabS.at
            rw [(mem_iff_get HK.out.nd pi px).1 (by rw [HSP.out]; simp)]; rfl
          rw [hat]; exact HSP.out, HNO.out, by rw [HPL.out]⟩
        have HR := Lib.hid hR
        clear hR
        go_wp2_with fail
        go_ret
        exact ⟨⟨_, rfl, HR.out⟩, rfl⟩
      · have hpi2 : (pi == i) = false := by simpa using hpi
        have HPI := Lib.hid hpi
        clear hpi
        go_wp2_with fail
        go_roundg (s.m.length - (k + 1))
        case measure => exact hms
        case rel => exact ⟨k + 1, rfl, Hlt.out, by first | rfl | rw [hwr.out], by
          intro p hp
          rw [List.take_succ_eq_append_getElem Hlt.out] at hp
          rcases List.mem_append.1 hp with hp | hp
          · exact HNO.out p hp
          · rw [List.mem_singleton] at hp
            have h1 : s.m[k]? = (s.m.take k ++ (pi, px) :: s.m.drop (k + 1))[k]? := by rw [← HSP.out]
            rw [List.getElem?_append_right (by rw [HPL.out]; exact Nat.le_refl _), HPL.out, Nat.sub_self, List.getElem?_eq_getElem Hlt.out] at h1
            rw [hp, Option.some.inj h1]
            exact HPI.out, rfl⟩
    · obtain rfl : k = s.m.length := by omega
      rw [List.take_length] at HNO
      have hR : FindR s i (-1) := Or.inl ⟨by
        unfold TabS.has
        rw [get_none.2 HNO.out]; rfl, rfl⟩
      have HR := Lib.hid hR
      clear hlt hkl hR
      go_wp2_with fail
      go_ret
      exact ⟨⟨_, rfl, HR.out⟩, rfl⟩
end Go.Proofs.YtakbalmbkokklaaGreat
/- the document's inodes: Make, ends -/
namespace Esch
open Go Go.RowKit

theorem heapTwoLast (W : World) (o o' : Obj) : ((W.alloc o).alloc o').heap[W.heap.size + 1]? = some o' := by
  have := heap_alloc_new (W.alloc o) o'
  simpa only [World.size_alloc] using this
theorem heapTwoFirst (W : World) (o o' : Obj) : ((W.alloc o).alloc o').heap[W.heap.size]? = some o := (Below.heap_alloc _ _ _ (by simp only [World.size_alloc]; omega)).trans (heap_alloc_new _ _)
theorem twoLt (W : World) (o o' : Obj) : W.heap.size < ((W.alloc o).alloc o').heap.size ∧ W.heap.size + 1 < ((W.alloc o).alloc o').heap.size := by simp only [World.size_alloc]; omega
theorem src_ino {P : Program} {W : World} (tx e' : TypeId) (hk : P.underlying tx = some (.slice e')) (b : Nat) (x : InS) (t : TypeId) (hb : W.heap[b]? = some (.cells (inC x).toArray t)) (c : Nat) : Src P 6 tx (.slice (some ⟨b, 0, none⟩) 1 c) 1 (inC x) W := by
  refine Src.ofSlice W hk _ 1 c (inC x) rfl (fun j u hu => ?_) (fun u hu => ?_)
  · rw [addr_add, Nat.zero_add]
    simp [World.cell?, hb, hu]
  · have := inoCells_one [(0, x)] u
    simp only [inoCells, List.flatMap_cons, List.flatMap_nil, List.append_nil] at this
    exact this hu
/-- a new row for the table -/
theorem RTabAt.setRow {w w8 : World} {b n cap' : Nat} {T : Nat → Prop} {ao' : Option Addr} {s : TabS} (h : RTabAt w b T s) (hB : Below w.heap.size w w8) {m' : List (Int × InS)} (hg : GRowAt w8 (From w.heap.size) 6 n cap' ao' (inoCells m')) (hn : n = m'.length) :
    RTabAt (w8.setCell ⟨b, 0, none⟩ (.slice ao' n cap')) b (growS T w (w8.setCell ⟨b, 0, none⟩ (.slice ao' n cap'))) ⟨m', s.next⟩ ∧ Mod T w (w8.setCell ⟨b, 0, none⟩ (.slice ao' n cap')) := by
  obtain ⟨tb, lt, ao, cap, c0, f0, c1, f1, hr⟩ := h
  have hl := lt b tb
  have hz := hB.size
  have hl8 : b < w8.heap.size := by omega
  have d0 := below_at hB c0 hl
  have d1 := below_at hB c1 hl
  have g0 := (hB.frozen (p := ⟨b, 0, none⟩) hl).trans f0
  have g1 := (hB.frozen (p := ⟨b, 1, none⟩) hl).trans f1
  subst hn
  refine ⟨⟨Or.inl tb, fun k hk => ?_, ao', cap', by go_simp, by go_simp, by go_simp, by go_simp, ?_⟩, (Mod.of_below hB).setCellAt (fun _ => tb) _⟩
  · rw [World.size_setCell]
    rcases hk with hk | hk
    · have := lt k hk; omega
    · rw [World.size_setCell] at hk; exact hk.2
  · have hM : Mod (· = b) w8 (w8.setCell ⟨b, 0, none⟩ (.slice ao' m'.length cap')) := (Mod.refl (· = b) w8).setCellAt (fun _ => rfl) _
    refine (hg.mod hM (fun k hk _ e => ?_)).sub (fun k hk hf => ⟨Or.inr ⟨hf, hk⟩, fun e => ?_⟩)
    · have hk : w.heap.size ≤ k := hk
      omega
    · have hf : w.heap.size ≤ k := hf
      omega
theorem RTabAt.setNext {w : World} {b : Nat} {T : Nat → Prop} {s : TabS} (h : RTabAt w b T s) (v : Int) : RTabAt (w.setCell ⟨b, 1, none⟩ (.int .i64 v)) b T ⟨s.m, v⟩ := by
  obtain ⟨tb, lt, ao, cap, c0, f0, c1, f1, hr⟩ := h
  have hl := lt b tb
  refine ⟨tb, fun k hk => by rw [World.size_setCell]; exact lt k hk, ao, cap, by go_simp, by go_simp, by go_simp, by go_simp, ?_⟩
  exact hr.mod ((Mod.refl (· = b) w).setCellAt (fun _ => rfl) _) (fun k hk _ e => hk.2 e)
theorem KI.setEq {s : TabS} {pre post : List (Int × InS)} {i : Int} (hs : s.m = pre ++ (i, s.at i) :: post) (hp : ∀ p ∈ pre, p.1 ≠ i) (x : InS) : Esch.set s.m i x = pre ++ (i, x) :: post := by
  rw [hs]; exact set_hit _ _ _ _ _ hp
theorem KI.delEq {s : TabS} (hk : KI s) {pre post : List (Int × InS)} {i : Int} (hs : s.m = pre ++ (i, s.at i) :: post) (hp : ∀ p ∈ pre, p.1 ≠ i) (x : InS) : del (Esch.set s.m i x) i = pre ++ post := by
  rw [KI.setEq hs hp]
  have hnd := hk.nd
  rw [hs] at hnd
  have hpost : ∀ p ∈ post, p.1 ≠ i := by
    intro p hp' e
    rw [List.map_append, List.nodup_append] at hnd
    exact (List.nodup_cons.1 hnd.2.1).1 (List.mem_map.2 ⟨p, hp', e⟩)
  unfold del
  rw [List.filter_append, List.filter_cons]
  have e1 : pre.filter (fun p => decide (p.1 ≠ i)) = pre := List.filter_eq_self.2 fun p hp' => by simpa using hp p hp'
  have e2 : post.filter (fun p => decide (p.1 ≠ i)) = post := List.filter_eq_self.2 fun p hp' => by simpa using hpost p hp'
  rw [e1, e2]; simp
end Esch
namespace Go.Proofs.YtakbalmbkokklaaGreat
open Go.RowKit Esch Go.Shelf

theorem Tryz.infoIno : (Tryz.prog.info? 135).map (fun i => (i.zero, i.size, i.bytes)) = some (some (.agg #[.int .i64 0, .int .i64 0, .int .i64 0, .int .i64 0, .int .i64 0, .slice none 0 0]), 6, 64) := by kernel_rfl
def RChg (w : World) (b : Nat) (T : Nat → Prop) (s' : TabS) (v : Value) (e : Ending) (w' : World) : Prop := e = .returned v ∧ RTabAt w' b (growS T w w') s' ∧ Mod T w w'
theorem _root_.Esch.RTabAt.chg {w w' : World} {b : Nat} {T : Nat → Prop} {s : TabS} (h : RTabAt w b T s) (v : Value) (hB : Below w.heap.size w w') : RChg w b T s v (.returned v) w' := ⟨rfl, (h.below' hB).grow, Mod.of_below hB⟩
set_option linter.unusedSimpArgs false in
set_option maxRecDepth 100000 in
set_option maxHeartbeats 8000000 in
theorem rMake_any (w : World) (b : Nat) (T : Nat → Prop) (s : TabS) (h : RTabAt w b T s) (hk : KI s) (hn0 : 0 ≤ s.next) (k : Int) (hk12 : k = 1 ∨ k = 2) (hnew : s.has s.next = false) :
    Calls Tryz.prog 125 #[.pointer (some ⟨b, 0, none⟩), .int .i64 k] w (RChg w b T (s.make k).2 (.tuple #[.int .i64 (s.make k).1.1, .int .i64 (s.make k).1.2])) := by
  have H := Lib.hid h
  have hkk : (k != 1 && k != 2) = false := by rcases hk12 with e | e <;> subst e <;> rfl
  have hl64 := hk.len
  by_cases hfull : 64 ≤ s.m.length ∨ 2147483647 ≤ s.next
  · have hm : s.make k = ((0, 67), s) := by
      unfold TabS.make
      rw [if_neg (by rcases hk12 with e | e <;> subst e <;> decide), if_pos (by omega)]
    rw [hm]
    simp only
    obtain ⟨tb, lt, ao, cap, c0, f0, c1, f1, hg⟩ := h
    clear hg f0 f1 hm hnew hn0 hkk
    have hbl := cell_lt c0
    by_cases h64 : 64 ≤ s.m.length
    · have h64' : (64 : Int) ≤ s.m.length := by omega
      clear hfull h64 hk
      rcases hk12 with rfl | rfl
      all_goals
        go_enter Tryz.func125, Tryz.ntmps125
        go_wp2_with fail
        go_ret2
        exact H.out.chg _ (Below.refl _ _)
    · have h64' : ¬ (64 : Int) ≤ s.m.length := by omega
      have hnx : (2147483647 : Int) ≤ s.next := hfull.resolve_left h64
      clear hfull h64 hk
      rcases hk12 with rfl | rfl
      all_goals
        go_enter Tryz.func125, Tryz.ntmps125
        go_wp2_with fail
        go_ret2
        exact H.out.chg _ (Below.refl _ _)
  · have hm : s.make k = ((s.next, 0), ⟨Esch.set s.m s.next ⟨s.next, k, 0, 0, 0⟩, s.next + 1⟩) := by
      unfold TabS.make
      rw [if_neg (by rcases hk12 with e | e <;> subst e <;> decide), if_neg (by omega)]
    have hmiss : Esch.set s.m s.next ⟨s.next, k, 0, 0, 0⟩ = s.m ++ [(s.next, ⟨s.next, k, 0, 0, 0⟩)] := set_miss _ _ _ (get_none.1 (by
      unfold TabS.has at hnew
      cases e : get s.m s.next with
      | none => rfl
      | some x => rw [e] at hnew; cases hnew))
    rw [hm, hmiss]
    simp only
    obtain ⟨tb, lt, ao, cap, c0, f0, c1, f1, hg⟩ := h
    have hbl := cell_lt c0
    have h64' : ¬ (64 : Int) ≤ s.m.length := by omega
    have hnx : ¬ (2147483647 : Int) ≤ s.next := by omega
    obtain ⟨j0, hi, hy0, hy1, hy2⟩ := info_parts Tryz.infoIno
    have HS := Lib.hid (show ∀ W', Mod none' w W' → Src Tryz.prog 6 136 (.slice ao s.m.length cap) s.m.length (inoCells s.m) W' from fun W' hM => (hg.mod hM (fun _ _ _ => id)).src Tryz.underlying136 (inoCells_one _))
    have h60 : s.m.length < 64 := by omega
    have hwn : wrap64 (s.next + 1) = s.next + 1 := by unfold wrap64; omega
    have hwm : wrap64 (s.next + 1 - 1) = s.next := by unfold wrap64; omega
    clear hg hfull hm hmiss hnew hkk hk hl64
    rcases hk12 with rfl | rfl
    · skip
      go_enter Tryz.func125, Tryz.ntmps125
      go_wp2_with fail
      go_region_law
        (first
          | (refine step_append_g (by rfl) (.tmp 26) (.tmp 30) 136 136 (by rfl) 135 j0 _ 64 Tryz.underlying136 hi hy0 hy1 hy2 (by rfl) (by rfl) (GRowAt.nil _ none' 6 _) _ s.m.length (inoCells s.m) (by rfl) (HS.out _ (by exact modC (Mod.refl _ _))) (by omega) (by omega) ?_
             intro a6 cap6 w6 hg6 hM6 hz6
             simp only [Nat.zero_add, List.nil_append] at hg6
             have hMW6 : Mod none' w w6 := Mod.trans (by exact modC (Mod.refl _ _)) hM6
             have c06 := hMW6.at c0 id
             have c16 := hMW6.at c1 id
             have f06 := (hMW6.frozen (p := ⟨b, 0, none⟩) hbl id).trans f0
             have hz6' := hMW6.size
             have hbl6 : b < w6.heap.size := Nat.lt_of_lt_of_le hbl hMW6.size)
          | (refine step_append_g (by rfl) (.tmp 31) (.tmp 38) 136 136 (by rfl) 135 j0 _ 64 Tryz.underlying136 hi hy0 hy1 hy2 (by rfl) (by rfl) (hg6.mod (F := none') (by exact modC (Mod.refl _ _)) (fun _ _ _ => id)) _ 1 (inC ⟨s.next, 1, 0, 0, 0⟩) (by rfl) (src_ino _ _ Tryz.underlying136 _ ⟨s.next, 1, 0, 0, 0⟩ 135 (by first | exact heap_alloc_new _ _ | exact (hM6.block _ (twoLt _ _ _).2 id).trans (heapTwoLast _ _ _) | exact (hM6.block _ (twoLt _ _ _).1 id).trans (heapTwoFirst _ _ _)) _) (by omega) (by omega) ?_
             intro a8 cap8 w8 hg8 hM8 hz8
             have hB8 : Below w.heap.size w w8 := Below.trans (show Below w.heap.size w _ from by
               have hB6 := hMW6.below
               exact belC hB6) (hM8.below_at (by first | exact hz6' | (simp only [World.size_alloc]; exact Nat.le_trans hz6' (by omega)) | (simp; omega)) (fun k hk e => by
               rcases e with e | e
               · exact e
               · simp at e; omega))
             have c08 := below_at hB8 c0 hbl
             have f08 := (hB8.frozen (p := ⟨b, 0, none⟩) hbl).trans f0)
          | fail)
      all_goals
        have hgE : GRowAt w8 (From w.heap.size) 6 (s.m.length + 1) cap8 a8 (inoCells (s.m ++ [(s.next, ⟨s.next, 1, 0, 0, 0⟩)])) := by
          rw [inoCells_app]
          exact hg8.sub (T := From w.heap.size) (fun k _ hk => by
            show w.heap.size ≤ k
            rcases hk with (hk | hk) | hk
            · exact hk.elim
            · first
                | omega
                | (simp at hk; omega)
            · first
                | omega
                | (simp at hk; omega))
        obtain ⟨hS, hMS⟩ := H.out.setRow hB8 hgE (by simp)
        obtain ⟨w9, hw9⟩ : ∃ w9, w9 = w8.setCell ⟨b, 0, none⟩ (.slice a8 (s.m.length + 1) cap8) := ⟨_, rfl⟩
        rw [← hw9] at hS hMS ⊢
        have HS9 := Lib.hid hS
        have HMS := Lib.hid hMS
        obtain ⟨tb9, lt9, ao9, cap9, -, -, d1, g1, -⟩ := hS
        have hl9 := cell_lt d1
        clear hw9 hMS hgE hg8 hM8 hB8 hg6 hM6 hMW6 c06 c16 f06 c08 f08 lt9
        simp only at d1
        go_wp2_with fail
        go_ret2
        exact ⟨rfl, (HS9.out.setNext (s.next + 1)).wide (fun k hk => by rcases hk with hk | hk; (· exact Or.inl hk); (· exact Or.inr ⟨hk.1, by rw [World.size_setCell]; exact hk.2⟩)) (fun k hk => by
          rw [World.size_setCell]
          have := HMS.out.size
          rcases hk with hk | hk
          · have := H.out.lt k hk; omega
          · rw [World.size_setCell] at hk; exact hk.2), HMS.out.setCellAt (fun _ => tb) _⟩
    · skip
      go_enter Tryz.func125, Tryz.ntmps125
      go_wp2_with fail
      go_region_law
        (first
          | (refine step_append_g (by rfl) (.tmp 26) (.tmp 30) 136 136 (by rfl) 135 j0 _ 64 Tryz.underlying136 hi hy0 hy1 hy2 (by rfl) (by rfl) (GRowAt.nil _ none' 6 _) _ s.m.length (inoCells s.m) (by rfl) (HS.out _ (by exact modC (Mod.refl _ _))) (by omega) (by omega) ?_
             intro a6 cap6 w6 hg6 hM6 hz6
             simp only [Nat.zero_add, List.nil_append] at hg6
             have hMW6 : Mod none' w w6 := Mod.trans (by exact modC (Mod.refl _ _)) hM6
             have c06 := hMW6.at c0 id
             have c16 := hMW6.at c1 id
             have f06 := (hMW6.frozen (p := ⟨b, 0, none⟩) hbl id).trans f0
             have hz6' := hMW6.size
             have hbl6 : b < w6.heap.size := Nat.lt_of_lt_of_le hbl hMW6.size)
          | (refine step_append_g (by rfl) (.tmp 31) (.tmp 38) 136 136 (by rfl) 135 j0 _ 64 Tryz.underlying136 hi hy0 hy1 hy2 (by rfl) (by rfl) (hg6.mod (F := none') (by exact modC (Mod.refl _ _)) (fun _ _ _ => id)) _ 1 (inC ⟨s.next, 2, 0, 0, 0⟩) (by rfl) (src_ino _ _ Tryz.underlying136 _ ⟨s.next, 2, 0, 0, 0⟩ 135 (by first | exact heap_alloc_new _ _ | exact (hM6.block _ (twoLt _ _ _).2 id).trans (heapTwoLast _ _ _) | exact (hM6.block _ (twoLt _ _ _).1 id).trans (heapTwoFirst _ _ _)) _) (by omega) (by omega) ?_
             intro a8 cap8 w8 hg8 hM8 hz8
             have hB8 : Below w.heap.size w w8 := Below.trans (show Below w.heap.size w _ from by
               have hB6 := hMW6.below
               exact belC hB6) (hM8.below_at (by first | exact hz6' | (simp only [World.size_alloc]; exact Nat.le_trans hz6' (by omega)) | (simp; omega)) (fun k hk e => by
               rcases e with e | e
               · exact e
               · simp at e; omega))
             have c08 := below_at hB8 c0 hbl
             have f08 := (hB8.frozen (p := ⟨b, 0, none⟩) hbl).trans f0)
          | fail)
      all_goals
        have hgE : GRowAt w8 (From w.heap.size) 6 (s.m.length + 1) cap8 a8 (inoCells (s.m ++ [(s.next, ⟨s.next, 2, 0, 0, 0⟩)])) := by
          rw [inoCells_app]
          exact hg8.sub (T := From w.heap.size) (fun k _ hk => by
            show w.heap.size ≤ k
            rcases hk with (hk | hk) | hk
            · exact hk.elim
            · first
                | omega
                | (simp at hk; omega)
            · first
                | omega
                | (simp at hk; omega))
        obtain ⟨hS, hMS⟩ := H.out.setRow hB8 hgE (by simp)
        obtain ⟨w9, hw9⟩ : ∃ w9, w9 = w8.setCell ⟨b, 0, none⟩ (.slice a8 (s.m.length + 1) cap8) := ⟨_, rfl⟩
        rw [← hw9] at hS hMS ⊢
        have HS9 := Lib.hid hS
        have HMS := Lib.hid hMS
        obtain ⟨tb9, lt9, ao9, cap9, -, -, d1, g1, -⟩ := hS
        have hl9 := cell_lt d1
        clear hw9 hMS hgE hg8 hM8 hB8 hg6 hM6 hMW6 c06 c16 f06 c08 f08 lt9
        simp only at d1
        go_wp2_with fail
        go_ret2
        exact ⟨rfl, (HS9.out.setNext (s.next + 1)).wide (fun k hk => by rcases hk with hk | hk; (· exact Or.inl hk); (· exact Or.inr ⟨hk.1, by rw [World.size_setCell]; exact hk.2⟩)) (fun k hk => by
          rw [World.size_setCell]
          have := HMS.out.size
          rcases hk with hk | hk
          · have := H.out.lt k hk; omega
          · rw [World.size_setCell] at hk; exact hk.2), HMS.out.setCellAt (fun _ => tb) _⟩
end Go.Proofs.YtakbalmbkokklaaGreat
/- the document's inodes: ends, Link -/
namespace Esch
open Go Go.RowKit
theorem if_addr (A B : Addr) (c : Prop) [Decidable c] : ∃ X : Addr, (if c then some A else some B) = some X := by split <;> exact ⟨_, rfl⟩
theorem inoCells_set {pre post : List (Int × InS)} {i : Int} {x y : InS} {j : Nat} {v : Value} (hj : j < 6) (hxy : (inC x).set j v = inC y) : (inoCells (pre ++ (i, x) :: post)).set (pre.length * 6 + j) v = inoCells (pre ++ (i, y) :: post) := by
  rw [inoCells_app, inoCells_app, List.set_append_right _ _ (by rw [inoCells_len]; omega), inoCells_len, Nat.add_sub_cancel_left]
  show _ ++ (inC x ++ inoCells post).set j v = _ ++ (inC y ++ inoCells post)
  rw [List.set_append_left _ _ (by show j < 6; exact hj), hxy]
/-- a changed cell of an inode -/
theorem RTabAt.put {w : World} {b : Nat} {T : Nat → Prop} {pre post : List (Int × InS)} {i nx : Int} {x y : InS} (h : RTabAt w b T ⟨pre ++ (i, x) :: post, nx⟩) {rb ro cap : Nat} (hc : w.cell? ⟨b, 0, none⟩ = some (.slice (some ⟨rb, ro, none⟩) (pre ++ (i, x) :: post).length cap)) {j : Nat} {v : Value} (hj : j < 6) (hxy : (inC x).set j v = inC y) :
    RTabAt (w.setCell ⟨rb, ro + pre.length * 6 + j, none⟩ v) b T ⟨pre ++ (i, y) :: post, nx⟩ ∧ T rb := by
  obtain ⟨tb, lt, ao, cap2, c0, f0, c1, f1, hr⟩ := h
  rw [hc] at c0
  simp only [Option.some.injEq, Value.slice.injEq, true_and] at c0
  obtain ⟨rfl, rfl⟩ := c0
  simp only at hr
  have hx := hr.xsLen
  have hle := hr.le
  obtain ⟨rb2, ro2, e, hS, hl, -, -⟩ := hr.at' (by rw [List.length_append, List.length_cons] at hle; omega)
  cases e
  have hbl := lt b tb
  have hp := GRowAt.put1 hr (i := pre.length * 6 + j) (by rw [List.length_append, List.length_cons]; omega) v
  rw [inoCells_set hj hxy, ← Nat.add_assoc] at hp
  have hlen : (pre ++ (i, y) :: post).length = (pre ++ (i, x) :: post).length := by simp
  refine ⟨⟨tb, fun k hk => by rw [World.size_setCell]; exact lt k hk, some ⟨rb, ro, none⟩, cap, ?_, ?_, ?_, ?_, ?_⟩, hS.1⟩
  · show _ = some (Value.slice _ (pre ++ (i, y) :: post).length _)
    rw [hlen]
    have hne : (⟨rb, ro + pre.length * 6 + j, none⟩ : Addr) ≠ ⟨b, 0, none⟩ := fun e => hS.2 (congrArg Addr.block e)
    refine Eq.trans ?_ hc
    apply World.cell?_setCell_other; exact hne
  · exact (World.frozen?_setCell _ _ _ _).trans f0
  · have hne : (⟨rb, ro + pre.length * 6 + j, none⟩ : Addr) ≠ ⟨b, 1, none⟩ := fun e => hS.2 (congrArg Addr.block e)
    refine Eq.trans ?_ c1
    apply World.cell?_setCell_other; exact hne
  · exact (World.frozen?_setCell _ _ _ _).trans f1
  · show GRowAt _ _ 6 (pre ++ (i, y) :: post).length _ _ _
    rw [hlen]
    exact hp
end Esch
namespace Go.Proofs.YtakbalmbkokklaaGreat
open Go.RowKit Esch Go.Shelf

set_option maxRecDepth 100000 in
set_option maxHeartbeats 8000000 in
theorem rEnds_stay (w : World) (b : Nat) (T : Nat → Prop) (pre post : List (Int × InS)) (i nx : Int) (x : InS) (h : RTabAt w b T ⟨pre ++ (i, x) :: post, nx⟩) (hx : ¬ (x.links = 0 ∧ x.opens = 0)) :
    Calls Tryz.prog 130 #[.pointer (some ⟨b, 0, none⟩), .int .i64 (pre.length : Nat)] w (fun e w' => e = .returned (.tuple #[]) ∧ ∃ n, w' = w.drewN n) := by
  obtain ⟨tb, lt, ao, cap, c0, f0, c1, f1, hg⟩ := h
  simp only at c0
  obtain ⟨rb, ro, rfl, hS, hrl, d0, d1, d2, d3, d4, d5, df⟩ := inoAt hg
  have hlen : pre.length < (pre ++ (i, x) :: post).length := by rw [List.length_append, List.length_cons]; omega
  generalize (pre ++ (i, x) :: post).length = n at *
  have hil : (0 : Int) ≤ (pre.length : Nat) ∧ ((pre.length : Nat) : Int) < n := by omega
  have hbl := cell_lt c0
  obtain ⟨x0, x1, x2, x3, x4⟩ := x
  simp only at d2 d3 hx
  clear hg f0 c1 f1 d0 d1 d4 d5 df hS
  by_cases h2 : x2 = 0
  · have h3 : (x3 == 0) = false := by simpa using fun e => hx ⟨h2, e⟩
    subst h2
    clear hx
    go_enter Tryz.func130, Tryz.ntmps130
    go_wp2_with fail
    go_end0
    exact ⟨rfl, 0, rfl⟩
  · have h3 : (x2 == 0) = false := by simpa using h2
    clear hx h2
    go_enter Tryz.func130, Tryz.ntmps130
    go_wp2_with fail
    go_end0
    exact ⟨rfl, 0, rfl⟩
set_option linter.unusedSimpArgs false in
set_option maxRecDepth 100000 in
set_option maxHeartbeats 8000000 in
theorem rEnds_gone (w : World) (b : Nat) (T : Nat → Prop) (pre post : List (Int × InS)) (i nx : Int) (x : InS) (h : RTabAt w b T ⟨pre ++ (i, x) :: post, nx⟩) (h64 : (pre ++ (i, x) :: post).length ≤ 64) (hx : x.links = 0 ∧ x.opens = 0) :
    Calls Tryz.prog 130 #[.pointer (some ⟨b, 0, none⟩), .int .i64 (pre.length : Nat)] w (RChg w b T ⟨pre ++ post, nx⟩ (.tuple #[])) := by
  have H := Lib.hid h
  obtain ⟨tb, lt, ao, cap, c0, f0, c1, f1, hg⟩ := h
  simp only at c0 c1
  obtain ⟨rb, ro, rfl, hS, hrl, d0, d1, d2, d3, d4, d5, df⟩ := inoAt hg
  have hlen : (pre ++ (i, x) :: post).length = pre.length + (post.length + 1) := by rw [List.length_append, List.length_cons]
  have htk : (pre ++ (i, x) :: post).take pre.length = pre := by simp
  have hdr : (pre ++ (i, x) :: post).drop (pre.length + 1) = post := by simp [List.drop_append]
  obtain ⟨k, hk⟩ : ∃ k, k = pre.length := ⟨_, rfl⟩
  obtain ⟨n, hn⟩ : ∃ n, n = (pre ++ (i, x) :: post).length := ⟨_, rfl⟩
  simp only at hg
  rw [← hn] at hg c0 hlen h64
  rw [← hk] at hlen htk hdr d2 d3 ⊢
  have hle := hg.le
  have hmx := hg.max
  have i0 : (0 : Int) ≤ k := by omega
  have i1 : (k : Int) < n := by omega
  have i2 : (n : Int) ≤ cap := by omega
  have i3 : (cap : Int) ≤ 9223372036854775807 := by omega
  have n0 : k ≤ cap := by omega
  have n1 : k + 1 ≤ n := by omega
  have n2 : k + 1 ≤ cap := by omega
  have i4 : IntKind.i64.wrap ((k : Int) + 1) = ((k + 1 : Nat) : Int) := by rw [IntKind.wrap_i64]; omega
  have i5 : (0 : Int) ≤ (k : Int) + 1 := by omega
  have i6 : (k : Int) + 1 ≤ n := by omega
  have hbl := cell_lt c0
  obtain ⟨A, hA⟩ := if_addr ⟨rb, ro, none⟩ ⟨rb, ro + (k + 1) * 6, none⟩ (cap = k + 1)
  obtain ⟨j0, hi, hy0, hy1, hy2⟩ := info_parts Tryz.infoIno
  have HS : Hid (∀ W, Mod none' w W → Src Tryz.prog 6 136 (.slice (some ⟨rb, ro, none⟩) k cap) k (inoCells pre) W ∧ Src Tryz.prog 6 136 (.slice (some A) (n - (k + 1)) (cap - (k + 1))) (n - (k + 1)) (inoCells post) W) := Lib.hid (fun W hM => by
    have hr := hg.mod hM (fun _ _ _ => id)
    have h1 := hr.take (k := k) (c := cap) (by omega) (by omega) (Nat.le_refl _)
    have h2 := hr.srcTail (k := k + 1) (by omega) hA Tryz.underlying136 (inoCells_one _)
    rw [inoCells_take, htk] at h1
    rw [inoCells_drop, hdr] at h2
    exact ⟨h1.src Tryz.underlying136 (inoCells_one _), h2⟩)
  have Hn := Lib.hid (show n - (k + 1) = post.length by omega)
  have Hk := Lib.hid hk
  obtain ⟨x0, x1, x2, x3, x4⟩ := x
  simp only at d2 d3 hx
  obtain ⟨rfl, rfl⟩ := hx
  clear hg f1 d0 d1 d4 d5 df hS hlen htk hdr hn hk
  go_enter Tryz.func130, Tryz.ntmps130
  go_wp2_with fail
  go_region_law
    (first
      | (refine step_append_g (by rfl) (.tmp 25) (.tmp 31) 136 136 (by rfl) 135 j0 _ 64 Tryz.underlying136 hi hy0 hy1 hy2 (by rfl) (by rfl) (GRowAt.nil _ none' 6 _) _ k (inoCells pre) (by rfl) (HS.out _ (by exact modC (Mod.refl _ _))).1 (by omega) (by omega) ?_
         intro a6 cap6 w6 hg6 hM6 hz6
         simp only [Nat.zero_add, List.nil_append] at hg6
         have hMW6 : Mod none' w w6 := Mod.trans (by exact modC (Mod.refl _ _)) hM6
         have c06 := hMW6.at c0 id
         have f06 := (hMW6.frozen (p := ⟨b, 0, none⟩) hbl id).trans f0
         have hz6' := hMW6.size
         have hbl6 : b < w6.heap.size := Nat.lt_of_lt_of_le hbl hMW6.size)
      | (refine step_append_g (by rfl) (.tmp 32) (.tmp 39) 136 136 (by rfl) 135 j0 _ 64 Tryz.underlying136 hi hy0 hy1 hy2 (by rfl) (by rfl) (hg6.mod (F := none') (by exact modC (Mod.refl _ _)) (fun _ _ _ => id)) _ (n - (k + 1)) (inoCells post) (by rfl) (HS.out _ (Mod.trans hMW6 (by exact modC (Mod.refl _ _)))).2 (by omega) (by omega) ?_
         intro a8 cap8 w8 hg8 hM8 hz8
         have hB8 : Below w.heap.size w w8 := Below.trans (show Below w.heap.size w _ from by
           have hB6 := hMW6.below
           exact belC hB6) (hM8.below_at (by first | exact hz6' | (simp only [World.size_alloc]; exact Nat.le_trans hz6' (by omega)) | (simp; omega)) (fun j hj e => by
           rcases e with e | e
           · exact e
           · simp at e; omega))
         have c08 := below_at hB8 c0 hbl
         have f08 := (hB8.frozen (p := ⟨b, 0, none⟩) hbl).trans f0)
      | fail)
  all_goals
    have hgE : GRowAt w8 (From w.heap.size) 6 (k + (n - (k + 1))) cap8 a8 (inoCells (pre ++ post)) := by
      rw [inoCells_app]
      exact hg8.sub (fun j _ hj => by
        show w.heap.size ≤ j
        rcases hj with (hj | hj) | hj
        · exact hj.elim
        · first
            | omega
            | (simp at hj; omega)
        · first
            | omega
            | (simp at hj; omega))
    obtain ⟨hS9, hMS9⟩ := H.out.setRow hB8 hgE (by rw [List.length_append, Hk.out, ← Hn.out, Hk.out])
    have HS9 := Lib.hid hS9
    have HM9 := Lib.hid hMS9
    clear hgE hg8 hM8 hB8 hg6 hM6 hMW6 hS9 hMS9
    go_wp2_with fail
    go_end0
    exact ⟨rfl, HS9.out, HM9.out⟩
end Go.Proofs.YtakbalmbkokklaaGreat
/- the document's inodes: Link -/
namespace Esch
open Go Go.RowKit
theorem keep_eq {s : TabS} (hk : KI s) {pre post : List (Int × InS)} {i : Int} (hs : s.m = pre ++ (i, s.at i) :: post) (hp : ∀ p ∈ pre, p.1 ≠ i) {x : InS} (hx : x.ino = i) (may : Bool) :
    s.keep x may = ⟨if may = true ∧ x.links + x.opens = 0 then pre ++ post else pre ++ (i, x) :: post, s.next⟩ := by
  unfold TabS.keep
  rw [hx]
  split
  · rw [hk.delEq hs hp]
  · rw [KI.setEq hs hp]
end Esch
namespace Go.Proofs.YtakbalmbkokklaaGreat
open Go.RowKit Esch Go.Shelf

theorem bw_drewN {w : World} (n : Nat) : Below w.heap.size w (w.drewN n) := below_drewN (Below.refl _ _) n
set_option maxRecDepth 100000 in
set_option maxHeartbeats 8000000 in
theorem rLink_any (w : World) (b : Nat) (T : Nat → Prop) (s : TabS) (h : RTabAt w b T s) (hk : KI s) (hok : ∀ i, (s.at i).ok) (i by' : Int) (hb : by' = 1 ∨ by' = -1) :
    Calls Tryz.prog 105 #[.pointer (some ⟨b, 0, none⟩), .int .i64 i, .int .i64 by'] w (RChg w b T (s.link i by').2 (.int .i64 (s.link i by').1)) := by
  have hfi := rFind_any w b T s h hk i
  have H := Lib.hid h
  cases hh : s.has i with
  | false =>
    have hl : s.link i by' = (60, s) := by unfold TabS.link; rw [if_pos hh]
    rw [hl]
    clear h hl
    have Hh := Lib.hid hh
    clear hh
    go_enter Tryz.func105, Tryz.ntmps105
    go_wp2_with fail
    refine hfi.mono ?_
    clear hfi
    rintro e w1 ⟨⟨r, rfl, hr⟩, rfl⟩
    rcases hr with ⟨-, rfl⟩ | ⟨pre, post, hs, -, -⟩
    rotate_left 1
    · exfalso
      have := has_mem.2 (show i ∈ s.m.map (·.1) by rw [hs]; simp)
      rw [Hh.out] at this
      cases this
    go_wp2_with fail
    go_ret
    exact H.out.chg _ (Below.refl _ _)
  | true =>
    have Hh := Lib.hid hh
    by_cases h1 : i = 1
    · have hl : s.link i by' = (1, s) := by unfold TabS.link; rw [if_neg (by rw [hh]; decide), if_pos (Or.inr h1)]
      rw [hl]
      subst h1
      clear h hl hh
      have hc1 : (by' != 1 && by' != -1) = false := by rcases hb with e | e <;> subst e <;> rfl
      rcases hb with rfl | rfl
      all_goals
        go_enter Tryz.func105, Tryz.ntmps105
        go_wp2_with fail
        refine hfi.mono ?_
        clear hfi
        rintro e w1 ⟨⟨r, rfl, hr⟩, rfl⟩
        rcases hr with ⟨hf, -⟩ | ⟨pre, post, hs, -, rfl⟩
        · exfalso
          rw [Hh.out] at hf; cases hf
        have hnn : ¬ ((pre.length : Nat) : Int) < 0 := by omega
        clear hs
        go_wp2_with fail
        go_ret
        exact H.out.chg _ (Below.refl _ _)
    · have hi1 : (i == 1) = false := by simpa using h1
      have hxo := hok i
      have HK := Lib.hid hk
      have hls : s.link i by' = if (s.at i).links + by' < 0 ∨ 8 < (s.at i).links + by' then (66, s) else (0, s.keep { s.at i with links := (s.at i).links + by' } (decide (by' < 0))) := by
        unfold TabS.link
        rw [if_neg (by rw [hh]; decide), if_neg (fun e => by rcases e with e | e; (· rcases hb with e1 | e1; (· exact e.1 e1); (· exact e.2 e1)); (· exact h1 e))]
      rw [hls]
      clear hls
      have hino : (s.at i).ino = i := by
        obtain ⟨pre, post, hs, -⟩ := find_split s hh
        exact hk.ino (i, s.at i) (by rw [hs]; simp)
      have HSS := Lib.hid (show ∀ pre post, s.m = pre ++ (i, s.at i) :: post → (∀ p ∈ pre, p.1 ≠ i) → ∀ y : InS, y.ino = i → ∀ may, s.keep y may = ⟨if may = true ∧ y.links + y.opens = 0 then pre ++ post else pre ++ (i, y) :: post, s.next⟩ from fun pre post h1 h2 y hy may => keep_eq hk h1 h2 hy may)
      have HX := Lib.hid (show ∀ pre post, s.m = pre ++ (i, s.at i) :: post → RTabAt w b T ⟨pre ++ (i, s.at i) :: post, s.next⟩ from fun pre post hs => by rw [← hs]; exact h)
      have hl64 := hk.len
      obtain ⟨x, hx⟩ : ∃ x, x = s.at i := ⟨_, rfl⟩
      rw [← hx] at hino hxo HSS HX ⊢
      have hl0 := hxo.l0
      have hl8 := hxo.l1
      have ho0 := hxo.o0
      have HXE := Lib.hid hx
      have HL64 := Lib.hid hl64
      obtain ⟨tb, lt, ao, cap, c0, f0, c1, f1, hg⟩ := h
      have HG := Lib.hid hg
      have hbl := cell_lt c0
      clear hx hxo hg f0 c1 f1 hk hok hl64 hh
      rcases hb with rfl | rfl
      · by_cases h8 : 8 < x.links + 1
        · rw [if_pos (Or.inr h8)]
          have hwl : wrap64 (x.links + 1) = x.links + 1 := by unfold wrap64; omega
          have h80 : ¬ x.links + 1 < 0 := by omega
          go_enter Tryz.func105, Tryz.ntmps105
          go_wp2_with fail
          refine hfi.mono ?_
          clear hfi
          rintro e w1 ⟨⟨r, rfl, hr⟩, rfl⟩
          rcases hr with ⟨hf, -⟩ | ⟨pre, post, hs, hno, rfl⟩
          · exfalso
            rw [Hh.out] at hf; cases hf
          rw [← HXE.out] at hs
          have HPP := Lib.hid hs
          have HNO := Lib.hid hno
          obtain ⟨rb, ro, rfl, hS, hrl, d0, d1, d2, d3, d4, d5, df⟩ := inoAt (x := x) (pre := pre) (post := post) (i := i) (by rw [← hs]; exact HG.out)
          have hnn : ¬ ((pre.length : Nat) : Int) < 0 := by omega
          have hpl : pre.length < s.m.length := by rw [hs, List.length_append, List.length_cons]; omega
          have hil : (0 : Int) ≤ (pre.length : Nat) ∧ ((pre.length : Nat) : Int) < s.m.length := by omega
          have df2 := df 2 (by omega)
          clear hs hno d0 d1 d3 d4 d5 df hpl hS
          go_wp2_with fail
          go_ret
          exact H.out.chg _ (Below.refl _ _)
        · rw [if_neg (by omega)]
          have hwl : wrap64 (x.links + 1) = x.links + 1 := by unfold wrap64; omega
          have h80 : ¬ x.links + 1 < 0 := by omega
          obtain ⟨st, hst⟩ : ∃ st, st = s.keep { x with links := x.links + 1 } (decide ((1 : Int) < 0)) := ⟨_, rfl⟩
          rw [← hst]
          have HST := Lib.hid hst
          have HINO := Lib.hid hino
          clear hst hino
          go_enter Tryz.func105, Tryz.ntmps105
          go_wp2_with fail
          refine hfi.mono ?_
          clear hfi
          rintro e w1 ⟨⟨r, rfl, hr⟩, rfl⟩
          rcases hr with ⟨hf, -⟩ | ⟨pre, post, hs, hno, rfl⟩
          · exfalso
            rw [Hh.out] at hf; cases hf
          rw [← HXE.out] at hs
          have HPP := Lib.hid hs
          have HNO := Lib.hid hno
          obtain ⟨rb, ro, rfl, hS, hrl, d0, d1, d2, d3, d4, d5, df⟩ := inoAt (x := x) (pre := pre) (post := post) (i := i) (by rw [← hs]; exact HG.out)
          have hnn : ¬ ((pre.length : Nat) : Int) < 0 := by omega
          have hpl : pre.length < s.m.length := by rw [hs, List.length_append, List.length_cons]; omega
          have hil : (0 : Int) ≤ (pre.length : Nat) ∧ ((pre.length : Nat) : Int) < s.m.length := by omega
          have df2 := df 2 (by omega)
          clear hs hno d0 d1 d3 d4 d5 df hpl hS
          have hkp := HSS.out pre post HPP.out HNO.out { x with links := x.links + 1 } HINO.out (decide ((1 : Int) < 0))
          rw [if_neg (fun e => absurd e.1 (by decide))] at hkp
          have hst2 := HST.out.trans hkp
          subst hst2
          obtain ⟨hp1, hp2⟩ := (HX.out pre post HPP.out).put (y := { x with links := x.links + 1 }) (j := 2) (v := .int .i64 (x.links + 1)) (by rw [← HPP.out]; exact c0) (by omega) rfl
          have HP1 := Lib.hid hp1
          clear hkp hp1
          go_wp2_with fail
          go_ret
          exact ⟨rfl, HP1.out.grow, (Mod.refl T w1).setCellAt (fun _ => hp2) _⟩
      · have hwl : wrap64 (x.links + -1) = x.links + -1 := by unfold wrap64; omega
        have h88 : ¬ 8 < x.links + -1 := by omega
        by_cases h0 : x.links + -1 < 0
        · rw [if_pos (Or.inl h0)]
          go_enter Tryz.func105, Tryz.ntmps105
          go_wp2_with fail
          refine hfi.mono ?_
          clear hfi
          rintro e w1 ⟨⟨r, rfl, hr⟩, rfl⟩
          rcases hr with ⟨hf, -⟩ | ⟨pre, post, hs, hno, rfl⟩
          · exfalso
            rw [Hh.out] at hf; cases hf
          rw [← HXE.out] at hs
          have HPP := Lib.hid hs
          have HNO := Lib.hid hno
          obtain ⟨rb, ro, rfl, hS, hrl, d0, d1, d2, d3, d4, d5, df⟩ := inoAt (x := x) (pre := pre) (post := post) (i := i) (by rw [← hs]; exact HG.out)
          have hnn : ¬ ((pre.length : Nat) : Int) < 0 := by omega
          have hpl : pre.length < s.m.length := by rw [hs, List.length_append, List.length_cons]; omega
          have hil : (0 : Int) ≤ (pre.length : Nat) ∧ ((pre.length : Nat) : Int) < s.m.length := by omega
          have df2 := df 2 (by omega)
          clear hs hno d0 d1 d3 d4 d5 df hpl hS
          go_wp2_with fail
          go_ret
          exact H.out.chg _ (Below.refl _ _)
        · rw [if_neg (by omega)]
          obtain ⟨st, hst⟩ : ∃ st, st = s.keep { x with links := x.links + -1 } (decide ((-1 : Int) < 0)) := ⟨_, rfl⟩
          rw [← hst]
          have HST := Lib.hid hst
          have HINO := Lib.hid hino
          clear hst hino
          go_enter Tryz.func105, Tryz.ntmps105
          go_wp2_with fail
          refine hfi.mono ?_
          clear hfi
          rintro e w1 ⟨⟨r, rfl, hr⟩, rfl⟩
          rcases hr with ⟨hf, -⟩ | ⟨pre, post, hs, hno, rfl⟩
          · exfalso
            rw [Hh.out] at hf; cases hf
          rw [← HXE.out] at hs
          have HPP := Lib.hid hs
          have HNO := Lib.hid hno
          obtain ⟨rb, ro, rfl, hS, hrl, d0, d1, d2, d3, d4, d5, df⟩ := inoAt (x := x) (pre := pre) (post := post) (i := i) (by rw [← hs]; exact HG.out)
          have hnn : ¬ ((pre.length : Nat) : Int) < 0 := by omega
          have hpl : pre.length < s.m.length := by rw [hs, List.length_append, List.length_cons]; omega
          have hil : (0 : Int) ≤ (pre.length : Nat) ∧ ((pre.length : Nat) : Int) < s.m.length := by omega
          have df2 := df 2 (by omega)
          clear hs hno d0 d1 d3 d4 d5 df hpl hS
          have hkp := HSS.out pre post HPP.out HNO.out { x with links := x.links + -1 } HINO.out (decide ((-1 : Int) < 0))
          obtain ⟨hp1, hp2⟩ := (HX.out pre post HPP.out).put (y := { x with links := x.links + -1 }) (j := 2) (v := .int .i64 (x.links + -1)) (by rw [← HPP.out]; exact c0) (by omega) rfl
          have HP2 := Lib.hid hp2
          have HM := Lib.hid ((Mod.refl T w1).setCellAt (b := rb) (o := ro + pre.length * 6 + 2) (fun _ => hp2) (.int .i64 (x.links + -1)))
          have hzz : (w1.setCell ⟨rb, ro + pre.length * 6 + 2, none⟩ (.int .i64 (x.links + -1))).heap.size = w1.heap.size := World.size_setCell _ _ _
          by_cases hz : x.links + -1 + x.opens = 0
          · rw [if_pos ⟨rfl, hz⟩] at hkp
            have hst2 := HST.out.trans hkp
            subst hst2
            have hen := rEnds_gone _ b T pre post i s.next { x with links := x.links + -1 } hp1 (by have := HL64.out; rw [HPP.out] at this; simpa using this) ⟨by show x.links + -1 = 0; omega, by show x.opens = 0; omega⟩
            have HZZ := Lib.hid hzz
            clear hkp hp1 hp2 hz hzz
            go_wp2_with fail
            refine hen.mono ?_
            clear hen
            rintro e w3 ⟨rfl, hT3, hM3⟩
            have HT3 := Lib.hid hT3
            have HM3 := Lib.hid hM3
            clear hT3 hM3
            go_wp2_with fail
            go_ret
            refine ⟨rfl, HT3.out.wide (fun k hk => ?_) (fun k hk => ?_), HM.out.trans HM3.out⟩
            · rcases hk with hk | hk
              · exact Or.inl hk
              · rw [HZZ.out] at hk; exact Or.inr hk
            · rcases hk with hk | hk
              · have := lt k hk; have := HM3.out.size; rw [HZZ.out] at this; omega
              · exact hk.2
          · rw [if_neg (fun e => hz e.2)] at hkp
            have hst2 := HST.out.trans hkp
            subst hst2
            have hen := rEnds_stay _ b T pre post i s.next { x with links := x.links + -1 } hp1 (fun e => hz (by have h1 : x.links + -1 = 0 := e.1; have h2 : x.opens = 0 := e.2; omega))
            have HP1 := Lib.hid hp1
            clear hkp hp1 hp2 hz hzz
            go_wp2_with fail
            refine hen.mono ?_
            clear hen
            rintro e w3 ⟨rfl, q, rfl⟩
            go_wp2_with fail
            go_ret
            exact ⟨rfl, (HP1.out.below' (bw_drewN q)).grow.wide (fun k hk => hk) (fun k hk => by rcases hk with hk | hk; (· have := lt k hk; simp; omega); (· exact hk.2)), HM.out.trans (Mod.of_below (bw_drewN q))⟩
end Go.Proofs.YtakbalmbkokklaaGreat
/- the document's extents, of a file without parts: Good, spread, gather, Cut -/
namespace Esch
open Go Go.RowKit
/-- a row of 8192 pairs of numbers in one block; so many of the first are -1 -/
structure SpAt (w : World) (b : Nat) (k : Nat) : Prop where
  lt : b < w.heap.size
  all : ∀ j, j < 16384 → (∃ v : Int, w.cell? ⟨b, j, none⟩ = some (.int .i64 v)) ∧ w.frozen? ⟨b, j, none⟩ = false
  hole : ∀ i, i < k → w.cell? ⟨b, i * 2, none⟩ = some (.int .i64 (-1))
theorem SpAt.put {w : World} {b k i : Nat} (h : SpAt w b k) (hi : i < 8192) {k' : Nat} (hk : ∀ j, j < k' → j < k ∨ j = i) : SpAt (w.setCell ⟨b, i * 2, none⟩ (.int .i64 (-1))) b k' := by
  obtain ⟨v, hv⟩ := (h.all (i * 2) (by omega)).1
  have hs : (w.setCell ⟨b, i * 2, none⟩ (.int .i64 (-1))).cell? ⟨b, i * 2, none⟩ = some (.int .i64 (-1)) := by go_simp
  have ho : ∀ j, j ≠ i * 2 → (w.setCell ⟨b, i * 2, none⟩ (.int .i64 (-1))).cell? ⟨b, j, none⟩ = w.cell? ⟨b, j, none⟩ := fun j hj => by
    have hne : (⟨b, i * 2, none⟩ : Addr) ≠ ⟨b, j, none⟩ := fun e => hj (congrArg Addr.off e).symm
    apply World.cell?_setCell_other; exact hne
  refine ⟨by rw [World.size_setCell]; exact h.lt, fun j hj => ⟨?_, (World.frozen?_setCell _ _ _ _).trans (h.all j hj).2⟩, fun j hj => ?_⟩
  · by_cases e : j = i * 2
    · subst e; exact ⟨_, hs⟩
    · rw [ho j e]; exact (h.all j hj).1
  · by_cases e : j = i
    · subst e; exact hs
    · rw [ho _ (by omega)]
      exact h.hole j ((hk j hj).resolve_right e)
theorem SpAt.below {w w' : World} {b k : Nat} (h : SpAt w b k) (hB : Below w.heap.size w w') : SpAt w' b k :=
  ⟨Nat.lt_of_lt_of_le h.lt hB.size, fun j hj => ⟨by obtain ⟨v, hv⟩ := (h.all j hj).1; exact ⟨v, below_at hB hv h.lt⟩, (hB.frozen (p := ⟨b, j, none⟩) h.lt).trans (h.all j hj).2⟩, fun i hi => below_at hB (h.hole i hi) h.lt⟩
theorem made_get (n j : Nat) (hj : j < n) : (madeCells #[.int .i64 0, .int .i64 0] n)[j]? = some (.int .i64 0) := by
  unfold madeCells
  rw [Array.getElem?_map, Array.getElem?_range, if_pos hj]
  show some (#[Value.int .i64 0, .int .i64 0][j % 2]!) = _
  rcases Nat.mod_two_eq_zero_or_one j with e | e <;> rw [e] <;> rfl
theorem made_cell (w : World) (t : TypeId) (n j : Nat) (hj : j < n) : (w.alloc (.cells (madeCells #[.int .i64 0, .int .i64 0] n) t)).cell? ⟨w.heap.size, j, none⟩ = some (.int .i64 0) ∧ (w.alloc (.cells (madeCells #[.int .i64 0, .int .i64 0] n) t)).frozen? ⟨w.heap.size, j, none⟩ = false := by
  have hh : (w.alloc (.cells (madeCells #[.int .i64 0, .int .i64 0] n) t)).heap[w.heap.size]? = some (.cells (madeCells #[.int .i64 0, .int .i64 0] n) t) := alloc_new _ _
  refine ⟨?_, ?_⟩
  · unfold World.cell?
    simp only
    rw [hh]
    exact made_get n j hj
  · unfold World.frozen?
    simp only
    rw [hh]
    simp
theorem SpAt.made (w : World) (t : TypeId) : SpAt (w.alloc (.cells (madeCells #[.int .i64 0, .int .i64 0] 16384) t)) w.heap.size 0 :=
  ⟨by simp only [World.size_alloc]; omega, fun j hj => ⟨⟨0, (made_cell w t 16384 j hj).1⟩, (made_cell w t 16384 j hj).2⟩, fun i hi => absurd hi (by omega)⟩
end Esch
namespace Go.Proofs.YtakbalmbkokklaaGreat
open Go.RowKit Esch Go.Shelf

theorem Tryz.infoWh : (Tryz.prog.info? 203).map (fun i => (i.zero, i.size, i.bytes)) = some (some (.agg #[.int .i64 0, .int .i64 0]), 2, 16) := by kernel_rfl
theorem make_wh (W : World) : (Instr.makeSlice 200 (.int .i64 8192) (.int .i64 8192)).run Tryz.prog W = .ok (.slice (some ⟨W.heap.size, 0, none⟩) 8192 8192) (W.alloc (.cells (madeCells #[.int .i64 0, .int .i64 0] 16384) 203)) := by
  obtain ⟨i, hi, hzz⟩ := Option.map_eq_some_iff.1 Tryz.infoWh
  simp only [Prod.mk.injEq] at hzz
  obtain ⟨hz, hs, hb⟩ := hzz
  have hr := run_make (P := Tryz.prog) W 200 203 i (.agg #[.int .i64 0, .int .i64 0]) Tryz.underlying200 hi hz .i64 .i64 8192 8192 (by omega) (by omega) (by rw [hb]; omega) (by omega)
  rw [hs] at hr
  exact hr
set_option maxRecDepth 100000 in
set_option maxHeartbeats 4000000 in
theorem rPGood_nil (w : World) : Calls Tryz.prog 163 #[.slice none 0 0] w fun e w' => e = .returned (.bool true) ∧ w' = w := by
  go_enter Tryz.func163, Tryz.ntmps163
  go_wp2_with fail
  go_loopg [3] 0 (fun g s3 wr => s3 = .int .i64 0 ∧ wr = w)
  case atStart => exact ⟨rfl, rfl⟩
  case round =>
    obtain ⟨rfl, rfl⟩ := hrel
    go_wp2_with fail
    go_ret
    exact ⟨rfl, rfl⟩
def SpRel (b : Nat) (w : World) (g : Nat) (s4 : Value) (wr : World) : Prop := ∃ i : Nat, g = 8192 - i ∧ i ≤ 8192 ∧ s4 = .int .i64 i ∧ SpAt wr b i ∧ Below w.heap.size w wr
set_option maxRecDepth 100000 in
set_option maxHeartbeats 4000000 in
theorem rSpread_nil (w : World) : Calls Tryz.prog 164 #[.slice none 0 0] w fun e w' => e = .returned (.slice (some ⟨w.heap.size, 0, none⟩) 8192 8192) ∧ SpAt w' w.heap.size 8192 ∧ Below w.heap.size w w' := by
  have hmk := make_wh
  go_enter Tryz.func164, Tryz.ntmps164
  go_wp2_with fail
  obtain ⟨W, hW⟩ : ∃ W, W = w.alloc (.cells (madeCells #[.int .i64 0, .int .i64 0] 16384) 203) := ⟨_, rfl⟩
  have hB : Below w.heap.size w W := by rw [hW]; exact belC (Below.refl _ _)
  have hS : SpAt W w.heap.size 0 := by rw [hW]; exact SpAt.made w _
  rw [← hW]
  have HB := Lib.hid hB
  have HS := Lib.hid hS
  clear hW hB hS hmk
  go_loopg [4] 8192 (fun g s4 wr => SpRel w.heap.size w g s4 wr)
  case atStart => exact ⟨0, rfl, by omega, rfl, HS.out, HB.out⟩
  case round =>
    obtain ⟨i, rfl, hi, rfl, hS, hB⟩ := hrel
    have HSr := Lib.hid hS
    have HBr := Lib.hid hB
    clear hS hB
    by_cases hlt : i < 8192
    · obtain ⟨⟨v, c0⟩, f0⟩ := HSr.out.all (i * 2) (by omega)
      have hil : (0 : Int) ≤ i ∧ (i : Int) < 8192 := by omega
      have hbl := HSr.out.lt
      have hwr := Lib.hid (show wrap64 ((i : Int) + 1) = ((i + 1 : Nat) : Int) by unfold wrap64; omega)
      have HP := Lib.hid (HSr.out.put hlt (k' := i + 1) (fun j hj => by omega))
      have Hlt := Lib.hid hlt
      clear hlt hi
      go_wp2_with fail
      go_roundg (8192 - (i + 1))
      case measure => have := Hlt.out; omega
      case rel => exact ⟨i + 1, rfl, Hlt.out, by first | rfl | rw [hwr.out], HP.out, by exact belC HBr.out⟩
    · obtain rfl : i = 8192 := by omega
      clear hlt hi
      go_wp2_with fail
      go_loopg [5] 0 (fun g s5 wr2 => s5 = .int .i64 0 ∧ wr2 = wr)
      case atStart => exact ⟨rfl, rfl⟩
      case round =>
        obtain ⟨rfl, rfl⟩ := hrel
        go_wp2_with fail
        go_ret
        exact ⟨rfl, HSr.out, HBr.out⟩
def GaRel (w : World) (g : Nat) (s3 s4 : Value) (wr : World) : Prop := s3 = .slice none 0 0 ∧ ∃ i : Nat, g = 8192 - i ∧ i ≤ 8192 ∧ s4 = .int .i64 i ∧ wr = w
set_option maxRecDepth 100000 in
set_option maxHeartbeats 4000000 in
theorem rGather_nil (w : World) (b : Nat) (h : SpAt w b 8192) : Calls Tryz.prog 165 #[.slice (some ⟨b, 0, none⟩) 8192 8192] w fun e w' => e = .returned (.slice none 0 0) ∧ w' = w := by
  have H := Lib.hid h
  have hbl := h.lt
  clear h
  go_enter Tryz.func165, Tryz.ntmps165
  go_wp2_with fail
  go_loopg [3, 4] 8192 (fun g s3 s4 wr => GaRel w g s3 s4 wr)
  case atStart => exact ⟨rfl, 0, rfl, by omega, rfl, rfl⟩
  case round =>
    obtain ⟨rfl, i, rfl, hi, rfl, rfl⟩ := hrel
    by_cases hlt : i < 8192
    · have c0 := H.out.hole i hlt
      have hil : (0 : Int) ≤ i ∧ (i : Int) < 8192 := by omega
      have hwr := Lib.hid (show wrap64 ((i : Int) + 1) = ((i + 1 : Nat) : Int) by unfold wrap64; omega)
      have Hlt := Lib.hid hlt
      clear hlt hi
      go_wp2_with fail
      go_roundg (8192 - (i + 1))
      case measure => have := Hlt.out; omega
      case rel => exact ⟨rfl, i + 1, rfl, Hlt.out, by first | rfl | rw [hwr.out], rfl⟩
    · obtain rfl : i = 8192 := by omega
      clear hlt hi
      go_wp2_with fail
      go_ret
      exact ⟨rfl, rfl⟩
def CuRel (m b : Nat) (w : World) (g : Nat) (s6 : Value) (wr : World) : Prop := ∃ i : Nat, g = 8192 - i ∧ m ≤ i ∧ i ≤ 8192 ∧ s6 = .int .i64 i ∧ SpAt wr b 8192 ∧ Below w.heap.size w wr
set_option maxRecDepth 100000 in
set_option maxHeartbeats 4000000 in
theorem rCut_nil (w : World) (n : Int) (h0 : 0 ≤ n) (h1 : n ≤ 8192) : Calls Tryz.prog 134 #[.slice none 0 0, .int .i64 n] w fun e w' => e = .returned (.slice none 0 0) ∧ Below w.heap.size w w' := by
  have hgd := rPGood_nil
  have hsp := rSpread_nil
  have hga := rGather_nil
  obtain ⟨m, rfl⟩ : ∃ m : Nat, n = m := ⟨n.toNat, by omega⟩
  have hmx : max (m : Int) 0 = m := by omega
  go_enter Tryz.func134, Tryz.ntmps134
  go_wp2_with fail
  refine (hgd _).mono ?_
  clear hgd
  rintro e w1 ⟨rfl, rfl⟩
  go_wp2_with fail
  refine (hsp _).mono ?_
  clear hsp
  rintro e w2 ⟨rfl, hS, hB⟩
  have HS := Lib.hid hS
  have HB := Lib.hid hB
  clear hS hB
  go_wp2_with fail
  go_loopg [6] (8192 - m) (fun g s6 wr => CuRel m w1.heap.size w1 g s6 wr)
  case atStart => exact ⟨m, rfl, Nat.le_refl _, by omega, rfl, HS.out, HB.out⟩
  case round =>
    obtain ⟨i, rfl, hmi, hi, rfl, hS, hB⟩ := hrel
    have HSr := Lib.hid hS
    have HBr := Lib.hid hB
    clear hS hB
    by_cases hlt : i < 8192
    · obtain ⟨⟨v, c0⟩, f0⟩ := HSr.out.all (i * 2) (by omega)
      have hil : (0 : Int) ≤ i ∧ (i : Int) < 8192 := by omega
      have hbl := HSr.out.lt
      have hwr := Lib.hid (show wrap64 ((i : Int) + 1) = ((i + 1 : Nat) : Int) by unfold wrap64; omega)
      have HP := Lib.hid (HSr.out.put hlt (k' := 8192) (fun j hj => Or.inl hj))
      have Hlt := Lib.hid hlt
      have Hmi := Lib.hid hmi
      clear hlt hi hmi
      go_wp2_with fail
      go_roundg (8192 - (i + 1))
      case measure => have := Hlt.out; omega
      case rel => exact ⟨i + 1, rfl, by have := Hmi.out; omega, Hlt.out, by first | rfl | rw [hwr.out], HP.out, by exact belC HBr.out⟩
    · obtain rfl : i = 8192 := by omega
      clear hlt hi hmi
      go_wp2_with fail
      refine (hga _ _ HSr.out).mono ?_
      clear hga
      rintro e w3 ⟨rfl, rfl⟩
      go_wp2_with fail
      go_ret
      exact ⟨rfl, HBr.out⟩
end Go.Proofs.YtakbalmbkokklaaGreat
/- the document's inodes: Truncate -/
namespace Go.Proofs.YtakbalmbkokklaaGreat
open Go.RowKit Esch Go.Shelf

def fileE (s : TabS) (i : Int) : Int := if s.has i = false then 60 else if (s.at i).kind = 1 then 63 else 0
set_option maxRecDepth 100000 in
set_option maxHeartbeats 4000000 in
theorem rFile_any (w : World) (b : Nat) (T : Nat → Prop) (s : TabS) (h : RTabAt w b T s) (hk : KI s) (i : Int) :
    Calls Tryz.prog 133 #[.pointer (some ⟨b, 0, none⟩), .int .i64 i] w fun e w' => (∃ r, e = .returned (.tuple #[.int .i64 r, .int .i64 (fileE s i)]) ∧ FindR s i r) ∧ w' = w := by
  have hfi := rFind_any w b T s h hk i
  obtain ⟨tb, lt, ao, cap, c0, f0, c1, f1, hg⟩ := h
  have HG := Lib.hid hg
  have hbl := cell_lt c0
  obtain ⟨ev, hev⟩ : ∃ ev, ev = fileE s i := ⟨_, rfl⟩
  rw [← hev]
  have HEV := Lib.hid hev
  clear hg hev f0 c1 f1
  go_enter Tryz.func133, Tryz.ntmps133
  go_wp2_with fail
  refine hfi.mono ?_
  clear hfi
  rintro e w1 ⟨⟨r, rfl, hr⟩, rfl⟩
  have HR := Lib.hid hr
  rcases hr with ⟨hf, rfl⟩ | ⟨pre, post, hs, hno, rfl⟩
  · have he : ev = 60 := by rw [HEV.out]; unfold fileE; rw [if_pos hf]
    subst he
    clear hf
    go_wp2_with fail
    go_ret2
    exact ⟨⟨_, rfl, HR.out⟩, rfl⟩
  · have hh : s.has i = true := has_mem.2 (by rw [hs]; simp)
    obtain ⟨x, hx⟩ : ∃ x, x = s.at i := ⟨_, rfl⟩
    rw [← hx] at hs
    obtain ⟨rb, ro, rfl, hS, hrl, d0, d1, d2, d3, d4, d5, df⟩ := inoAt (x := x) (pre := pre) (post := post) (i := i) (by rw [← hs]; exact HG.out)
    have hnn : ¬ ((pre.length : Nat) : Int) < 0 := by omega
    have hpl : pre.length < s.m.length := by rw [hs, List.length_append, List.length_cons]; omega
    have hil : (0 : Int) ≤ (pre.length : Nat) ∧ ((pre.length : Nat) : Int) < s.m.length := by omega
    by_cases hk1 : x.kind = 1
    · have he : ev = 63 := by rw [HEV.out]; unfold fileE; rw [if_neg (by rw [hh]; decide), if_pos (by rw [← hx]; exact hk1)]
      subst he
      have hk2 : (x.kind == 1) = true := by simpa using hk1
      clear hs hno d0 d2 d3 d4 d5 df hpl hS hh hx hk1
      go_wp2_with fail
      go_ret2
      exact ⟨⟨_, rfl, HR.out⟩, rfl⟩
    · have he : ev = 0 := by rw [HEV.out]; unfold fileE; rw [if_neg (by rw [hh]; decide), if_neg (by rw [← hx]; exact hk1)]
      subst he
      have hk2 : (x.kind == 1) = false := by simpa using hk1
      clear hs hno d0 d2 d3 d4 d5 df hpl hS hh hx hk1
      go_wp2_with fail
      go_ret2
      exact ⟨⟨_, rfl, HR.out⟩, rfl⟩
set_option maxRecDepth 100000 in
set_option maxHeartbeats 8000000 in
theorem rTruncate_any (w : World) (b : Nat) (T : Nat → Prop) (s : TabS) (h : RTabAt w b T s) (hk : KI s) (i n : Int) :
    Calls Tryz.prog 109 #[.pointer (some ⟨b, 0, none⟩), .int .i64 i, .int .i64 n] w (RChg w b T (s.cut i n).2 (.int .i64 (s.cut i n).1)) := by
  have hfi := rFile_any w b T s h hk i
  have H := Lib.hid h
  cases hh : s.has i with
  | false =>
    have hl : s.cut i n = (60, s) := by unfold TabS.cut; rw [if_pos hh]
    rw [hl]
    rw [show fileE s i = 60 from by unfold fileE; rw [if_pos hh]] at hfi
    clear h hl hh
    go_enter Tryz.func109, Tryz.ntmps109
    go_wp2_with fail
    refine hfi.mono ?_
    clear hfi
    rintro e w1 ⟨⟨r, rfl, hr⟩, rfl⟩
    clear hr
    go_wp2_with fail
    go_ret
    exact H.out.chg _ (Below.refl _ _)
  | true =>
    by_cases hk1 : (s.at i).kind = 1
    · have hl : s.cut i n = (63, s) := by unfold TabS.cut; rw [if_neg (by rw [hh]; decide), if_pos hk1]
      rw [hl]
      rw [show fileE s i = 63 from by unfold fileE; rw [if_neg (by rw [hh]; decide), if_pos hk1]] at hfi
      clear h hl hh hk1
      go_enter Tryz.func109, Tryz.ntmps109
      go_wp2_with fail
      refine hfi.mono ?_
      clear hfi
      rintro e w1 ⟨⟨r, rfl, hr⟩, rfl⟩
      clear hr
      go_wp2_with fail
      go_ret
      exact H.out.chg _ (Below.refl _ _)
    · rw [show fileE s i = 0 from by unfold fileE; rw [if_neg (by rw [hh]; decide), if_neg hk1]] at hfi
      by_cases hn : n < 0 ∨ 8192 < n
      · have hl : s.cut i n = (67, s) := by unfold TabS.cut; rw [if_neg (by rw [hh]; decide), if_neg hk1, if_pos hn]
        rw [hl]
        clear h hl hh hk1
        by_cases hn0 : n < 0
        · clear hn
          go_enter Tryz.func109, Tryz.ntmps109
          go_wp2_with fail
          refine hfi.mono ?_
          clear hfi
          rintro e w1 ⟨⟨r, rfl, hr⟩, rfl⟩
          clear hr
          go_wp2_with fail
          go_ret
          exact H.out.chg _ (Below.refl _ _)
        · have hn1 := hn.resolve_left hn0
          clear hn
          go_enter Tryz.func109, Tryz.ntmps109
          go_wp2_with fail
          refine hfi.mono ?_
          clear hfi
          rintro e w1 ⟨⟨r, rfl, hr⟩, rfl⟩
          clear hr
          go_wp2_with fail
          go_ret
          exact H.out.chg _ (Below.refl _ _)
      · have hl : s.cut i n = (0, s.keep { s.at i with size := n } false) := by unfold TabS.cut; rw [if_neg (by rw [hh]; decide), if_neg hk1, if_neg hn]
        rw [hl]
        have Hh := Lib.hid hh
        have hino : (s.at i).ino = i := by
          obtain ⟨pre, post, hs, -⟩ := find_split s hh
          exact hk.ino (i, s.at i) (by rw [hs]; simp)
        have HSS := Lib.hid (show ∀ pre post, s.m = pre ++ (i, s.at i) :: post → (∀ p ∈ pre, p.1 ≠ i) → s.keep { s.at i with size := n } false = ⟨pre ++ (i, { s.at i with size := n }) :: post, s.next⟩ from fun pre post h1 h2 => by
          rw [keep_eq hk h1 h2 (x := { s.at i with size := n }) hino, if_neg (fun e => absurd e.1 (by decide))])
        have HX := Lib.hid (show ∀ pre post, s.m = pre ++ (i, s.at i) :: post → RTabAt w b T ⟨pre ++ (i, s.at i) :: post, s.next⟩ from fun pre post hs => by rw [← hs]; exact h)
        obtain ⟨x, hx⟩ : ∃ x, x = s.at i := ⟨_, rfl⟩
        rw [← hx] at HSS HX ⊢
        obtain ⟨st, hst⟩ : ∃ st, st = s.keep { x with size := n } false := ⟨_, rfl⟩
        rw [← hst]
        have HST := Lib.hid hst
        have HXE := Lib.hid hx
        have hn0 : ¬ n < 0 := fun e => hn (Or.inl e)
        have hn1 : ¬ 8192 < n := fun e => hn (Or.inr e)
        have hcut := fun W => rCut_nil W n (by omega) (by omega)
        obtain ⟨tb, lt, ao, cap, c0, f0, c1, f1, hg⟩ := h
        have HG := Lib.hid hg
        have hbl := cell_lt c0
        clear hx hg f0 c1 f1 hk hh hl hst hino hk1 hn
        go_enter Tryz.func109, Tryz.ntmps109
        go_wp2_with fail
        refine hfi.mono ?_
        clear hfi
        rintro e w1 ⟨⟨r, rfl, hr⟩, rfl⟩
        rcases hr with ⟨hf, -⟩ | ⟨pre, post, hs, hno, rfl⟩
        · exfalso
          rw [Hh.out] at hf; cases hf
        rw [← HXE.out] at hs
        have hst2 := HST.out.trans (HSS.out pre post hs hno)
        subst hst2
        have HPP := Lib.hid hs
        obtain ⟨rb, ro, rfl, hS, hrl, d0, d1, d2, d3, d4, d5, df⟩ := inoAt (x := x) (pre := pre) (post := post) (i := i) (by rw [← hs]; exact HG.out)
        have hpl : pre.length < s.m.length := by rw [hs, List.length_append, List.length_cons]; omega
        have hil : (0 : Int) ≤ (pre.length : Nat) ∧ ((pre.length : Nat) : Int) < s.m.length := by omega
        have df4 := df 4 (by omega)
        have df5 := df 5 (by omega)
        have hX := HX.out pre post hs
        have hcl : w1.cell? ⟨b, 0, none⟩ = some (.slice (some ⟨rb, ro, none⟩) (pre ++ (i, x) :: post).length cap) := by rw [← hs]; exact c0
        have HXX := Lib.hid hX
        have HCL := Lib.hid hcl
        have hKd : w1.drew.cell? ⟨b, 0, none⟩ = some (.slice (some ⟨rb, ro, none⟩) s.m.length cap) ∧ w1.drew.cell? ⟨rb, ro + pre.length * 6 + 5, none⟩ = some (.slice none 0 0) := ⟨c0, d5⟩
        clear hs hno d0 d1 d2 d3 df hpl hX hcl
        go_wp2_with fail
        go_region_held3 (fun W' => W'.cell? ⟨b, 0, none⟩ = some (.slice (some ⟨rb, ro, none⟩) s.m.length cap) ∧ W'.cell? ⟨rb, ro + pre.length * 6 + 5, none⟩ = some (.slice none 0 0))
          (first
            | with_reducible exact hKd
            | with_reducible exact hK2
            | with_reducible exact hK3)
          (first
            | (go_at_call 134; (with_reducible refine (hcut _).mono ?_); rintro e w2 ⟨rfl, hB2⟩
               have e0 := below_at hB2 hKd.1 hbl
               have e5 := below_at hB2 hKd.2 hrl
               have g4 := (hB2.frozen (p := ⟨rb, ro + pre.length * 6 + 4, none⟩) hrl).trans df4
               have g5 := (hB2.frozen (p := ⟨rb, ro + pre.length * 6 + 5, none⟩) hrl).trans df5
               have e4 := below_at hB2 d4 hrl
               have hrl2 := cell_lt e5
               have hbl2 := cell_lt e0
               have hK2 : w2.cell? ⟨b, 0, none⟩ = some (.slice (some ⟨rb, ro, none⟩) s.m.length cap) ∧ w2.cell? ⟨rb, ro + pre.length * 6 + 5, none⟩ = some (.slice none 0 0) := ⟨e0, e5⟩
               have HB2 := Lib.hid (Below.trans (show Below w1.heap.size w1 w1.drew by exact belC (Below.refl _ _)) hB2)
               have hrbb : rb ≠ b := hS.2
               have hK3 : (w2.setCell ⟨rb, ro + pre.length * 6 + 5, none⟩ (.slice none 0 0)).cell? ⟨b, 0, none⟩ = some (.slice (some ⟨rb, ro, none⟩) s.m.length cap) ∧ (w2.setCell ⟨rb, ro + pre.length * 6 + 5, none⟩ (.slice none 0 0)).cell? ⟨rb, ro + pre.length * 6 + 5, none⟩ = some (.slice none 0 0) := ⟨by go_simp, by go_simp⟩
               clear hB2))
        have hx2 : RTabAt w2 b T ⟨pre ++ (i, x) :: post, s.next⟩ := HXX.out.below' HB2.out
        have hcl2 := below_at HB2.out HCL.out hbl
        obtain ⟨p1, p2⟩ := hx2.put (y := x) (j := 5) (v := .slice none 0 0) hcl2 (by omega) rfl
        have hcl3 : (w2.setCell ⟨rb, ro + pre.length * 6 + 5, none⟩ (.slice none 0 0)).cell? ⟨b, 0, none⟩ = some (.slice (some ⟨rb, ro, none⟩) (pre ++ (i, x) :: post).length cap) := by rw [← HPP.out]; exact hK3.1
        obtain ⟨q1, q2⟩ := p1.put (y := { x with size := n }) (j := 4) (v := .int .i64 n) hcl3 (by omega) rfl
        have HQ := Lib.hid q1
        have hM : Mod T w1 ((w2.setCell ⟨rb, ro + pre.length * 6 + 5, none⟩ (.slice none 0 0)).setCell ⟨rb, ro + pre.length * 6 + 4, none⟩ (.int .i64 n)) := ((Mod.of_below HB2.out).setCellAt (fun _ => p2) _).setCellAt (fun _ => p2) _
        have HM := Lib.hid hM
        clear hx2 hcl2 p1 hcl3 q1 hM
        go_wp2_with fail
        go_ret
        exact ⟨rfl, HQ.out.grow, HM.out⟩
end Go.Proofs.YtakbalmbkokklaaGreat
