/- the document's nodes: how they lie, one question to each -/
import Derived.Test.YtnojjohkpkmliaaGreatRUnit2
import Derived.Test.YtnojjohkpkmliaaGreatRLayout
import Derived.Test.YtnojjohkpkmliaaGreatRefOrder
import Derived.Test.YtnojjohkpkmliaaGreatPkNodes
namespace Go.Proofs.YtnojjohkpkmliaaGreat
open Go.RowKit Esch

structure RNodesAt (w : World) (nb ob lb : Nat) (ub pb : Nat → Nat) (D : Nat → Nat) (s : NdS) : Prop where
  us : ∀ i, i < 16 → w.cell? ⟨nb, i, none⟩ = some (.pointer (some ⟨ub i, 0, none⟩))
  c16 : w.cell? ⟨nb, 16, none⟩ = some (.pointer (some ⟨ob, 0, none⟩))
  c17 : w.cell? ⟨nb, 17, none⟩ = some (.pointer (some ⟨lb, 0, none⟩))
  unit : ∀ i, i < 16 → RUnAt w (ub i) (pb i) (fun k => D k = i ∧ k ≠ ub i ∧ k ≠ pb i) (s.units i)
  pok : ∀ i, i < 16 → (s.units i).pg.ok
  du : ∀ i, i < 16 → D (ub i) = i ∧ D (pb i) = i
  ord : ROrdAt w ob s.o
  ook : s.o.ok
  dor : D ob = 16
  lay : RLayAt (fun k => D k = 17) w lb s.l
  lok : s.l.ok
  dn : D nb = 18
  dlt : ∀ k, D k ≤ 18 → k < w.heap.size
section
variable {w w' : World} {nb ob lb : Nat} {ub pb D : Nat → Nat} {s : NdS}
theorem RNodesAt.mod {F : Nat → Prop} (h : RNodesAt w nb ob lb ub pb D s) (hM : Mod F w w') (hF : ∀ k, D k ≤ 18 → ¬ F k) : RNodesAt w' nb ob lb ub pb D s := by
  have hn := hF nb (by rw [h.dn]; omega)
  have hz := hM.size
  exact ⟨fun i hi => hM.at (h.us i hi) hn, hM.at h.c16 hn, hM.at h.c17 hn,
    fun i hi => (h.unit i hi).mod hM (hF _ (by rw [(h.du i hi).1]; omega)) (hF _ (by rw [(h.du i hi).2]; omega)) (fun k hk _ => hF k (by rw [hk.1]; omega)),
    h.pok, h.du, h.ord.mod hM (hF _ (by rw [h.dor]; omega)), h.ook, h.dor, h.lay.mod hM (fun k hk _ => hF k (by have hk : D k = 17 := hk; omega)), h.lok, h.dn, fun k hk => Nat.lt_of_lt_of_le (h.dlt k hk) hz⟩
theorem RNodesAt.setUnit {i : Nat} {u : UnS} (h : RNodesAt w nb ob lb ub pb D s) (hi : i < 16) (hU : RUnAt w' (ub i) (pb i) (fun k => (D k = i ∧ k ≠ ub i ∧ k ≠ pb i) ∨ w.heap.size ≤ k) u) (hok : u.pg.ok) (hM : Mod (fun k => k = ub i ∨ k = pb i) w w') :
    RNodesAt w' nb ob lb ub pb (fun k => if k < w.heap.size then D k else if k < w'.heap.size then i else 99) { s with units := fun j => if j = i then u else s.units j } := by
  have hz := hM.size
  obtain ⟨d1, d2⟩ := h.du i hi
  have hul := (h.unit i hi).lt
  have hpl := (h.unit i hi).pg.lt
  have hF : ∀ k, D k ≠ i → ¬ (k = ub i ∨ k = pb i) := fun k hk e => by rcases e with e | e <;> (subst e; omega)
  have hlo : ∀ k, D k ≤ 18 → (if k < w.heap.size then D k else if k < w'.heap.size then i else 99) = D k := fun k hk => if_pos (h.dlt k hk)
  have hn := hF nb (by rw [h.dn]; omega)
  refine ⟨fun j hj => hM.at (h.us j hj) hn, hM.at h.c16 hn, hM.at h.c17 hn, fun j hj => ?_, fun j hj => ?_, fun j hj => ?_, h.ord.mod hM (hF _ (by rw [h.dor]; omega)), h.ook, ?_, ?_, h.lok, ?_, fun k hk => ?_⟩
  · by_cases e : j = i
    · subst e
      simp only [if_pos]
      refine hU.sub (fun k hk hs => ?_) (fun hs => hs.2.1 rfl) (fun hs => hs.2.2 rfl)
      rcases hs with ⟨h1, h2⟩ | h1
      · exact ⟨(hlo k (by omega)).trans h1, h2⟩
      · exact ⟨by rw [if_neg (by omega), if_pos hk], by omega, by omega⟩
    · simp only [if_neg e]
      obtain ⟨e1, e2⟩ := h.du j hj
      refine ((h.unit j hj).mod hM (hF _ (by omega)) (hF _ (by omega)) (fun k hk _ => hF k (by omega))).sub (fun k hk hs => ⟨(hlo k (by omega)).trans hs.1, hs.2⟩) (fun hs => hs.2.1 rfl) (fun hs => hs.2.2 rfl)
  · by_cases e : j = i
    · simp only [if_pos e]; exact hok
    · simp only [if_neg e]; exact h.pok j hj
  · obtain ⟨e1, e2⟩ := h.du j hj
    exact ⟨(hlo _ (by omega)).trans e1, (hlo _ (by omega)).trans e2⟩
  · exact (hlo _ (by rw [h.dor]; omega)).trans h.dor
  · refine (h.lay.mod hM (fun k hk _ => hF k (by have hk : D k = 17 := hk; omega))).sub (fun k _ hk => ?_)
    have hk : D k = 17 := hk
    exact (hlo k (by omega)).trans hk
  · exact (hlo _ (by rw [h.dn]; omega)).trans h.dn
  · by_cases e : k < w.heap.size
    · omega
    · rw [if_neg e] at hk
      by_cases e2 : k < w'.heap.size
      · exact e2
      · rw [if_neg e2] at hk; omega
theorem RNodesAt.setOrd {o : Ord} (h : RNodesAt w nb ob lb ub pb D s) (ho : ROrdAt w' ob o) (hok : o.ok) (hM : Mod (· = ob) w w') : RNodesAt w' nb ob lb ub pb D { s with o := o } := by
  have hz := hM.size
  have hF : ∀ k, D k ≠ 16 → ¬ k = ob := fun k hk e => by subst e; exact hk h.dor
  have hn := hF nb (by rw [h.dn]; omega)
  exact ⟨fun j hj => hM.at (h.us j hj) hn, hM.at h.c16 hn, hM.at h.c17 hn, fun j hj => (h.unit j hj).mod hM (hF _ (by rw [(h.du j hj).1]; omega)) (hF _ (by rw [(h.du j hj).2]; omega)) (fun k hk _ => hF k (by omega)), h.pok, h.du, ho, hok, h.dor, h.lay.mod hM (fun k hk _ => hF k (by have hk : D k = 17 := hk; omega)), h.lok, h.dn, fun k hk => Nat.lt_of_lt_of_le (h.dlt k hk) hz⟩
theorem RNodesAt.setLay {l : LayS} (h : RNodesAt w nb ob lb ub pb D s) (hl : RLayAt (fun k => D k = 17 ∨ w.heap.size ≤ k) w' lb l) (hok : l.ok) (hM : Mod (· = lb) w w') :
    RNodesAt w' nb ob lb ub pb (fun k => if k < w.heap.size then D k else if k < w'.heap.size then 17 else 99) { s with l := l } := by
  have hz := hM.size
  have hlb : D lb = 17 := h.lay.sb
  have hF : ∀ k, D k ≠ 17 → ¬ k = lb := fun k hk e => by subst e; exact hk hlb
  have hn := hF nb (by rw [h.dn]; omega)
  have hlo : ∀ k, D k ≤ 18 → (if k < w.heap.size then D k else if k < w'.heap.size then 17 else 99) = D k := fun k hk => if_pos (h.dlt k hk)
  refine ⟨fun j hj => hM.at (h.us j hj) hn, hM.at h.c16 hn, hM.at h.c17 hn, fun j hj => ?_, h.pok, fun j hj => ?_, h.ord.mod hM (hF _ (by rw [h.dor]; omega)), h.ook, ?_, hl.sub (fun k hk hs => ?_), hok, ?_, fun k hk => ?_⟩
  · obtain ⟨e1, e2⟩ := h.du j hj
    exact ((h.unit j hj).mod hM (hF _ (by omega)) (hF _ (by omega)) (fun k hk _ => hF k (by omega))).sub (fun k hk hs => ⟨(hlo k (by omega)).trans hs.1, hs.2⟩) (fun hs => hs.2.1 rfl) (fun hs => hs.2.2 rfl)
  · obtain ⟨e1, e2⟩ := h.du j hj
    exact ⟨(hlo _ (by omega)).trans e1, (hlo _ (by omega)).trans e2⟩
  · exact (hlo _ (by rw [h.dor]; omega)).trans h.dor
  · show (if k < w.heap.size then D k else if k < w'.heap.size then 17 else 99) = 17
    rcases hs with hs | hs
    · exact (hlo k (by omega)).trans hs
    · rw [if_neg (by omega), if_pos hk]
  · exact (hlo _ (by rw [h.dn]; omega)).trans h.dn
  · by_cases e : k < w.heap.size
    · omega
    · rw [if_neg e] at hk
      by_cases e2 : k < w'.heap.size
      · exact e2
      · rw [if_neg e2] at hk; omega
end
section
variable {w : World} {nb ob lb : Nat} {ub pb D : Nat → Nat} {s : NdS} (x1 ep page x4 x5 x7 : Int) (d : ByteArray) (ca : Option Addr) (cn cc : Nat)
set_option maxRecDepth 100000 in
set_option maxHeartbeats 4000000 in
theorem r13_unit (h : RNodesAt w nb ob lb ub pb D s) (i : Nat) (hi : i < 16) (k : Int) (hk : k = 1 ∨ k = 2 ∨ k = 3 ∨ k = 4 ∨ k = 5) (hd : d.size ≤ 9223372036854775807) :
    Calls Tryz.prog 13 #[.pointer (some ⟨nb, 0, none⟩), .agg #[.int .i64 k, .int .i64 i, .int .i64 ep, .int .i64 page, .int .i64 x4, .int .i64 x5, .string d, .int .i64 x7, .slice ca cn cc]] w
      (RUnPost w (ub i) (pb i) (fun k => D k = i ∧ k ≠ ub i ∧ k ≠ pb i) ((s.units i).do k ep page d)) := by
  obtain ⟨W, hW, ab, rb, hab, hrb, hX⟩ : ∃ W, W = _ ∧ ∃ ab rb, ab = w.heap.size ∧ rb = w.heap.size + 1 ∧ Boxed2 w W ab rb (.int .i64 k) (.int .i64 i) (.int .i64 ep) (.int .i64 page) (.int .i64 x4) (.int .i64 x5) (.string d) (.int .i64 x7) (.slice ca cn cc) := ⟨_, rfl, _, _, rfl, rfl, boxed2 w _ _ _ _ _ _ _ _ _⟩
  have HW := Lib.hid hW
  have HA := Lib.hid hab
  have HRB := Lib.hid hrb
  have hnl := cell_lt h.c16
  have n0 := below_at hX.below (h.us i hi) hnl
  have hu := h.unit i hi
  have hul := hu.lt
  have hpl := hu.pg.lt
  have HU := Lib.hid (hu.mod (F := none') (Mod.of_below hX.below) id id (fun _ _ _ => id))
  have hdo := rUnDo_any (w := W.drew) (i : Int) x4 x5 x7 ca cn cc (HU.out.mod (F := none') ((Mod.refl _ W).drew) id id (fun _ _ _ => id)) (h.pok i hi) (fun k hk => Nat.lt_of_lt_of_le (h.dlt k (by rw [hk.1]; omega)) hX.below.size) k ep page d hd
  obtain ⟨r, hr⟩ : ∃ r, r = (s.units i).do k ep page d := ⟨_, rfl⟩
  rw [← hr] at hdo ⊢
  obtain ⟨⟨rc, rn, rd, re⟩, ru⟩ := r
  have HDL := Lib.hid (show ∀ k, D k = i → k < w.heap.size from fun k hk => h.dlt k (by omega))
  have q0 := hX.q0
  have q1 := hX.q1
  have q2 := hX.q2
  have q3 := hX.q3
  have q4 := hX.q4
  have q5 := hX.q5
  have q6 := hX.q6
  have q7 := hX.q7
  have q8 := hX.q8
  have HX := Lib.hid hX
  have hzW := hX.size
  have hrb2 := hX.brb
  have i0 : (0 : Int) ≤ i := by omega
  have i1 : (i : Int) ≤ 15 := by omega
  have i2 : (i : Int) < 16 := by omega
  clear h hu hW hab hrb hX hr
  rcases hk with rfl | rfl | rfl | rfl | rfl
  all_goals
    go_enter Tryz.func13, Tryz.ntmps13
    go_wp2_with fail
    rw [← HW.out, ← HRB.out, ← HA.out]
    refine region_tail 8 (by kernel_rfl) (by kernel_rfl) (fun T hT K hK => ?_)
    simp only [List.take_succ_cons, List.take_zero]
    repeat still_step
    refine wpStill_nil (hK _ ?_)
    clear hK
    simp only [List.drop_succ_cons, List.drop_zero] at hT
    subst hT
    go_wp2_with fail
    refine hdo.mono ?_
    clear hdo
    rintro e w3 ⟨rfl, hU3, hM3⟩
    have hMW : Mod (fun k => k = ub i ∨ k = pb i) W w3 := ((Mod.refl _ W).drew).trans hM3
    obtain ⟨g0, g1, g2, g3, g4, g5, g6, g7, f0, f1, f2, f3, f4, f5, f6, f7⟩ := HX.out.far hMW (by omega)
    have HU3 := Lib.hid (show RUnAt w3 (ub i) (pb i) (fun k => (D k = i ∧ k ≠ ub i ∧ k ≠ pb i) ∨ W.heap.size ≤ k) ru from hU3)
    have HMW := Lib.hid hMW
    clear hU3 hM3 hMW
    go_wp2_with fail
    refine bodyPost_ret (v := ansU rc rn rd re) (by simp only [results, Tryz.results13, ansU]; go_simp) rfl ?_
    refine ⟨rfl, (HU3.out.mod (F := (· = rb)) (by (repeat' (first | (with_reducible exact (Mod.refl _ _)) | (with_reducible apply Mod.drew) | (with_reducible apply Mod.drewN) | (with_reducible apply Mod.alloc) | (with_reducible apply Mod.setCellAt) | (intro _; first | rfl | exact Or.inl rfl | exact Or.inr rfl) | (intro h; exfalso; omega)))) (by omega) (by omega) (fun k hk _ e => ?_)).sub (fun k _ hk => hk.imp id (fun h => by omega)) (fun hk => ?_) (fun hk => ?_), ?_⟩
    · rcases hk with hk | hk
      · have := HDL.out k hk.1; omega
      · omega
    · rcases hk with hk | hk
      · exact hk.2.1 rfl
      · omega
    · rcases hk with hk | hk
      · exact hk.2.2 rfl
      · omega
    · refine (mod_none (Mod.of_below HX.out.below)).trans' (show Mod (fun k => k = rb ∨ k = ub i ∨ k = pb i) W _ from ?_) (fun j hj e => ?_)
      · repeat (with_reducible refine Mod.setCellAt ?_ (fun _ => Or.inl rfl) _)
        exact HMW.out.mono (fun _ _ h => Or.inr h)
      · rcases e with e | e
        · omega
        · exact e
end
end Go.Proofs.YtnojjohkpkmliaaGreat
