/- the document's nodes: New -/
import Derived.Test.YtnojjohkpkmliaaGreatRNodes3
import Derived.Test.YtnojjohkpkmliaaGreatRNew
namespace Go.Proofs.YtnojjohkpkmliaaGreat
open Go.RowKit Esch

theorem rpgNew_at (w : World) (room : Nat) (h1 : 1 ≤ room) (h2 : room ≤ 4096) : Calls Tryz.prog 70 #[.int .i64 room] w fun e w' => ∃ p, e = .returned (.tuple #[.pointer (some ⟨p, 0, none⟩), .int .i64 0]) ∧ RPgAt w' p none' (pg0 room) ∧ w.heap.size ≤ p ∧ Below w.heap.size w w' := by
  have k1 : (1 : Int) ≤ room := by omega
  have k2 : (room : Int) ≤ 4096 := by omega
  go_enter Tryz.func70, Tryz.ntmps70
  go_wp2_with fail
  go_ret2
  exact ⟨w.heap.size, rfl, ⟨⟨none, 0, by go_simp; rfl, GRowAt.nil _ _ _ _⟩, by go_simp; rfl, by go_simp; rfl, fun o ho => by go_simp⟩, Nat.le_refl _, by (repeat (first | with_reducible exact (Below.refl _ _) | with_reducible refine Below.drew ?_ | with_reducible refine Esch.below_drewN ?_ _ | with_reducible refine Below.setCell ?_ (by first | omega | (simp; done) | (simp; omega)) _ | with_reducible refine Below.alloc ?_ (by first | omega | (simp; done) | (simp; omega)) _))⟩
theorem rpgNew_no (w : World) (room : Int) (h : room < 1 ∨ 4096 < room) : Calls Tryz.prog 70 #[.int .i64 room] w fun e w' => e = .returned (.tuple #[.pointer none, .int .i64 1]) ∧ w' = w := by
  rcases h with h | h
  · go_enter Tryz.func70, Tryz.ntmps70
    go_wp2_with fail
    go_ret2
    exact ⟨rfl, rfl⟩
  · have h' : (1 : Int) ≤ room := by omega
    go_enter Tryz.func70, Tryz.ntmps70
    go_wp2_with fail
    go_ret2
    exact ⟨rfl, rfl⟩
theorem runNew_at (w : World) (room : Nat) (h1 : 1 ≤ room) (h2 : room ≤ 4096) : Calls Tryz.prog 37 #[.int .i64 room] w fun e w' => ∃ u p, e = .returned (.tuple #[.pointer (some ⟨u, 0, none⟩), .int .i64 0]) ∧ RUnAt w' u p none' (un0 room) ∧ w.heap.size ≤ u ∧ w.heap.size ≤ p ∧ Below w.heap.size w w' := by
  go_enter Tryz.func37, Tryz.ntmps37
  go_wp2_with fail
  refine (rpgNew_at w room h1 h2).mono ?_
  rintro e w1 ⟨p, rfl, hP, hp, hB⟩
  have hz := hB.size
  have hpl := hP.lt
  have HP := Lib.hid hP
  clear hP
  go_wp2_with fail
  go_ret2
  have hB2 : Below w1.heap.size w1 (w1.alloc (.cells #[.pointer (some ⟨p, 0, none⟩), .int .i64 0, .bool false] 99)) := (Below.refl _ _).alloc (Nat.le_refl _) _
  exact ⟨w1.heap.size, p, rfl, ⟨by go_simp, by show _ = some (Value.int .i64 0); go_simp, by show _ = some (Value.bool false); go_simp, fun o ho => by go_simp, HP.out.below hB2, by omega, id, id⟩, hz, hp, by (repeat (first | with_reducible exact hB | with_reducible refine Below.drew ?_ | with_reducible refine Esch.below_drewN ?_ _ | with_reducible refine Below.setCell ?_ (by first | omega | (simp; done) | (simp; omega)) _ | with_reducible refine Below.alloc ?_ (by first | omega | (simp; done) | (simp; omega)) _))⟩
theorem runNew_no (w : World) (room : Int) (h : room < 1 ∨ 4096 < room) : Calls Tryz.prog 37 #[.int .i64 room] w fun e w' => e = .returned (.tuple #[.pointer none, .int .i64 1]) ∧ w' = w := by
  go_enter Tryz.func37, Tryz.ntmps37
  go_wp2_with fail
  refine (rpgNew_no w room h).mono ?_
  rintro e w1 ⟨rfl, rfl⟩
  go_wp2_with fail
  go_ret2
  exact ⟨rfl, rfl⟩
/-- the document's nodes that are being made -/
structure RMk (w0 : World) (qb nb ob lb : Nat) (q : Proj) (room k : Nat) (ub pb D : Nat → Nat) (w : World) : Prop where
  us : ∀ j, j < 16 → ∃ a, w.cell? ⟨nb, j, none⟩ = some (.pointer a)
  fr : ∀ j, j < 16 → w.frozen? ⟨nb, j, none⟩ = false
  got : ∀ j, j < k → w.cell? ⟨nb, j, none⟩ = some (.pointer (some ⟨ub j, 0, none⟩))
  c16 : w.cell? ⟨nb, 16, none⟩ = some (.pointer (some ⟨ob, 0, none⟩))
  c17 : w.cell? ⟨nb, 17, none⟩ = some (.pointer (some ⟨lb, 0, none⟩))
  unit : ∀ j, j < k → RUnAt w (ub j) (pb j) none' (un0 room)
  du : ∀ j, j < k → D (ub j) = j ∧ D (pb j) = j
  ord : ROrdAt w ob ⟨-1, false, 0⟩
  dor : D ob = 16
  lay : RLayAt (fun i => D i = 17) w lb (lay0 q)
  dn : D nb = 18
  dlt : ∀ i, D i ≤ 18 → w0.heap.size ≤ i ∧ i < w.heap.size
  box : w.cell? ⟨qb, 0, none⟩ = some (.int .i64 q.epoch)
  dq : D qb = 99
  below : Below w0.heap.size w0 w
theorem RMk.step {w0 wr w5 : World} {qb nb ob lb : Nat} {q : Proj} {room k u p : Nat} {ub pb D : Nat → Nat} (h : RMk w0 qb nb ob lb q room k ub pb D wr) (hk : k < 16) (hB : Below wr.heap.size wr w5) (hU : RUnAt w5 u p none' (un0 room)) (hu : wr.heap.size ≤ u) (hp : wr.heap.size ≤ p) :
    RMk w0 qb nb ob lb q room (k + 1) (fun j => if j = k then u else ub j) (fun j => if j = k then p else pb j) (fun i => if i < wr.heap.size then D i else if i < w5.heap.size then k else 99) (w5.setCell ⟨nb, k, none⟩ (.pointer (some ⟨u, 0, none⟩))) := by
  have hz := hB.size
  have hul := hU.lt
  have hpl := hU.pg.lt
  have hM : Mod (· = nb) w5 (w5.setCell ⟨nb, k, none⟩ (.pointer (some ⟨u, 0, none⟩))) := (Mod.refl (· = nb) w5).setCellAt (fun _ => rfl) _
  have hnl := cell_lt h.c16
  have hlo : ∀ i, D i ≤ 18 → (if i < wr.heap.size then D i else if i < w5.heap.size then k else 99) = D i := fun i hi => if_pos (h.dlt i hi).2
  have hne : ∀ i, D i ≠ 18 → ¬ i = nb := fun i hi e => hi (by rw [e]; exact h.dn)
  have e16 := below_at hB h.c16 hnl
  have e17 := below_at hB h.c17 hnl
  have hql := cell_lt h.box
  refine ⟨fun j hj => ?_, fun j hj => ?_, fun j hj => ?_, by go_simp, by go_simp, fun j hj => ?_, fun j hj => ?_, (h.ord.mod (F := none') (Mod.of_below hB) id).mod hM (hne _ (by rw [h.dor]; omega)), (hlo _ (by rw [h.dor]; omega)).trans h.dor, ?_, (hlo _ (by rw [h.dn]; omega)).trans h.dn, fun i hi => ?_, hM.at (below_at hB h.box hql) (hne _ (by rw [h.dq]; omega)), ?_, (h.below.trans (hB.mono h.below.size)).setCell (h.dlt nb (by rw [h.dn]; omega)).1 _⟩
  · obtain ⟨a, ha⟩ := h.us j hj
    have ha5 := below_at hB ha hnl
    by_cases e : j = k
    · subst e; exact ⟨some ⟨u, 0, none⟩, by go_simp⟩
    · exact ⟨a, by go_simp⟩
  · have := (hB.frozen (p := ⟨nb, j, none⟩) hnl).trans (h.fr j hj)
    go_simp
  · obtain ⟨a, ha⟩ := h.us k hk
    have ha5 := below_at hB ha hnl
    by_cases e : j = k
    · subst e
      simp only [if_pos]
      go_simp
    · simp only [if_neg e]
      have := below_at hB (h.got j (by omega)) hnl
      go_simp
  · by_cases e : j = k
    · subst e
      simp only [if_pos]
      exact hU.mod hM (by omega) (by omega) (fun _ h => h.elim)
    · simp only [if_neg e]
      obtain ⟨e1, e2⟩ := h.du j (by omega)
      exact ((h.unit j (by omega)).mod (F := none') (Mod.of_below hB) id id (fun _ _ _ => id)).mod hM (hne _ (by omega)) (hne _ (by omega)) (fun _ h => h.elim)
  · by_cases e : j = k
    · subst e
      simp only [if_pos]
      exact ⟨by rw [if_neg (by omega), if_pos hul], by rw [if_neg (by omega), if_pos hpl]⟩
    · simp only [if_neg e]
      obtain ⟨e1, e2⟩ := h.du j (by omega)
      exact ⟨(hlo _ (by omega)).trans e1, (hlo _ (by omega)).trans e2⟩
  · refine ((h.lay.mod (F := none') (Mod.of_below hB) (fun _ _ _ => id)).mod hM (fun i hi _ => hne i (by have hi : D i = 17 := hi; omega))).sub (fun i _ hi => ?_)
    have hi : D i = 17 := hi
    exact (hlo i (by omega)).trans hi
  · have hw0 := h.below.size
    by_cases e : i < wr.heap.size
    · rw [if_pos e] at hi
      have := h.dlt i hi
      exact ⟨this.1, by simp; omega⟩
    · rw [if_neg e] at hi
      by_cases e2 : i < w5.heap.size
      · exact ⟨by omega, by simpa using e2⟩
      · rw [if_neg e2] at hi; omega
  · rw [if_pos hql]; exact h.dq
def RMkRel (w0 : World) (qb nb ob lb : Nat) (q : Proj) (room : Nat) (g : Nat) (s9 : Value) (wr : World) : Prop := ∃ (k : Nat) (ub pb D : Nat → Nat), g = 16 - k ∧ k ≤ 16 ∧ s9 = .int .i64 k ∧ RMk w0 qb nb ob lb q room k ub pb D wr
set_option maxRecDepth 100000 in
set_option maxHeartbeats 2000000 in
theorem r13New_any (S : Nat → Prop) (w : World) (q : Proj) (a : Option Addr) (c room : Nat) (hq : q.good) (hl : ListsAt S w a q.chains) (h1 : 1 ≤ room) (h2 : room ≤ 4096) :
    Calls Tryz.prog 10 #[.agg #[.int .i64 q.epoch, .slice a q.chains.length c], .int .i64 room] w fun e w' => ∃ nb, e = .returned (.tuple #[.pointer (some ⟨nb, 0, none⟩), .int .i64 0]) ∧ RNd w' nb (grow none' w w') 16 (nd0 q room) ∧ Below w.heap.size w w' := by
  obtain ⟨W0, hW0, hB0, hz0, p0, p1⟩ := oneBox w 24 (.int .i64 q.epoch) (.slice a q.chains.length c)
  have hln := rlayNew_any S W0 q a c hq (hl.mod (F := none') (Mod.of_below hB0) (fun _ _ _ => id))
  have HW0 := Lib.hid hW0
  have Hq := Lib.hid hq
  clear hW0 hl hq
  go_enter Tryz.func10, Tryz.ntmps10
  go_wp2_with fail
  rw [← HW0.out]
  refine hln.mono ?_
  clear hln
  rintro e w1 ⟨lb, rfl, hL1, hB1⟩
  have hz1 := hB1.size
  have hon := rordNew_any w1
  go_wp2_with fail
  refine hon.mono ?_
  clear hon
  rintro e w2 ⟨ob, rfl, hO2, hob, hB2⟩
  have hz2 := hB2.size
  have hol := hO2.lt
  obtain ⟨nb, hnb⟩ : ∃ nb, nb = w2.heap.size := ⟨_, rfl⟩
  obtain ⟨W3, hW3⟩ : ∃ W3, W3 = w2.alloc (.cells #[.pointer none, .pointer none, .pointer none, .pointer none, .pointer none, .pointer none, .pointer none, .pointer none, .pointer none, .pointer none, .pointer none, .pointer none, .pointer none, .pointer none, .pointer none, .pointer none, .pointer (some ⟨ob, 0, none⟩), .pointer (some ⟨lb, 0, none⟩)] 90) := ⟨_, rfl⟩
  have hB3 : Below w2.heap.size w2 W3 := by rw [hW3]; (repeat (first | with_reducible exact (Below.refl _ _) | with_reducible refine Below.drew ?_ | with_reducible refine Esch.below_drewN ?_ _ | with_reducible refine Below.setCell ?_ (by first | omega | (simp; done) | (simp; omega)) _ | with_reducible refine Below.alloc ?_ (by first | omega | (simp; done) | (simp; omega)) _))
  have hz3 : W3.heap.size = w2.heap.size + 1 := by rw [hW3]; simp
  have hN0 : RMk w w.heap.size nb ob lb q room 0 (fun _ => 0) (fun _ => 0) (fun j => if j < w.heap.size + 1 then 99 else if j < w1.heap.size then 17 else if j < w2.heap.size then 16 else if j < w2.heap.size + 1 then 18 else 99) W3 := by
    refine ⟨fun j hj => ⟨none, ?_⟩, fun j hj => ?_, fun j hj => absurd hj (by omega), by rw [hW3, hnb]; go_simp, by rw [hW3, hnb]; go_simp, fun j hj => absurd hj (by omega), fun j hj => absurd hj (by omega), hO2.mod (F := none') (Mod.of_below hB3) id, ?_, ?_, ?_, fun i hi => ?_, below_at hB3 (below_at hB2 (below_at hB1 p0 (by omega)) (by omega)) (by omega), by simp, hB0.trans ((hB1.trans ((hB2.trans (hB3.mono (by omega))).mono hz1)).mono (by omega))⟩
    · rw [hW3, hnb]
      have : j = 0 ∨ j = 1 ∨ j = 2 ∨ j = 3 ∨ j = 4 ∨ j = 5 ∨ j = 6 ∨ j = 7 ∨ j = 8 ∨ j = 9 ∨ j = 10 ∨ j = 11 ∨ j = 12 ∨ j = 13 ∨ j = 14 ∨ j = 15 := by omega
      rcases this with rfl | rfl | rfl | rfl | rfl | rfl | rfl | rfl | rfl | rfl | rfl | rfl | rfl | rfl | rfl | rfl <;> go_simp
    · rw [hW3, hnb]
      go_simp
    · rw [if_neg (by omega), if_neg (by omega), if_pos hol]
    · refine RLayAt.sub (RLayAt.mod (RLayAt.sub hL1 (S' := fun k => W0.heap.size ≤ k ∧ k < w1.heap.size) (fun k hk h => ⟨h, hk⟩)) (F := none') ((Mod.of_below hB2).trans (Mod.of_below hB3)) (fun _ _ _ => id)) (fun k _ hk => ?_)
      show (if k < w.heap.size + 1 then 99 else if k < w1.heap.size then 17 else if k < w2.heap.size then 16 else if k < w2.heap.size + 1 then 18 else 99) = 17
      rw [if_neg (by omega), if_pos hk.2]
    · rw [if_neg (by omega), if_neg (by omega), if_neg (by omega), if_pos (by omega)]
    · by_cases e1 : i < w.heap.size + 1
      · simp only [if_pos e1] at hi; omega
      · by_cases e2 : i < w2.heap.size + 1
        · exact ⟨by omega, by omega⟩
        · simp only [if_neg e1, if_neg (show ¬ i < w1.heap.size by omega), if_neg (show ¬ i < w2.heap.size by omega), if_neg e2] at hi
          omega
  have HN0 := Lib.hid hN0
  have HW3 := Lib.hid hW3
  have Hnb := Lib.hid hnb
  clear hN0 hW3 hnb hB2 hB1 hL1 hO2 p0 p1 hB0 hB3
  go_wp2_with fail
  rw [← HW3.out, ← Hnb.out]
  go_loopg [9] 16 (fun g s9 wr => RMkRel w w.heap.size nb ob lb q room g s9 wr)
  case atStart => exact ⟨0, _, _, _, rfl, by omega, rfl, HN0.out⟩
  case round =>
    obtain ⟨k, ub, pb, D, rfl, hk, rfl, hN⟩ := hrel
    have HN := Lib.hid hN
    by_cases hlt : k < 16
    · have hun := runNew_at wr room h1 h2
      clear hN
      go_wp2_with fail
      refine hun.mono ?_
      clear hun
      rintro e w5 ⟨u, p, rfl, hU5, hu5, hp5, hB5⟩
      obtain ⟨a5, ha5'⟩ := HN.out.us k hlt
      have hn5' := cell_lt ha5'
      have ha5 := below_at hB5 ha5' hn5'
      have hf5 := (hB5.frozen (p := ⟨nb, k, none⟩) hn5').trans (HN.out.fr k hlt)
      have hn5 := cell_lt ha5
      have HS := Lib.hid (HN.out.step hlt hB5 hU5 hu5 hp5)
      have k0 : (0 : Int) ≤ k := by omega
      have k1 : (k : Int) < 16 := by omega
      clear hB5 hU5 ha5'
      go_wp2_with fail
      go_roundg (16 - (k + 1))
      case measure => omega
      case rel => exact ⟨k + 1, _, _, _, rfl, by omega, by go_num, HS.out⟩
    · obtain rfl : k = 16 := by omega
      have hod := fun W (hW : Mod none' wr W) => rordDo_any 0 q.epoch 0 0 0 ⟨#[]⟩ 0 none 0 0 8 W ob ⟨-1, false, 0⟩ (by unfold Ord.ok; decide) (hN.ord.mod (F := none') hW id)
      have c16 := hN.c16
      have bx := hN.box
      clear hlt hN
      go_wp2_with fail
      refine region_tail 7 (by kernel_rfl) (by kernel_rfl) (fun T hT K hK => ?_)
      simp only [List.take_succ_cons, List.take_zero]
      repeat still_step
      refine wpStill_nil (hK _ ?_)
      clear hK
      simp only [List.drop_succ_cons, List.drop_zero] at hT
      subst hT
      go_wp2_with fail
      refine (hod _ (by (repeat' (first | (with_reducible exact (Mod.refl _ _)) | (with_reducible apply Mod.drew) | (with_reducible apply Mod.drewN) | (with_reducible apply Mod.alloc) | (with_reducible apply Mod.setCellAt) | (intro _; first | rfl | exact Or.inl rfl | exact Or.inr rfl) | (intro h; exfalso; omega))))).mono ?_
      clear hod
      rintro e w6 ⟨rfl, hO6, hM6'⟩
      have hM6 : Mod (· = ob) wr w6 := ((Mod.refl _ wr).drew).trans hM6'
      have hst : (ordDo ⟨-1, false, 0⟩ 8 q.epoch 0).2.2 = ⟨q.epoch, true, 0⟩ := by
        have := Hq.out.1
        unfold ordDo ordStart
        rw [if_pos rfl, if_neg (by show ¬ q.epoch ≤ -1; omega), if_neg (by omega)]
      rw [hst] at hO6
      have HO6 := Lib.hid hO6
      have HM6 := Lib.hid hM6
      clear hO6 hM6 hM6' hst c16 bx
      go_wp2_with fail
      go_ret2
      have hN := HN.out
      have hz6 := HM6.out.size
      have hF : ∀ k, D k ≠ 16 → ¬ (k = ob) := fun k hk e => hk (by rw [e]; exact hN.dor)
      have hn := hF nb (by rw [hN.dn]; omega)
      refine ⟨nb, rfl, ⟨⟨ob, lb, ub, pb, D, ⟨fun i hi => HM6.out.at (hN.got i hi) hn, HM6.out.at hN.c16 hn, HM6.out.at hN.c17 hn, fun i hi => ?_, fun i hi => pg0_ok h2, fun i hi => hN.du i hi, HO6.out, ⟨Int.le_refl _, by show (0 : Int) ≤ 16384; omega⟩, hN.dor, hN.lay.mod HM6.out (fun k hk _ => hF k (by have hk : D k = 17 := hk; omega)), lay0_ok Hq.out, hN.dn, fun k hk => by have := (hN.dlt k hk).2; omega⟩, fun k hk => ?_⟩, fun k hk => hk.elim (fun h => h.elim) (·.2), ?_⟩, hN.below.trans (HM6.out.below_at hN.below.size (fun j hj e => ?_))⟩
      · obtain ⟨e1, e2⟩ := hN.du i hi
        exact ((hN.unit i hi).mod HM6.out (hF _ (by omega)) (hF _ (by omega)) (fun _ h => h.elim)).sub (fun _ _ h => h.elim) (fun h => h.2.1 rfl) (fun h => h.2.2 rfl)
      · have := hN.dlt k hk
        exact Or.inr ⟨this.1, by omega⟩
      · show (unitsOf q.units).length ≤ 16
        exact units_len Hq.out.2.2.2.2.2.1
      · have := (hN.dlt ob (by rw [hN.dor]; omega)).1
        omega
end Go.Proofs.YtnojjohkpkmliaaGreat
