import Derived.Test.YtpkdpmkiplopmaaNodes4
/- all nodes together: New -/
namespace Go.Proofs.Ytpkdpmkiplopmaa
open Go.RowKit Esch

def nd0 (q : Proj) (room : Nat) : NdS := ⟨fun _ => un0 room, ⟨q.epoch, true, 0⟩, lay0 q⟩
def NdNew (w : World) (q : Proj) (room : Nat) (e : Ending) (w' : World) : Prop := ∃ nb g cap ob lb lm ub pb mb D, e = .returned (.tuple #[.pointer (some ⟨nb, 0, none⟩), .int .i64 0]) ∧ NodesAt w' nb g cap ob lb lm 16 ub pb mb D (nd0 q room) ∧ (∀ j, j < w.heap.size → D j = 99) ∧ Below w.heap.size w w'
def NewRel (w : World) (nb ob lb lm room : Nat) (q : Proj) (g : Nat) (s23 : Value) (wr : World) : Prop :=
  ∃ k va vc xs ub pb mb D, g = 16 - k ∧ k ≤ 16 ∧ s23 = .int .i64 (k : Nat) ∧ NewAt w nb ob lb lm room q k va vc xs ub pb mb D wr
set_option maxRecDepth 100000 in
set_option maxHeartbeats 2000000 in
theorem rpcNew_any (S : Nat → Prop) (w : World) (q : Proj) (a : Option Addr) (c room : Nat) (hq : q.good) (hl : ListsAt S w a q.chains) (h1 : 1 ≤ room) (h2 : room ≤ 4096) :
    Calls Try.prog 34 #[.agg #[.int .i64 q.epoch, .slice a q.chains.length c], .int .i64 room] w (NdNew w q room) := by
  obtain ⟨W0, hW0, hB0, hz0, p0, p1⟩ := oneBox w 24 (.int .i64 q.epoch) (.slice a q.chains.length c)
  have hln := layNew_any S W0 q a c hq (hl.mod (F := none') (Mod.of_below hB0) (fun _ _ _ => id))
  have HW0 := Lib.hid hW0
  have Hq := Lib.hid hq
  clear hW0 hl hq
  go_enter Try.func34, Try.ntmps34
  go_wp2_with fail
  rw [← HW0.out]
  refine hln.mono ?_
  clear hln
  rintro e w1 ⟨lb, lm, rfl, hL1, hB1⟩
  have hz1 := hB1.size
  have hon := ordNew_any w1
  go_wp2_with fail
  refine hon.mono ?_
  clear hon
  rintro e w2 ⟨ob, rfl, hO2, hob, hB2⟩
  have hz2 := hB2.size
  have hol := hO2.lt
  obtain ⟨nb, hnb⟩ : ∃ nb, nb = w2.heap.size := ⟨_, rfl⟩
  obtain ⟨W3, hW3⟩ : ∃ W3, W3 = w2.alloc (.cells #[.slice none 0 0, .pointer (some ⟨ob, 0, none⟩), .pointer (some ⟨lb, 0, none⟩)] 96) := ⟨_, rfl⟩
  have hB3 : Below w2.heap.size w2 W3 := by rw [hW3]; (repeat (first | with_reducible exact (Below.refl _ _) | with_reducible refine Below.drew ?_ | with_reducible refine Esch.below_drewN ?_ _ | with_reducible refine Below.setCell ?_ (by first | omega | (simp; done) | (simp; omega)) _ | with_reducible refine Below.alloc ?_ (by first | omega | (simp; done) | (simp; omega)) _))
  have hz3 : W3.heap.size = w2.heap.size + 1 := by rw [hW3]; simp
  have hN0 : NewAt w nb ob lb lm room q 0 none 0 [] (fun _ => 0) (fun _ => 0) (fun _ => 0) (fun j => if j < w.heap.size + 1 then 99 else if j < w1.heap.size then 17 else if j < w2.heap.size then 16 else 18) W3 := by
    refine ⟨by rw [hW3, hnb]; go_simp, by rw [hW3, hnb]; go_simp, by rw [hW3, hnb]; go_simp, by rw [hW3, hnb]; go_simp, World.ownsRow_nil _ _ _ _, rfl, fun i hi => absurd hi (by omega), fun i hi => absurd hi (by omega), fun i hi => absurd hi (by omega), fun j hj => (by cases hj), hO2.mod (F := none') (Mod.of_below hB3) id, ?_, ?_, ?_, fun j hj => if_pos hj, ?_, ?_⟩
    · rw [if_neg (by omega), if_neg (by omega), if_pos hol]
    · refine LayAt.sub (LayAt.mod (LayAt.sub hL1 (S' := fun k => W0.heap.size ≤ k ∧ k < w1.heap.size) (fun k hk h => ⟨h, hk⟩)) (F := none') ((Mod.of_below hB2).trans (Mod.of_below hB3)) (fun _ _ _ => id)) (fun k _ hk => ?_)
      show (if k < w.heap.size + 1 then 99 else if k < w1.heap.size then 17 else if k < w2.heap.size then 16 else 18) = 17
      rw [if_neg (by omega), if_pos hk.2]
    · rw [if_neg (by omega), if_neg (by omega), if_neg (by omega)]
    · exact below_at hB3 (below_at hB2 (below_at hB1 p0 (by omega)) (by omega)) (by omega)
    · exact hB0.trans ((hB1.trans ((hB2.trans (hB3.mono hz2)).mono hz1)).mono (by omega))
  have HN0 := Lib.hid hN0
  have HW3 := Lib.hid hW3
  have Hnb := Lib.hid hnb
  obtain ⟨i0, hi, hy0, hy1, hy2⟩ := info_parts (show (Try.prog.info? 51).map (fun i => (i.zero, i.size, i.bytes)) = some (some (.pointer none), 1, 8) by kernel_rfl)
  have hr1 : (1 : Int) ≤ room := by omega
  have hr2 : (room : Int) ≤ 4096 := by omega
  clear hN0 hW3 hnb hB3 hB2 hB1 hL1 hO2 p0 p1
  go_wp2_with fail
  rw [← HW3.out, ← Hnb.out]
  go_loopg [23] 16 (fun g s23 wr => NewRel w nb ob lb lm room q g s23 wr)
  case atStart => exact ⟨0, none, 0, [], _, _, _, _, rfl, by omega, rfl, HN0.out⟩
  case round =>
    obtain ⟨k, va, vc, xs, ub, pb, mb, D, rfl, hk, rfl, hN⟩ := hrel
    have HN := Lib.hid hN
    have c0 := hN.c0
    have f0 := hN.f0
    have c1 := hN.c1
    have bx := hN.box
    have hnl := cell_lt hN.c0
    by_cases hlt : k < 16
    · have hun := unNew_any wr room h1 h2
      have hrow := Lib.hid hN.row
      have hon : (Value.slice va k vc).ownBlock ≠ some nb := fun e => by have := (hN.ownLt e).1; omega
      have Hon := Lib.hid hon
      clear hN bx c1 hon
      go_wp2_with fail
      refine hun.mono ?_
      clear hun
      rintro e w5 ⟨u, p, m, rfl, hu, hu1, hp1, hm1, hB5⟩
      have hz5 := hB5.size
      replace c0 := below_at hB5 c0 hnl
      replace f0 := (hB5.frozen (p := ⟨nb, 0, none⟩) hnl).trans f0
      have HU := Lib.hid hu
      have HB5 := Lib.hid hB5
      have hn5 : nb < w5.heap.size := by omega
      clear hu hB5
      go_wp2_with (at_builtin; refine wpList_append_lies _ (by rfl) _ _ _ (by rfl) (nb + 1) 51 i0 _ 1 8 Try.underlying94 hi hy0 hy1 hy2 rfl (by omega) (.slice va k vc) k xs (by rfl) ((own_below hrow.out HB5.out).alloc _) ⟨w5.heap.size, 0, none⟩ 1 1 [.pointer (some ⟨u, 0, none⟩)] (by rfl) (by rfl) (World.news_of_block (cs := #[.pointer (some ⟨u, 0, none⟩)]) (t := 51) (fr := (0, 0)) (heap_alloc_new _ _)) (by simp [Value.oneCell']) (by omega) (by unfold Go.maxLen; omega) (by omega) (by simp; omega) (w5.heap.size + 1) (by simp) ?_; intro gg cap w8 hown1 hgrow hat hlt4; have hc8 := (grown_at hgrow (Hon.out) ((cell_alloc_lt w5 _ nb 0 hn5).trans c0)); have hf8 := (grown_fr hgrow (Hon.out) (by rw [World.size_alloc]; omega)).trans ((frozen_alloc_lt w5 _ nb 0 hn5).trans f0))
      have hS := Lib.hid (HN.out.step (o := .cells #[.pointer (some ⟨u, 0, none⟩)] 51) hlt HB5.out HU.out hu1 hp1 hm1 hown1 hgrow hat)
      clear hown1 hgrow hat hc8 hf8
      go_roundg (16 - (k + 1))
      case measure => omega
      case rel => exact ⟨k + 1, some ⟨gg, 0, none⟩, cap, _, _, _, _, _, rfl, by omega, by go_num, hS.out⟩
    · obtain rfl : k = 16 := by omega
      have hod := fun W (hW : Mod none' wr W) => ordDo_any 0 q.epoch 0 0 0 ⟨#[]⟩ 0 none 0 0 8 W ob ⟨-1, false, 0⟩ (by unfold Ord.ok; decide) (hN.ord.mod (F := none') hW id)
      clear hlt hN
      go_wp2_with fail
      refine region_tail 7 (by kernel_rfl) (by kernel_rfl) (fun T hT K hK => ?_)
      simp only [List.take_succ_cons, List.take_zero]
      repeat still_step
      refine wpStill_nil (hK _ ?_)
      clear hK
      simp only [List.drop_succ_cons, List.drop_zero] at hT
      subst hT
      go_wp2_with fail
      refine (hod _ (by (repeat' (first | (with_reducible exact (Mod.refl _ _)) | (with_reducible apply Mod.drew) | (with_reducible apply Mod.drewN) | (with_reducible apply Mod.alloc) | (with_reducible apply Mod.setCellAt) | (intro _; first | rfl | exact Or.inl rfl | exact Or.inr rfl) | (intro h; exfalso; omega))))).mono ?_
      clear hod
      rintro e w6 ⟨rfl, hO6, hM6'⟩
      have hM6 : Mod (· = ob) wr w6 := ((Mod.refl _ wr).drew).trans hM6'
      have hst : (ordDo ⟨-1, false, 0⟩ 8 q.epoch 0).2.2 = ⟨q.epoch, true, 0⟩ := by
        have := Hq.out.1
        unfold ordDo ordStart
        rw [if_pos rfl, if_neg (by show ¬ q.epoch ≤ -1; omega), if_neg (by omega)]
      rw [hst] at hO6
      have HO6 := Lib.hid hO6
      have HM6 := Lib.hid hM6
      clear hO6 hM6 hM6' hst c0 c1 f0 bx
      go_wp2_with fail
      go_ret2
      have hN := HN.out
      obtain ⟨gg, cap, hva, hvc⟩ : ∃ gg, va = some ⟨gg, 0, none⟩ ∧ D gg = 18 ∧ ∀ i, i < 16 → wr.cell? ⟨gg, i, none⟩ = some (.pointer (some ⟨ub i, 0, none⟩)) := by
        rcases hN.row.2 with ⟨e, h0⟩ | ⟨g, cap, cur, e, hb, hg, hr⟩
        · omega
        · cases e
          refine ⟨g, rfl, hN.own g rfl, fun i hi => ?_⟩
          have hx := hN.row.cells (g := g) rfl i _ (hN.xat i hi)
          rwa [show ((⟨g, 0, none⟩ : Addr).add i) = ⟨g, i, none⟩ from by unfold Addr.add; by_cases e : i = 0 <;> simp [e]] at hx
      subst cap
      have hF : ∀ k, D k ≠ 16 → ¬ (k = ob) := fun k hk e => hk (by rw [e]; exact hN.dord)
      refine ⟨nb, gg, vc, ob, lb, lm, ub, pb, mb, D, rfl, ⟨HM6.out.at hN.c0 (hF _ (by rw [hN.dn]; omega)), HM6.out.at hN.c1 (hF _ (by rw [hN.dn]; omega)), HM6.out.at hN.c2 (hF _ (by rw [hN.dn]; omega)), fun i hi => HM6.out.at (hvc i hi) (hF _ (by rw [hva]; omega)), fun i hi => ?_, hN.du, HO6.out, ?_, hN.dord, hN.lay.mod HM6.out (fun k hk _ => hF k (by rw [show D k = 17 from hk]; omega)), lay0_ok Hq.out, hN.dn, hva⟩, fun j hj => hN.old j (by omega), hN.below.trans (HM6.out.below_at hN.below.size (fun j hj e => ?_))⟩
      · obtain ⟨e1, e2, e3⟩ := hN.du i hi
        exact ⟨(hN.unit i hi).mod HM6.out (hF _ (by omega)) (hF _ (by omega)) (hF _ (by omega)), pg0_ok h2⟩
      · exact ⟨Int.le_refl _, by show (0 : Int) ≤ 16384; omega⟩
      · have := hN.old j (by omega)
        rw [e, hN.dord] at this
        omega
end Go.Proofs.Ytpkdpmkiplopmaa
