/- the program's nodes and the document's tell the same -/
import Derived.Test.YtnojjohkpkmliaaGreatRNodes4
import Derived.Test.YtnojjohkpkmliaaGreatPageEdge
import Derived.Test.YtnojjohkpkmliaaGreatOrder3
namespace Go.Proofs.YtnojjohkpkmliaaGreat
open Go.RowKit Esch

theorem unDown_any (w : World) (u pb mb : Nat) (s : UnS) (h : UnitAt w u pb mb s) : Calls Tryz.prog 46 #[.pointer (some ⟨u, 0, none⟩)] w fun e w' => e = .returned (.bool s.down) ∧ Mod none' w w' := by
  have c2 := h.c2
  clear h
  go_enter Tryz.func46, Tryz.ntmps46
  go_wp2_with fail
  go_ret
  exact ⟨rfl, by (repeat' (first | (with_reducible exact (Mod.refl _ _)) | (with_reducible apply Mod.drew) | (with_reducible apply Mod.drewN) | (with_reducible apply Mod.alloc) | (with_reducible apply Mod.setCellAt) | (intro _; first | rfl | exact Or.inl rfl | exact Or.inr rfl) | (intro h; exfalso; omega)))⟩
def SameRel (w0 : World) (g : Nat) (s5 : Value) (wr : World) : Prop := ∃ k : Nat, g = 16 - k ∧ k ≤ 16 ∧ s5 = .int .i64 k ∧ Mod none' w0 wr
set_option maxRecDepth 100000 in
set_option maxHeartbeats 4000000 in
theorem same_any {w : World} {nb qb T T' : Nat} {U R : Nat → Prop} {s : NdS} (h : Nd w nb U T s) (h' : RNd w qb R T' s) : Calls Tryz.prog 14 #[.pointer (some ⟨nb, 0, none⟩), .pointer (some ⟨qb, 0, none⟩)] w fun e w' => e = .returned (.bool true) ∧ Below w.heap.size w w' := by
  obtain ⟨⟨g, cap, ob, lb, lm, ub, pb, mb, D, hN, -⟩, -⟩ := h
  obtain ⟨⟨qo, ql, qu, qp, Q, hQ, -⟩, -⟩ := h'
  have HN := Lib.hid hN
  have HQ := Lib.hid hQ
  clear hN hQ
  go_enter Tryz.func14, Tryz.ntmps14
  go_wp2_with fail
  go_loopg [5] 16 (fun g s5 wr => SameRel w g s5 wr)
  case atStart => exact ⟨0, rfl, by omega, rfl, Mod.refl _ _⟩
  case round =>
    obtain ⟨k, rfl, hk, rfl, hMr⟩ := hrel
    by_cases hkl : k < 16
    · skip
      obtain ⟨us, hus⟩ : ∃ us, us = s.units k := ⟨_, rfl⟩
      have hU := (HN.out.unit k hkl).1
      have hok := (HN.out.unit k hkl).2
      have hR := HQ.out.unit k hkl
      rw [← hus] at hU hok hR
      have n0 := hMr.at (HQ.out.us k hkl) id
      have v0 := hMr.at hR.c0 id
      have v1 := hMr.at hR.c1 id
      have v2 := hMr.at hR.c2 id
      have hun := rpcUnit_in (HN.out.mod (F := none') hMr (fun _ _ _ => id)) k hkl
      have HU := Lib.hid (fun W (hW : Mod none' w W) => hU.mod hW id id id)
      have HR := Lib.hid (fun W (hW : Mod none' w W) => hR.pg.mod hW id (fun _ _ _ => id))
      have Hok := Lib.hid hok
      have HMr := Lib.hid hMr
      have k0 : (0 : Int) ≤ k := by omega
      have k1 : (k : Int) < 16 := by omega
      clear hus hU hok hR hMr
      go_wp2_with fail
      refine hun.mono ?_
      clear hun
      rintro e w1 ⟨rfl, hM1⟩
      have hpA := fun W (hW : Mod none' w W) => unPages_any W (ub k) (pb k) (mb k) us (HU.out W hW)
      have HM1 := Lib.hid (show Mod none' w w1.drew from (HMr.out.trans hM1).drew)
      have hep := unEpoch_any w1.drew (ub k) (pb k) (mb k) us (HU.out _ HM1.out)
      have hdn := unDown_any w1.drew (ub k) (pb k) (mb k) us (HU.out _ HM1.out)
      have d1 : w1.drew.cell? ⟨qb, k, none⟩ = some (.pointer (some ⟨qu k, 0, none⟩)) ∧ w1.drew.cell? ⟨qu k, 0, none⟩ = some (.pointer (some ⟨qp k, 0, none⟩)) ∧ w1.drew.cell? ⟨qu k, 1, none⟩ = some (.int .i64 us.epoch) ∧ w1.drew.cell? ⟨qu k, 2, none⟩ = some (.bool us.down) := ⟨hM1.at n0 id, hM1.at v0 id, hM1.at v1 id, hM1.at v2 id⟩
      clear hM1 n0 v0 v1 v2
      go_wp2_with fail
      simp only [List.append]
      go_region_held3 (fun w' => w'.cell? ⟨qb, k, none⟩ = some (.pointer (some ⟨qu k, 0, none⟩)) ∧ w'.cell? ⟨qu k, 0, none⟩ = some (.pointer (some ⟨qp k, 0, none⟩)) ∧ w'.cell? ⟨qu k, 1, none⟩ = some (.int .i64 us.epoch) ∧ w'.cell? ⟨qu k, 2, none⟩ = some (.bool us.down))
        (first
          | with_reducible exact d1
          | with_reducible exact e2
          | with_reducible exact e3
          | with_reducible exact e4
          | with_reducible exact e5)
        (first
          | (go_at_call 45; (with_reducible refine hep.mono ?_); rintro e wa ⟨rfl, rfl⟩)
          | (go_at_call 46; (with_reducible refine hdn.mono ?_); rintro e w2 ⟨rfl, hM2⟩
             have e2 : w2.cell? ⟨qb, k, none⟩ = some (.pointer (some ⟨qu k, 0, none⟩)) ∧ w2.cell? ⟨qu k, 0, none⟩ = some (.pointer (some ⟨qp k, 0, none⟩)) ∧ w2.cell? ⟨qu k, 1, none⟩ = some (.int .i64 us.epoch) ∧ w2.cell? ⟨qu k, 2, none⟩ = some (.bool us.down) := ⟨hM2.at d1.1 id, hM2.at d1.2.1 id, hM2.at d1.2.2.1 id, hM2.at d1.2.2.2 id⟩
             have HM2 := Lib.hid (HM1.out.trans hM2)
             have hud := pused_any w2 (pb k) (mb k) us.pg (HU.out w2 HM2.out).pages
             clear hM2 hdn)
          | (go_at_call 29; (with_reducible refine (hpA _ (by first | with_reducible exact HM4.out | with_reducible exact HM3.out | with_reducible exact HM2.out)).mono ?_); rintro e wa ⟨rfl, rfl⟩)
          | (go_at_call 30; (with_reducible refine hud.mono ?_); rintro e w3 ⟨rfl, hM3⟩
             have e3 : w3.cell? ⟨qb, k, none⟩ = some (.pointer (some ⟨qu k, 0, none⟩)) ∧ w3.cell? ⟨qu k, 0, none⟩ = some (.pointer (some ⟨qp k, 0, none⟩)) ∧ w3.cell? ⟨qu k, 1, none⟩ = some (.int .i64 us.epoch) ∧ w3.cell? ⟨qu k, 2, none⟩ = some (.bool us.down) := ⟨hM3.at e2.1 id, hM3.at e2.2.1 id, hM3.at e2.2.2.1 id, hM3.at e2.2.2.2 id⟩
             have HM3 := Lib.hid (HM2.out.trans hM3)
             have hru := rused_any (HR.out w3 HM3.out)
             have htl := ptail_any w3 (pb k) (mb k) us.pg Hok.out (HU.out w3 HM3.out).pages
             clear hM3 hud)
          | (go_at_call 47; (with_reducible refine hru.mono ?_); rintro e wa ⟨rfl, rfl⟩)
          | (go_at_call 48; (with_reducible refine htl.mono ?_); rintro e w4 ⟨rfl, hB4⟩
             have hM4 := Mod.of_below (F := none') hB4
             have e4 : w4.cell? ⟨qb, k, none⟩ = some (.pointer (some ⟨qu k, 0, none⟩)) ∧ w4.cell? ⟨qu k, 0, none⟩ = some (.pointer (some ⟨qp k, 0, none⟩)) ∧ w4.cell? ⟨qu k, 1, none⟩ = some (.int .i64 us.epoch) ∧ w4.cell? ⟨qu k, 2, none⟩ = some (.bool us.down) := ⟨hM4.at e3.1 id, hM4.at e3.2.1 id, hM4.at e3.2.2.1 id, hM4.at e3.2.2.2 id⟩
             have HM4 := Lib.hid (HM3.out.trans hM4)
             have hrt := rtail_any (HR.out w4 HM4.out) Hok.out
             have hed := pedge_any w4 (pb k) (mb k) us.pg (HU.out w4 HM4.out).pages
             clear hM4 htl hB4)
          | (go_at_call 49; (with_reducible refine hrt.mono ?_); rintro e wa ⟨rfl, rfl⟩)
          | (go_at_call 50; (with_reducible refine hed.mono ?_); rintro e w5 ⟨rfl, hM5⟩
             have e5 : w5.cell? ⟨qb, k, none⟩ = some (.pointer (some ⟨qu k, 0, none⟩)) ∧ w5.cell? ⟨qu k, 0, none⟩ = some (.pointer (some ⟨qp k, 0, none⟩)) ∧ w5.cell? ⟨qu k, 1, none⟩ = some (.int .i64 us.epoch) ∧ w5.cell? ⟨qu k, 2, none⟩ = some (.bool us.down) := ⟨hM5.at e4.1 id, hM5.at e4.2.1 id, hM5.at e4.2.2.1 id, hM5.at e4.2.2.2 id⟩
             have HM5 := Lib.hid (HM4.out.trans hM5)
             have hre := redge_any (HR.out w5 HM5.out)
             clear hM5 hed)
          | (go_at_call 51; (with_reducible refine hre.mono ?_); rintro e wa ⟨rfl, rfl⟩))
      go_wp2_with fail
      go_roundg (16 - (k + 1))
      case measure => omega
      case rel => exact ⟨k + 1, rfl, by omega, by go_num, HM5.out⟩
    · obtain rfl : k = 16 := by omega
      clear hk hkl
      have c0 := hMr.at HQ.out.c16 id
      have c1 := hMr.at HQ.out.c17 id
      have o0 := hMr.at HQ.out.ord.c0 id
      have o2 := hMr.at HQ.out.ord.c2 id
      have l0 := hMr.at HQ.out.lay.c0 id
      obtain ⟨la, lc, l1, hll⟩ := HQ.out.lay.c1
      replace l1 := hMr.at l1 id
      have hMd : Mod none' w wr.drew := hMr.drew
      have hND := HN.out.mod (F := none') hMd (fun _ _ _ => id)
      have hor := rpcOrder_any hND
      have hly := rpcLayout_any hND
      have hoe := epoch_any wr.drew ob s.o hND.ord
      have hok := knows_any wr.drew ob s.o hND.ord
      have hln := layNow_any (fun k => D k = 17) wr.drew lb lm T s.l HN.out.lok hND.lay
      unfold CopyPost at hln
      have HLL := Lib.hid (hll.mod (F := none') hMd (fun _ _ _ => id))
      have HMd := Lib.hid hMd
      have d0 : wr.drew.cell? ⟨qb, 16, none⟩ = some (.pointer (some ⟨qo, 0, none⟩)) ∧ wr.drew.cell? ⟨qb, 17, none⟩ = some (.pointer (some ⟨ql, 0, none⟩)) ∧ wr.drew.cell? ⟨qo, 0, none⟩ = some (.int .i64 s.o.epoch) ∧ wr.drew.cell? ⟨qo, 2, none⟩ = some (.bool s.o.knows) ∧ wr.drew.cell? ⟨ql, 0, none⟩ = some (.int .i64 s.l.p.epoch) ∧ wr.drew.cell? ⟨ql, 1, none⟩ = some (.slice la s.l.p.chains.length lc) := ⟨c0, c1, o0, o2, l0, l1⟩
      clear hMr hMd hND hll
      go_wp2_with fail
      go_region_held3 (fun w' => w'.cell? ⟨qb, 16, none⟩ = some (.pointer (some ⟨qo, 0, none⟩)) ∧ w'.cell? ⟨qb, 17, none⟩ = some (.pointer (some ⟨ql, 0, none⟩)) ∧ w'.cell? ⟨qo, 0, none⟩ = some (.int .i64 s.o.epoch) ∧ w'.cell? ⟨qo, 2, none⟩ = some (.bool s.o.knows) ∧ w'.cell? ⟨ql, 0, none⟩ = some (.int .i64 s.l.p.epoch) ∧ w'.cell? ⟨ql, 1, none⟩ = some (.slice la s.l.p.chains.length lc))
        (first
          | with_reducible exact d0
          | with_reducible exact e0
          | with_reducible exact f0)
        (first
          | (go_at_call 52; (with_reducible refine hor.mono ?_); rintro e wa ⟨rfl, rfl⟩)
          | (go_at_call 53; (with_reducible refine hoe.mono ?_); rintro e wa ⟨rfl, rfl⟩)
          | (go_at_call 54; (with_reducible refine hok.mono ?_); rintro e wa ⟨rfl, rfl⟩)
          | (go_at_call 55; (with_reducible refine hly.mono ?_); rintro e wa ⟨rfl, rfl⟩)
          | (go_at_call 56; (with_reducible refine hln.mono ?_); rintro e wb ⟨na, nc, rfl, hlb, hBb⟩
             have hMb : Mod none' wr.drew wb := Mod.of_below hBb
             have e0 : wb.cell? ⟨qb, 16, none⟩ = some (.pointer (some ⟨qo, 0, none⟩)) ∧ wb.cell? ⟨qb, 17, none⟩ = some (.pointer (some ⟨ql, 0, none⟩)) ∧ wb.cell? ⟨qo, 0, none⟩ = some (.int .i64 s.o.epoch) ∧ wb.cell? ⟨qo, 2, none⟩ = some (.bool s.o.knows) ∧ wb.cell? ⟨ql, 0, none⟩ = some (.int .i64 s.l.p.epoch) ∧ wb.cell? ⟨ql, 1, none⟩ = some (.slice la s.l.p.chains.length lc) := ⟨hMb.at d0.1 id, hMb.at d0.2.1 id, hMb.at d0.2.2.1 id, hMb.at d0.2.2.2.1 id, hMb.at d0.2.2.2.2.1 id, hMb.at d0.2.2.2.2.2 id⟩
             have hpj := projection_any (fun _ => True) wb s.l.p.epoch s.l.p.epoch na la nc lc s.l.p.chains s.l.p.chains (hlb.sub (fun _ _ _ => trivial)) ((HLL.out.mod (F := none') hMb (fun _ _ _ => id)).sub (fun _ _ _ => trivial))
             rw [show decide (s.l.p.epoch = s.l.p.epoch ∧ s.l.p.chains = s.l.p.chains) = true from decide_eq_true ⟨rfl, rfl⟩] at hpj
             have HMb := Lib.hid hMb
             clear hln hlb hBb hMb)
          | (go_at_call 39; (with_reducible refine hpj.mono ?_); rintro e wc ⟨rfl, hBc⟩
             have hMc : Mod none' wb wc := Mod.of_below hBc
             have f0 : wc.cell? ⟨qb, 16, none⟩ = some (.pointer (some ⟨qo, 0, none⟩)) ∧ wc.cell? ⟨qb, 17, none⟩ = some (.pointer (some ⟨ql, 0, none⟩)) ∧ wc.cell? ⟨qo, 0, none⟩ = some (.int .i64 s.o.epoch) ∧ wc.cell? ⟨qo, 2, none⟩ = some (.bool s.o.knows) ∧ wc.cell? ⟨ql, 0, none⟩ = some (.int .i64 s.l.p.epoch) ∧ wc.cell? ⟨ql, 1, none⟩ = some (.slice la s.l.p.chains.length lc) := ⟨hMc.at e0.1 id, hMc.at e0.2.1 id, hMc.at e0.2.2.1 id, hMc.at e0.2.2.2.1 id, hMc.at e0.2.2.2.2.1 id, hMc.at e0.2.2.2.2.2 id⟩
             have HMc := Lib.hid hMc
             clear hpj hBc hMc))
      go_wp2_with fail
      go_ret
      exact ⟨rfl, (HMd.out.trans (HMb.out.trans HMc.out)).below⟩
end Go.Proofs.YtnojjohkpkmliaaGreat
