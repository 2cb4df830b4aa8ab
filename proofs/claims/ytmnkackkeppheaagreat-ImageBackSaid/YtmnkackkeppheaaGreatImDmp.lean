/- package image: the dump of a text, as it is read -/
import Derived.Test.YtmnkackkeppheaaGreatPkDec
namespace Go.Proofs.YtmnkackkeppheaaGreat
open Go.RowKit Esch Go.Shelf

set_option linter.unusedSimpArgs false
set_option linter.unusedVariables false
set_option maxRecDepth 100000 in
set_option maxHeartbeats 16000000 in
theorem rdDump_any (w : World) (b : Nat) (s : USt) (h : UnpAt w b s.1 s.2) : Calls Tryz.prog 20 #[.agg #[.pointer (some ⟨b, 0, none⟩)]] w (DumpQ (rDump s) w b) := by
  obtain ⟨r0, hr0⟩ : ∃ r0, r0 = rDump s := ⟨_, rfl⟩
  rw [← hr0]
  have HK0 := Lib.hid (show r0 = (rNum 2 s).bind _ from hr0)
  have hbl := cell_lt h.c0
  obtain ⟨W1, hW1⟩ : ∃ W1, W1 = (w.alloc (.cells #[.pointer (some ⟨b, 0, none⟩)] 64)).alloc (.cells #[.int .i64 0, .slice none 0 0, .int .i64 0, .slice none 0 0, .slice none 0 0, .int .i64 0, .int .i64 0, .int .i64 0, .int .i64 0, .int .i64 0, .int .i64 0, .int .i64 0, .int .i64 0, .int .i64 0, .int .i64 0, .int .i64 0, .int .i64 0, .int .i64 0, .int .i64 0, .int .i64 0, .int .i64 0, .int .i64 0, .int .i64 0, .int .i64 0, .int .i64 0, .int .i64 0, .int .i64 0, .int .i64 0, .int .i64 0, .int .i64 0, .int .i64 0, .int .i64 0, .int .i64 0, .int .i64 0, .int .i64 0, .int .i64 0, .int .i64 0] 32) := ⟨_, rfl⟩
  have hB1 : Below w.heap.size w W1 := by rw [hW1]; exact belC (Below.refl _ _)
  have hU1 : UnpAt W1 b s.1 s.2 := h.mods (F := none') (Mod.of_below hB1) id
  have htb : W1.cell? ⟨w.heap.size, 0, none⟩ = some (.pointer (some ⟨b, 0, none⟩)) := by rw [hW1]; go_simp
  have hrs := DmBox.new (w.alloc (.cells #[.pointer (some ⟨b, 0, none⟩)] 64)) 32 dumpZ rfl
  rw [show (w.alloc (.cells #[.pointer (some ⟨b, 0, none⟩)] 64)).alloc (.cells dumpZ.toArray 32) = W1 from hW1.symm, show (w.alloc (.cells #[.pointer (some ⟨b, 0, none⟩)] 64)).heap.size = w.heap.size + 1 by simp] at hrs
  have HRS := Lib.hid hrs
  have HB1 := Lib.hid hB1
  have HW1 := Lib.hid hW1
  have hzw1 : W1.heap.size = w.heap.size + 2 := by rw [hW1]; simp
  have HZ1 := Lib.hid hzw1
  clear hr0 hrs hB1 hW1 h hzw1
  go_enter Tryz.func20, Tryz.ntmps20
  go_wp2_with fail
  rw [← HW1.out]
  refine (rdNum_any W1 b 2 s rfl hU1).mono ?_
  rintro e w2 ⟨hM, ⟨hr, rfl⟩ | ⟨r, hr, rfl, hU⟩⟩
  · go_wp2_with fail
    exact ⟨rfl, (Mod.of_below HB1.out).trans hM, Or.inl ⟨step_none HK0.out hr, rfl⟩⟩
  have HK1 := Lib.hid (step_some HK0.out hr)
  obtain ⟨n0, s1⟩ := r
  simp only at hU
  have hnb := DmBox.new w2 32 dumpZ rfl
  have hth := hnb.there
  have hst := hnb.store (dmZ (.int .i64 n0) (.slice none 0 0) (.int .i64 0) (.slice none 0 0) (.slice none 0 0)) rfl
  obtain ⟨W3, hW3⟩ : ∃ W3, W3 = (w2.alloc (.cells #[.int .i64 0, .slice none 0 0, .int .i64 0, .slice none 0 0, .slice none 0 0, .int .i64 0, .int .i64 0, .int .i64 0, .int .i64 0, .int .i64 0, .int .i64 0, .int .i64 0, .int .i64 0, .int .i64 0, .int .i64 0, .int .i64 0, .int .i64 0, .int .i64 0, .int .i64 0, .int .i64 0, .int .i64 0, .int .i64 0, .int .i64 0, .int .i64 0, .int .i64 0, .int .i64 0, .int .i64 0, .int .i64 0, .int .i64 0, .int .i64 0, .int .i64 0, .int .i64 0, .int .i64 0, .int .i64 0, .int .i64 0, .int .i64 0, .int .i64 0] 32)).setCells w2.heap.size 0 (dmZ (.int .i64 n0) (.slice none 0 0) (.int .i64 0) (.slice none 0 0) (.slice none 0 0)) := ⟨_, rfl⟩
  have hM3 : Mod (· = w2.heap.size) w2 W3 := by
    rw [hW3]
    exact Mod.setCellsAt (F := (· = w2.heap.size)) (show (· = w2.heap.size) w2.heap.size from rfl) _ _ _ ((Mod.refl _ _).alloc _)
  have hz2 := hM.size
  have hD3 : DIn w b w2.heap.size (fun j => ((dmZ (.int .i64 n0) (.slice none 0 0) (.int .i64 0) (.slice none 0 0) (.slice none 0 0))[j]?).getD undef) s1 W3 := by
    have hz1 := HZ1.out
    have h1 := (hM.at htb (by omega))
    have hbw : Below w2.heap.size w2 W3 := hM3.below_at (Nat.le_refl _) (fun k hk e => by have e : k = w2.heap.size := e; omega)
    refine ⟨below_at hbw h1 (cell_lt h1), by rw [hW3]; exact hst, hU.mods hM3 (by omega), (HRS.out.mods hM (by omega)).mods hM3 (by omega), ?_, hbl, by omega⟩
    have h2 := (Mod.of_below (F := (· = b)) HB1.out).trans hM
    exact h2.trans (Mod.of_below hbw)
  have HD3 := Lib.hid hD3
  have HW3 := Lib.hid hW3
  have htb3 := hD3.tb
  clear hr hU hM hnb hst hW3 hM3 hD3 hz2 htb hU1
  go_wp2_with (refine wpList_store_mid (by rfl) 32 _ _ (by rfl) w2.heap.size 0 (dmZ (.int .i64 n0) (.slice none 0 0) (.int .i64 0) (.slice none 0 0) (.slice none 0 0)).toArray (by rfl) (by rfl) hth (by kernel_rfl) (dmZ_one _ _ _ _ _ _ _ _ _ _ _) ?_; rw [← HW3.out])
  obtain ⟨db, hdb⟩ : ∃ db, db = w2.heap.size := ⟨_, rfl⟩
  rw [← hdb] at HD3 ⊢
  clear hdb hth HW3 htb3
  have htb := HD3.out.tb
  refine (rdNum_any W3 b 1 s1 rfl HD3.out.un).mono ?_
  rintro e w4 ⟨hM, ⟨hr, rfl⟩ | ⟨r, hr, rfl, hU⟩⟩
  · go_wp2_with fail
    exact ⟨rfl, HD3.out.md.trans hM, Or.inl ⟨step_none HK1.out hr, rfl⟩⟩
  have HM4 := Lib.hid hM
  have HD4 := Lib.hid (HD3.out.num hM hU)
  have HK2 := Lib.hid (step_some HK1.out hr)
  have HL4 := Lib.hid (rNum_lt8 hr)
  obtain ⟨n1, s2⟩ := r
  simp only at HD4 HK2 HL4
  clear hr hU hM htb
  have htb := HD4.out.tb
  go_wp2_with fail
  go_loopg [12] n1 (fun g v wr => L1Rel w b db n0 n1 r0 g v wr)
  case atStart => exact ⟨0, s2, none, 0, [], none', rfl, Nat.zero_le _, rfl, rfl, HD4.out, ⟨0, GRowAt.nil _ _ _ _, fun c h => h.elim, (fun x hx => by cases hx), Nat.zero_le _⟩, HK2.out⟩
  case round =>
    obtain ⟨i, sI, ao, cap, k, R, rfl, hil, rfl, hkl, hD, ⟨z0, hR⟩, hK⟩ := hrel
    have HD := Lib.hid hD
    have HR := Lib.hid hR
    have HKK := Lib.hid hK
    have HKL := Lib.hid hkl
    clear hD hR hK hkl
    by_cases hlt : i < n1
    · skip
      have HLT := Lib.hid hlt
      have hil2 : (0 : Int) ≤ i ∧ (i : Int) < n1 := by omega
      have hwr := Lib.hid (show wrap64 ((i : Int) + 1) = ((i + 1 : Nat) : Int) by have := HL4.out; unfold wrap64; omega)
      have hms : n1 - (i + 1) < n1 - i := by omega
      have HK := Lib.hid (show r0 = ((rNum 4 sI).bind _).bind _ by have h1 := HKK.out; rw [show n1 - i = (n1 - (i + 1)) + 1 by omega, rRep_bind] at h1; exact h1)
      have HD := Lib.hid (HD.out.oth (F := none') ((Mod.refl _ _).drew) (fun k _ h => h.elim) : DIn w b db _ sI wr.drew)
      have HR := Lib.hid (HR.out.top.mods (F := none') ((Mod.refl _ _).drew) (fun k _ h => h.elim) : InosR w wr.heap.size wr.drew db R ao cap k)
      obtain ⟨zr, hzr⟩ : ∃ zr, zr = wr.heap.size := ⟨_, rfl⟩
      have HZR : Hid (zr = wr.drew.heap.size) := Lib.hid hzr
      rw [← hzr] at HR
      obtain ⟨wq, hwq⟩ : ∃ wq, wq = wr.drew := ⟨_, rfl⟩
      rw [← hwq] at HD HR HZR
      have HMQ := Lib.hid (Mod.refl (fun c => c = b) wq)
      have HZW : Hid (w.heap.size + 2 ≤ zr ∧ db < zr ∧ b < w.heap.size) := Lib.hid (by have h1 := HD.out.md.size; have h2 := cell_lt (HD.out.bx.at' 0 (by decide)); have h3 := HD.out.dl; have h4 := HZR.out; have h5 := HD.out.bl; omega)
      have htb := HD.out.tb
      clear hzr
      go_wp2_with fail
      refine wp_region_held_drew (S := fun W => W.cell? ⟨w.heap.size, 0, none⟩ = some (.pointer (some ⟨b, 0, none⟩))) (by kernel_rfl) (by rw [← hwq]; exact htb) (fun hHeld => ?_)
      rw [← hwq] at hHeld ⊢
      clear hwq
      refine takeL 0 ?_
      refine takeL 2 ?_
      refine takeL 4 ?_
      refine takeL 6 ?_
      refine takeL 8 ?_
      refine wpAnyH_ready (rs := [1, 11]) (by kernel_rfl) (by simp) ?_
      refine AllReadyH.cons (o := _) rfl (fun K hK => ?_) (AllReadyH.cons (o := _) rfl (fun K hK => ?_) AllReadyH.nil)
      · go_simp
        refine (rdNum_any wq b 4 sI rfl HD.out.un).mono ?_
        rintro e wc0 ⟨hM, ⟨hr, rfl⟩ | ⟨r, hr, rfl, hU⟩⟩
        · go_wp2_with fail
          exact ⟨rfl, HD.out.md.trans hM, Or.inl ⟨step_none2 HK.out hr, rfl⟩⟩
        have HD := Lib.hid (HD.out.num hM hU)
        have HK := Lib.hid (step_some2 HK.out hr)
        have HLna := Lib.hid (rNum_lt8 hr)
        have HR := Lib.hid (HR.out.mods hM (fun c _ e => Or.inr (by have e : c = b := e; omega)))
        have HMQ := Lib.hid (HMQ.out.trans hM)
        obtain ⟨na, ta⟩ := r
        simp only at HD HK
        clear hr hU hM
        try go_wp2_with fail
        refine hK.out _ _ HD.out.tb (fun hHeld => ?_)
        clear hK K
        try simp only [Act.put, List.setIfInBounds_toArray, List.set_cons_zero, List.set_cons_succ]
        refine wpAnyH_ready (rs := [3, 11]) (by kernel_rfl) (by simp) ?_
        refine AllReadyH.cons (o := _) rfl (fun K hK => ?_) (AllReadyH.cons (o := _) rfl (fun K hK => ?_) AllReadyH.nil)
        · go_simp
          refine (rdNum_any wc0 b 1 ta rfl HD.out.un).mono ?_
          rintro e wc1 ⟨hM, ⟨hr, rfl⟩ | ⟨r, hr, rfl, hU⟩⟩
          · go_wp2_with fail
            exact ⟨rfl, HD.out.md.trans hM, Or.inl ⟨step_none2 HK.out hr, rfl⟩⟩
          have HD := Lib.hid (HD.out.num hM hU)
          have HK := Lib.hid (step_some2 HK.out hr)
          have HLnb := Lib.hid (rNum_lt8 hr)
          have HR := Lib.hid (HR.out.mods hM (fun c _ e => Or.inr (by have e : c = b := e; omega)))
          have HMQ := Lib.hid (HMQ.out.trans hM)
          obtain ⟨nb, tb⟩ := r
          simp only at HD HK
          clear hr hU hM
          try go_wp2_with fail
          refine hK.out _ _ HD.out.tb (fun hHeld => ?_)
          clear hK K
          try simp only [Act.put, List.setIfInBounds_toArray, List.set_cons_zero, List.set_cons_succ]
          refine wpAnyH_ready (rs := [5, 11]) (by kernel_rfl) (by simp) ?_
          refine AllReadyH.cons (o := _) rfl (fun K hK => ?_) (AllReadyH.cons (o := _) rfl (fun K hK => ?_) AllReadyH.nil)
          · go_simp
            refine (rdNum_any wc1 b 1 tb rfl HD.out.un).mono ?_
            rintro e wc2 ⟨hM, ⟨hr, rfl⟩ | ⟨r, hr, rfl, hU⟩⟩
            · go_wp2_with fail
              exact ⟨rfl, HD.out.md.trans hM, Or.inl ⟨step_none2 HK.out hr, rfl⟩⟩
            have HD := Lib.hid (HD.out.num hM hU)
            have HK := Lib.hid (step_some2 HK.out hr)
            have HLnc := Lib.hid (rNum_lt8 hr)
            have HR := Lib.hid (HR.out.mods hM (fun c _ e => Or.inr (by have e : c = b := e; omega)))
            have HMQ := Lib.hid (HMQ.out.trans hM)
            obtain ⟨nc, tc⟩ := r
            simp only at HD HK
            clear hr hU hM
            try go_wp2_with fail
            refine hK.out _ _ HD.out.tb (fun hHeld => ?_)
            clear hK K
            try simp only [Act.put, List.setIfInBounds_toArray, List.set_cons_zero, List.set_cons_succ]
            refine wpAnyH_ready (rs := [7, 11]) (by kernel_rfl) (by simp) ?_
            refine AllReadyH.cons (o := _) rfl (fun K hK => ?_) (AllReadyH.cons (o := _) rfl (fun K hK => ?_) AllReadyH.nil)
            · go_simp
              refine (rdNum_any wc2 b 1 tc rfl HD.out.un).mono ?_
              rintro e wc3 ⟨hM, ⟨hr, rfl⟩ | ⟨r, hr, rfl, hU⟩⟩
              · go_wp2_with fail
                exact ⟨rfl, HD.out.md.trans hM, Or.inl ⟨step_none2 HK.out hr, rfl⟩⟩
              have HD := Lib.hid (HD.out.num hM hU)
              have HK := Lib.hid (step_some2 HK.out hr)
              have HLnd := Lib.hid (rNum_lt8 hr)
              have HR := Lib.hid (HR.out.mods hM (fun c _ e => Or.inr (by have e : c = b := e; omega)))
              have HMQ := Lib.hid (HMQ.out.trans hM)
              obtain ⟨nd, td⟩ := r
              simp only at HD HK
              clear hr hU hM
              try go_wp2_with fail
              refine hK.out _ _ HD.out.tb (fun hHeld => ?_)
              clear hK K
              try simp only [Act.put, List.setIfInBounds_toArray, List.set_cons_zero, List.set_cons_succ]
              refine wpAnyH_ready (rs := [9, 11]) (by kernel_rfl) (by simp) ?_
              refine AllReadyH.cons (o := _) rfl (fun K hK => ?_) (AllReadyH.cons (o := _) rfl (fun K hK => ?_) AllReadyH.nil)
              · go_simp
                refine (rdNum_any wc3 b 2 td rfl HD.out.un).mono ?_
                rintro e wc4 ⟨hM, ⟨hr, rfl⟩ | ⟨r, hr, rfl, hU⟩⟩
                · go_wp2_with fail
                  exact ⟨rfl, HD.out.md.trans hM, Or.inl ⟨step_none2 HK.out hr, rfl⟩⟩
                have HD := Lib.hid (HD.out.num hM hU)
                have HK := Lib.hid (step_some2 HK.out hr)
                have HLne := Lib.hid (rNum_lt8 hr)
                have HR := Lib.hid (HR.out.mods hM (fun c _ e => Or.inr (by have e : c = b := e; omega)))
                have HMQ := Lib.hid (HMQ.out.trans hM)
                obtain ⟨ne, te⟩ := r
                simp only at HD HK
                clear hr hU hM
                try go_wp2_with fail
                refine hK.out _ _ HD.out.tb (fun hHeld => ?_)
                clear hK K
                try simp only [Act.put, List.setIfInBounds_toArray, List.set_cons_zero, List.set_cons_succ]
                refine takeL 10 ?_
                refine wpAnyH_ready (rs := [11]) (by kernel_rfl) (by simp) ?_
                refine AllReadyH.cons (o := _) rfl (fun K hK => ?_) AllReadyH.nil
                go_simp
                obtain ⟨xb, hxb⟩ : ∃ xb, xb = wc4.heap.size := ⟨_, rfl⟩
                obtain ⟨wx5, hwy⟩ : ∃ wy, wy = wc4.alloc (.cells #[.int .i64 0, .int .i64 0, .int .i64 0, .int .i64 0, .int .i64 0, .slice none 0 0] 102) := ⟨_, rfl⟩
                have hMA : Mod none' wc4 wx5 := by rw [hwy]; exact (Mod.refl _ _).alloc _
                have HD := Lib.hid (HD.out.oth hMA (fun c _ h => h.elim))
                have HR := Lib.hid (HR.out.mods hMA (fun c _ h => h.elim))
                have HX : Hid (wx5.there xb 0 6 ∧ zr ≤ xb ∧ xb < wx5.heap.size) := Lib.hid ⟨by rw [hwy, hxb]; exact there_new wc4 102 [.int .i64 0, .int .i64 0, .int .i64 0, .int .i64 0, .int .i64 0, .slice none 0 0], by have := HMQ.out.size; have := HZR.out; omega, by rw [hwy, hxb]; simp⟩
                have HMQ := Lib.hid (HMQ.out.trans (hMA.mono fun c _ h => h.elim))
                rw [← hwy, ← hxb]
                clear hwy hxb hMA
                try go_wp2_with fail
                refine hK.out _ _ HD.out.tb (fun hHeld => ?_)
                clear hK K
                try simp only [Act.put, List.setIfInBounds_toArray, List.set_cons_zero, List.set_cons_succ]
                refine wpAnyH_ready (rs := [12]) (by kernel_rfl) (by simp) ?_
                refine AllReadyH.cons (o := _) rfl (fun K hK => ?_) AllReadyH.nil
                rw [if_pos (by rfl)]
                refine wp_store_mid _ _ _ rfl xb 0 #[.int .i64 na, .int .i64 nb, .int .i64 nc, .int .i64 nd, .int .i64 ne, .slice none 0 0] rfl rfl HX.out.1 (by kernel_rfl) (by simp [Value.oneCell']) ?_
                obtain ⟨w5, hw5⟩ : ∃ w5, w5 = wx5.setCells xb 0 [.int .i64 na, .int .i64 nb, .int .i64 nc, .int .i64 nd, .int .i64 ne, .slice none 0 0] := ⟨_, rfl⟩
                have hM5 : Mod (· = xb) wx5 w5 := by rw [hw5]; exact Mod.setCellsAt (F := (· = xb)) (show (· = xb) xb from rfl) _ _ _ (Mod.refl _ _)
                have HXI : Hid (XIn w5 xb na nb nc nd ne (.slice none 0 0)) := Lib.hid (by rw [hw5]; exact xin_new HX.out.1)
                have HD := Lib.hid (HD.out.oth hM5 (fun c _ e => by have e : c = xb := e; have := HX.out.2; have := HZW.out; omega))
                have HR := Lib.hid (HR.out.mods hM5 (fun c h e => by have e : c = xb := e; have := HX.out.2; omega))
                have HMQ := Lib.hid (HMQ.out.trans' hM5 (fun c h e => by have e : c = xb := e; have := HX.out.2; have := HZR.out; omega))
                show K _ _
                rw [← hw5]
                clear hw5 hM5
                try go_wp2_with fail
                refine hK.out _ _ HD.out.tb (fun hHeld => ?_)
                clear hK K
                try simp only [Act.put, List.setIfInBounds_toArray, List.set_cons_zero, List.set_cons_succ]
                refine wpAnyH_done (by kernel_rfl) ?_ _
                clear hHeld
                have htb := HD.out.tb
                have HXB : Hid (zr ≤ xb ∧ b < zr ∧ db < zr ∧ w.heap.size + 2 ≤ zr) := Lib.hid ⟨HX.out.2.1, Nat.lt_of_lt_of_le HZW.out.2.2 (by have := HZW.out; omega), HZW.out.2.1, HZW.out.1⟩
                clear HX
                go_wp2_with fail
                refine (rdNum_any w5 b 1 te rfl HD.out.un).mono ?_
                rintro e w6 ⟨hM, ⟨hr, rfl⟩ | ⟨r, hr, rfl, hU⟩⟩
                · go_wp2_with fail
                  exact ⟨rfl, HD.out.md.trans hM, Or.inl ⟨step_none2 HK.out hr, rfl⟩⟩
                have hxb0 : xb ≠ b := by have := HXB.out; omega
                have HXI := Lib.hid (HXI.out.mods hM hxb0)
                have HR := Lib.hid (HR.out.mods hM (fun c _ e => Or.inr (by have e : c = b := e; have := HD.out.bl; omega)))
                have HD := Lib.hid (HD.out.num hM hU)
                have HK := Lib.hid (step_some2 HK.out hr)
                have HLm := Lib.hid (rNum_lt8 hr)
                obtain ⟨nm, tm⟩ := r
                simp only at HD HK HLm
                clear hr hU hM htb HMQ hHeld
                have HZ6 : Hid (xb < w6.heap.size ∧ zr ≤ w6.heap.size) := Lib.hid ⟨cell_lt HXI.out.c0, HR.out.zl⟩
                have htb := HD.out.tb
                go_wp2_with fail
                go_loopg [27] nm (fun g v wr => PRel w6 b xb na nb nc nd ne nm (KP n0 (k.map InC.val) (n1 - (i + 1)) na nb nc nd ne) r0 g v wr)
                case atStart => exact ⟨0, tm, none, 0, [], rfl, Nat.zero_le _, rfl, rfl, HD.out.un, HXI.out, GRowAt.nil _ _ _ _, Mod.refl _ _, HK.out.trans (kp_start _ _)⟩
                case round =>
                  obtain ⟨j, sP, ap, cp, lp, rfl, hjm, rfl, hlp, hU, hX, hG, hM, hK⟩ := hrel
                  have HU := Lib.hid hU
                  have HXI := Lib.hid hX
                  have HG := Lib.hid hG
                  have HM := Lib.hid hM
                  have HKP := Lib.hid hK
                  have HLP := Lib.hid hlp
                  have htw : wr.cell? ⟨w.heap.size, 0, none⟩ = some (.pointer (some ⟨b, 0, none⟩)) := hM.at htb (by have := HXB.out; have := HD.out.bl; omega)
                  clear hU hX hG hM hK hlp
                  by_cases hjt : j < nm
                  · skip
                    have HJT := Lib.hid hjt
                    have hjl2 : (0 : Int) ≤ j ∧ (j : Int) < nm := by omega
                    have hwrj := Lib.hid (show wrap64 ((j : Int) + 1) = ((j + 1 : Nat) : Int) by have := HLm.out; unfold wrap64; omega)
                    have hmj : nm - (j + 1) < nm - j := by omega
                    have HK := Lib.hid (show r0 = ((rNum 2 sP).bind _).bind _ by have h1 := HKP.out; rw [show nm - j = (nm - (j + 1)) + 1 by omega, rRep_bind] at h1; exact h1)
                    have hKX : wr.drew.cell? ⟨w.heap.size, 0, none⟩ = some (.pointer (some ⟨b, 0, none⟩)) ∧ wr.drew.cell? ⟨xb, 5, none⟩ = some (.slice ap j cp) := ⟨htw, HXI.out.c5⟩
                    have HU := Lib.hid (show UnpAt wr.drew b sP.1 sP.2 from HU.out.mods (F := none') ((Mod.refl _ _).drew) id)
                    have HXI := Lib.hid (show XIn wr.drew xb na nb nc nd ne _ from HXI.out.mods (F := none') ((Mod.refl _ _).drew) id)
                    have HV0 := Lib.hid ((Mod.refl (· = b) wr).drew)
                    obtain ⟨j0, hji, hy0, hy1, hy2⟩ := info_parts Tryz.infoPart
                    clear hjt
                    go_wp2_with fail
                    refine anyX_begin 14 (fun W => W.cell? ⟨w.heap.size, 0, none⟩ = some (.pointer (some ⟨b, 0, none⟩)) ∧ W.cell? ⟨xb, 5, none⟩ = some (.slice ap j cp)) (by kernel_rfl) hKX (fun hHeld => ?_)
                    clear hKX htw
                    refine takeX 0 ?_
                    refine takeX 1 ?_
                    refine takeX 2 ?_
                    refine takeX 4 ?_
                    refine takeX 6 ?_
                    refine takeX 8 ?_
                    have HU0 := Lib.hid (show UnpAt wr b sP.1 sP.2 from ⟨HU.out.c0, HU.out.c1, HU.out.f0, HU.out.f1, HU.out.size⟩)
                    refine anyX_ready (rs := [3]) (by kernel_rfl) (by simp) ?_
                    refine anyX_cons (o := ?_) ?_ (fun K hK => ?_) ?_
                    rotate_left 1
                    · simp only [List.getElem?_toArray, List.getElem?_cons_succ, List.getElem?_cons_zero]; rfl
                    rotate_left 1
                    · exact anyX_nil
                    go_simp
                    refine (rdNum_any wr.drew b 2 sP rfl HU.out).mono ?_
                    rintro e wp0 ⟨hM, ⟨hr, rfl⟩ | ⟨r, hr, rfl, hU⟩⟩
                    · go_wp2_with fail
                      exact ⟨rfl, (HD.out.gen (F := fun c => c = b ∨ c = xb) (s' := sP) HM.out (fun c _ e => e.imp id (fun e => by have := HXB.out; omega)) HU0.out).md.trans (HV0.out.trans hM), Or.inl ⟨step_none2 HK.out hr, rfl⟩⟩
                    have HK := Lib.hid (step_some2 HK.out hr)
                    have HLpa := Lib.hid (rNum_lt8 hr)
                    have HU := Lib.hid hU
                    have HXI := Lib.hid (HXI.out.mods hM hxb0)
                    have HV0 := Lib.hid (HV0.out.trans hM)
                    have htw := hM.at hHeld.1 (by have := HD.out.bl; omega)
                    obtain ⟨pa, qa⟩ := r
                    simp only at HK HU
                    clear hr hU hM
                    try go_wp2_with fail
                    refine hK.out _ _ ⟨htw, HXI.out.c5⟩ (fun hHeld => ?_)
                    clear hK K
                    try simp only [Act.put, List.setIfInBounds_toArray, List.set_cons_zero, List.set_cons_succ]
                    clear htw
                    refine anyX_ready (rs := [5]) (by kernel_rfl) (by simp) ?_
                    refine anyX_cons (o := ?_) ?_ (fun K hK => ?_) ?_
                    rotate_left 1
                    · simp only [List.getElem?_toArray, List.getElem?_cons_succ, List.getElem?_cons_zero]; rfl
                    rotate_left 1
                    · exact anyX_nil
                    go_simp
                    refine (rdNum_any wp0 b 2 qa rfl HU.out).mono ?_
                    rintro e wp1 ⟨hM, ⟨hr, rfl⟩ | ⟨r, hr, rfl, hU⟩⟩
                    · go_wp2_with fail
                      exact ⟨rfl, (HD.out.gen (F := fun c => c = b ∨ c = xb) (s' := sP) HM.out (fun c _ e => e.imp id (fun e => by have := HXB.out; omega)) HU0.out).md.trans (HV0.out.trans hM), Or.inl ⟨step_none2 HK.out hr, rfl⟩⟩
                    have HK := Lib.hid (step_some2 HK.out hr)
                    have HLpb := Lib.hid (rNum_lt8 hr)
                    have HU := Lib.hid hU
                    have HXI := Lib.hid (HXI.out.mods hM hxb0)
                    have HV0 := Lib.hid (HV0.out.trans hM)
                    have htw := hM.at hHeld.1 (by have := HD.out.bl; omega)
                    obtain ⟨pb, qb⟩ := r
                    simp only at HK HU
                    clear hr hU hM
                    try go_wp2_with fail
                    refine hK.out _ _ ⟨htw, HXI.out.c5⟩ (fun hHeld => ?_)
                    clear hK K
                    try simp only [Act.put, List.setIfInBounds_toArray, List.set_cons_zero, List.set_cons_succ]
                    clear htw
                    refine anyX_ready (rs := [7]) (by kernel_rfl) (by simp) ?_
                    refine anyX_cons (o := ?_) ?_ (fun K hK => ?_) ?_
                    rotate_left 1
                    · simp only [List.getElem?_toArray, List.getElem?_cons_succ, List.getElem?_cons_zero]; rfl
                    rotate_left 1
                    · exact anyX_nil
                    go_simp
                    refine (rdNum_any wp1 b 2 qb rfl HU.out).mono ?_
                    rintro e wp2 ⟨hM, ⟨hr, rfl⟩ | ⟨r, hr, rfl, hU⟩⟩
                    · go_wp2_with fail
                      exact ⟨rfl, (HD.out.gen (F := fun c => c = b ∨ c = xb) (s' := sP) HM.out (fun c _ e => e.imp id (fun e => by have := HXB.out; omega)) HU0.out).md.trans (HV0.out.trans hM), Or.inl ⟨step_none2 HK.out hr, rfl⟩⟩
                    have HK := Lib.hid (step_some2 HK.out hr)
                    have HLpc := Lib.hid (rNum_lt8 hr)
                    have HU := Lib.hid hU
                    have HXI := Lib.hid (HXI.out.mods hM hxb0)
                    have HV0 := Lib.hid (HV0.out.trans hM)
                    have htw := hM.at hHeld.1 (by have := HD.out.bl; omega)
                    obtain ⟨pc, qc⟩ := r
                    simp only at HK HU
                    clear hr hU hM
                    try go_wp2_with fail
                    refine hK.out _ _ ⟨htw, HXI.out.c5⟩ (fun hHeld => ?_)
                    clear hK K
                    try simp only [Act.put, List.setIfInBounds_toArray, List.set_cons_zero, List.set_cons_succ]
                    clear htw
                    refine anyX_ready (rs := [9]) (by kernel_rfl) (by simp) ?_
                    refine anyX_cons (o := ?_) ?_ (fun K hK => ?_) ?_
                    rotate_left 1
                    · simp only [List.getElem?_toArray, List.getElem?_cons_succ, List.getElem?_cons_zero]; rfl
                    rotate_left 1
                    · exact anyX_nil
                    go_simp
                    refine (rdNum_any wp2 b 2 qc rfl HU.out).mono ?_
                    rintro e wp3 ⟨hM, ⟨hr, rfl⟩ | ⟨r, hr, rfl, hU⟩⟩
                    · go_wp2_with fail
                      exact ⟨rfl, (HD.out.gen (F := fun c => c = b ∨ c = xb) (s' := sP) HM.out (fun c _ e => e.imp id (fun e => by have := HXB.out; omega)) HU0.out).md.trans (HV0.out.trans hM), Or.inl ⟨step_none2 HK.out hr, rfl⟩⟩
                    have HK := Lib.hid (step_some2 HK.out hr)
                    have HLpd := Lib.hid (rNum_lt8 hr)
                    have HU := Lib.hid hU
                    have HXI := Lib.hid (HXI.out.mods hM hxb0)
                    have HV0 := Lib.hid (HV0.out.trans hM)
                    have htw := hM.at hHeld.1 (by have := HD.out.bl; omega)
                    obtain ⟨pd, qd⟩ := r
                    simp only at HK HU
                    clear hr hU hM
                    try go_wp2_with fail
                    refine hK.out _ _ ⟨htw, HXI.out.c5⟩ (fun hHeld => ?_)
                    clear hK K
                    try simp only [Act.put, List.setIfInBounds_toArray, List.set_cons_zero, List.set_cons_succ]
                    clear htw
                    refine takeX 10 ?_
                    refine anyX_ready (rs := [11]) (by kernel_rfl) (by simp) ?_
                    refine anyX_cons (o := ?_) ?_ (fun K hK => ?_) ?_
                    rotate_left 1
                    · simp only [List.getElem?_toArray, List.getElem?_cons_succ, List.getElem?_cons_zero]; rfl
                    rotate_left 1
                    · exact anyX_nil
                    go_simp
                    obtain ⟨W7, hW7⟩ : ∃ W7, W7 = wp3.alloc (.cells #[.int .i64 pa, .int .i64 pb, .int .i64 pc, .int .i64 pd] 94) := ⟨_, rfl⟩
                    have hh7 : W7.heap[wp3.heap.size]? = some (.cells (ptC ⟨pa, pb, pc, pd⟩).toArray 94) := by rw [hW7]; exact heap_alloc_new _ _
                    have hM7 : Mod none' wp3 W7 := by rw [hW7]; exact (Mod.refl _ _).alloc _
                    have HU := Lib.hid (HU.out.mods hM7 id)
                    have HXI := Lib.hid (HXI.out.mods hM7 id)
                    have HV0 := Lib.hid (HV0.out.trans (hM7.mono fun c _ h => h.elim))
                    have htw := hM7.at hHeld.1 id
                    have hz7 : W7.heap.size = wp3.heap.size + 1 := by rw [hW7]; simp
                    rw [← hW7]
                    clear hW7
                    try go_wp2_with fail
                    refine hK.out _ _ ⟨htw, HXI.out.c5⟩ (fun hHeld => ?_)
                    clear hK K
                    try simp only [Act.put, List.setIfInBounds_toArray, List.set_cons_zero, List.set_cons_succ]
                    clear htw
                    refine anyX_ready (rs := [12]) (by kernel_rfl) (by simp) ?_
                    refine anyX_cons (o := ?_) ?_ (fun K hK => ?_) ?_
                    rotate_left 1
                    · simp only [List.getElem?_toArray, List.getElem?_cons_succ, List.getElem?_cons_zero]; rfl
                    rotate_left 1
                    · exact anyX_nil
                    have HG7 := Lib.hid (HG.out.mod (HV0.out) (fun c hc _ e => by have e : c = b := e; have := HZ6.out; have := HXB.out; omega))
                    refine step_append_g (by rfl) (.tmp 30) (.tmp 40) 90 90 (by rfl) 94 j0 _ 32 Tryz.underlying90 hji hy0 hy1 hy2 (by rfl) (by rfl) HG7.out _ 1 (ptC ⟨pa, pb, pc, pd⟩) (by rfl) (src_pt _ _ Tryz.underlying90 wp3.heap.size _ 94 hh7 _) (by have := HLm.out; omega) (by have := HLm.out; omega) ?_
                    intro a8 cap8 w8 hg8 hM8 hz8
                    have HS7 : Hid (w6.heap.size ≤ W7.heap.size) := Lib.hid (Nat.le_trans HM.out.size HV0.out.size)
                    have hx8 : ¬ (w6.heap.size ≤ xb) := by have := HZ6.out; omega
                    have HXI := Lib.hid (HXI.out.mods hM8 hx8)
                    have HU := Lib.hid (HU.out.mods hM8 (by have := HZ6.out; have := HXB.out; omega))
                    have htw := hM8.at hHeld.1 (by have := HZ6.out; have := HXB.out; omega)
                    have HV8 : Hid (Mod (fun c => c = b ∨ c = xb) w6 w8) := Lib.hid ((HM.out.trans (HV0.out.mono fun c _ e => Or.inl e)).trans' hM8 (fun c h e => by omega))
                    have HG8 := Lib.hid hg8
                    have c5 := HXI.out.c5
                    have f5 := HXI.out.f5
                    have l5 := cell_lt c5
                    clear hg8 hM8 hz8 hh7 hM7 hz7
                    try go_wp2_with fail
                    refine hK.out _ _ ⟨htw, c5⟩ (fun hHeld => ?_)
                    clear hK K
                    try simp only [Act.put, List.setIfInBounds_toArray, List.set_cons_zero, List.set_cons_succ]
                    refine anyX_ready (rs := [13]) (by kernel_rfl) (by simp) ?_
                    refine anyX_cons (o := ?_) ?_ (fun K hK => ?_) ?_
                    rotate_left 1
                    · simp only [List.getElem?_toArray, List.getElem?_cons_succ, List.getElem?_cons_zero]; rfl
                    rotate_left 1
                    · exact anyX_nil
                    go_simp
                    try go_wp2_with fail
                    refine hK.out _ _ hHeld (fun hHeld => ?_)
                    clear hK K
                    try simp only [Act.put, List.setIfInBounds_toArray, List.set_cons_zero, List.set_cons_succ]
                    refine anyX_ready (rs := [14]) (by kernel_rfl) (by simp) ?_
                    refine anyX_last (o := ?_) ?_ (fun K hK => ?_)
                    rotate_left 1
                    · simp only [List.getElem?_toArray, List.getElem?_cons_succ, List.getElem?_cons_zero]; rfl
                    go_simp
                    refine hK.out _ _ (anyX_done (by kernel_rfl) ?_ _)
                    clear hK K hHeld htw
                    go_wp2_with fail
                    go_roundg (nm - (j + 1))
                    case measure => exact hmj
                    case rel =>
                      have hMs : Mod (· = xb) w8 (w8.setCell ⟨xb, 5, none⟩ (.slice a8 (j + 1) cap8)) := (Mod.refl (· = xb) w8).setCellAt (fun _ => rfl) _
                      exact ⟨j + 1, qd, a8, cap8, lp ++ [(⟨pa, pb, pc, pd⟩ : PtS)], rfl, HJT.out, by first | rfl | rw [hwrj.out], by rw [List.length_append, HLP.out]; rfl, HU.out.mods hMs (fun e => hxb0 e.symm), by first | exact HXI.out.set _ | (rw [← Int.natCast_succ]; exact HXI.out.set _), by
                        rw [List.flatMap_append, show ([⟨pa, pb, pc, pd⟩] : List PtS).flatMap ptC = ptC ⟨pa, pb, pc, pd⟩ from List.append_nil _]
                        exact (HG8.out.sub (fun c _ hc => by have := HS7.out; rcases hc with hc | hc <;> omega)).mod hMs (fun c hc _ e => by have e : c = xb := e; have := HZ6.out; omega), HV8.out.trans (hMs.mono fun c _ e => Or.inr e), kp_part HK.out⟩
                  · skip
                    obtain rfl : j = nm := by omega
                    have HXF := Lib.hid HXI.out
                    have HK := Lib.hid (show r0 = (rRep rIno (n1 - (i + 1)) sP).bind _ by have h1 := HKP.out; rw [Nat.sub_self] at h1; exact h1)
                    have HD := Lib.hid (HD.out.gen (F := fun c => c = b ∨ c = xb) HM.out (fun c _ e => e.imp id (fun e => by have := HXB.out; omega)) HU.out)
                    have HR := Lib.hid (HR.out.mods HM.out (fun c h e => Or.inr (by have := HXB.out; have := HD.out.bl; rcases e with e | e <;> omega)))
                    have hd1 : wr.cell? ⟨db, 1, none⟩ = some (.slice ao i cap) := HD.out.bx.at' 1 (by decide)
                    have hdf : wr.frozen? ⟨db, 1, none⟩ = false := HD.out.bx.fz 1
                    obtain ⟨h0, h1, h2, h3, h4, h5, hf5⟩ := HXI.out
                    obtain ⟨x, hx⟩ : ∃ x : InC, x = ⟨na, nb, nc, nd, ne, ap, cp, lp⟩ := ⟨_, rfl⟩
                    obtain ⟨W7, hW7⟩ : ∃ W7, W7 = wr.alloc (.cells #[.int .i64 na, .int .i64 nb, .int .i64 nc, .int .i64 nd, .int .i64 ne, .slice ap j cp] 102) := ⟨_, rfl⟩
                    have hh7 : W7.heap[wr.heap.size]? = some (.cells x.cells.toArray 102) := by rw [hW7, hx]; show _ = some (Obj.cells #[.int .i64 na, .int .i64 nb, .int .i64 nc, .int .i64 nd, .int .i64 ne, .slice ap lp.length cp] 102); rw [HLP.out]; exact heap_alloc_new _ _
                    have hM7 : Mod none' wr W7 := by rw [hW7]; exact (Mod.refl _ _).alloc _
                    obtain ⟨j0, hji, hy0, hy1, hy2⟩ := info_parts Tryz.infoInode
                    have HR7 := Lib.hid (HR.out.mods hM7 (fun c _ h => h.elim))
                    have HD7 := Lib.hid (HD.out.oth hM7 (fun c _ h => h.elim))
                    have HM7 := Lib.hid hM7
                    have HH7 := Lib.hid hh7
                    have HW7 := Lib.hid hW7
                    have HXX := Lib.hid hx
                    have HG7 := Lib.hid (show GRowAt W7 R 6 i cap ao (k.flatMap InC.cells) by have h := HR7.out.row; rw [HKL.out] at h; exact h)
                    have hdl := cell_lt hd1
                    clear hW7 hM7 hh7 hx hjt hjm htw
                    have hg7 := HG7.out
                    have hsr := HH7.out
                    have hc7 : W7.cell? ⟨db, 1, none⟩ = some (.slice ao i cap) := HD7.out.bx.at' 1 (by decide)
                    have hz7 : W7.frozen? ⟨db, 1, none⟩ = false := HD7.out.bx.fz 1
                    rw [HW7.out] at hg7 hsr hc7 hz7
                    have HC7 := Lib.hid (And.intro hc7 hz7)
                    have hnr : ¬ R db := fun h => (HR.out.lo db h).2.2 rfl
                    clear hc7 hz7
                    have HG7' := Lib.hid hg7
                    have HSR := Lib.hid hsr
                    clear hg7 hsr
                    go_wp2_with (at_builtin; refine wpList_append_g (by rfl) (.tmp 45) (.tmp 47) 23 23 (by rfl) 102 j0 _ 64 Tryz.underlying23 hji hy0 hy1 hy2 (by rfl) (by rfl) HG7'.out _ 1 x.cells (by rfl) (src_inc _ _ Tryz.underlying23 _ _ 102 HSR.out _) (by have := HL4.out; omega) (by have := HL4.out; omega) ?_; intro a8 cap8 w8 hg8 hM8 hz8; have hd8 := hM8.at HC7.out.1 hnr; have hf8 := (hM8.frozen (p := ⟨db, 1, none⟩) (cell_lt HC7.out.1) hnr).trans HC7.out.2; have hl8 := cell_lt hd8)
                    rw [← HW7.out] at hg8 hM8 hz8
                    have HD8 := Lib.hid (HD7.out.oth hM8 (fun c _ e => by have := HR.out.lo c e; omega))
                    have HM8 := Lib.hid hM8
                    have HG8 := Lib.hid hg8
                    clear hg8 hM8 hz8 h0 h1 h2 h3 h4 h5 hf5
                    go_wp2_with fail
                    go_roundg (n1 - (i + 1))
                    case measure => exact hms
                    case rel =>
                      have hMs : Mod (· = db) w8 (w8.setCell ⟨db, 1, none⟩ (.slice a8 (i + 1) cap8)) := (Mod.refl (· = db) w8).setCellAt (fun _ => rfl) _
                      have hDs := HD8.out.set (k := 1) (by decide) (.slice a8 (i + 1) cap8)
                      rw [dmf1] at hDs
                      refine ⟨i + 1, sP, a8, cap8, k ++ [x], fun c => R c ∨ (c = W7.heap.size ∧ c < w8.heap.size), rfl, HLT.out, by first | rfl | rw [hwr.out], by rw [List.length_append, HKL.out]; rfl, hDs, ⟨w8.heap.size, ?_, fun c hc => ?_, fun y hy => ?_, hMs.size⟩, ?_⟩
                      · rw [List.length_append, HKL.out, List.flatMap_append, show [x].flatMap InC.cells = x.cells from List.append_nil _]
                        refine (HG8.out.sub (fun c hl hc => hc.imp id (fun e => ⟨e, hl⟩))).mod hMs (fun c hc _ e => ?_)
                        have e : c = db := e
                        rcases hc with hc | hc
                        · exact (HR.out.lo c hc).2.2 e
                        · have := HM7.out.size; have := HXB.out; have := HR.out.zl; omega
                      · rcases hc with hc | hc
                        · have := HR.out.lo c hc; have := HR.out.zl; have := HM7.out.size; have := HM8.out.size; omega
                        · have := HM7.out.size; have := HXB.out; have := HR.out.zl; omega
                      · have h7 := HM7.out.size
                        have h8 := HM8.out.size
                        have hz := HR.out.zl
                        have hzb := HXB.out
                        rcases List.mem_append.1 hy with hy | hy
                        · have q1 := (HR7.out.pc y hy).mod HM8.out (fun c hc _ e => hc.2.2.2 e)
                          refine (q1.mod hMs (fun c hc _ e => hc.2.2.1 e)).sub (fun c _ hc => ⟨hc.1, by omega, hc.2.2.1, fun e => e.elim hc.2.2.2 (fun e => by omega)⟩)
                        · rw [List.mem_singleton] at hy
                          subst hy
                          have q0 : PcOk wr (fun c => w6.heap.size ≤ c) y := by
                            rw [HXX.out]
                            have hg := HG.out
                            refine ⟨by have := hg.row; rw [← HLP.out] at this; exact this, fun e => hg.nilA e, ⟨by show lp.length ≤ cp; rw [HLP.out]; exact hg.le, hg.max⟩, by show lp.length ≤ 100000; rw [HLP.out]; have := HLm.out; omega⟩
                          have q1 := ((q0.mod HM7.out (fun c _ _ e => e.elim)).sub (T := fun c => w6.heap.size ≤ c ∧ c < W7.heap.size) (fun c hl hc => ⟨hc, hl⟩)).mod HM8.out (fun c hc _ e => by have := HR.out.lo c e; have := HZ6.out; omega)
                          refine (q1.mod hMs (fun c hc _ e => by have e : c = db := e; have := HZ6.out; omega)).sub (fun c _ hc => ⟨by have := HZ6.out; omega, by omega, by have := HZ6.out; omega, fun e => e.elim (fun e => by have := HR.out.lo c e; have := HZ6.out; omega) (fun e => by omega)⟩)
                      · have h1 := HKP.out
                        rw [Nat.sub_self] at h1
                        have h2 : r0 = KP n0 (k.map InC.val) (n1 - (i + 1)) na nb nc nd ne (lp ++ []) sP := h1
                        rw [List.append_nil] at h2
                        rw [List.map_append, HXX.out]
                        exact h2
              · skip
                go_simp
                obtain ⟨xb, hxb⟩ : ∃ xb, xb = wc3.heap.size := ⟨_, rfl⟩
                obtain ⟨wx4, hwy⟩ : ∃ wy, wy = wc3.alloc (.cells #[.int .i64 0, .int .i64 0, .int .i64 0, .int .i64 0, .int .i64 0, .slice none 0 0] 102) := ⟨_, rfl⟩
                have hMA : Mod none' wc3 wx4 := by rw [hwy]; exact (Mod.refl _ _).alloc _
                have HD := Lib.hid (HD.out.oth hMA (fun c _ h => h.elim))
                have HR := Lib.hid (HR.out.mods hMA (fun c _ h => h.elim))
                have HX : Hid (wx4.there xb 0 6 ∧ zr ≤ xb ∧ xb < wx4.heap.size) := Lib.hid ⟨by rw [hwy, hxb]; exact there_new wc3 102 [.int .i64 0, .int .i64 0, .int .i64 0, .int .i64 0, .int .i64 0, .slice none 0 0], by have := HMQ.out.size; have := HZR.out; omega, by rw [hwy, hxb]; simp⟩
                have HMQ := Lib.hid (HMQ.out.trans (hMA.mono fun c _ h => h.elim))
                rw [← hwy, ← hxb]
                clear hwy hxb hMA
                try go_wp2_with fail
                refine hK.out _ _ HD.out.tb (fun hHeld => ?_)
                clear hK K
                try simp only [Act.put, List.setIfInBounds_toArray, List.set_cons_zero, List.set_cons_succ]
                refine wpAnyH_ready (rs := [9]) (by kernel_rfl) (by simp) ?_
                refine AllReadyH.cons (o := _) rfl (fun K hK => ?_) AllReadyH.nil
                go_simp
                refine (rdNum_any wx4 b 2 td rfl HD.out.un).mono ?_
                rintro e wd4 ⟨hM, ⟨hr, rfl⟩ | ⟨r, hr, rfl, hU⟩⟩
                · go_wp2_with fail
                  exact ⟨rfl, HD.out.md.trans hM, Or.inl ⟨step_none2 HK.out hr, rfl⟩⟩
                have HD := Lib.hid (HD.out.num hM hU)
                have HK := Lib.hid (step_some2 HK.out hr)
                have HLne := Lib.hid (rNum_lt8 hr)
                have HR := Lib.hid (HR.out.mods hM (fun c _ e => Or.inr (by have e : c = b := e; omega)))
                have HMQ := Lib.hid (HMQ.out.trans hM)
                have HX := Lib.hid (And.intro (there_mods HX.out.1 hM (by have := HX.out.2; have := HZW.out; omega) HX.out.2.2) (And.intro HX.out.2.1 (Nat.lt_of_lt_of_le HX.out.2.2 hM.size)))
                obtain ⟨ne, te⟩ := r
                simp only at HD HK
                clear hr hU hM
                try go_wp2_with fail
                refine hK.out _ _ HD.out.tb (fun hHeld => ?_)
                clear hK K
                try simp only [Act.put, List.setIfInBounds_toArray, List.set_cons_zero, List.set_cons_succ]
                refine takeL 10 ?_
                refine wpAnyH_ready (rs := [12]) (by kernel_rfl) (by simp) ?_
                refine AllReadyH.cons (o := _) rfl (fun K hK => ?_) AllReadyH.nil
                rw [if_pos (by rfl)]
                refine wp_store_mid _ _ _ rfl xb 0 #[.int .i64 na, .int .i64 nb, .int .i64 nc, .int .i64 nd, .int .i64 ne, .slice none 0 0] rfl rfl HX.out.1 (by kernel_rfl) (by simp [Value.oneCell']) ?_
                obtain ⟨w5, hw5⟩ : ∃ w5, w5 = wd4.setCells xb 0 [.int .i64 na, .int .i64 nb, .int .i64 nc, .int .i64 nd, .int .i64 ne, .slice none 0 0] := ⟨_, rfl⟩
                have hM5 : Mod (· = xb) wd4 w5 := by rw [hw5]; exact Mod.setCellsAt (F := (· = xb)) (show (· = xb) xb from rfl) _ _ _ (Mod.refl _ _)
                have HXI : Hid (XIn w5 xb na nb nc nd ne (.slice none 0 0)) := Lib.hid (by rw [hw5]; exact xin_new HX.out.1)
                have HD := Lib.hid (HD.out.oth hM5 (fun c _ e => by have e : c = xb := e; have := HX.out.2; have := HZW.out; omega))
                have HR := Lib.hid (HR.out.mods hM5 (fun c h e => by have e : c = xb := e; have := HX.out.2; omega))
                have HMQ := Lib.hid (HMQ.out.trans' hM5 (fun c h e => by have e : c = xb := e; have := HX.out.2; have := HZR.out; omega))
                show K _ _
                rw [← hw5]
                clear hw5 hM5
                try go_wp2_with fail
                refine hK.out _ _ HD.out.tb (fun hHeld => ?_)
                clear hK K
                try simp only [Act.put, List.setIfInBounds_toArray, List.set_cons_zero, List.set_cons_succ]
                refine wpAnyH_done (by kernel_rfl) ?_ _
                clear hHeld
                have htb := HD.out.tb
                have HXB : Hid (zr ≤ xb ∧ b < zr ∧ db < zr ∧ w.heap.size + 2 ≤ zr) := Lib.hid ⟨HX.out.2.1, Nat.lt_of_lt_of_le HZW.out.2.2 (by have := HZW.out; omega), HZW.out.2.1, HZW.out.1⟩
                clear HX
                go_wp2_with fail
                refine (rdNum_any w5 b 1 te rfl HD.out.un).mono ?_
                rintro e w6 ⟨hM, ⟨hr, rfl⟩ | ⟨r, hr, rfl, hU⟩⟩
                · go_wp2_with fail
                  exact ⟨rfl, HD.out.md.trans hM, Or.inl ⟨step_none2 HK.out hr, rfl⟩⟩
                have hxb0 : xb ≠ b := by have := HXB.out; omega
                have HXI := Lib.hid (HXI.out.mods hM hxb0)
                have HR := Lib.hid (HR.out.mods hM (fun c _ e => Or.inr (by have e : c = b := e; have := HD.out.bl; omega)))
                have HD := Lib.hid (HD.out.num hM hU)
                have HK := Lib.hid (step_some2 HK.out hr)
                have HLm := Lib.hid (rNum_lt8 hr)
                obtain ⟨nm, tm⟩ := r
                simp only at HD HK HLm
                clear hr hU hM htb HMQ hHeld
                have HZ6 : Hid (xb < w6.heap.size ∧ zr ≤ w6.heap.size) := Lib.hid ⟨cell_lt HXI.out.c0, HR.out.zl⟩
                have htb := HD.out.tb
                go_wp2_with fail
                go_loopg [27] nm (fun g v wr => PRel w6 b xb na nb nc nd ne nm (KP n0 (k.map InC.val) (n1 - (i + 1)) na nb nc nd ne) r0 g v wr)
                case atStart => exact ⟨0, tm, none, 0, [], rfl, Nat.zero_le _, rfl, rfl, HD.out.un, HXI.out, GRowAt.nil _ _ _ _, Mod.refl _ _, HK.out.trans (kp_start _ _)⟩
                case round =>
                  obtain ⟨j, sP, ap, cp, lp, rfl, hjm, rfl, hlp, hU, hX, hG, hM, hK⟩ := hrel
                  have HU := Lib.hid hU
                  have HXI := Lib.hid hX
                  have HG := Lib.hid hG
                  have HM := Lib.hid hM
                  have HKP := Lib.hid hK
                  have HLP := Lib.hid hlp
                  have htw : wr.cell? ⟨w.heap.size, 0, none⟩ = some (.pointer (some ⟨b, 0, none⟩)) := hM.at htb (by have := HXB.out; have := HD.out.bl; omega)
                  clear hU hX hG hM hK hlp
                  by_cases hjt : j < nm
                  · skip
                    have HJT := Lib.hid hjt
                    have hjl2 : (0 : Int) ≤ j ∧ (j : Int) < nm := by omega
                    have hwrj := Lib.hid (show wrap64 ((j : Int) + 1) = ((j + 1 : Nat) : Int) by have := HLm.out; unfold wrap64; omega)
                    have hmj : nm - (j + 1) < nm - j := by omega
                    have HK := Lib.hid (show r0 = ((rNum 2 sP).bind _).bind _ by have h1 := HKP.out; rw [show nm - j = (nm - (j + 1)) + 1 by omega, rRep_bind] at h1; exact h1)
                    have hKX : wr.drew.cell? ⟨w.heap.size, 0, none⟩ = some (.pointer (some ⟨b, 0, none⟩)) ∧ wr.drew.cell? ⟨xb, 5, none⟩ = some (.slice ap j cp) := ⟨htw, HXI.out.c5⟩
                    have HU := Lib.hid (show UnpAt wr.drew b sP.1 sP.2 from HU.out.mods (F := none') ((Mod.refl _ _).drew) id)
                    have HXI := Lib.hid (show XIn wr.drew xb na nb nc nd ne _ from HXI.out.mods (F := none') ((Mod.refl _ _).drew) id)
                    have HV0 := Lib.hid ((Mod.refl (· = b) wr).drew)
                    obtain ⟨j0, hji, hy0, hy1, hy2⟩ := info_parts Tryz.infoPart
                    clear hjt
                    go_wp2_with fail
                    refine anyX_begin 14 (fun W => W.cell? ⟨w.heap.size, 0, none⟩ = some (.pointer (some ⟨b, 0, none⟩)) ∧ W.cell? ⟨xb, 5, none⟩ = some (.slice ap j cp)) (by kernel_rfl) hKX (fun hHeld => ?_)
                    clear hKX htw
                    refine takeX 0 ?_
                    refine takeX 1 ?_
                    refine takeX 2 ?_
                    refine takeX 4 ?_
                    refine takeX 6 ?_
                    refine takeX 8 ?_
                    have HU0 := Lib.hid (show UnpAt wr b sP.1 sP.2 from ⟨HU.out.c0, HU.out.c1, HU.out.f0, HU.out.f1, HU.out.size⟩)
                    refine anyX_ready (rs := [3]) (by kernel_rfl) (by simp) ?_
                    refine anyX_cons (o := ?_) ?_ (fun K hK => ?_) ?_
                    rotate_left 1
                    · simp only [List.getElem?_toArray, List.getElem?_cons_succ, List.getElem?_cons_zero]; rfl
                    rotate_left 1
                    · exact anyX_nil
                    go_simp
                    refine (rdNum_any wr.drew b 2 sP rfl HU.out).mono ?_
                    rintro e wp0 ⟨hM, ⟨hr, rfl⟩ | ⟨r, hr, rfl, hU⟩⟩
                    · go_wp2_with fail
                      exact ⟨rfl, (HD.out.gen (F := fun c => c = b ∨ c = xb) (s' := sP) HM.out (fun c _ e => e.imp id (fun e => by have := HXB.out; omega)) HU0.out).md.trans (HV0.out.trans hM), Or.inl ⟨step_none2 HK.out hr, rfl⟩⟩
                    have HK := Lib.hid (step_some2 HK.out hr)
                    have HLpa := Lib.hid (rNum_lt8 hr)
                    have HU := Lib.hid hU
                    have HXI := Lib.hid (HXI.out.mods hM hxb0)
                    have HV0 := Lib.hid (HV0.out.trans hM)
                    have htw := hM.at hHeld.1 (by have := HD.out.bl; omega)
                    obtain ⟨pa, qa⟩ := r
                    simp only at HK HU
                    clear hr hU hM
                    try go_wp2_with fail
                    refine hK.out _ _ ⟨htw, HXI.out.c5⟩ (fun hHeld => ?_)
                    clear hK K
                    try simp only [Act.put, List.setIfInBounds_toArray, List.set_cons_zero, List.set_cons_succ]
                    clear htw
                    refine anyX_ready (rs := [5]) (by kernel_rfl) (by simp) ?_
                    refine anyX_cons (o := ?_) ?_ (fun K hK => ?_) ?_
                    rotate_left 1
                    · simp only [List.getElem?_toArray, List.getElem?_cons_succ, List.getElem?_cons_zero]; rfl
                    rotate_left 1
                    · exact anyX_nil
                    go_simp
                    refine (rdNum_any wp0 b 2 qa rfl HU.out).mono ?_
                    rintro e wp1 ⟨hM, ⟨hr, rfl⟩ | ⟨r, hr, rfl, hU⟩⟩
                    · go_wp2_with fail
                      exact ⟨rfl, (HD.out.gen (F := fun c => c = b ∨ c = xb) (s' := sP) HM.out (fun c _ e => e.imp id (fun e => by have := HXB.out; omega)) HU0.out).md.trans (HV0.out.trans hM), Or.inl ⟨step_none2 HK.out hr, rfl⟩⟩
                    have HK := Lib.hid (step_some2 HK.out hr)
                    have HLpb := Lib.hid (rNum_lt8 hr)
                    have HU := Lib.hid hU
                    have HXI := Lib.hid (HXI.out.mods hM hxb0)
                    have HV0 := Lib.hid (HV0.out.trans hM)
                    have htw := hM.at hHeld.1 (by have := HD.out.bl; omega)
                    obtain ⟨pb, qb⟩ := r
                    simp only at HK HU
                    clear hr hU hM
                    try go_wp2_with fail
                    refine hK.out _ _ ⟨htw, HXI.out.c5⟩ (fun hHeld => ?_)
                    clear hK K
                    try simp only [Act.put, List.setIfInBounds_toArray, List.set_cons_zero, List.set_cons_succ]
                    clear htw
                    refine anyX_ready (rs := [7]) (by kernel_rfl) (by simp) ?_
                    refine anyX_cons (o := ?_) ?_ (fun K hK => ?_) ?_
                    rotate_left 1
                    · simp only [List.getElem?_toArray, List.getElem?_cons_succ, List.getElem?_cons_zero]; rfl
                    rotate_left 1
                    · exact anyX_nil
                    go_simp
                    refine (rdNum_any wp1 b 2 qb rfl HU.out).mono ?_
                    rintro e wp2 ⟨hM, ⟨hr, rfl⟩ | ⟨r, hr, rfl, hU⟩⟩
                    · go_wp2_with fail
                      exact ⟨rfl, (HD.out.gen (F := fun c => c = b ∨ c = xb) (s' := sP) HM.out (fun c _ e => e.imp id (fun e => by have := HXB.out; omega)) HU0.out).md.trans (HV0.out.trans hM), Or.inl ⟨step_none2 HK.out hr, rfl⟩⟩
                    have HK := Lib.hid (step_some2 HK.out hr)
                    have HLpc := Lib.hid (rNum_lt8 hr)
                    have HU := Lib.hid hU
                    have HXI := Lib.hid (HXI.out.mods hM hxb0)
                    have HV0 := Lib.hid (HV0.out.trans hM)
                    have htw := hM.at hHeld.1 (by have := HD.out.bl; omega)
                    obtain ⟨pc, qc⟩ := r
                    simp only at HK HU
                    clear hr hU hM
                    try go_wp2_with fail
                    refine hK.out _ _ ⟨htw, HXI.out.c5⟩ (fun hHeld => ?_)
                    clear hK K
                    try simp only [Act.put, List.setIfInBounds_toArray, List.set_cons_zero, List.set_cons_succ]
                    clear htw
                    refine anyX_ready (rs := [9]) (by kernel_rfl) (by simp) ?_
                    refine anyX_cons (o := ?_) ?_ (fun K hK => ?_) ?_
                    rotate_left 1
                    · simp only [List.getElem?_toArray, List.getElem?_cons_succ, List.getElem?_cons_zero]; rfl
                    rotate_left 1
                    · exact anyX_nil
                    go_simp
                    refine (rdNum_any wp2 b 2 qc rfl HU.out).mono ?_
                    rintro e wp3 ⟨hM, ⟨hr, rfl⟩ | ⟨r, hr, rfl, hU⟩⟩
                    · go_wp2_with fail
                      exact ⟨rfl, (HD.out.gen (F := fun c => c = b ∨ c = xb) (s' := sP) HM.out (fun c _ e => e.imp id (fun e => by have := HXB.out; omega)) HU0.out).md.trans (HV0.out.trans hM), Or.inl ⟨step_none2 HK.out hr, rfl⟩⟩
                    have HK := Lib.hid (step_some2 HK.out hr)
                    have HLpd := Lib.hid (rNum_lt8 hr)
                    have HU := Lib.hid hU
                    have HXI := Lib.hid (HXI.out.mods hM hxb0)
                    have HV0 := Lib.hid (HV0.out.trans hM)
                    have htw := hM.at hHeld.1 (by have := HD.out.bl; omega)
                    obtain ⟨pd, qd⟩ := r
                    simp only at HK HU
                    clear hr hU hM
                    try go_wp2_with fail
                    refine hK.out _ _ ⟨htw, HXI.out.c5⟩ (fun hHeld => ?_)
                    clear hK K
                    try simp only [Act.put, List.setIfInBounds_toArray, List.set_cons_zero, List.set_cons_succ]
                    clear htw
                    refine takeX 10 ?_
                    refine anyX_ready (rs := [11]) (by kernel_rfl) (by simp) ?_
                    refine anyX_cons (o := ?_) ?_ (fun K hK => ?_) ?_
                    rotate_left 1
                    · simp only [List.getElem?_toArray, List.getElem?_cons_succ, List.getElem?_cons_zero]; rfl
                    rotate_left 1
                    · exact anyX_nil
                    go_simp
                    obtain ⟨W7, hW7⟩ : ∃ W7, W7 = wp3.alloc (.cells #[.int .i64 pa, .int .i64 pb, .int .i64 pc, .int .i64 pd] 94) := ⟨_, rfl⟩
                    have hh7 : W7.heap[wp3.heap.size]? = some (.cells (ptC ⟨pa, pb, pc, pd⟩).toArray 94) := by rw [hW7]; exact heap_alloc_new _ _
                    have hM7 : Mod none' wp3 W7 := by rw [hW7]; exact (Mod.refl _ _).alloc _
                    have HU := Lib.hid (HU.out.mods hM7 id)
                    have HXI := Lib.hid (HXI.out.mods hM7 id)
                    have HV0 := Lib.hid (HV0.out.trans (hM7.mono fun c _ h => h.elim))
                    have htw := hM7.at hHeld.1 id
                    have hz7 : W7.heap.size = wp3.heap.size + 1 := by rw [hW7]; simp
                    rw [← hW7]
                    clear hW7
                    try go_wp2_with fail
                    refine hK.out _ _ ⟨htw, HXI.out.c5⟩ (fun hHeld => ?_)
                    clear hK K
                    try simp only [Act.put, List.setIfInBounds_toArray, List.set_cons_zero, List.set_cons_succ]
                    clear htw
                    refine anyX_ready (rs := [12]) (by kernel_rfl) (by simp) ?_
                    refine anyX_cons (o := ?_) ?_ (fun K hK => ?_) ?_
                    rotate_left 1
                    · simp only [List.getElem?_toArray, List.getElem?_cons_succ, List.getElem?_cons_zero]; rfl
                    rotate_left 1
                    · exact anyX_nil
                    have HG7 := Lib.hid (HG.out.mod (HV0.out) (fun c hc _ e => by have e : c = b := e; have := HZ6.out; have := HXB.out; omega))
                    refine step_append_g (by rfl) (.tmp 30) (.tmp 40) 90 90 (by rfl) 94 j0 _ 32 Tryz.underlying90 hji hy0 hy1 hy2 (by rfl) (by rfl) HG7.out _ 1 (ptC ⟨pa, pb, pc, pd⟩) (by rfl) (src_pt _ _ Tryz.underlying90 wp3.heap.size _ 94 hh7 _) (by have := HLm.out; omega) (by have := HLm.out; omega) ?_
                    intro a8 cap8 w8 hg8 hM8 hz8
                    have HS7 : Hid (w6.heap.size ≤ W7.heap.size) := Lib.hid (Nat.le_trans HM.out.size HV0.out.size)
                    have hx8 : ¬ (w6.heap.size ≤ xb) := by have := HZ6.out; omega
                    have HXI := Lib.hid (HXI.out.mods hM8 hx8)
                    have HU := Lib.hid (HU.out.mods hM8 (by have := HZ6.out; have := HXB.out; omega))
                    have htw := hM8.at hHeld.1 (by have := HZ6.out; have := HXB.out; omega)
                    have HV8 : Hid (Mod (fun c => c = b ∨ c = xb) w6 w8) := Lib.hid ((HM.out.trans (HV0.out.mono fun c _ e => Or.inl e)).trans' hM8 (fun c h e => by omega))
                    have HG8 := Lib.hid hg8
                    have c5 := HXI.out.c5
                    have f5 := HXI.out.f5
                    have l5 := cell_lt c5
                    clear hg8 hM8 hz8 hh7 hM7 hz7
                    try go_wp2_with fail
                    refine hK.out _ _ ⟨htw, c5⟩ (fun hHeld => ?_)
                    clear hK K
                    try simp only [Act.put, List.setIfInBounds_toArray, List.set_cons_zero, List.set_cons_succ]
                    refine anyX_ready (rs := [13]) (by kernel_rfl) (by simp) ?_
                    refine anyX_cons (o := ?_) ?_ (fun K hK => ?_) ?_
                    rotate_left 1
                    · simp only [List.getElem?_toArray, List.getElem?_cons_succ, List.getElem?_cons_zero]; rfl
                    rotate_left 1
                    · exact anyX_nil
                    go_simp
                    try go_wp2_with fail
                    refine hK.out _ _ hHeld (fun hHeld => ?_)
                    clear hK K
                    try simp only [Act.put, List.setIfInBounds_toArray, List.set_cons_zero, List.set_cons_succ]
                    refine anyX_ready (rs := [14]) (by kernel_rfl) (by simp) ?_
                    refine anyX_last (o := ?_) ?_ (fun K hK => ?_)
                    rotate_left 1
                    · simp only [List.getElem?_toArray, List.getElem?_cons_succ, List.getElem?_cons_zero]; rfl
                    go_simp
                    refine hK.out _ _ (anyX_done (by kernel_rfl) ?_ _)
                    clear hK K hHeld htw
                    go_wp2_with fail
                    go_roundg (nm - (j + 1))
                    case measure => exact hmj
                    case rel =>
                      have hMs : Mod (· = xb) w8 (w8.setCell ⟨xb, 5, none⟩ (.slice a8 (j + 1) cap8)) := (Mod.refl (· = xb) w8).setCellAt (fun _ => rfl) _
                      exact ⟨j + 1, qd, a8, cap8, lp ++ [(⟨pa, pb, pc, pd⟩ : PtS)], rfl, HJT.out, by first | rfl | rw [hwrj.out], by rw [List.length_append, HLP.out]; rfl, HU.out.mods hMs (fun e => hxb0 e.symm), by first | exact HXI.out.set _ | (rw [← Int.natCast_succ]; exact HXI.out.set _), by
                        rw [List.flatMap_append, show ([⟨pa, pb, pc, pd⟩] : List PtS).flatMap ptC = ptC ⟨pa, pb, pc, pd⟩ from List.append_nil _]
                        exact (HG8.out.sub (fun c _ hc => by have := HS7.out; rcases hc with hc | hc <;> omega)).mod hMs (fun c hc _ e => by have e : c = xb := e; have := HZ6.out; omega), HV8.out.trans (hMs.mono fun c _ e => Or.inr e), kp_part HK.out⟩
                  · skip
                    obtain rfl : j = nm := by omega
                    have HXF := Lib.hid HXI.out
                    have HK := Lib.hid (show r0 = (rRep rIno (n1 - (i + 1)) sP).bind _ by have h1 := HKP.out; rw [Nat.sub_self] at h1; exact h1)
                    have HD := Lib.hid (HD.out.gen (F := fun c => c = b ∨ c = xb) HM.out (fun c _ e => e.imp id (fun e => by have := HXB.out; omega)) HU.out)
                    have HR := Lib.hid (HR.out.mods HM.out (fun c h e => Or.inr (by have := HXB.out; have := HD.out.bl; rcases e with e | e <;> omega)))
                    have hd1 : wr.cell? ⟨db, 1, none⟩ = some (.slice ao i cap) := HD.out.bx.at' 1 (by decide)
                    have hdf : wr.frozen? ⟨db, 1, none⟩ = false := HD.out.bx.fz 1
                    obtain ⟨h0, h1, h2, h3, h4, h5, hf5⟩ := HXI.out
                    obtain ⟨x, hx⟩ : ∃ x : InC, x = ⟨na, nb, nc, nd, ne, ap, cp, lp⟩ := ⟨_, rfl⟩
                    obtain ⟨W7, hW7⟩ : ∃ W7, W7 = wr.alloc (.cells #[.int .i64 na, .int .i64 nb, .int .i64 nc, .int .i64 nd, .int .i64 ne, .slice ap j cp] 102) := ⟨_, rfl⟩
                    have hh7 : W7.heap[wr.heap.size]? = some (.cells x.cells.toArray 102) := by rw [hW7, hx]; show _ = some (Obj.cells #[.int .i64 na, .int .i64 nb, .int .i64 nc, .int .i64 nd, .int .i64 ne, .slice ap lp.length cp] 102); rw [HLP.out]; exact heap_alloc_new _ _
                    have hM7 : Mod none' wr W7 := by rw [hW7]; exact (Mod.refl _ _).alloc _
                    obtain ⟨j0, hji, hy0, hy1, hy2⟩ := info_parts Tryz.infoInode
                    have HR7 := Lib.hid (HR.out.mods hM7 (fun c _ h => h.elim))
                    have HD7 := Lib.hid (HD.out.oth hM7 (fun c _ h => h.elim))
                    have HM7 := Lib.hid hM7
                    have HH7 := Lib.hid hh7
                    have HW7 := Lib.hid hW7
                    have HXX := Lib.hid hx
                    have HG7 := Lib.hid (show GRowAt W7 R 6 i cap ao (k.flatMap InC.cells) by have h := HR7.out.row; rw [HKL.out] at h; exact h)
                    have hdl := cell_lt hd1
                    clear hW7 hM7 hh7 hx hjt hjm htw
                    have hg7 := HG7.out
                    have hsr := HH7.out
                    have hc7 : W7.cell? ⟨db, 1, none⟩ = some (.slice ao i cap) := HD7.out.bx.at' 1 (by decide)
                    have hz7 : W7.frozen? ⟨db, 1, none⟩ = false := HD7.out.bx.fz 1
                    rw [HW7.out] at hg7 hsr hc7 hz7
                    have HC7 := Lib.hid (And.intro hc7 hz7)
                    have hnr : ¬ R db := fun h => (HR.out.lo db h).2.2 rfl
                    clear hc7 hz7
                    have HG7' := Lib.hid hg7
                    have HSR := Lib.hid hsr
                    clear hg7 hsr
                    go_wp2_with (at_builtin; refine wpList_append_g (by rfl) (.tmp 45) (.tmp 47) 23 23 (by rfl) 102 j0 _ 64 Tryz.underlying23 hji hy0 hy1 hy2 (by rfl) (by rfl) HG7'.out _ 1 x.cells (by rfl) (src_inc _ _ Tryz.underlying23 _ _ 102 HSR.out _) (by have := HL4.out; omega) (by have := HL4.out; omega) ?_; intro a8 cap8 w8 hg8 hM8 hz8; have hd8 := hM8.at HC7.out.1 hnr; have hf8 := (hM8.frozen (p := ⟨db, 1, none⟩) (cell_lt HC7.out.1) hnr).trans HC7.out.2; have hl8 := cell_lt hd8)
                    rw [← HW7.out] at hg8 hM8 hz8
                    have HD8 := Lib.hid (HD7.out.oth hM8 (fun c _ e => by have := HR.out.lo c e; omega))
                    have HM8 := Lib.hid hM8
                    have HG8 := Lib.hid hg8
                    clear hg8 hM8 hz8 h0 h1 h2 h3 h4 h5 hf5
                    go_wp2_with fail
                    go_roundg (n1 - (i + 1))
                    case measure => exact hms
                    case rel =>
                      have hMs : Mod (· = db) w8 (w8.setCell ⟨db, 1, none⟩ (.slice a8 (i + 1) cap8)) := (Mod.refl (· = db) w8).setCellAt (fun _ => rfl) _
                      have hDs := HD8.out.set (k := 1) (by decide) (.slice a8 (i + 1) cap8)
                      rw [dmf1] at hDs
                      refine ⟨i + 1, sP, a8, cap8, k ++ [x], fun c => R c ∨ (c = W7.heap.size ∧ c < w8.heap.size), rfl, HLT.out, by first | rfl | rw [hwr.out], by rw [List.length_append, HKL.out]; rfl, hDs, ⟨w8.heap.size, ?_, fun c hc => ?_, fun y hy => ?_, hMs.size⟩, ?_⟩
                      · rw [List.length_append, HKL.out, List.flatMap_append, show [x].flatMap InC.cells = x.cells from List.append_nil _]
                        refine (HG8.out.sub (fun c hl hc => hc.imp id (fun e => ⟨e, hl⟩))).mod hMs (fun c hc _ e => ?_)
                        have e : c = db := e
                        rcases hc with hc | hc
                        · exact (HR.out.lo c hc).2.2 e
                        · have := HM7.out.size; have := HXB.out; have := HR.out.zl; omega
                      · rcases hc with hc | hc
                        · have := HR.out.lo c hc; have := HR.out.zl; have := HM7.out.size; have := HM8.out.size; omega
                        · have := HM7.out.size; have := HXB.out; have := HR.out.zl; omega
                      · have h7 := HM7.out.size
                        have h8 := HM8.out.size
                        have hz := HR.out.zl
                        have hzb := HXB.out
                        rcases List.mem_append.1 hy with hy | hy
                        · have q1 := (HR7.out.pc y hy).mod HM8.out (fun c hc _ e => hc.2.2.2 e)
                          refine (q1.mod hMs (fun c hc _ e => hc.2.2.1 e)).sub (fun c _ hc => ⟨hc.1, by omega, hc.2.2.1, fun e => e.elim hc.2.2.2 (fun e => by omega)⟩)
                        · rw [List.mem_singleton] at hy
                          subst hy
                          have q0 : PcOk wr (fun c => w6.heap.size ≤ c) y := by
                            rw [HXX.out]
                            have hg := HG.out
                            refine ⟨by have := hg.row; rw [← HLP.out] at this; exact this, fun e => hg.nilA e, ⟨by show lp.length ≤ cp; rw [HLP.out]; exact hg.le, hg.max⟩, by show lp.length ≤ 100000; rw [HLP.out]; have := HLm.out; omega⟩
                          have q1 := ((q0.mod HM7.out (fun c _ _ e => e.elim)).sub (T := fun c => w6.heap.size ≤ c ∧ c < W7.heap.size) (fun c hl hc => ⟨hc, hl⟩)).mod HM8.out (fun c hc _ e => by have := HR.out.lo c e; have := HZ6.out; omega)
                          refine (q1.mod hMs (fun c hc _ e => by have e : c = db := e; have := HZ6.out; omega)).sub (fun c _ hc => ⟨by have := HZ6.out; omega, by omega, by have := HZ6.out; omega, fun e => e.elim (fun e => by have := HR.out.lo c e; have := HZ6.out; omega) (fun e => by omega)⟩)
                      · have h1 := HKP.out
                        rw [Nat.sub_self] at h1
                        have h2 : r0 = KP n0 (k.map InC.val) (n1 - (i + 1)) na nb nc nd ne (lp ++ []) sP := h1
                        rw [List.append_nil] at h2
                        rw [List.map_append, HXX.out]
                        exact h2
            · skip
              go_simp
              obtain ⟨xb, hxb⟩ : ∃ xb, xb = wc2.heap.size := ⟨_, rfl⟩
              obtain ⟨wx3, hwy⟩ : ∃ wy, wy = wc2.alloc (.cells #[.int .i64 0, .int .i64 0, .int .i64 0, .int .i64 0, .int .i64 0, .slice none 0 0] 102) := ⟨_, rfl⟩
              have hMA : Mod none' wc2 wx3 := by rw [hwy]; exact (Mod.refl _ _).alloc _
              have HD := Lib.hid (HD.out.oth hMA (fun c _ h => h.elim))
              have HR := Lib.hid (HR.out.mods hMA (fun c _ h => h.elim))
              have HX : Hid (wx3.there xb 0 6 ∧ zr ≤ xb ∧ xb < wx3.heap.size) := Lib.hid ⟨by rw [hwy, hxb]; exact there_new wc2 102 [.int .i64 0, .int .i64 0, .int .i64 0, .int .i64 0, .int .i64 0, .slice none 0 0], by have := HMQ.out.size; have := HZR.out; omega, by rw [hwy, hxb]; simp⟩
              have HMQ := Lib.hid (HMQ.out.trans (hMA.mono fun c _ h => h.elim))
              rw [← hwy, ← hxb]
              clear hwy hxb hMA
              try go_wp2_with fail
              refine hK.out _ _ HD.out.tb (fun hHeld => ?_)
              clear hK K
              try simp only [Act.put, List.setIfInBounds_toArray, List.set_cons_zero, List.set_cons_succ]
              refine wpAnyH_ready (rs := [7]) (by kernel_rfl) (by simp) ?_
              refine AllReadyH.cons (o := _) rfl (fun K hK => ?_) AllReadyH.nil
              go_simp
              refine (rdNum_any wx3 b 1 tc rfl HD.out.un).mono ?_
              rintro e wd3 ⟨hM, ⟨hr, rfl⟩ | ⟨r, hr, rfl, hU⟩⟩
              · go_wp2_with fail
                exact ⟨rfl, HD.out.md.trans hM, Or.inl ⟨step_none2 HK.out hr, rfl⟩⟩
              have HD := Lib.hid (HD.out.num hM hU)
              have HK := Lib.hid (step_some2 HK.out hr)
              have HLnd := Lib.hid (rNum_lt8 hr)
              have HR := Lib.hid (HR.out.mods hM (fun c _ e => Or.inr (by have e : c = b := e; omega)))
              have HMQ := Lib.hid (HMQ.out.trans hM)
              have HX := Lib.hid (And.intro (there_mods HX.out.1 hM (by have := HX.out.2; have := HZW.out; omega) HX.out.2.2) (And.intro HX.out.2.1 (Nat.lt_of_lt_of_le HX.out.2.2 hM.size)))
              obtain ⟨nd, td⟩ := r
              simp only at HD HK
              clear hr hU hM
              try go_wp2_with fail
              refine hK.out _ _ HD.out.tb (fun hHeld => ?_)
              clear hK K
              try simp only [Act.put, List.setIfInBounds_toArray, List.set_cons_zero, List.set_cons_succ]
              refine wpAnyH_ready (rs := [9]) (by kernel_rfl) (by simp) ?_
              refine AllReadyH.cons (o := _) rfl (fun K hK => ?_) AllReadyH.nil
              go_simp
              refine (rdNum_any wd3 b 2 td rfl HD.out.un).mono ?_
              rintro e wd4 ⟨hM, ⟨hr, rfl⟩ | ⟨r, hr, rfl, hU⟩⟩
              · go_wp2_with fail
                exact ⟨rfl, HD.out.md.trans hM, Or.inl ⟨step_none2 HK.out hr, rfl⟩⟩
              have HD := Lib.hid (HD.out.num hM hU)
              have HK := Lib.hid (step_some2 HK.out hr)
              have HLne := Lib.hid (rNum_lt8 hr)
              have HR := Lib.hid (HR.out.mods hM (fun c _ e => Or.inr (by have e : c = b := e; omega)))
              have HMQ := Lib.hid (HMQ.out.trans hM)
              have HX := Lib.hid (And.intro (there_mods HX.out.1 hM (by have := HX.out.2; have := HZW.out; omega) HX.out.2.2) (And.intro HX.out.2.1 (Nat.lt_of_lt_of_le HX.out.2.2 hM.size)))
              obtain ⟨ne, te⟩ := r
              simp only at HD HK
              clear hr hU hM
              try go_wp2_with fail
              refine hK.out _ _ HD.out.tb (fun hHeld => ?_)
              clear hK K
              try simp only [Act.put, List.setIfInBounds_toArray, List.set_cons_zero, List.set_cons_succ]
              refine takeL 10 ?_
              refine wpAnyH_ready (rs := [12]) (by kernel_rfl) (by simp) ?_
              refine AllReadyH.cons (o := _) rfl (fun K hK => ?_) AllReadyH.nil
              rw [if_pos (by rfl)]
              refine wp_store_mid _ _ _ rfl xb 0 #[.int .i64 na, .int .i64 nb, .int .i64 nc, .int .i64 nd, .int .i64 ne, .slice none 0 0] rfl rfl HX.out.1 (by kernel_rfl) (by simp [Value.oneCell']) ?_
              obtain ⟨w5, hw5⟩ : ∃ w5, w5 = wd4.setCells xb 0 [.int .i64 na, .int .i64 nb, .int .i64 nc, .int .i64 nd, .int .i64 ne, .slice none 0 0] := ⟨_, rfl⟩
              have hM5 : Mod (· = xb) wd4 w5 := by rw [hw5]; exact Mod.setCellsAt (F := (· = xb)) (show (· = xb) xb from rfl) _ _ _ (Mod.refl _ _)
              have HXI : Hid (XIn w5 xb na nb nc nd ne (.slice none 0 0)) := Lib.hid (by rw [hw5]; exact xin_new HX.out.1)
              have HD := Lib.hid (HD.out.oth hM5 (fun c _ e => by have e : c = xb := e; have := HX.out.2; have := HZW.out; omega))
              have HR := Lib.hid (HR.out.mods hM5 (fun c h e => by have e : c = xb := e; have := HX.out.2; omega))
              have HMQ := Lib.hid (HMQ.out.trans' hM5 (fun c h e => by have e : c = xb := e; have := HX.out.2; have := HZR.out; omega))
              show K _ _
              rw [← hw5]
              clear hw5 hM5
              try go_wp2_with fail
              refine hK.out _ _ HD.out.tb (fun hHeld => ?_)
              clear hK K
              try simp only [Act.put, List.setIfInBounds_toArray, List.set_cons_zero, List.set_cons_succ]
              refine wpAnyH_done (by kernel_rfl) ?_ _
              clear hHeld
              have htb := HD.out.tb
              have HXB : Hid (zr ≤ xb ∧ b < zr ∧ db < zr ∧ w.heap.size + 2 ≤ zr) := Lib.hid ⟨HX.out.2.1, Nat.lt_of_lt_of_le HZW.out.2.2 (by have := HZW.out; omega), HZW.out.2.1, HZW.out.1⟩
              clear HX
              go_wp2_with fail
              refine (rdNum_any w5 b 1 te rfl HD.out.un).mono ?_
              rintro e w6 ⟨hM, ⟨hr, rfl⟩ | ⟨r, hr, rfl, hU⟩⟩
              · go_wp2_with fail
                exact ⟨rfl, HD.out.md.trans hM, Or.inl ⟨step_none2 HK.out hr, rfl⟩⟩
              have hxb0 : xb ≠ b := by have := HXB.out; omega
              have HXI := Lib.hid (HXI.out.mods hM hxb0)
              have HR := Lib.hid (HR.out.mods hM (fun c _ e => Or.inr (by have e : c = b := e; have := HD.out.bl; omega)))
              have HD := Lib.hid (HD.out.num hM hU)
              have HK := Lib.hid (step_some2 HK.out hr)
              have HLm := Lib.hid (rNum_lt8 hr)
              obtain ⟨nm, tm⟩ := r
              simp only at HD HK HLm
              clear hr hU hM htb HMQ hHeld
              have HZ6 : Hid (xb < w6.heap.size ∧ zr ≤ w6.heap.size) := Lib.hid ⟨cell_lt HXI.out.c0, HR.out.zl⟩
              have htb := HD.out.tb
              go_wp2_with fail
              go_loopg [27] nm (fun g v wr => PRel w6 b xb na nb nc nd ne nm (KP n0 (k.map InC.val) (n1 - (i + 1)) na nb nc nd ne) r0 g v wr)
              case atStart => exact ⟨0, tm, none, 0, [], rfl, Nat.zero_le _, rfl, rfl, HD.out.un, HXI.out, GRowAt.nil _ _ _ _, Mod.refl _ _, HK.out.trans (kp_start _ _)⟩
              case round =>
                obtain ⟨j, sP, ap, cp, lp, rfl, hjm, rfl, hlp, hU, hX, hG, hM, hK⟩ := hrel
                have HU := Lib.hid hU
                have HXI := Lib.hid hX
                have HG := Lib.hid hG
                have HM := Lib.hid hM
                have HKP := Lib.hid hK
                have HLP := Lib.hid hlp
                have htw : wr.cell? ⟨w.heap.size, 0, none⟩ = some (.pointer (some ⟨b, 0, none⟩)) := hM.at htb (by have := HXB.out; have := HD.out.bl; omega)
                clear hU hX hG hM hK hlp
                by_cases hjt : j < nm
                · skip
                  have HJT := Lib.hid hjt
                  have hjl2 : (0 : Int) ≤ j ∧ (j : Int) < nm := by omega
                  have hwrj := Lib.hid (show wrap64 ((j : Int) + 1) = ((j + 1 : Nat) : Int) by have := HLm.out; unfold wrap64; omega)
                  have hmj : nm - (j + 1) < nm - j := by omega
                  have HK := Lib.hid (show r0 = ((rNum 2 sP).bind _).bind _ by have h1 := HKP.out; rw [show nm - j = (nm - (j + 1)) + 1 by omega, rRep_bind] at h1; exact h1)
                  have hKX : wr.drew.cell? ⟨w.heap.size, 0, none⟩ = some (.pointer (some ⟨b, 0, none⟩)) ∧ wr.drew.cell? ⟨xb, 5, none⟩ = some (.slice ap j cp) := ⟨htw, HXI.out.c5⟩
                  have HU := Lib.hid (show UnpAt wr.drew b sP.1 sP.2 from HU.out.mods (F := none') ((Mod.refl _ _).drew) id)
                  have HXI := Lib.hid (show XIn wr.drew xb na nb nc nd ne _ from HXI.out.mods (F := none') ((Mod.refl _ _).drew) id)
                  have HV0 := Lib.hid ((Mod.refl (· = b) wr).drew)
                  obtain ⟨j0, hji, hy0, hy1, hy2⟩ := info_parts Tryz.infoPart
                  clear hjt
                  go_wp2_with fail
                  refine anyX_begin 14 (fun W => W.cell? ⟨w.heap.size, 0, none⟩ = some (.pointer (some ⟨b, 0, none⟩)) ∧ W.cell? ⟨xb, 5, none⟩ = some (.slice ap j cp)) (by kernel_rfl) hKX (fun hHeld => ?_)
                  clear hKX htw
                  refine takeX 0 ?_
                  refine takeX 1 ?_
                  refine takeX 2 ?_
                  refine takeX 4 ?_
                  refine takeX 6 ?_
                  refine takeX 8 ?_
                  have HU0 := Lib.hid (show UnpAt wr b sP.1 sP.2 from ⟨HU.out.c0, HU.out.c1, HU.out.f0, HU.out.f1, HU.out.size⟩)
                  refine anyX_ready (rs := [3]) (by kernel_rfl) (by simp) ?_
                  refine anyX_cons (o := ?_) ?_ (fun K hK => ?_) ?_
                  rotate_left 1
                  · simp only [List.getElem?_toArray, List.getElem?_cons_succ, List.getElem?_cons_zero]; rfl
                  rotate_left 1
                  · exact anyX_nil
                  go_simp
                  refine (rdNum_any wr.drew b 2 sP rfl HU.out).mono ?_
                  rintro e wp0 ⟨hM, ⟨hr, rfl⟩ | ⟨r, hr, rfl, hU⟩⟩
                  · go_wp2_with fail
                    exact ⟨rfl, (HD.out.gen (F := fun c => c = b ∨ c = xb) (s' := sP) HM.out (fun c _ e => e.imp id (fun e => by have := HXB.out; omega)) HU0.out).md.trans (HV0.out.trans hM), Or.inl ⟨step_none2 HK.out hr, rfl⟩⟩
                  have HK := Lib.hid (step_some2 HK.out hr)
                  have HLpa := Lib.hid (rNum_lt8 hr)
                  have HU := Lib.hid hU
                  have HXI := Lib.hid (HXI.out.mods hM hxb0)
                  have HV0 := Lib.hid (HV0.out.trans hM)
                  have htw := hM.at hHeld.1 (by have := HD.out.bl; omega)
                  obtain ⟨pa, qa⟩ := r
                  simp only at HK HU
                  clear hr hU hM
                  try go_wp2_with fail
                  refine hK.out _ _ ⟨htw, HXI.out.c5⟩ (fun hHeld => ?_)
                  clear hK K
                  try simp only [Act.put, List.setIfInBounds_toArray, List.set_cons_zero, List.set_cons_succ]
                  clear htw
                  refine anyX_ready (rs := [5]) (by kernel_rfl) (by simp) ?_
                  refine anyX_cons (o := ?_) ?_ (fun K hK => ?_) ?_
                  rotate_left 1
                  · simp only [List.getElem?_toArray, List.getElem?_cons_succ, List.getElem?_cons_zero]; rfl
                  rotate_left 1
                  · exact anyX_nil
                  go_simp
                  refine (rdNum_any wp0 b 2 qa rfl HU.out).mono ?_
                  rintro e wp1 ⟨hM, ⟨hr, rfl⟩ | ⟨r, hr, rfl, hU⟩⟩
                  · go_wp2_with fail
                    exact ⟨rfl, (HD.out.gen (F := fun c => c = b ∨ c = xb) (s' := sP) HM.out (fun c _ e => e.imp id (fun e => by have := HXB.out; omega)) HU0.out).md.trans (HV0.out.trans hM), Or.inl ⟨step_none2 HK.out hr, rfl⟩⟩
                  have HK := Lib.hid (step_some2 HK.out hr)
                  have HLpb := Lib.hid (rNum_lt8 hr)
                  have HU := Lib.hid hU
                  have HXI := Lib.hid (HXI.out.mods hM hxb0)
                  have HV0 := Lib.hid (HV0.out.trans hM)
                  have htw := hM.at hHeld.1 (by have := HD.out.bl; omega)
                  obtain ⟨pb, qb⟩ := r
                  simp only at HK HU
                  clear hr hU hM
                  try go_wp2_with fail
                  refine hK.out _ _ ⟨htw, HXI.out.c5⟩ (fun hHeld => ?_)
                  clear hK K
                  try simp only [Act.put, List.setIfInBounds_toArray, List.set_cons_zero, List.set_cons_succ]
                  clear htw
                  refine anyX_ready (rs := [7]) (by kernel_rfl) (by simp) ?_
                  refine anyX_cons (o := ?_) ?_ (fun K hK => ?_) ?_
                  rotate_left 1
                  · simp only [List.getElem?_toArray, List.getElem?_cons_succ, List.getElem?_cons_zero]; rfl
                  rotate_left 1
                  · exact anyX_nil
                  go_simp
                  refine (rdNum_any wp1 b 2 qb rfl HU.out).mono ?_
                  rintro e wp2 ⟨hM, ⟨hr, rfl⟩ | ⟨r, hr, rfl, hU⟩⟩
                  · go_wp2_with fail
                    exact ⟨rfl, (HD.out.gen (F := fun c => c = b ∨ c = xb) (s' := sP) HM.out (fun c _ e => e.imp id (fun e => by have := HXB.out; omega)) HU0.out).md.trans (HV0.out.trans hM), Or.inl ⟨step_none2 HK.out hr, rfl⟩⟩
                  have HK := Lib.hid (step_some2 HK.out hr)
                  have HLpc := Lib.hid (rNum_lt8 hr)
                  have HU := Lib.hid hU
                  have HXI := Lib.hid (HXI.out.mods hM hxb0)
                  have HV0 := Lib.hid (HV0.out.trans hM)
                  have htw := hM.at hHeld.1 (by have := HD.out.bl; omega)
                  obtain ⟨pc, qc⟩ := r
                  simp only at HK HU
                  clear hr hU hM
                  try go_wp2_with fail
                  refine hK.out _ _ ⟨htw, HXI.out.c5⟩ (fun hHeld => ?_)
                  clear hK K
                  try simp only [Act.put, List.setIfInBounds_toArray, List.set_cons_zero, List.set_cons_succ]
                  clear htw
                  refine anyX_ready (rs := [9]) (by kernel_rfl) (by simp) ?_
                  refine anyX_cons (o := ?_) ?_ (fun K hK => ?_) ?_
                  rotate_left 1
                  · simp only [List.getElem?_toArray, List.getElem?_cons_succ, List.getElem?_cons_zero]; rfl
                  rotate_left 1
                  · exact anyX_nil
                  go_simp
                  refine (rdNum_any wp2 b 2 qc rfl HU.out).mono ?_
                  rintro e wp3 ⟨hM, ⟨hr, rfl⟩ | ⟨r, hr, rfl, hU⟩⟩
                  · go_wp2_with fail
                    exact ⟨rfl, (HD.out.gen (F := fun c => c = b ∨ c = xb) (s' := sP) HM.out (fun c _ e => e.imp id (fun e => by have := HXB.out; omega)) HU0.out).md.trans (HV0.out.trans hM), Or.inl ⟨step_none2 HK.out hr, rfl⟩⟩
                  have HK := Lib.hid (step_some2 HK.out hr)
                  have HLpd := Lib.hid (rNum_lt8 hr)
                  have HU := Lib.hid hU
                  have HXI := Lib.hid (HXI.out.mods hM hxb0)
                  have HV0 := Lib.hid (HV0.out.trans hM)
                  have htw := hM.at hHeld.1 (by have := HD.out.bl; omega)
                  obtain ⟨pd, qd⟩ := r
                  simp only at HK HU
                  clear hr hU hM
                  try go_wp2_with fail
                  refine hK.out _ _ ⟨htw, HXI.out.c5⟩ (fun hHeld => ?_)
                  clear hK K
                  try simp only [Act.put, List.setIfInBounds_toArray, List.set_cons_zero, List.set_cons_succ]
                  clear htw
                  refine takeX 10 ?_
                  refine anyX_ready (rs := [11]) (by kernel_rfl) (by simp) ?_
                  refine anyX_cons (o := ?_) ?_ (fun K hK => ?_) ?_
                  rotate_left 1
                  · simp only [List.getElem?_toArray, List.getElem?_cons_succ, List.getElem?_cons_zero]; rfl
                  rotate_left 1
                  · exact anyX_nil
                  go_simp
                  obtain ⟨W7, hW7⟩ : ∃ W7, W7 = wp3.alloc (.cells #[.int .i64 pa, .int .i64 pb, .int .i64 pc, .int .i64 pd] 94) := ⟨_, rfl⟩
                  have hh7 : W7.heap[wp3.heap.size]? = some (.cells (ptC ⟨pa, pb, pc, pd⟩).toArray 94) := by rw [hW7]; exact heap_alloc_new _ _
                  have hM7 : Mod none' wp3 W7 := by rw [hW7]; exact (Mod.refl _ _).alloc _
                  have HU := Lib.hid (HU.out.mods hM7 id)
                  have HXI := Lib.hid (HXI.out.mods hM7 id)
                  have HV0 := Lib.hid (HV0.out.trans (hM7.mono fun c _ h => h.elim))
                  have htw := hM7.at hHeld.1 id
                  have hz7 : W7.heap.size = wp3.heap.size + 1 := by rw [hW7]; simp
                  rw [← hW7]
                  clear hW7
                  try go_wp2_with fail
                  refine hK.out _ _ ⟨htw, HXI.out.c5⟩ (fun hHeld => ?_)
                  clear hK K
                  try simp only [Act.put, List.setIfInBounds_toArray, List.set_cons_zero, List.set_cons_succ]
                  clear htw
                  refine anyX_ready (rs := [12]) (by kernel_rfl) (by simp) ?_
                  refine anyX_cons (o := ?_) ?_ (fun K hK => ?_) ?_
                  rotate_left 1
                  · simp only [List.getElem?_toArray, List.getElem?_cons_succ, List.getElem?_cons_zero]; rfl
                  rotate_left 1
                  · exact anyX_nil
                  have HG7 := Lib.hid (HG.out.mod (HV0.out) (fun c hc _ e => by have e : c = b := e; have := HZ6.out; have := HXB.out; omega))
                  refine step_append_g (by rfl) (.tmp 30) (.tmp 40) 90 90 (by rfl) 94 j0 _ 32 Tryz.underlying90 hji hy0 hy1 hy2 (by rfl) (by rfl) HG7.out _ 1 (ptC ⟨pa, pb, pc, pd⟩) (by rfl) (src_pt _ _ Tryz.underlying90 wp3.heap.size _ 94 hh7 _) (by have := HLm.out; omega) (by have := HLm.out; omega) ?_
                  intro a8 cap8 w8 hg8 hM8 hz8
                  have HS7 : Hid (w6.heap.size ≤ W7.heap.size) := Lib.hid (Nat.le_trans HM.out.size HV0.out.size)
                  have hx8 : ¬ (w6.heap.size ≤ xb) := by have := HZ6.out; omega
                  have HXI := Lib.hid (HXI.out.mods hM8 hx8)
                  have HU := Lib.hid (HU.out.mods hM8 (by have := HZ6.out; have := HXB.out; omega))
                  have htw := hM8.at hHeld.1 (by have := HZ6.out; have := HXB.out; omega)
                  have HV8 : Hid (Mod (fun c => c = b ∨ c = xb) w6 w8) := Lib.hid ((HM.out.trans (HV0.out.mono fun c _ e => Or.inl e)).trans' hM8 (fun c h e => by omega))
                  have HG8 := Lib.hid hg8
                  have c5 := HXI.out.c5
                  have f5 := HXI.out.f5
                  have l5 := cell_lt c5
                  clear hg8 hM8 hz8 hh7 hM7 hz7
                  try go_wp2_with fail
                  refine hK.out _ _ ⟨htw, c5⟩ (fun hHeld => ?_)
                  clear hK K
                  try simp only [Act.put, List.setIfInBounds_toArray, List.set_cons_zero, List.set_cons_succ]
                  refine anyX_ready (rs := [13]) (by kernel_rfl) (by simp) ?_
                  refine anyX_cons (o := ?_) ?_ (fun K hK => ?_) ?_
                  rotate_left 1
                  · simp only [List.getElem?_toArray, List.getElem?_cons_succ, List.getElem?_cons_zero]; rfl
                  rotate_left 1
                  · exact anyX_nil
                  go_simp
                  try go_wp2_with fail
                  refine hK.out _ _ hHeld (fun hHeld => ?_)
                  clear hK K
                  try simp only [Act.put, List.setIfInBounds_toArray, List.set_cons_zero, List.set_cons_succ]
                  refine anyX_ready (rs := [14]) (by kernel_rfl) (by simp) ?_
                  refine anyX_last (o := ?_) ?_ (fun K hK => ?_)
                  rotate_left 1
                  · simp only [List.getElem?_toArray, List.getElem?_cons_succ, List.getElem?_cons_zero]; rfl
                  go_simp
                  refine hK.out _ _ (anyX_done (by kernel_rfl) ?_ _)
                  clear hK K hHeld htw
                  go_wp2_with fail
                  go_roundg (nm - (j + 1))
                  case measure => exact hmj
                  case rel =>
                    have hMs : Mod (· = xb) w8 (w8.setCell ⟨xb, 5, none⟩ (.slice a8 (j + 1) cap8)) := (Mod.refl (· = xb) w8).setCellAt (fun _ => rfl) _
                    exact ⟨j + 1, qd, a8, cap8, lp ++ [(⟨pa, pb, pc, pd⟩ : PtS)], rfl, HJT.out, by first | rfl | rw [hwrj.out], by rw [List.length_append, HLP.out]; rfl, HU.out.mods hMs (fun e => hxb0 e.symm), by first | exact HXI.out.set _ | (rw [← Int.natCast_succ]; exact HXI.out.set _), by
                      rw [List.flatMap_append, show ([⟨pa, pb, pc, pd⟩] : List PtS).flatMap ptC = ptC ⟨pa, pb, pc, pd⟩ from List.append_nil _]
                      exact (HG8.out.sub (fun c _ hc => by have := HS7.out; rcases hc with hc | hc <;> omega)).mod hMs (fun c hc _ e => by have e : c = xb := e; have := HZ6.out; omega), HV8.out.trans (hMs.mono fun c _ e => Or.inr e), kp_part HK.out⟩
                · skip
                  obtain rfl : j = nm := by omega
                  have HXF := Lib.hid HXI.out
                  have HK := Lib.hid (show r0 = (rRep rIno (n1 - (i + 1)) sP).bind _ by have h1 := HKP.out; rw [Nat.sub_self] at h1; exact h1)
                  have HD := Lib.hid (HD.out.gen (F := fun c => c = b ∨ c = xb) HM.out (fun c _ e => e.imp id (fun e => by have := HXB.out; omega)) HU.out)
                  have HR := Lib.hid (HR.out.mods HM.out (fun c h e => Or.inr (by have := HXB.out; have := HD.out.bl; rcases e with e | e <;> omega)))
                  have hd1 : wr.cell? ⟨db, 1, none⟩ = some (.slice ao i cap) := HD.out.bx.at' 1 (by decide)
                  have hdf : wr.frozen? ⟨db, 1, none⟩ = false := HD.out.bx.fz 1
                  obtain ⟨h0, h1, h2, h3, h4, h5, hf5⟩ := HXI.out
                  obtain ⟨x, hx⟩ : ∃ x : InC, x = ⟨na, nb, nc, nd, ne, ap, cp, lp⟩ := ⟨_, rfl⟩
                  obtain ⟨W7, hW7⟩ : ∃ W7, W7 = wr.alloc (.cells #[.int .i64 na, .int .i64 nb, .int .i64 nc, .int .i64 nd, .int .i64 ne, .slice ap j cp] 102) := ⟨_, rfl⟩
                  have hh7 : W7.heap[wr.heap.size]? = some (.cells x.cells.toArray 102) := by rw [hW7, hx]; show _ = some (Obj.cells #[.int .i64 na, .int .i64 nb, .int .i64 nc, .int .i64 nd, .int .i64 ne, .slice ap lp.length cp] 102); rw [HLP.out]; exact heap_alloc_new _ _
                  have hM7 : Mod none' wr W7 := by rw [hW7]; exact (Mod.refl _ _).alloc _
                  obtain ⟨j0, hji, hy0, hy1, hy2⟩ := info_parts Tryz.infoInode
                  have HR7 := Lib.hid (HR.out.mods hM7 (fun c _ h => h.elim))
                  have HD7 := Lib.hid (HD.out.oth hM7 (fun c _ h => h.elim))
                  have HM7 := Lib.hid hM7
                  have HH7 := Lib.hid hh7
                  have HW7 := Lib.hid hW7
                  have HXX := Lib.hid hx
                  have HG7 := Lib.hid (show GRowAt W7 R 6 i cap ao (k.flatMap InC.cells) by have h := HR7.out.row; rw [HKL.out] at h; exact h)
                  have hdl := cell_lt hd1
                  clear hW7 hM7 hh7 hx hjt hjm htw
                  have hg7 := HG7.out
                  have hsr := HH7.out
                  have hc7 : W7.cell? ⟨db, 1, none⟩ = some (.slice ao i cap) := HD7.out.bx.at' 1 (by decide)
                  have hz7 : W7.frozen? ⟨db, 1, none⟩ = false := HD7.out.bx.fz 1
                  rw [HW7.out] at hg7 hsr hc7 hz7
                  have HC7 := Lib.hid (And.intro hc7 hz7)
                  have hnr : ¬ R db := fun h => (HR.out.lo db h).2.2 rfl
                  clear hc7 hz7
                  have HG7' := Lib.hid hg7
                  have HSR := Lib.hid hsr
                  clear hg7 hsr
                  go_wp2_with (at_builtin; refine wpList_append_g (by rfl) (.tmp 45) (.tmp 47) 23 23 (by rfl) 102 j0 _ 64 Tryz.underlying23 hji hy0 hy1 hy2 (by rfl) (by rfl) HG7'.out _ 1 x.cells (by rfl) (src_inc _ _ Tryz.underlying23 _ _ 102 HSR.out _) (by have := HL4.out; omega) (by have := HL4.out; omega) ?_; intro a8 cap8 w8 hg8 hM8 hz8; have hd8 := hM8.at HC7.out.1 hnr; have hf8 := (hM8.frozen (p := ⟨db, 1, none⟩) (cell_lt HC7.out.1) hnr).trans HC7.out.2; have hl8 := cell_lt hd8)
                  rw [← HW7.out] at hg8 hM8 hz8
                  have HD8 := Lib.hid (HD7.out.oth hM8 (fun c _ e => by have := HR.out.lo c e; omega))
                  have HM8 := Lib.hid hM8
                  have HG8 := Lib.hid hg8
                  clear hg8 hM8 hz8 h0 h1 h2 h3 h4 h5 hf5
                  go_wp2_with fail
                  go_roundg (n1 - (i + 1))
                  case measure => exact hms
                  case rel =>
                    have hMs : Mod (· = db) w8 (w8.setCell ⟨db, 1, none⟩ (.slice a8 (i + 1) cap8)) := (Mod.refl (· = db) w8).setCellAt (fun _ => rfl) _
                    have hDs := HD8.out.set (k := 1) (by decide) (.slice a8 (i + 1) cap8)
                    rw [dmf1] at hDs
                    refine ⟨i + 1, sP, a8, cap8, k ++ [x], fun c => R c ∨ (c = W7.heap.size ∧ c < w8.heap.size), rfl, HLT.out, by first | rfl | rw [hwr.out], by rw [List.length_append, HKL.out]; rfl, hDs, ⟨w8.heap.size, ?_, fun c hc => ?_, fun y hy => ?_, hMs.size⟩, ?_⟩
                    · rw [List.length_append, HKL.out, List.flatMap_append, show [x].flatMap InC.cells = x.cells from List.append_nil _]
                      refine (HG8.out.sub (fun c hl hc => hc.imp id (fun e => ⟨e, hl⟩))).mod hMs (fun c hc _ e => ?_)
                      have e : c = db := e
                      rcases hc with hc | hc
                      · exact (HR.out.lo c hc).2.2 e
                      · have := HM7.out.size; have := HXB.out; have := HR.out.zl; omega
                    · rcases hc with hc | hc
                      · have := HR.out.lo c hc; have := HR.out.zl; have := HM7.out.size; have := HM8.out.size; omega
                      · have := HM7.out.size; have := HXB.out; have := HR.out.zl; omega
                    · have h7 := HM7.out.size
                      have h8 := HM8.out.size
                      have hz := HR.out.zl
                      have hzb := HXB.out
                      rcases List.mem_append.1 hy with hy | hy
                      · have q1 := (HR7.out.pc y hy).mod HM8.out (fun c hc _ e => hc.2.2.2 e)
                        refine (q1.mod hMs (fun c hc _ e => hc.2.2.1 e)).sub (fun c _ hc => ⟨hc.1, by omega, hc.2.2.1, fun e => e.elim hc.2.2.2 (fun e => by omega)⟩)
                      · rw [List.mem_singleton] at hy
                        subst hy
                        have q0 : PcOk wr (fun c => w6.heap.size ≤ c) y := by
                          rw [HXX.out]
                          have hg := HG.out
                          refine ⟨by have := hg.row; rw [← HLP.out] at this; exact this, fun e => hg.nilA e, ⟨by show lp.length ≤ cp; rw [HLP.out]; exact hg.le, hg.max⟩, by show lp.length ≤ 100000; rw [HLP.out]; have := HLm.out; omega⟩
                        have q1 := ((q0.mod HM7.out (fun c _ _ e => e.elim)).sub (T := fun c => w6.heap.size ≤ c ∧ c < W7.heap.size) (fun c hl hc => ⟨hc, hl⟩)).mod HM8.out (fun c hc _ e => by have := HR.out.lo c e; have := HZ6.out; omega)
                        refine (q1.mod hMs (fun c hc _ e => by have e : c = db := e; have := HZ6.out; omega)).sub (fun c _ hc => ⟨by have := HZ6.out; omega, by omega, by have := HZ6.out; omega, fun e => e.elim (fun e => by have := HR.out.lo c e; have := HZ6.out; omega) (fun e => by omega)⟩)
                    · have h1 := HKP.out
                      rw [Nat.sub_self] at h1
                      have h2 : r0 = KP n0 (k.map InC.val) (n1 - (i + 1)) na nb nc nd ne (lp ++ []) sP := h1
                      rw [List.append_nil] at h2
                      rw [List.map_append, HXX.out]
                      exact h2
          · skip
            go_simp
            obtain ⟨xb, hxb⟩ : ∃ xb, xb = wc1.heap.size := ⟨_, rfl⟩
            obtain ⟨wx2, hwy⟩ : ∃ wy, wy = wc1.alloc (.cells #[.int .i64 0, .int .i64 0, .int .i64 0, .int .i64 0, .int .i64 0, .slice none 0 0] 102) := ⟨_, rfl⟩
            have hMA : Mod none' wc1 wx2 := by rw [hwy]; exact (Mod.refl _ _).alloc _
            have HD := Lib.hid (HD.out.oth hMA (fun c _ h => h.elim))
            have HR := Lib.hid (HR.out.mods hMA (fun c _ h => h.elim))
            have HX : Hid (wx2.there xb 0 6 ∧ zr ≤ xb ∧ xb < wx2.heap.size) := Lib.hid ⟨by rw [hwy, hxb]; exact there_new wc1 102 [.int .i64 0, .int .i64 0, .int .i64 0, .int .i64 0, .int .i64 0, .slice none 0 0], by have := HMQ.out.size; have := HZR.out; omega, by rw [hwy, hxb]; simp⟩
            have HMQ := Lib.hid (HMQ.out.trans (hMA.mono fun c _ h => h.elim))
            rw [← hwy, ← hxb]
            clear hwy hxb hMA
            try go_wp2_with fail
            refine hK.out _ _ HD.out.tb (fun hHeld => ?_)
            clear hK K
            try simp only [Act.put, List.setIfInBounds_toArray, List.set_cons_zero, List.set_cons_succ]
            refine wpAnyH_ready (rs := [5]) (by kernel_rfl) (by simp) ?_
            refine AllReadyH.cons (o := _) rfl (fun K hK => ?_) AllReadyH.nil
            go_simp
            refine (rdNum_any wx2 b 1 tb rfl HD.out.un).mono ?_
            rintro e wd2 ⟨hM, ⟨hr, rfl⟩ | ⟨r, hr, rfl, hU⟩⟩
            · go_wp2_with fail
              exact ⟨rfl, HD.out.md.trans hM, Or.inl ⟨step_none2 HK.out hr, rfl⟩⟩
            have HD := Lib.hid (HD.out.num hM hU)
            have HK := Lib.hid (step_some2 HK.out hr)
            have HLnc := Lib.hid (rNum_lt8 hr)
            have HR := Lib.hid (HR.out.mods hM (fun c _ e => Or.inr (by have e : c = b := e; omega)))
            have HMQ := Lib.hid (HMQ.out.trans hM)
            have HX := Lib.hid (And.intro (there_mods HX.out.1 hM (by have := HX.out.2; have := HZW.out; omega) HX.out.2.2) (And.intro HX.out.2.1 (Nat.lt_of_lt_of_le HX.out.2.2 hM.size)))
            obtain ⟨nc, tc⟩ := r
            simp only at HD HK
            clear hr hU hM
            try go_wp2_with fail
            refine hK.out _ _ HD.out.tb (fun hHeld => ?_)
            clear hK K
            try simp only [Act.put, List.setIfInBounds_toArray, List.set_cons_zero, List.set_cons_succ]
            refine wpAnyH_ready (rs := [7]) (by kernel_rfl) (by simp) ?_
            refine AllReadyH.cons (o := _) rfl (fun K hK => ?_) AllReadyH.nil
            go_simp
            refine (rdNum_any wd2 b 1 tc rfl HD.out.un).mono ?_
            rintro e wd3 ⟨hM, ⟨hr, rfl⟩ | ⟨r, hr, rfl, hU⟩⟩
            · go_wp2_with fail
              exact ⟨rfl, HD.out.md.trans hM, Or.inl ⟨step_none2 HK.out hr, rfl⟩⟩
            have HD := Lib.hid (HD.out.num hM hU)
            have HK := Lib.hid (step_some2 HK.out hr)
            have HLnd := Lib.hid (rNum_lt8 hr)
            have HR := Lib.hid (HR.out.mods hM (fun c _ e => Or.inr (by have e : c = b := e; omega)))
            have HMQ := Lib.hid (HMQ.out.trans hM)
            have HX := Lib.hid (And.intro (there_mods HX.out.1 hM (by have := HX.out.2; have := HZW.out; omega) HX.out.2.2) (And.intro HX.out.2.1 (Nat.lt_of_lt_of_le HX.out.2.2 hM.size)))
            obtain ⟨nd, td⟩ := r
            simp only at HD HK
            clear hr hU hM
            try go_wp2_with fail
            refine hK.out _ _ HD.out.tb (fun hHeld => ?_)
            clear hK K
            try simp only [Act.put, List.setIfInBounds_toArray, List.set_cons_zero, List.set_cons_succ]
            refine wpAnyH_ready (rs := [9]) (by kernel_rfl) (by simp) ?_
            refine AllReadyH.cons (o := _) rfl (fun K hK => ?_) AllReadyH.nil
            go_simp
            refine (rdNum_any wd3 b 2 td rfl HD.out.un).mono ?_
            rintro e wd4 ⟨hM, ⟨hr, rfl⟩ | ⟨r, hr, rfl, hU⟩⟩
            · go_wp2_with fail
              exact ⟨rfl, HD.out.md.trans hM, Or.inl ⟨step_none2 HK.out hr, rfl⟩⟩
            have HD := Lib.hid (HD.out.num hM hU)
            have HK := Lib.hid (step_some2 HK.out hr)
            have HLne := Lib.hid (rNum_lt8 hr)
            have HR := Lib.hid (HR.out.mods hM (fun c _ e => Or.inr (by have e : c = b := e; omega)))
            have HMQ := Lib.hid (HMQ.out.trans hM)
            have HX := Lib.hid (And.intro (there_mods HX.out.1 hM (by have := HX.out.2; have := HZW.out; omega) HX.out.2.2) (And.intro HX.out.2.1 (Nat.lt_of_lt_of_le HX.out.2.2 hM.size)))
            obtain ⟨ne, te⟩ := r
            simp only at HD HK
            clear hr hU hM
            try go_wp2_with fail
            refine hK.out _ _ HD.out.tb (fun hHeld => ?_)
            clear hK K
            try simp only [Act.put, List.setIfInBounds_toArray, List.set_cons_zero, List.set_cons_succ]
            refine takeL 10 ?_
            refine wpAnyH_ready (rs := [12]) (by kernel_rfl) (by simp) ?_
            refine AllReadyH.cons (o := _) rfl (fun K hK => ?_) AllReadyH.nil
            rw [if_pos (by rfl)]
            refine wp_store_mid _ _ _ rfl xb 0 #[.int .i64 na, .int .i64 nb, .int .i64 nc, .int .i64 nd, .int .i64 ne, .slice none 0 0] rfl rfl HX.out.1 (by kernel_rfl) (by simp [Value.oneCell']) ?_
            obtain ⟨w5, hw5⟩ : ∃ w5, w5 = wd4.setCells xb 0 [.int .i64 na, .int .i64 nb, .int .i64 nc, .int .i64 nd, .int .i64 ne, .slice none 0 0] := ⟨_, rfl⟩
            have hM5 : Mod (· = xb) wd4 w5 := by rw [hw5]; exact Mod.setCellsAt (F := (· = xb)) (show (· = xb) xb from rfl) _ _ _ (Mod.refl _ _)
            have HXI : Hid (XIn w5 xb na nb nc nd ne (.slice none 0 0)) := Lib.hid (by rw [hw5]; exact xin_new HX.out.1)
            have HD := Lib.hid (HD.out.oth hM5 (fun c _ e => by have e : c = xb := e; have := HX.out.2; have := HZW.out; omega))
            have HR := Lib.hid (HR.out.mods hM5 (fun c h e => by have e : c = xb := e; have := HX.out.2; omega))
            have HMQ := Lib.hid (HMQ.out.trans' hM5 (fun c h e => by have e : c = xb := e; have := HX.out.2; have := HZR.out; omega))
            show K _ _
            rw [← hw5]
            clear hw5 hM5
            try go_wp2_with fail
            refine hK.out _ _ HD.out.tb (fun hHeld => ?_)
            clear hK K
            try simp only [Act.put, List.setIfInBounds_toArray, List.set_cons_zero, List.set_cons_succ]
            refine wpAnyH_done (by kernel_rfl) ?_ _
            clear hHeld
            have htb := HD.out.tb
            have HXB : Hid (zr ≤ xb ∧ b < zr ∧ db < zr ∧ w.heap.size + 2 ≤ zr) := Lib.hid ⟨HX.out.2.1, Nat.lt_of_lt_of_le HZW.out.2.2 (by have := HZW.out; omega), HZW.out.2.1, HZW.out.1⟩
            clear HX
            go_wp2_with fail
            refine (rdNum_any w5 b 1 te rfl HD.out.un).mono ?_
            rintro e w6 ⟨hM, ⟨hr, rfl⟩ | ⟨r, hr, rfl, hU⟩⟩
            · go_wp2_with fail
              exact ⟨rfl, HD.out.md.trans hM, Or.inl ⟨step_none2 HK.out hr, rfl⟩⟩
            have hxb0 : xb ≠ b := by have := HXB.out; omega
            have HXI := Lib.hid (HXI.out.mods hM hxb0)
            have HR := Lib.hid (HR.out.mods hM (fun c _ e => Or.inr (by have e : c = b := e; have := HD.out.bl; omega)))
            have HD := Lib.hid (HD.out.num hM hU)
            have HK := Lib.hid (step_some2 HK.out hr)
            have HLm := Lib.hid (rNum_lt8 hr)
            obtain ⟨nm, tm⟩ := r
            simp only at HD HK HLm
            clear hr hU hM htb HMQ hHeld
            have HZ6 : Hid (xb < w6.heap.size ∧ zr ≤ w6.heap.size) := Lib.hid ⟨cell_lt HXI.out.c0, HR.out.zl⟩
            have htb := HD.out.tb
            go_wp2_with fail
            go_loopg [27] nm (fun g v wr => PRel w6 b xb na nb nc nd ne nm (KP n0 (k.map InC.val) (n1 - (i + 1)) na nb nc nd ne) r0 g v wr)
            case atStart => exact ⟨0, tm, none, 0, [], rfl, Nat.zero_le _, rfl, rfl, HD.out.un, HXI.out, GRowAt.nil _ _ _ _, Mod.refl _ _, HK.out.trans (kp_start _ _)⟩
            case round =>
              obtain ⟨j, sP, ap, cp, lp, rfl, hjm, rfl, hlp, hU, hX, hG, hM, hK⟩ := hrel
              have HU := Lib.hid hU
              have HXI := Lib.hid hX
              have HG := Lib.hid hG
              have HM := Lib.hid hM
              have HKP := Lib.hid hK
              have HLP := Lib.hid hlp
              have htw : wr.cell? ⟨w.heap.size, 0, none⟩ = some (.pointer (some ⟨b, 0, none⟩)) := hM.at htb (by have := HXB.out; have := HD.out.bl; omega)
              clear hU hX hG hM hK hlp
              by_cases hjt : j < nm
              · skip
                have HJT := Lib.hid hjt
                have hjl2 : (0 : Int) ≤ j ∧ (j : Int) < nm := by omega
                have hwrj := Lib.hid (show wrap64 ((j : Int) + 1) = ((j + 1 : Nat) : Int) by have := HLm.out; unfold wrap64; omega)
                have hmj : nm - (j + 1) < nm - j := by omega
                have HK := Lib.hid (show r0 = ((rNum 2 sP).bind _).bind _ by have h1 := HKP.out; rw [show nm - j = (nm - (j + 1)) + 1 by omega, rRep_bind] at h1; exact h1)
                have hKX : wr.drew.cell? ⟨w.heap.size, 0, none⟩ = some (.pointer (some ⟨b, 0, none⟩)) ∧ wr.drew.cell? ⟨xb, 5, none⟩ = some (.slice ap j cp) := ⟨htw, HXI.out.c5⟩
                have HU := Lib.hid (show UnpAt wr.drew b sP.1 sP.2 from HU.out.mods (F := none') ((Mod.refl _ _).drew) id)
                have HXI := Lib.hid (show XIn wr.drew xb na nb nc nd ne _ from HXI.out.mods (F := none') ((Mod.refl _ _).drew) id)
                have HV0 := Lib.hid ((Mod.refl (· = b) wr).drew)
                obtain ⟨j0, hji, hy0, hy1, hy2⟩ := info_parts Tryz.infoPart
                clear hjt
                go_wp2_with fail
                refine anyX_begin 14 (fun W => W.cell? ⟨w.heap.size, 0, none⟩ = some (.pointer (some ⟨b, 0, none⟩)) ∧ W.cell? ⟨xb, 5, none⟩ = some (.slice ap j cp)) (by kernel_rfl) hKX (fun hHeld => ?_)
                clear hKX htw
                refine takeX 0 ?_
                refine takeX 1 ?_
                refine takeX 2 ?_
                refine takeX 4 ?_
                refine takeX 6 ?_
                refine takeX 8 ?_
                have HU0 := Lib.hid (show UnpAt wr b sP.1 sP.2 from ⟨HU.out.c0, HU.out.c1, HU.out.f0, HU.out.f1, HU.out.size⟩)
                refine anyX_ready (rs := [3]) (by kernel_rfl) (by simp) ?_
                refine anyX_cons (o := ?_) ?_ (fun K hK => ?_) ?_
                rotate_left 1
                · simp only [List.getElem?_toArray, List.getElem?_cons_succ, List.getElem?_cons_zero]; rfl
                rotate_left 1
                · exact anyX_nil
                go_simp
                refine (rdNum_any wr.drew b 2 sP rfl HU.out).mono ?_
                rintro e wp0 ⟨hM, ⟨hr, rfl⟩ | ⟨r, hr, rfl, hU⟩⟩
                · go_wp2_with fail
                  exact ⟨rfl, (HD.out.gen (F := fun c => c = b ∨ c = xb) (s' := sP) HM.out (fun c _ e => e.imp id (fun e => by have := HXB.out; omega)) HU0.out).md.trans (HV0.out.trans hM), Or.inl ⟨step_none2 HK.out hr, rfl⟩⟩
                have HK := Lib.hid (step_some2 HK.out hr)
                have HLpa := Lib.hid (rNum_lt8 hr)
                have HU := Lib.hid hU
                have HXI := Lib.hid (HXI.out.mods hM hxb0)
                have HV0 := Lib.hid (HV0.out.trans hM)
                have htw := hM.at hHeld.1 (by have := HD.out.bl; omega)
                obtain ⟨pa, qa⟩ := r
                simp only at HK HU
                clear hr hU hM
                try go_wp2_with fail
                refine hK.out _ _ ⟨htw, HXI.out.c5⟩ (fun hHeld => ?_)
                clear hK K
                try simp only [Act.put, List.setIfInBounds_toArray, List.set_cons_zero, List.set_cons_succ]
                clear htw
                refine anyX_ready (rs := [5]) (by kernel_rfl) (by simp) ?_
                refine anyX_cons (o := ?_) ?_ (fun K hK => ?_) ?_
                rotate_left 1
                · simp only [List.getElem?_toArray, List.getElem?_cons_succ, List.getElem?_cons_zero]; rfl
                rotate_left 1
                · exact anyX_nil
                go_simp
                refine (rdNum_any wp0 b 2 qa rfl HU.out).mono ?_
                rintro e wp1 ⟨hM, ⟨hr, rfl⟩ | ⟨r, hr, rfl, hU⟩⟩
                · go_wp2_with fail
                  exact ⟨rfl, (HD.out.gen (F := fun c => c = b ∨ c = xb) (s' := sP) HM.out (fun c _ e => e.imp id (fun e => by have := HXB.out; omega)) HU0.out).md.trans (HV0.out.trans hM), Or.inl ⟨step_none2 HK.out hr, rfl⟩⟩
                have HK := Lib.hid (step_some2 HK.out hr)
                have HLpb := Lib.hid (rNum_lt8 hr)
                have HU := Lib.hid hU
                have HXI := Lib.hid (HXI.out.mods hM hxb0)
                have HV0 := Lib.hid (HV0.out.trans hM)
                have htw := hM.at hHeld.1 (by have := HD.out.bl; omega)
                obtain ⟨pb, qb⟩ := r
                simp only at HK HU
                clear hr hU hM
                try go_wp2_with fail
                refine hK.out _ _ ⟨htw, HXI.out.c5⟩ (fun hHeld => ?_)
                clear hK K
                try simp only [Act.put, List.setIfInBounds_toArray, List.set_cons_zero, List.set_cons_succ]
                clear htw
                refine anyX_ready (rs := [7]) (by kernel_rfl) (by simp) ?_
                refine anyX_cons (o := ?_) ?_ (fun K hK => ?_) ?_
                rotate_left 1
                · simp only [List.getElem?_toArray, List.getElem?_cons_succ, List.getElem?_cons_zero]; rfl
                rotate_left 1
                · exact anyX_nil
                go_simp
                refine (rdNum_any wp1 b 2 qb rfl HU.out).mono ?_
                rintro e wp2 ⟨hM, ⟨hr, rfl⟩ | ⟨r, hr, rfl, hU⟩⟩
                · go_wp2_with fail
                  exact ⟨rfl, (HD.out.gen (F := fun c => c = b ∨ c = xb) (s' := sP) HM.out (fun c _ e => e.imp id (fun e => by have := HXB.out; omega)) HU0.out).md.trans (HV0.out.trans hM), Or.inl ⟨step_none2 HK.out hr, rfl⟩⟩
                have HK := Lib.hid (step_some2 HK.out hr)
                have HLpc := Lib.hid (rNum_lt8 hr)
                have HU := Lib.hid hU
                have HXI := Lib.hid (HXI.out.mods hM hxb0)
                have HV0 := Lib.hid (HV0.out.trans hM)
                have htw := hM.at hHeld.1 (by have := HD.out.bl; omega)
                obtain ⟨pc, qc⟩ := r
                simp only at HK HU
                clear hr hU hM
                try go_wp2_with fail
                refine hK.out _ _ ⟨htw, HXI.out.c5⟩ (fun hHeld => ?_)
                clear hK K
                try simp only [Act.put, List.setIfInBounds_toArray, List.set_cons_zero, List.set_cons_succ]
                clear htw
                refine anyX_ready (rs := [9]) (by kernel_rfl) (by simp) ?_
                refine anyX_cons (o := ?_) ?_ (fun K hK => ?_) ?_
                rotate_left 1
                · simp only [List.getElem?_toArray, List.getElem?_cons_succ, List.getElem?_cons_zero]; rfl
                rotate_left 1
                · exact anyX_nil
                go_simp
                refine (rdNum_any wp2 b 2 qc rfl HU.out).mono ?_
                rintro e wp3 ⟨hM, ⟨hr, rfl⟩ | ⟨r, hr, rfl, hU⟩⟩
                · go_wp2_with fail
                  exact ⟨rfl, (HD.out.gen (F := fun c => c = b ∨ c = xb) (s' := sP) HM.out (fun c _ e => e.imp id (fun e => by have := HXB.out; omega)) HU0.out).md.trans (HV0.out.trans hM), Or.inl ⟨step_none2 HK.out hr, rfl⟩⟩
                have HK := Lib.hid (step_some2 HK.out hr)
                have HLpd := Lib.hid (rNum_lt8 hr)
                have HU := Lib.hid hU
                have HXI := Lib.hid (HXI.out.mods hM hxb0)
                have HV0 := Lib.hid (HV0.out.trans hM)
                have htw := hM.at hHeld.1 (by have := HD.out.bl; omega)
                obtain ⟨pd, qd⟩ := r
                simp only at HK HU
                clear hr hU hM
                try go_wp2_with fail
                refine hK.out _ _ ⟨htw, HXI.out.c5⟩ (fun hHeld => ?_)
                clear hK K
                try simp only [Act.put, List.setIfInBounds_toArray, List.set_cons_zero, List.set_cons_succ]
                clear htw
                refine takeX 10 ?_
                refine anyX_ready (rs := [11]) (by kernel_rfl) (by simp) ?_
                refine anyX_cons (o := ?_) ?_ (fun K hK => ?_) ?_
                rotate_left 1
                · simp only [List.getElem?_toArray, List.getElem?_cons_succ, List.getElem?_cons_zero]; rfl
                rotate_left 1
                · exact anyX_nil
                go_simp
                obtain ⟨W7, hW7⟩ : ∃ W7, W7 = wp3.alloc (.cells #[.int .i64 pa, .int .i64 pb, .int .i64 pc, .int .i64 pd] 94) := ⟨_, rfl⟩
                have hh7 : W7.heap[wp3.heap.size]? = some (.cells (ptC ⟨pa, pb, pc, pd⟩).toArray 94) := by rw [hW7]; exact heap_alloc_new _ _
                have hM7 : Mod none' wp3 W7 := by rw [hW7]; exact (Mod.refl _ _).alloc _
                have HU := Lib.hid (HU.out.mods hM7 id)
                have HXI := Lib.hid (HXI.out.mods hM7 id)
                have HV0 := Lib.hid (HV0.out.trans (hM7.mono fun c _ h => h.elim))
                have htw := hM7.at hHeld.1 id
                have hz7 : W7.heap.size = wp3.heap.size + 1 := by rw [hW7]; simp
                rw [← hW7]
                clear hW7
                try go_wp2_with fail
                refine hK.out _ _ ⟨htw, HXI.out.c5⟩ (fun hHeld => ?_)
                clear hK K
                try simp only [Act.put, List.setIfInBounds_toArray, List.set_cons_zero, List.set_cons_succ]
                clear htw
                refine anyX_ready (rs := [12]) (by kernel_rfl) (by simp) ?_
                refine anyX_cons (o := ?_) ?_ (fun K hK => ?_) ?_
                rotate_left 1
                · simp only [List.getElem?_toArray, List.getElem?_cons_succ, List.getElem?_cons_zero]; rfl
                rotate_left 1
                · exact anyX_nil
                have HG7 := Lib.hid (HG.out.mod (HV0.out) (fun c hc _ e => by have e : c = b := e; have := HZ6.out; have := HXB.out; omega))
                refine step_append_g (by rfl) (.tmp 30) (.tmp 40) 90 90 (by rfl) 94 j0 _ 32 Tryz.underlying90 hji hy0 hy1 hy2 (by rfl) (by rfl) HG7.out _ 1 (ptC ⟨pa, pb, pc, pd⟩) (by rfl) (src_pt _ _ Tryz.underlying90 wp3.heap.size _ 94 hh7 _) (by have := HLm.out; omega) (by have := HLm.out; omega) ?_
                intro a8 cap8 w8 hg8 hM8 hz8
                have HS7 : Hid (w6.heap.size ≤ W7.heap.size) := Lib.hid (Nat.le_trans HM.out.size HV0.out.size)
                have hx8 : ¬ (w6.heap.size ≤ xb) := by have := HZ6.out; omega
                have HXI := Lib.hid (HXI.out.mods hM8 hx8)
                have HU := Lib.hid (HU.out.mods hM8 (by have := HZ6.out; have := HXB.out; omega))
                have htw := hM8.at hHeld.1 (by have := HZ6.out; have := HXB.out; omega)
                have HV8 : Hid (Mod (fun c => c = b ∨ c = xb) w6 w8) := Lib.hid ((HM.out.trans (HV0.out.mono fun c _ e => Or.inl e)).trans' hM8 (fun c h e => by omega))
                have HG8 := Lib.hid hg8
                have c5 := HXI.out.c5
                have f5 := HXI.out.f5
                have l5 := cell_lt c5
                clear hg8 hM8 hz8 hh7 hM7 hz7
                try go_wp2_with fail
                refine hK.out _ _ ⟨htw, c5⟩ (fun hHeld => ?_)
                clear hK K
                try simp only [Act.put, List.setIfInBounds_toArray, List.set_cons_zero, List.set_cons_succ]
                refine anyX_ready (rs := [13]) (by kernel_rfl) (by simp) ?_
                refine anyX_cons (o := ?_) ?_ (fun K hK => ?_) ?_
                rotate_left 1
                · simp only [List.getElem?_toArray, List.getElem?_cons_succ, List.getElem?_cons_zero]; rfl
                rotate_left 1
                · exact anyX_nil
                go_simp
                try go_wp2_with fail
                refine hK.out _ _ hHeld (fun hHeld => ?_)
                clear hK K
                try simp only [Act.put, List.setIfInBounds_toArray, List.set_cons_zero, List.set_cons_succ]
                refine anyX_ready (rs := [14]) (by kernel_rfl) (by simp) ?_
                refine anyX_last (o := ?_) ?_ (fun K hK => ?_)
                rotate_left 1
                · simp only [List.getElem?_toArray, List.getElem?_cons_succ, List.getElem?_cons_zero]; rfl
                go_simp
                refine hK.out _ _ (anyX_done (by kernel_rfl) ?_ _)
                clear hK K hHeld htw
                go_wp2_with fail
                go_roundg (nm - (j + 1))
                case measure => exact hmj
                case rel =>
                  have hMs : Mod (· = xb) w8 (w8.setCell ⟨xb, 5, none⟩ (.slice a8 (j + 1) cap8)) := (Mod.refl (· = xb) w8).setCellAt (fun _ => rfl) _
                  exact ⟨j + 1, qd, a8, cap8, lp ++ [(⟨pa, pb, pc, pd⟩ : PtS)], rfl, HJT.out, by first | rfl | rw [hwrj.out], by rw [List.length_append, HLP.out]; rfl, HU.out.mods hMs (fun e => hxb0 e.symm), by first | exact HXI.out.set _ | (rw [← Int.natCast_succ]; exact HXI.out.set _), by
                    rw [List.flatMap_append, show ([⟨pa, pb, pc, pd⟩] : List PtS).flatMap ptC = ptC ⟨pa, pb, pc, pd⟩ from List.append_nil _]
                    exact (HG8.out.sub (fun c _ hc => by have := HS7.out; rcases hc with hc | hc <;> omega)).mod hMs (fun c hc _ e => by have e : c = xb := e; have := HZ6.out; omega), HV8.out.trans (hMs.mono fun c _ e => Or.inr e), kp_part HK.out⟩
              · skip
                obtain rfl : j = nm := by omega
                have HXF := Lib.hid HXI.out
                have HK := Lib.hid (show r0 = (rRep rIno (n1 - (i + 1)) sP).bind _ by have h1 := HKP.out; rw [Nat.sub_self] at h1; exact h1)
                have HD := Lib.hid (HD.out.gen (F := fun c => c = b ∨ c = xb) HM.out (fun c _ e => e.imp id (fun e => by have := HXB.out; omega)) HU.out)
                have HR := Lib.hid (HR.out.mods HM.out (fun c h e => Or.inr (by have := HXB.out; have := HD.out.bl; rcases e with e | e <;> omega)))
                have hd1 : wr.cell? ⟨db, 1, none⟩ = some (.slice ao i cap) := HD.out.bx.at' 1 (by decide)
                have hdf : wr.frozen? ⟨db, 1, none⟩ = false := HD.out.bx.fz 1
                obtain ⟨h0, h1, h2, h3, h4, h5, hf5⟩ := HXI.out
                obtain ⟨x, hx⟩ : ∃ x : InC, x = ⟨na, nb, nc, nd, ne, ap, cp, lp⟩ := ⟨_, rfl⟩
                obtain ⟨W7, hW7⟩ : ∃ W7, W7 = wr.alloc (.cells #[.int .i64 na, .int .i64 nb, .int .i64 nc, .int .i64 nd, .int .i64 ne, .slice ap j cp] 102) := ⟨_, rfl⟩
                have hh7 : W7.heap[wr.heap.size]? = some (.cells x.cells.toArray 102) := by rw [hW7, hx]; show _ = some (Obj.cells #[.int .i64 na, .int .i64 nb, .int .i64 nc, .int .i64 nd, .int .i64 ne, .slice ap lp.length cp] 102); rw [HLP.out]; exact heap_alloc_new _ _
                have hM7 : Mod none' wr W7 := by rw [hW7]; exact (Mod.refl _ _).alloc _
                obtain ⟨j0, hji, hy0, hy1, hy2⟩ := info_parts Tryz.infoInode
                have HR7 := Lib.hid (HR.out.mods hM7 (fun c _ h => h.elim))
                have HD7 := Lib.hid (HD.out.oth hM7 (fun c _ h => h.elim))
                have HM7 := Lib.hid hM7
                have HH7 := Lib.hid hh7
                have HW7 := Lib.hid hW7
                have HXX := Lib.hid hx
                have HG7 := Lib.hid (show GRowAt W7 R 6 i cap ao (k.flatMap InC.cells) by have h := HR7.out.row; rw [HKL.out] at h; exact h)
                have hdl := cell_lt hd1
                clear hW7 hM7 hh7 hx hjt hjm htw
                have hg7 := HG7.out
                have hsr := HH7.out
                have hc7 : W7.cell? ⟨db, 1, none⟩ = some (.slice ao i cap) := HD7.out.bx.at' 1 (by decide)
                have hz7 : W7.frozen? ⟨db, 1, none⟩ = false := HD7.out.bx.fz 1
                rw [HW7.out] at hg7 hsr hc7 hz7
                have HC7 := Lib.hid (And.intro hc7 hz7)
                have hnr : ¬ R db := fun h => (HR.out.lo db h).2.2 rfl
                clear hc7 hz7
                have HG7' := Lib.hid hg7
                have HSR := Lib.hid hsr
                clear hg7 hsr
                go_wp2_with (at_builtin; refine wpList_append_g (by rfl) (.tmp 45) (.tmp 47) 23 23 (by rfl) 102 j0 _ 64 Tryz.underlying23 hji hy0 hy1 hy2 (by rfl) (by rfl) HG7'.out _ 1 x.cells (by rfl) (src_inc _ _ Tryz.underlying23 _ _ 102 HSR.out _) (by have := HL4.out; omega) (by have := HL4.out; omega) ?_; intro a8 cap8 w8 hg8 hM8 hz8; have hd8 := hM8.at HC7.out.1 hnr; have hf8 := (hM8.frozen (p := ⟨db, 1, none⟩) (cell_lt HC7.out.1) hnr).trans HC7.out.2; have hl8 := cell_lt hd8)
                rw [← HW7.out] at hg8 hM8 hz8
                have HD8 := Lib.hid (HD7.out.oth hM8 (fun c _ e => by have := HR.out.lo c e; omega))
                have HM8 := Lib.hid hM8
                have HG8 := Lib.hid hg8
                clear hg8 hM8 hz8 h0 h1 h2 h3 h4 h5 hf5
                go_wp2_with fail
                go_roundg (n1 - (i + 1))
                case measure => exact hms
                case rel =>
                  have hMs : Mod (· = db) w8 (w8.setCell ⟨db, 1, none⟩ (.slice a8 (i + 1) cap8)) := (Mod.refl (· = db) w8).setCellAt (fun _ => rfl) _
                  have hDs := HD8.out.set (k := 1) (by decide) (.slice a8 (i + 1) cap8)
                  rw [dmf1] at hDs
                  refine ⟨i + 1, sP, a8, cap8, k ++ [x], fun c => R c ∨ (c = W7.heap.size ∧ c < w8.heap.size), rfl, HLT.out, by first | rfl | rw [hwr.out], by rw [List.length_append, HKL.out]; rfl, hDs, ⟨w8.heap.size, ?_, fun c hc => ?_, fun y hy => ?_, hMs.size⟩, ?_⟩
                  · rw [List.length_append, HKL.out, List.flatMap_append, show [x].flatMap InC.cells = x.cells from List.append_nil _]
                    refine (HG8.out.sub (fun c hl hc => hc.imp id (fun e => ⟨e, hl⟩))).mod hMs (fun c hc _ e => ?_)
                    have e : c = db := e
                    rcases hc with hc | hc
                    · exact (HR.out.lo c hc).2.2 e
                    · have := HM7.out.size; have := HXB.out; have := HR.out.zl; omega
                  · rcases hc with hc | hc
                    · have := HR.out.lo c hc; have := HR.out.zl; have := HM7.out.size; have := HM8.out.size; omega
                    · have := HM7.out.size; have := HXB.out; have := HR.out.zl; omega
                  · have h7 := HM7.out.size
                    have h8 := HM8.out.size
                    have hz := HR.out.zl
                    have hzb := HXB.out
                    rcases List.mem_append.1 hy with hy | hy
                    · have q1 := (HR7.out.pc y hy).mod HM8.out (fun c hc _ e => hc.2.2.2 e)
                      refine (q1.mod hMs (fun c hc _ e => hc.2.2.1 e)).sub (fun c _ hc => ⟨hc.1, by omega, hc.2.2.1, fun e => e.elim hc.2.2.2 (fun e => by omega)⟩)
                    · rw [List.mem_singleton] at hy
                      subst hy
                      have q0 : PcOk wr (fun c => w6.heap.size ≤ c) y := by
                        rw [HXX.out]
                        have hg := HG.out
                        refine ⟨by have := hg.row; rw [← HLP.out] at this; exact this, fun e => hg.nilA e, ⟨by show lp.length ≤ cp; rw [HLP.out]; exact hg.le, hg.max⟩, by show lp.length ≤ 100000; rw [HLP.out]; have := HLm.out; omega⟩
                      have q1 := ((q0.mod HM7.out (fun c _ _ e => e.elim)).sub (T := fun c => w6.heap.size ≤ c ∧ c < W7.heap.size) (fun c hl hc => ⟨hc, hl⟩)).mod HM8.out (fun c hc _ e => by have := HR.out.lo c e; have := HZ6.out; omega)
                      refine (q1.mod hMs (fun c hc _ e => by have e : c = db := e; have := HZ6.out; omega)).sub (fun c _ hc => ⟨by have := HZ6.out; omega, by omega, by have := HZ6.out; omega, fun e => e.elim (fun e => by have := HR.out.lo c e; have := HZ6.out; omega) (fun e => by omega)⟩)
                  · have h1 := HKP.out
                    rw [Nat.sub_self] at h1
                    have h2 : r0 = KP n0 (k.map InC.val) (n1 - (i + 1)) na nb nc nd ne (lp ++ []) sP := h1
                    rw [List.append_nil] at h2
                    rw [List.map_append, HXX.out]
                    exact h2
        · skip
          go_simp
          obtain ⟨xb, hxb⟩ : ∃ xb, xb = wc0.heap.size := ⟨_, rfl⟩
          obtain ⟨wx1, hwy⟩ : ∃ wy, wy = wc0.alloc (.cells #[.int .i64 0, .int .i64 0, .int .i64 0, .int .i64 0, .int .i64 0, .slice none 0 0] 102) := ⟨_, rfl⟩
          have hMA : Mod none' wc0 wx1 := by rw [hwy]; exact (Mod.refl _ _).alloc _
          have HD := Lib.hid (HD.out.oth hMA (fun c _ h => h.elim))
          have HR := Lib.hid (HR.out.mods hMA (fun c _ h => h.elim))
          have HX : Hid (wx1.there xb 0 6 ∧ zr ≤ xb ∧ xb < wx1.heap.size) := Lib.hid ⟨by rw [hwy, hxb]; exact there_new wc0 102 [.int .i64 0, .int .i64 0, .int .i64 0, .int .i64 0, .int .i64 0, .slice none 0 0], by have := HMQ.out.size; have := HZR.out; omega, by rw [hwy, hxb]; simp⟩
          have HMQ := Lib.hid (HMQ.out.trans (hMA.mono fun c _ h => h.elim))
          rw [← hwy, ← hxb]
          clear hwy hxb hMA
          try go_wp2_with fail
          refine hK.out _ _ HD.out.tb (fun hHeld => ?_)
          clear hK K
          try simp only [Act.put, List.setIfInBounds_toArray, List.set_cons_zero, List.set_cons_succ]
          refine wpAnyH_ready (rs := [3]) (by kernel_rfl) (by simp) ?_
          refine AllReadyH.cons (o := _) rfl (fun K hK => ?_) AllReadyH.nil
          go_simp
          refine (rdNum_any wx1 b 1 ta rfl HD.out.un).mono ?_
          rintro e wd1 ⟨hM, ⟨hr, rfl⟩ | ⟨r, hr, rfl, hU⟩⟩
          · go_wp2_with fail
            exact ⟨rfl, HD.out.md.trans hM, Or.inl ⟨step_none2 HK.out hr, rfl⟩⟩
          have HD := Lib.hid (HD.out.num hM hU)
          have HK := Lib.hid (step_some2 HK.out hr)
          have HLnb := Lib.hid (rNum_lt8 hr)
          have HR := Lib.hid (HR.out.mods hM (fun c _ e => Or.inr (by have e : c = b := e; omega)))
          have HMQ := Lib.hid (HMQ.out.trans hM)
          have HX := Lib.hid (And.intro (there_mods HX.out.1 hM (by have := HX.out.2; have := HZW.out; omega) HX.out.2.2) (And.intro HX.out.2.1 (Nat.lt_of_lt_of_le HX.out.2.2 hM.size)))
          obtain ⟨nb, tb⟩ := r
          simp only at HD HK
          clear hr hU hM
          try go_wp2_with fail
          refine hK.out _ _ HD.out.tb (fun hHeld => ?_)
          clear hK K
          try simp only [Act.put, List.setIfInBounds_toArray, List.set_cons_zero, List.set_cons_succ]
          refine wpAnyH_ready (rs := [5]) (by kernel_rfl) (by simp) ?_
          refine AllReadyH.cons (o := _) rfl (fun K hK => ?_) AllReadyH.nil
          go_simp
          refine (rdNum_any wd1 b 1 tb rfl HD.out.un).mono ?_
          rintro e wd2 ⟨hM, ⟨hr, rfl⟩ | ⟨r, hr, rfl, hU⟩⟩
          · go_wp2_with fail
            exact ⟨rfl, HD.out.md.trans hM, Or.inl ⟨step_none2 HK.out hr, rfl⟩⟩
          have HD := Lib.hid (HD.out.num hM hU)
          have HK := Lib.hid (step_some2 HK.out hr)
          have HLnc := Lib.hid (rNum_lt8 hr)
          have HR := Lib.hid (HR.out.mods hM (fun c _ e => Or.inr (by have e : c = b := e; omega)))
          have HMQ := Lib.hid (HMQ.out.trans hM)
          have HX := Lib.hid (And.intro (there_mods HX.out.1 hM (by have := HX.out.2; have := HZW.out; omega) HX.out.2.2) (And.intro HX.out.2.1 (Nat.lt_of_lt_of_le HX.out.2.2 hM.size)))
          obtain ⟨nc, tc⟩ := r
          simp only at HD HK
          clear hr hU hM
          try go_wp2_with fail
          refine hK.out _ _ HD.out.tb (fun hHeld => ?_)
          clear hK K
          try simp only [Act.put, List.setIfInBounds_toArray, List.set_cons_zero, List.set_cons_succ]
          refine wpAnyH_ready (rs := [7]) (by kernel_rfl) (by simp) ?_
          refine AllReadyH.cons (o := _) rfl (fun K hK => ?_) AllReadyH.nil
          go_simp
          refine (rdNum_any wd2 b 1 tc rfl HD.out.un).mono ?_
          rintro e wd3 ⟨hM, ⟨hr, rfl⟩ | ⟨r, hr, rfl, hU⟩⟩
          · go_wp2_with fail
            exact ⟨rfl, HD.out.md.trans hM, Or.inl ⟨step_none2 HK.out hr, rfl⟩⟩
          have HD := Lib.hid (HD.out.num hM hU)
          have HK := Lib.hid (step_some2 HK.out hr)
          have HLnd := Lib.hid (rNum_lt8 hr)
          have HR := Lib.hid (HR.out.mods hM (fun c _ e => Or.inr (by have e : c = b := e; omega)))
          have HMQ := Lib.hid (HMQ.out.trans hM)
          have HX := Lib.hid (And.intro (there_mods HX.out.1 hM (by have := HX.out.2; have := HZW.out; omega) HX.out.2.2) (And.intro HX.out.2.1 (Nat.lt_of_lt_of_le HX.out.2.2 hM.size)))
          obtain ⟨nd, td⟩ := r
          simp only at HD HK
          clear hr hU hM
          try go_wp2_with fail
          refine hK.out _ _ HD.out.tb (fun hHeld => ?_)
          clear hK K
          try simp only [Act.put, List.setIfInBounds_toArray, List.set_cons_zero, List.set_cons_succ]
          refine wpAnyH_ready (rs := [9]) (by kernel_rfl) (by simp) ?_
          refine AllReadyH.cons (o := _) rfl (fun K hK => ?_) AllReadyH.nil
          go_simp
          refine (rdNum_any wd3 b 2 td rfl HD.out.un).mono ?_
          rintro e wd4 ⟨hM, ⟨hr, rfl⟩ | ⟨r, hr, rfl, hU⟩⟩
          · go_wp2_with fail
            exact ⟨rfl, HD.out.md.trans hM, Or.inl ⟨step_none2 HK.out hr, rfl⟩⟩
          have HD := Lib.hid (HD.out.num hM hU)
          have HK := Lib.hid (step_some2 HK.out hr)
          have HLne := Lib.hid (rNum_lt8 hr)
          have HR := Lib.hid (HR.out.mods hM (fun c _ e => Or.inr (by have e : c = b := e; omega)))
          have HMQ := Lib.hid (HMQ.out.trans hM)
          have HX := Lib.hid (And.intro (there_mods HX.out.1 hM (by have := HX.out.2; have := HZW.out; omega) HX.out.2.2) (And.intro HX.out.2.1 (Nat.lt_of_lt_of_le HX.out.2.2 hM.size)))
          obtain ⟨ne, te⟩ := r
          simp only at HD HK
          clear hr hU hM
          try go_wp2_with fail
          refine hK.out _ _ HD.out.tb (fun hHeld => ?_)
          clear hK K
          try simp only [Act.put, List.setIfInBounds_toArray, List.set_cons_zero, List.set_cons_succ]
          refine takeL 10 ?_
          refine wpAnyH_ready (rs := [12]) (by kernel_rfl) (by simp) ?_
          refine AllReadyH.cons (o := _) rfl (fun K hK => ?_) AllReadyH.nil
          rw [if_pos (by rfl)]
          refine wp_store_mid _ _ _ rfl xb 0 #[.int .i64 na, .int .i64 nb, .int .i64 nc, .int .i64 nd, .int .i64 ne, .slice none 0 0] rfl rfl HX.out.1 (by kernel_rfl) (by simp [Value.oneCell']) ?_
          obtain ⟨w5, hw5⟩ : ∃ w5, w5 = wd4.setCells xb 0 [.int .i64 na, .int .i64 nb, .int .i64 nc, .int .i64 nd, .int .i64 ne, .slice none 0 0] := ⟨_, rfl⟩
          have hM5 : Mod (· = xb) wd4 w5 := by rw [hw5]; exact Mod.setCellsAt (F := (· = xb)) (show (· = xb) xb from rfl) _ _ _ (Mod.refl _ _)
          have HXI : Hid (XIn w5 xb na nb nc nd ne (.slice none 0 0)) := Lib.hid (by rw [hw5]; exact xin_new HX.out.1)
          have HD := Lib.hid (HD.out.oth hM5 (fun c _ e => by have e : c = xb := e; have := HX.out.2; have := HZW.out; omega))
          have HR := Lib.hid (HR.out.mods hM5 (fun c h e => by have e : c = xb := e; have := HX.out.2; omega))
          have HMQ := Lib.hid (HMQ.out.trans' hM5 (fun c h e => by have e : c = xb := e; have := HX.out.2; have := HZR.out; omega))
          show K _ _
          rw [← hw5]
          clear hw5 hM5
          try go_wp2_with fail
          refine hK.out _ _ HD.out.tb (fun hHeld => ?_)
          clear hK K
          try simp only [Act.put, List.setIfInBounds_toArray, List.set_cons_zero, List.set_cons_succ]
          refine wpAnyH_done (by kernel_rfl) ?_ _
          clear hHeld
          have htb := HD.out.tb
          have HXB : Hid (zr ≤ xb ∧ b < zr ∧ db < zr ∧ w.heap.size + 2 ≤ zr) := Lib.hid ⟨HX.out.2.1, Nat.lt_of_lt_of_le HZW.out.2.2 (by have := HZW.out; omega), HZW.out.2.1, HZW.out.1⟩
          clear HX
          go_wp2_with fail
          refine (rdNum_any w5 b 1 te rfl HD.out.un).mono ?_
          rintro e w6 ⟨hM, ⟨hr, rfl⟩ | ⟨r, hr, rfl, hU⟩⟩
          · go_wp2_with fail
            exact ⟨rfl, HD.out.md.trans hM, Or.inl ⟨step_none2 HK.out hr, rfl⟩⟩
          have hxb0 : xb ≠ b := by have := HXB.out; omega
          have HXI := Lib.hid (HXI.out.mods hM hxb0)
          have HR := Lib.hid (HR.out.mods hM (fun c _ e => Or.inr (by have e : c = b := e; have := HD.out.bl; omega)))
          have HD := Lib.hid (HD.out.num hM hU)
          have HK := Lib.hid (step_some2 HK.out hr)
          have HLm := Lib.hid (rNum_lt8 hr)
          obtain ⟨nm, tm⟩ := r
          simp only at HD HK HLm
          clear hr hU hM htb HMQ hHeld
          have HZ6 : Hid (xb < w6.heap.size ∧ zr ≤ w6.heap.size) := Lib.hid ⟨cell_lt HXI.out.c0, HR.out.zl⟩
          have htb := HD.out.tb
          go_wp2_with fail
          go_loopg [27] nm (fun g v wr => PRel w6 b xb na nb nc nd ne nm (KP n0 (k.map InC.val) (n1 - (i + 1)) na nb nc nd ne) r0 g v wr)
          case atStart => exact ⟨0, tm, none, 0, [], rfl, Nat.zero_le _, rfl, rfl, HD.out.un, HXI.out, GRowAt.nil _ _ _ _, Mod.refl _ _, HK.out.trans (kp_start _ _)⟩
          case round =>
            obtain ⟨j, sP, ap, cp, lp, rfl, hjm, rfl, hlp, hU, hX, hG, hM, hK⟩ := hrel
            have HU := Lib.hid hU
            have HXI := Lib.hid hX
            have HG := Lib.hid hG
            have HM := Lib.hid hM
            have HKP := Lib.hid hK
            have HLP := Lib.hid hlp
            have htw : wr.cell? ⟨w.heap.size, 0, none⟩ = some (.pointer (some ⟨b, 0, none⟩)) := hM.at htb (by have := HXB.out; have := HD.out.bl; omega)
            clear hU hX hG hM hK hlp
            by_cases hjt : j < nm
            · skip
              have HJT := Lib.hid hjt
              have hjl2 : (0 : Int) ≤ j ∧ (j : Int) < nm := by omega
              have hwrj := Lib.hid (show wrap64 ((j : Int) + 1) = ((j + 1 : Nat) : Int) by have := HLm.out; unfold wrap64; omega)
              have hmj : nm - (j + 1) < nm - j := by omega
              have HK := Lib.hid (show r0 = ((rNum 2 sP).bind _).bind _ by have h1 := HKP.out; rw [show nm - j = (nm - (j + 1)) + 1 by omega, rRep_bind] at h1; exact h1)
              have hKX : wr.drew.cell? ⟨w.heap.size, 0, none⟩ = some (.pointer (some ⟨b, 0, none⟩)) ∧ wr.drew.cell? ⟨xb, 5, none⟩ = some (.slice ap j cp) := ⟨htw, HXI.out.c5⟩
              have HU := Lib.hid (show UnpAt wr.drew b sP.1 sP.2 from HU.out.mods (F := none') ((Mod.refl _ _).drew) id)
              have HXI := Lib.hid (show XIn wr.drew xb na nb nc nd ne _ from HXI.out.mods (F := none') ((Mod.refl _ _).drew) id)
              have HV0 := Lib.hid ((Mod.refl (· = b) wr).drew)
              obtain ⟨j0, hji, hy0, hy1, hy2⟩ := info_parts Tryz.infoPart
              clear hjt
              go_wp2_with fail
              refine anyX_begin 14 (fun W => W.cell? ⟨w.heap.size, 0, none⟩ = some (.pointer (some ⟨b, 0, none⟩)) ∧ W.cell? ⟨xb, 5, none⟩ = some (.slice ap j cp)) (by kernel_rfl) hKX (fun hHeld => ?_)
              clear hKX htw
              refine takeX 0 ?_
              refine takeX 1 ?_
              refine takeX 2 ?_
              refine takeX 4 ?_
              refine takeX 6 ?_
              refine takeX 8 ?_
              have HU0 := Lib.hid (show UnpAt wr b sP.1 sP.2 from ⟨HU.out.c0, HU.out.c1, HU.out.f0, HU.out.f1, HU.out.size⟩)
              refine anyX_ready (rs := [3]) (by kernel_rfl) (by simp) ?_
              refine anyX_cons (o := ?_) ?_ (fun K hK => ?_) ?_
              rotate_left 1
              · simp only [List.getElem?_toArray, List.getElem?_cons_succ, List.getElem?_cons_zero]; rfl
              rotate_left 1
              · exact anyX_nil
              go_simp
              refine (rdNum_any wr.drew b 2 sP rfl HU.out).mono ?_
              rintro e wp0 ⟨hM, ⟨hr, rfl⟩ | ⟨r, hr, rfl, hU⟩⟩
              · go_wp2_with fail
                exact ⟨rfl, (HD.out.gen (F := fun c => c = b ∨ c = xb) (s' := sP) HM.out (fun c _ e => e.imp id (fun e => by have := HXB.out; omega)) HU0.out).md.trans (HV0.out.trans hM), Or.inl ⟨step_none2 HK.out hr, rfl⟩⟩
              have HK := Lib.hid (step_some2 HK.out hr)
              have HLpa := Lib.hid (rNum_lt8 hr)
              have HU := Lib.hid hU
              have HXI := Lib.hid (HXI.out.mods hM hxb0)
              have HV0 := Lib.hid (HV0.out.trans hM)
              have htw := hM.at hHeld.1 (by have := HD.out.bl; omega)
              obtain ⟨pa, qa⟩ := r
              simp only at HK HU
              clear hr hU hM
              try go_wp2_with fail
              refine hK.out _ _ ⟨htw, HXI.out.c5⟩ (fun hHeld => ?_)
              clear hK K
              try simp only [Act.put, List.setIfInBounds_toArray, List.set_cons_zero, List.set_cons_succ]
              clear htw
              refine anyX_ready (rs := [5]) (by kernel_rfl) (by simp) ?_
              refine anyX_cons (o := ?_) ?_ (fun K hK => ?_) ?_
              rotate_left 1
              · simp only [List.getElem?_toArray, List.getElem?_cons_succ, List.getElem?_cons_zero]; rfl
              rotate_left 1
              · exact anyX_nil
              go_simp
              refine (rdNum_any wp0 b 2 qa rfl HU.out).mono ?_
              rintro e wp1 ⟨hM, ⟨hr, rfl⟩ | ⟨r, hr, rfl, hU⟩⟩
              · go_wp2_with fail
                exact ⟨rfl, (HD.out.gen (F := fun c => c = b ∨ c = xb) (s' := sP) HM.out (fun c _ e => e.imp id (fun e => by have := HXB.out; omega)) HU0.out).md.trans (HV0.out.trans hM), Or.inl ⟨step_none2 HK.out hr, rfl⟩⟩
              have HK := Lib.hid (step_some2 HK.out hr)
              have HLpb := Lib.hid (rNum_lt8 hr)
              have HU := Lib.hid hU
              have HXI := Lib.hid (HXI.out.mods hM hxb0)
              have HV0 := Lib.hid (HV0.out.trans hM)
              have htw := hM.at hHeld.1 (by have := HD.out.bl; omega)
              obtain ⟨pb, qb⟩ := r
              simp only at HK HU
              clear hr hU hM
              try go_wp2_with fail
              refine hK.out _ _ ⟨htw, HXI.out.c5⟩ (fun hHeld => ?_)
              clear hK K
              try simp only [Act.put, List.setIfInBounds_toArray, List.set_cons_zero, List.set_cons_succ]
              clear htw
              refine anyX_ready (rs := [7]) (by kernel_rfl) (by simp) ?_
              refine anyX_cons (o := ?_) ?_ (fun K hK => ?_) ?_
              rotate_left 1
              · simp only [List.getElem?_toArray, List.getElem?_cons_succ, List.getElem?_cons_zero]; rfl
              rotate_left 1
              · exact anyX_nil
              go_simp
              refine (rdNum_any wp1 b 2 qb rfl HU.out).mono ?_
              rintro e wp2 ⟨hM, ⟨hr, rfl⟩ | ⟨r, hr, rfl, hU⟩⟩
              · go_wp2_with fail
                exact ⟨rfl, (HD.out.gen (F := fun c => c = b ∨ c = xb) (s' := sP) HM.out (fun c _ e => e.imp id (fun e => by have := HXB.out; omega)) HU0.out).md.trans (HV0.out.trans hM), Or.inl ⟨step_none2 HK.out hr, rfl⟩⟩
              have HK := Lib.hid (step_some2 HK.out hr)
              have HLpc := Lib.hid (rNum_lt8 hr)
              have HU := Lib.hid hU
              have HXI := Lib.hid (HXI.out.mods hM hxb0)
              have HV0 := Lib.hid (HV0.out.trans hM)
              have htw := hM.at hHeld.1 (by have := HD.out.bl; omega)
              obtain ⟨pc, qc⟩ := r
              simp only at HK HU
              clear hr hU hM
              try go_wp2_with fail
              refine hK.out _ _ ⟨htw, HXI.out.c5⟩ (fun hHeld => ?_)
              clear hK K
              try simp only [Act.put, List.setIfInBounds_toArray, List.set_cons_zero, List.set_cons_succ]
              clear htw
              refine anyX_ready (rs := [9]) (by kernel_rfl) (by simp) ?_
              refine anyX_cons (o := ?_) ?_ (fun K hK => ?_) ?_
              rotate_left 1
              · simp only [List.getElem?_toArray, List.getElem?_cons_succ, List.getElem?_cons_zero]; rfl
              rotate_left 1
              · exact anyX_nil
              go_simp
              refine (rdNum_any wp2 b 2 qc rfl HU.out).mono ?_
              rintro e wp3 ⟨hM, ⟨hr, rfl⟩ | ⟨r, hr, rfl, hU⟩⟩
              · go_wp2_with fail
                exact ⟨rfl, (HD.out.gen (F := fun c => c = b ∨ c = xb) (s' := sP) HM.out (fun c _ e => e.imp id (fun e => by have := HXB.out; omega)) HU0.out).md.trans (HV0.out.trans hM), Or.inl ⟨step_none2 HK.out hr, rfl⟩⟩
              have HK := Lib.hid (step_some2 HK.out hr)
              have HLpd := Lib.hid (rNum_lt8 hr)
              have HU := Lib.hid hU
              have HXI := Lib.hid (HXI.out.mods hM hxb0)
              have HV0 := Lib.hid (HV0.out.trans hM)
              have htw := hM.at hHeld.1 (by have := HD.out.bl; omega)
              obtain ⟨pd, qd⟩ := r
              simp only at HK HU
              clear hr hU hM
              try go_wp2_with fail
              refine hK.out _ _ ⟨htw, HXI.out.c5⟩ (fun hHeld => ?_)
              clear hK K
              try simp only [Act.put, List.setIfInBounds_toArray, List.set_cons_zero, List.set_cons_succ]
              clear htw
              refine takeX 10 ?_
              refine anyX_ready (rs := [11]) (by kernel_rfl) (by simp) ?_
              refine anyX_cons (o := ?_) ?_ (fun K hK => ?_) ?_
              rotate_left 1
              · simp only [List.getElem?_toArray, List.getElem?_cons_succ, List.getElem?_cons_zero]; rfl
              rotate_left 1
              · exact anyX_nil
              go_simp
              obtain ⟨W7, hW7⟩ : ∃ W7, W7 = wp3.alloc (.cells #[.int .i64 pa, .int .i64 pb, .int .i64 pc, .int .i64 pd] 94) := ⟨_, rfl⟩
              have hh7 : W7.heap[wp3.heap.size]? = some (.cells (ptC ⟨pa, pb, pc, pd⟩).toArray 94) := by rw [hW7]; exact heap_alloc_new _ _
              have hM7 : Mod none' wp3 W7 := by rw [hW7]; exact (Mod.refl _ _).alloc _
              have HU := Lib.hid (HU.out.mods hM7 id)
              have HXI := Lib.hid (HXI.out.mods hM7 id)
              have HV0 := Lib.hid (HV0.out.trans (hM7.mono fun c _ h => h.elim))
              have htw := hM7.at hHeld.1 id
              have hz7 : W7.heap.size = wp3.heap.size + 1 := by rw [hW7]; simp
              rw [← hW7]
              clear hW7
              try go_wp2_with fail
              refine hK.out _ _ ⟨htw, HXI.out.c5⟩ (fun hHeld => ?_)
              clear hK K
              try simp only [Act.put, List.setIfInBounds_toArray, List.set_cons_zero, List.set_cons_succ]
              clear htw
              refine anyX_ready (rs := [12]) (by kernel_rfl) (by simp) ?_
              refine anyX_cons (o := ?_) ?_ (fun K hK => ?_) ?_
              rotate_left 1
              · simp only [List.getElem?_toArray, List.getElem?_cons_succ, List.getElem?_cons_zero]; rfl
              rotate_left 1
              · exact anyX_nil
              have HG7 := Lib.hid (HG.out.mod (HV0.out) (fun c hc _ e => by have e : c = b := e; have := HZ6.out; have := HXB.out; omega))
              refine step_append_g (by rfl) (.tmp 30) (.tmp 40) 90 90 (by rfl) 94 j0 _ 32 Tryz.underlying90 hji hy0 hy1 hy2 (by rfl) (by rfl) HG7.out _ 1 (ptC ⟨pa, pb, pc, pd⟩) (by rfl) (src_pt _ _ Tryz.underlying90 wp3.heap.size _ 94 hh7 _) (by have := HLm.out; omega) (by have := HLm.out; omega) ?_
              intro a8 cap8 w8 hg8 hM8 hz8
              have HS7 : Hid (w6.heap.size ≤ W7.heap.size) := Lib.hid (Nat.le_trans HM.out.size HV0.out.size)
              have hx8 : ¬ (w6.heap.size ≤ xb) := by have := HZ6.out; omega
              have HXI := Lib.hid (HXI.out.mods hM8 hx8)
              have HU := Lib.hid (HU.out.mods hM8 (by have := HZ6.out; have := HXB.out; omega))
              have htw := hM8.at hHeld.1 (by have := HZ6.out; have := HXB.out; omega)
              have HV8 : Hid (Mod (fun c => c = b ∨ c = xb) w6 w8) := Lib.hid ((HM.out.trans (HV0.out.mono fun c _ e => Or.inl e)).trans' hM8 (fun c h e => by omega))
              have HG8 := Lib.hid hg8
              have c5 := HXI.out.c5
              have f5 := HXI.out.f5
              have l5 := cell_lt c5
              clear hg8 hM8 hz8 hh7 hM7 hz7
              try go_wp2_with fail
              refine hK.out _ _ ⟨htw, c5⟩ (fun hHeld => ?_)
              clear hK K
              try simp only [Act.put, List.setIfInBounds_toArray, List.set_cons_zero, List.set_cons_succ]
              refine anyX_ready (rs := [13]) (by kernel_rfl) (by simp) ?_
              refine anyX_cons (o := ?_) ?_ (fun K hK => ?_) ?_
              rotate_left 1
              · simp only [List.getElem?_toArray, List.getElem?_cons_succ, List.getElem?_cons_zero]; rfl
              rotate_left 1
              · exact anyX_nil
              go_simp
              try go_wp2_with fail
              refine hK.out _ _ hHeld (fun hHeld => ?_)
              clear hK K
              try simp only [Act.put, List.setIfInBounds_toArray, List.set_cons_zero, List.set_cons_succ]
              refine anyX_ready (rs := [14]) (by kernel_rfl) (by simp) ?_
              refine anyX_last (o := ?_) ?_ (fun K hK => ?_)
              rotate_left 1
              · simp only [List.getElem?_toArray, List.getElem?_cons_succ, List.getElem?_cons_zero]; rfl
              go_simp
              refine hK.out _ _ (anyX_done (by kernel_rfl) ?_ _)
              clear hK K hHeld htw
              go_wp2_with fail
              go_roundg (nm - (j + 1))
              case measure => exact hmj
              case rel =>
                have hMs : Mod (· = xb) w8 (w8.setCell ⟨xb, 5, none⟩ (.slice a8 (j + 1) cap8)) := (Mod.refl (· = xb) w8).setCellAt (fun _ => rfl) _
                exact ⟨j + 1, qd, a8, cap8, lp ++ [(⟨pa, pb, pc, pd⟩ : PtS)], rfl, HJT.out, by first | rfl | rw [hwrj.out], by rw [List.length_append, HLP.out]; rfl, HU.out.mods hMs (fun e => hxb0 e.symm), by first | exact HXI.out.set _ | (rw [← Int.natCast_succ]; exact HXI.out.set _), by
                  rw [List.flatMap_append, show ([⟨pa, pb, pc, pd⟩] : List PtS).flatMap ptC = ptC ⟨pa, pb, pc, pd⟩ from List.append_nil _]
                  exact (HG8.out.sub (fun c _ hc => by have := HS7.out; rcases hc with hc | hc <;> omega)).mod hMs (fun c hc _ e => by have e : c = xb := e; have := HZ6.out; omega), HV8.out.trans (hMs.mono fun c _ e => Or.inr e), kp_part HK.out⟩
            · skip
              obtain rfl : j = nm := by omega
              have HXF := Lib.hid HXI.out
              have HK := Lib.hid (show r0 = (rRep rIno (n1 - (i + 1)) sP).bind _ by have h1 := HKP.out; rw [Nat.sub_self] at h1; exact h1)
              have HD := Lib.hid (HD.out.gen (F := fun c => c = b ∨ c = xb) HM.out (fun c _ e => e.imp id (fun e => by have := HXB.out; omega)) HU.out)
              have HR := Lib.hid (HR.out.mods HM.out (fun c h e => Or.inr (by have := HXB.out; have := HD.out.bl; rcases e with e | e <;> omega)))
              have hd1 : wr.cell? ⟨db, 1, none⟩ = some (.slice ao i cap) := HD.out.bx.at' 1 (by decide)
              have hdf : wr.frozen? ⟨db, 1, none⟩ = false := HD.out.bx.fz 1
              obtain ⟨h0, h1, h2, h3, h4, h5, hf5⟩ := HXI.out
              obtain ⟨x, hx⟩ : ∃ x : InC, x = ⟨na, nb, nc, nd, ne, ap, cp, lp⟩ := ⟨_, rfl⟩
              obtain ⟨W7, hW7⟩ : ∃ W7, W7 = wr.alloc (.cells #[.int .i64 na, .int .i64 nb, .int .i64 nc, .int .i64 nd, .int .i64 ne, .slice ap j cp] 102) := ⟨_, rfl⟩
              have hh7 : W7.heap[wr.heap.size]? = some (.cells x.cells.toArray 102) := by rw [hW7, hx]; show _ = some (Obj.cells #[.int .i64 na, .int .i64 nb, .int .i64 nc, .int .i64 nd, .int .i64 ne, .slice ap lp.length cp] 102); rw [HLP.out]; exact heap_alloc_new _ _
              have hM7 : Mod none' wr W7 := by rw [hW7]; exact (Mod.refl _ _).alloc _
              obtain ⟨j0, hji, hy0, hy1, hy2⟩ := info_parts Tryz.infoInode
              have HR7 := Lib.hid (HR.out.mods hM7 (fun c _ h => h.elim))
              have HD7 := Lib.hid (HD.out.oth hM7 (fun c _ h => h.elim))
              have HM7 := Lib.hid hM7
              have HH7 := Lib.hid hh7
              have HW7 := Lib.hid hW7
              have HXX := Lib.hid hx
              have HG7 := Lib.hid (show GRowAt W7 R 6 i cap ao (k.flatMap InC.cells) by have h := HR7.out.row; rw [HKL.out] at h; exact h)
              have hdl := cell_lt hd1
              clear hW7 hM7 hh7 hx hjt hjm htw
              have hg7 := HG7.out
              have hsr := HH7.out
              have hc7 : W7.cell? ⟨db, 1, none⟩ = some (.slice ao i cap) := HD7.out.bx.at' 1 (by decide)
              have hz7 : W7.frozen? ⟨db, 1, none⟩ = false := HD7.out.bx.fz 1
              rw [HW7.out] at hg7 hsr hc7 hz7
              have HC7 := Lib.hid (And.intro hc7 hz7)
              have hnr : ¬ R db := fun h => (HR.out.lo db h).2.2 rfl
              clear hc7 hz7
              have HG7' := Lib.hid hg7
              have HSR := Lib.hid hsr
              clear hg7 hsr
              go_wp2_with (at_builtin; refine wpList_append_g (by rfl) (.tmp 45) (.tmp 47) 23 23 (by rfl) 102 j0 _ 64 Tryz.underlying23 hji hy0 hy1 hy2 (by rfl) (by rfl) HG7'.out _ 1 x.cells (by rfl) (src_inc _ _ Tryz.underlying23 _ _ 102 HSR.out _) (by have := HL4.out; omega) (by have := HL4.out; omega) ?_; intro a8 cap8 w8 hg8 hM8 hz8; have hd8 := hM8.at HC7.out.1 hnr; have hf8 := (hM8.frozen (p := ⟨db, 1, none⟩) (cell_lt HC7.out.1) hnr).trans HC7.out.2; have hl8 := cell_lt hd8)
              rw [← HW7.out] at hg8 hM8 hz8
              have HD8 := Lib.hid (HD7.out.oth hM8 (fun c _ e => by have := HR.out.lo c e; omega))
              have HM8 := Lib.hid hM8
              have HG8 := Lib.hid hg8
              clear hg8 hM8 hz8 h0 h1 h2 h3 h4 h5 hf5
              go_wp2_with fail
              go_roundg (n1 - (i + 1))
              case measure => exact hms
              case rel =>
                have hMs : Mod (· = db) w8 (w8.setCell ⟨db, 1, none⟩ (.slice a8 (i + 1) cap8)) := (Mod.refl (· = db) w8).setCellAt (fun _ => rfl) _
                have hDs := HD8.out.set (k := 1) (by decide) (.slice a8 (i + 1) cap8)
                rw [dmf1] at hDs
                refine ⟨i + 1, sP, a8, cap8, k ++ [x], fun c => R c ∨ (c = W7.heap.size ∧ c < w8.heap.size), rfl, HLT.out, by first | rfl | rw [hwr.out], by rw [List.length_append, HKL.out]; rfl, hDs, ⟨w8.heap.size, ?_, fun c hc => ?_, fun y hy => ?_, hMs.size⟩, ?_⟩
                · rw [List.length_append, HKL.out, List.flatMap_append, show [x].flatMap InC.cells = x.cells from List.append_nil _]
                  refine (HG8.out.sub (fun c hl hc => hc.imp id (fun e => ⟨e, hl⟩))).mod hMs (fun c hc _ e => ?_)
                  have e : c = db := e
                  rcases hc with hc | hc
                  · exact (HR.out.lo c hc).2.2 e
                  · have := HM7.out.size; have := HXB.out; have := HR.out.zl; omega
                · rcases hc with hc | hc
                  · have := HR.out.lo c hc; have := HR.out.zl; have := HM7.out.size; have := HM8.out.size; omega
                  · have := HM7.out.size; have := HXB.out; have := HR.out.zl; omega
                · have h7 := HM7.out.size
                  have h8 := HM8.out.size
                  have hz := HR.out.zl
                  have hzb := HXB.out
                  rcases List.mem_append.1 hy with hy | hy
                  · have q1 := (HR7.out.pc y hy).mod HM8.out (fun c hc _ e => hc.2.2.2 e)
                    refine (q1.mod hMs (fun c hc _ e => hc.2.2.1 e)).sub (fun c _ hc => ⟨hc.1, by omega, hc.2.2.1, fun e => e.elim hc.2.2.2 (fun e => by omega)⟩)
                  · rw [List.mem_singleton] at hy
                    subst hy
                    have q0 : PcOk wr (fun c => w6.heap.size ≤ c) y := by
                      rw [HXX.out]
                      have hg := HG.out
                      refine ⟨by have := hg.row; rw [← HLP.out] at this; exact this, fun e => hg.nilA e, ⟨by show lp.length ≤ cp; rw [HLP.out]; exact hg.le, hg.max⟩, by show lp.length ≤ 100000; rw [HLP.out]; have := HLm.out; omega⟩
                    have q1 := ((q0.mod HM7.out (fun c _ _ e => e.elim)).sub (T := fun c => w6.heap.size ≤ c ∧ c < W7.heap.size) (fun c hl hc => ⟨hc, hl⟩)).mod HM8.out (fun c hc _ e => by have := HR.out.lo c e; have := HZ6.out; omega)
                    refine (q1.mod hMs (fun c hc _ e => by have e : c = db := e; have := HZ6.out; omega)).sub (fun c _ hc => ⟨by have := HZ6.out; omega, by omega, by have := HZ6.out; omega, fun e => e.elim (fun e => by have := HR.out.lo c e; have := HZ6.out; omega) (fun e => by omega)⟩)
                · have h1 := HKP.out
                  rw [Nat.sub_self] at h1
                  have h2 : r0 = KP n0 (k.map InC.val) (n1 - (i + 1)) na nb nc nd ne (lp ++ []) sP := h1
                  rw [List.append_nil] at h2
                  rw [List.map_append, HXX.out]
                  exact h2
      · skip
        go_simp
        obtain ⟨xb, hxb⟩ : ∃ xb, xb = wq.heap.size := ⟨_, rfl⟩
        obtain ⟨wx0, hwy⟩ : ∃ wy, wy = wq.alloc (.cells #[.int .i64 0, .int .i64 0, .int .i64 0, .int .i64 0, .int .i64 0, .slice none 0 0] 102) := ⟨_, rfl⟩
        have hMA : Mod none' wq wx0 := by rw [hwy]; exact (Mod.refl _ _).alloc _
        have HD := Lib.hid (HD.out.oth hMA (fun c _ h => h.elim))
        have HR := Lib.hid (HR.out.mods hMA (fun c _ h => h.elim))
        have HX : Hid (wx0.there xb 0 6 ∧ zr ≤ xb ∧ xb < wx0.heap.size) := Lib.hid ⟨by rw [hwy, hxb]; exact there_new wq 102 [.int .i64 0, .int .i64 0, .int .i64 0, .int .i64 0, .int .i64 0, .slice none 0 0], by have := HMQ.out.size; have := HZR.out; omega, by rw [hwy, hxb]; simp⟩
        have HMQ := Lib.hid (HMQ.out.trans (hMA.mono fun c _ h => h.elim))
        rw [← hwy, ← hxb]
        clear hwy hxb hMA
        try go_wp2_with fail
        refine hK.out _ _ HD.out.tb (fun hHeld => ?_)
        clear hK K
        try simp only [Act.put, List.setIfInBounds_toArray, List.set_cons_zero, List.set_cons_succ]
        refine wpAnyH_ready (rs := [1]) (by kernel_rfl) (by simp) ?_
        refine AllReadyH.cons (o := _) rfl (fun K hK => ?_) AllReadyH.nil
        go_simp
        refine (rdNum_any wx0 b 4 sI rfl HD.out.un).mono ?_
        rintro e wd0 ⟨hM, ⟨hr, rfl⟩ | ⟨r, hr, rfl, hU⟩⟩
        · go_wp2_with fail
          exact ⟨rfl, HD.out.md.trans hM, Or.inl ⟨step_none2 HK.out hr, rfl⟩⟩
        have HD := Lib.hid (HD.out.num hM hU)
        have HK := Lib.hid (step_some2 HK.out hr)
        have HLna := Lib.hid (rNum_lt8 hr)
        have HR := Lib.hid (HR.out.mods hM (fun c _ e => Or.inr (by have e : c = b := e; omega)))
        have HMQ := Lib.hid (HMQ.out.trans hM)
        have HX := Lib.hid (And.intro (there_mods HX.out.1 hM (by have := HX.out.2; have := HZW.out; omega) HX.out.2.2) (And.intro HX.out.2.1 (Nat.lt_of_lt_of_le HX.out.2.2 hM.size)))
        obtain ⟨na, ta⟩ := r
        simp only at HD HK
        clear hr hU hM
        try go_wp2_with fail
        refine hK.out _ _ HD.out.tb (fun hHeld => ?_)
        clear hK K
        try simp only [Act.put, List.setIfInBounds_toArray, List.set_cons_zero, List.set_cons_succ]
        refine wpAnyH_ready (rs := [3]) (by kernel_rfl) (by simp) ?_
        refine AllReadyH.cons (o := _) rfl (fun K hK => ?_) AllReadyH.nil
        go_simp
        refine (rdNum_any wd0 b 1 ta rfl HD.out.un).mono ?_
        rintro e wd1 ⟨hM, ⟨hr, rfl⟩ | ⟨r, hr, rfl, hU⟩⟩
        · go_wp2_with fail
          exact ⟨rfl, HD.out.md.trans hM, Or.inl ⟨step_none2 HK.out hr, rfl⟩⟩
        have HD := Lib.hid (HD.out.num hM hU)
        have HK := Lib.hid (step_some2 HK.out hr)
        have HLnb := Lib.hid (rNum_lt8 hr)
        have HR := Lib.hid (HR.out.mods hM (fun c _ e => Or.inr (by have e : c = b := e; omega)))
        have HMQ := Lib.hid (HMQ.out.trans hM)
        have HX := Lib.hid (And.intro (there_mods HX.out.1 hM (by have := HX.out.2; have := HZW.out; omega) HX.out.2.2) (And.intro HX.out.2.1 (Nat.lt_of_lt_of_le HX.out.2.2 hM.size)))
        obtain ⟨nb, tb⟩ := r
        simp only at HD HK
        clear hr hU hM
        try go_wp2_with fail
        refine hK.out _ _ HD.out.tb (fun hHeld => ?_)
        clear hK K
        try simp only [Act.put, List.setIfInBounds_toArray, List.set_cons_zero, List.set_cons_succ]
        refine wpAnyH_ready (rs := [5]) (by kernel_rfl) (by simp) ?_
        refine AllReadyH.cons (o := _) rfl (fun K hK => ?_) AllReadyH.nil
        go_simp
        refine (rdNum_any wd1 b 1 tb rfl HD.out.un).mono ?_
        rintro e wd2 ⟨hM, ⟨hr, rfl⟩ | ⟨r, hr, rfl, hU⟩⟩
        · go_wp2_with fail
          exact ⟨rfl, HD.out.md.trans hM, Or.inl ⟨step_none2 HK.out hr, rfl⟩⟩
        have HD := Lib.hid (HD.out.num hM hU)
        have HK := Lib.hid (step_some2 HK.out hr)
        have HLnc := Lib.hid (rNum_lt8 hr)
        have HR := Lib.hid (HR.out.mods hM (fun c _ e => Or.inr (by have e : c = b := e; omega)))
        have HMQ := Lib.hid (HMQ.out.trans hM)
        have HX := Lib.hid (And.intro (there_mods HX.out.1 hM (by have := HX.out.2; have := HZW.out; omega) HX.out.2.2) (And.intro HX.out.2.1 (Nat.lt_of_lt_of_le HX.out.2.2 hM.size)))
        obtain ⟨nc, tc⟩ := r
        simp only at HD HK
        clear hr hU hM
        try go_wp2_with fail
        refine hK.out _ _ HD.out.tb (fun hHeld => ?_)
        clear hK K
        try simp only [Act.put, List.setIfInBounds_toArray, List.set_cons_zero, List.set_cons_succ]
        refine wpAnyH_ready (rs := [7]) (by kernel_rfl) (by simp) ?_
        refine AllReadyH.cons (o := _) rfl (fun K hK => ?_) AllReadyH.nil
        go_simp
        refine (rdNum_any wd2 b 1 tc rfl HD.out.un).mono ?_
        rintro e wd3 ⟨hM, ⟨hr, rfl⟩ | ⟨r, hr, rfl, hU⟩⟩
        · go_wp2_with fail
          exact ⟨rfl, HD.out.md.trans hM, Or.inl ⟨step_none2 HK.out hr, rfl⟩⟩
        have HD := Lib.hid (HD.out.num hM hU)
        have HK := Lib.hid (step_some2 HK.out hr)
        have HLnd := Lib.hid (rNum_lt8 hr)
        have HR := Lib.hid (HR.out.mods hM (fun c _ e => Or.inr (by have e : c = b := e; omega)))
        have HMQ := Lib.hid (HMQ.out.trans hM)
        have HX := Lib.hid (And.intro (there_mods HX.out.1 hM (by have := HX.out.2; have := HZW.out; omega) HX.out.2.2) (And.intro HX.out.2.1 (Nat.lt_of_lt_of_le HX.out.2.2 hM.size)))
        obtain ⟨nd, td⟩ := r
        simp only at HD HK
        clear hr hU hM
        try go_wp2_with fail
        refine hK.out _ _ HD.out.tb (fun hHeld => ?_)
        clear hK K
        try simp only [Act.put, List.setIfInBounds_toArray, List.set_cons_zero, List.set_cons_succ]
        refine wpAnyH_ready (rs := [9]) (by kernel_rfl) (by simp) ?_
        refine AllReadyH.cons (o := _) rfl (fun K hK => ?_) AllReadyH.nil
        go_simp
        refine (rdNum_any wd3 b 2 td rfl HD.out.un).mono ?_
        rintro e wd4 ⟨hM, ⟨hr, rfl⟩ | ⟨r, hr, rfl, hU⟩⟩
        · go_wp2_with fail
          exact ⟨rfl, HD.out.md.trans hM, Or.inl ⟨step_none2 HK.out hr, rfl⟩⟩
        have HD := Lib.hid (HD.out.num hM hU)
        have HK := Lib.hid (step_some2 HK.out hr)
        have HLne := Lib.hid (rNum_lt8 hr)
        have HR := Lib.hid (HR.out.mods hM (fun c _ e => Or.inr (by have e : c = b := e; omega)))
        have HMQ := Lib.hid (HMQ.out.trans hM)
        have HX := Lib.hid (And.intro (there_mods HX.out.1 hM (by have := HX.out.2; have := HZW.out; omega) HX.out.2.2) (And.intro HX.out.2.1 (Nat.lt_of_lt_of_le HX.out.2.2 hM.size)))
        obtain ⟨ne, te⟩ := r
        simp only at HD HK
        clear hr hU hM
        try go_wp2_with fail
        refine hK.out _ _ HD.out.tb (fun hHeld => ?_)
        clear hK K
        try simp only [Act.put, List.setIfInBounds_toArray, List.set_cons_zero, List.set_cons_succ]
        refine takeL 10 ?_
        refine wpAnyH_ready (rs := [12]) (by kernel_rfl) (by simp) ?_
        refine AllReadyH.cons (o := _) rfl (fun K hK => ?_) AllReadyH.nil
        rw [if_pos (by rfl)]
        refine wp_store_mid _ _ _ rfl xb 0 #[.int .i64 na, .int .i64 nb, .int .i64 nc, .int .i64 nd, .int .i64 ne, .slice none 0 0] rfl rfl HX.out.1 (by kernel_rfl) (by simp [Value.oneCell']) ?_
        obtain ⟨w5, hw5⟩ : ∃ w5, w5 = wd4.setCells xb 0 [.int .i64 na, .int .i64 nb, .int .i64 nc, .int .i64 nd, .int .i64 ne, .slice none 0 0] := ⟨_, rfl⟩
        have hM5 : Mod (· = xb) wd4 w5 := by rw [hw5]; exact Mod.setCellsAt (F := (· = xb)) (show (· = xb) xb from rfl) _ _ _ (Mod.refl _ _)
        have HXI : Hid (XIn w5 xb na nb nc nd ne (.slice none 0 0)) := Lib.hid (by rw [hw5]; exact xin_new HX.out.1)
        have HD := Lib.hid (HD.out.oth hM5 (fun c _ e => by have e : c = xb := e; have := HX.out.2; have := HZW.out; omega))
        have HR := Lib.hid (HR.out.mods hM5 (fun c h e => by have e : c = xb := e; have := HX.out.2; omega))
        have HMQ := Lib.hid (HMQ.out.trans' hM5 (fun c h e => by have e : c = xb := e; have := HX.out.2; have := HZR.out; omega))
        show K _ _
        rw [← hw5]
        clear hw5 hM5
        try go_wp2_with fail
        refine hK.out _ _ HD.out.tb (fun hHeld => ?_)
        clear hK K
        try simp only [Act.put, List.setIfInBounds_toArray, List.set_cons_zero, List.set_cons_succ]
        refine wpAnyH_done (by kernel_rfl) ?_ _
        clear hHeld
        have htb := HD.out.tb
        have HXB : Hid (zr ≤ xb ∧ b < zr ∧ db < zr ∧ w.heap.size + 2 ≤ zr) := Lib.hid ⟨HX.out.2.1, Nat.lt_of_lt_of_le HZW.out.2.2 (by have := HZW.out; omega), HZW.out.2.1, HZW.out.1⟩
        clear HX
        go_wp2_with fail
        refine (rdNum_any w5 b 1 te rfl HD.out.un).mono ?_
        rintro e w6 ⟨hM, ⟨hr, rfl⟩ | ⟨r, hr, rfl, hU⟩⟩
        · go_wp2_with fail
          exact ⟨rfl, HD.out.md.trans hM, Or.inl ⟨step_none2 HK.out hr, rfl⟩⟩
        have hxb0 : xb ≠ b := by have := HXB.out; omega
        have HXI := Lib.hid (HXI.out.mods hM hxb0)
        have HR := Lib.hid (HR.out.mods hM (fun c _ e => Or.inr (by have e : c = b := e; have := HD.out.bl; omega)))
        have HD := Lib.hid (HD.out.num hM hU)
        have HK := Lib.hid (step_some2 HK.out hr)
        have HLm := Lib.hid (rNum_lt8 hr)
        obtain ⟨nm, tm⟩ := r
        simp only at HD HK HLm
        clear hr hU hM htb HMQ hHeld
        have HZ6 : Hid (xb < w6.heap.size ∧ zr ≤ w6.heap.size) := Lib.hid ⟨cell_lt HXI.out.c0, HR.out.zl⟩
        have htb := HD.out.tb
        go_wp2_with fail
        go_loopg [27] nm (fun g v wr => PRel w6 b xb na nb nc nd ne nm (KP n0 (k.map InC.val) (n1 - (i + 1)) na nb nc nd ne) r0 g v wr)
        case atStart => exact ⟨0, tm, none, 0, [], rfl, Nat.zero_le _, rfl, rfl, HD.out.un, HXI.out, GRowAt.nil _ _ _ _, Mod.refl _ _, HK.out.trans (kp_start _ _)⟩
        case round =>
          obtain ⟨j, sP, ap, cp, lp, rfl, hjm, rfl, hlp, hU, hX, hG, hM, hK⟩ := hrel
          have HU := Lib.hid hU
          have HXI := Lib.hid hX
          have HG := Lib.hid hG
          have HM := Lib.hid hM
          have HKP := Lib.hid hK
          have HLP := Lib.hid hlp
          have htw : wr.cell? ⟨w.heap.size, 0, none⟩ = some (.pointer (some ⟨b, 0, none⟩)) := hM.at htb (by have := HXB.out; have := HD.out.bl; omega)
          clear hU hX hG hM hK hlp
          by_cases hjt : j < nm
          · skip
            have HJT := Lib.hid hjt
            have hjl2 : (0 : Int) ≤ j ∧ (j : Int) < nm := by omega
            have hwrj := Lib.hid (show wrap64 ((j : Int) + 1) = ((j + 1 : Nat) : Int) by have := HLm.out; unfold wrap64; omega)
            have hmj : nm - (j + 1) < nm - j := by omega
            have HK := Lib.hid (show r0 = ((rNum 2 sP).bind _).bind _ by have h1 := HKP.out; rw [show nm - j = (nm - (j + 1)) + 1 by omega, rRep_bind] at h1; exact h1)
            have hKX : wr.drew.cell? ⟨w.heap.size, 0, none⟩ = some (.pointer (some ⟨b, 0, none⟩)) ∧ wr.drew.cell? ⟨xb, 5, none⟩ = some (.slice ap j cp) := ⟨htw, HXI.out.c5⟩
            have HU := Lib.hid (show UnpAt wr.drew b sP.1 sP.2 from HU.out.mods (F := none') ((Mod.refl _ _).drew) id)
            have HXI := Lib.hid (show XIn wr.drew xb na nb nc nd ne _ from HXI.out.mods (F := none') ((Mod.refl _ _).drew) id)
            have HV0 := Lib.hid ((Mod.refl (· = b) wr).drew)
            obtain ⟨j0, hji, hy0, hy1, hy2⟩ := info_parts Tryz.infoPart
            clear hjt
            go_wp2_with fail
            refine anyX_begin 14 (fun W => W.cell? ⟨w.heap.size, 0, none⟩ = some (.pointer (some ⟨b, 0, none⟩)) ∧ W.cell? ⟨xb, 5, none⟩ = some (.slice ap j cp)) (by kernel_rfl) hKX (fun hHeld => ?_)
            clear hKX htw
            refine takeX 0 ?_
            refine takeX 1 ?_
            refine takeX 2 ?_
            refine takeX 4 ?_
            refine takeX 6 ?_
            refine takeX 8 ?_
            have HU0 := Lib.hid (show UnpAt wr b sP.1 sP.2 from ⟨HU.out.c0, HU.out.c1, HU.out.f0, HU.out.f1, HU.out.size⟩)
            refine anyX_ready (rs := [3]) (by kernel_rfl) (by simp) ?_
            refine anyX_cons (o := ?_) ?_ (fun K hK => ?_) ?_
            rotate_left 1
            · simp only [List.getElem?_toArray, List.getElem?_cons_succ, List.getElem?_cons_zero]; rfl
            rotate_left 1
            · exact anyX_nil
            go_simp
            refine (rdNum_any wr.drew b 2 sP rfl HU.out).mono ?_
            rintro e wp0 ⟨hM, ⟨hr, rfl⟩ | ⟨r, hr, rfl, hU⟩⟩
            · go_wp2_with fail
              exact ⟨rfl, (HD.out.gen (F := fun c => c = b ∨ c = xb) (s' := sP) HM.out (fun c _ e => e.imp id (fun e => by have := HXB.out; omega)) HU0.out).md.trans (HV0.out.trans hM), Or.inl ⟨step_none2 HK.out hr, rfl⟩⟩
            have HK := Lib.hid (step_some2 HK.out hr)
            have HLpa := Lib.hid (rNum_lt8 hr)
            have HU := Lib.hid hU
            have HXI := Lib.hid (HXI.out.mods hM hxb0)
            have HV0 := Lib.hid (HV0.out.trans hM)
            have htw := hM.at hHeld.1 (by have := HD.out.bl; omega)
            obtain ⟨pa, qa⟩ := r
            simp only at HK HU
            clear hr hU hM
            try go_wp2_with fail
            refine hK.out _ _ ⟨htw, HXI.out.c5⟩ (fun hHeld => ?_)
            clear hK K
            try simp only [Act.put, List.setIfInBounds_toArray, List.set_cons_zero, List.set_cons_succ]
            clear htw
            refine anyX_ready (rs := [5]) (by kernel_rfl) (by simp) ?_
            refine anyX_cons (o := ?_) ?_ (fun K hK => ?_) ?_
            rotate_left 1
            · simp only [List.getElem?_toArray, List.getElem?_cons_succ, List.getElem?_cons_zero]; rfl
            rotate_left 1
            · exact anyX_nil
            go_simp
            refine (rdNum_any wp0 b 2 qa rfl HU.out).mono ?_
            rintro e wp1 ⟨hM, ⟨hr, rfl⟩ | ⟨r, hr, rfl, hU⟩⟩
            · go_wp2_with fail
              exact ⟨rfl, (HD.out.gen (F := fun c => c = b ∨ c = xb) (s' := sP) HM.out (fun c _ e => e.imp id (fun e => by have := HXB.out; omega)) HU0.out).md.trans (HV0.out.trans hM), Or.inl ⟨step_none2 HK.out hr, rfl⟩⟩
            have HK := Lib.hid (step_some2 HK.out hr)
            have HLpb := Lib.hid (rNum_lt8 hr)
            have HU := Lib.hid hU
            have HXI := Lib.hid (HXI.out.mods hM hxb0)
            have HV0 := Lib.hid (HV0.out.trans hM)
            have htw := hM.at hHeld.1 (by have := HD.out.bl; omega)
            obtain ⟨pb, qb⟩ := r
            simp only at HK HU
            clear hr hU hM
            try go_wp2_with fail
            refine hK.out _ _ ⟨htw, HXI.out.c5⟩ (fun hHeld => ?_)
            clear hK K
            try simp only [Act.put, List.setIfInBounds_toArray, List.set_cons_zero, List.set_cons_succ]
            clear htw
            refine anyX_ready (rs := [7]) (by kernel_rfl) (by simp) ?_
            refine anyX_cons (o := ?_) ?_ (fun K hK => ?_) ?_
            rotate_left 1
            · simp only [List.getElem?_toArray, List.getElem?_cons_succ, List.getElem?_cons_zero]; rfl
            rotate_left 1
            · exact anyX_nil
            go_simp
            refine (rdNum_any wp1 b 2 qb rfl HU.out).mono ?_
            rintro e wp2 ⟨hM, ⟨hr, rfl⟩ | ⟨r, hr, rfl, hU⟩⟩
            · go_wp2_with fail
              exact ⟨rfl, (HD.out.gen (F := fun c => c = b ∨ c = xb) (s' := sP) HM.out (fun c _ e => e.imp id (fun e => by have := HXB.out; omega)) HU0.out).md.trans (HV0.out.trans hM), Or.inl ⟨step_none2 HK.out hr, rfl⟩⟩
            have HK := Lib.hid (step_some2 HK.out hr)
            have HLpc := Lib.hid (rNum_lt8 hr)
            have HU := Lib.hid hU
            have HXI := Lib.hid (HXI.out.mods hM hxb0)
            have HV0 := Lib.hid (HV0.out.trans hM)
            have htw := hM.at hHeld.1 (by have := HD.out.bl; omega)
            obtain ⟨pc, qc⟩ := r
            simp only at HK HU
            clear hr hU hM
            try go_wp2_with fail
            refine hK.out _ _ ⟨htw, HXI.out.c5⟩ (fun hHeld => ?_)
            clear hK K
            try simp only [Act.put, List.setIfInBounds_toArray, List.set_cons_zero, List.set_cons_succ]
            clear htw
            refine anyX_ready (rs := [9]) (by kernel_rfl) (by simp) ?_
            refine anyX_cons (o := ?_) ?_ (fun K hK => ?_) ?_
            rotate_left 1
            · simp only [List.getElem?_toArray, List.getElem?_cons_succ, List.getElem?_cons_zero]; rfl
            rotate_left 1
            · exact anyX_nil
            go_simp
            refine (rdNum_any wp2 b 2 qc rfl HU.out).mono ?_
            rintro e wp3 ⟨hM, ⟨hr, rfl⟩ | ⟨r, hr, rfl, hU⟩⟩
            · go_wp2_with fail
              exact ⟨rfl, (HD.out.gen (F := fun c => c = b ∨ c = xb) (s' := sP) HM.out (fun c _ e => e.imp id (fun e => by have := HXB.out; omega)) HU0.out).md.trans (HV0.out.trans hM), Or.inl ⟨step_none2 HK.out hr, rfl⟩⟩
            have HK := Lib.hid (step_some2 HK.out hr)
            have HLpd := Lib.hid (rNum_lt8 hr)
            have HU := Lib.hid hU
            have HXI := Lib.hid (HXI.out.mods hM hxb0)
            have HV0 := Lib.hid (HV0.out.trans hM)
            have htw := hM.at hHeld.1 (by have := HD.out.bl; omega)
            obtain ⟨pd, qd⟩ := r
            simp only at HK HU
            clear hr hU hM
            try go_wp2_with fail
            refine hK.out _ _ ⟨htw, HXI.out.c5⟩ (fun hHeld => ?_)
            clear hK K
            try simp only [Act.put, List.setIfInBounds_toArray, List.set_cons_zero, List.set_cons_succ]
            clear htw
            refine takeX 10 ?_
            refine anyX_ready (rs := [11]) (by kernel_rfl) (by simp) ?_
            refine anyX_cons (o := ?_) ?_ (fun K hK => ?_) ?_
            rotate_left 1
            · simp only [List.getElem?_toArray, List.getElem?_cons_succ, List.getElem?_cons_zero]; rfl
            rotate_left 1
            · exact anyX_nil
            go_simp
            obtain ⟨W7, hW7⟩ : ∃ W7, W7 = wp3.alloc (.cells #[.int .i64 pa, .int .i64 pb, .int .i64 pc, .int .i64 pd] 94) := ⟨_, rfl⟩
            have hh7 : W7.heap[wp3.heap.size]? = some (.cells (ptC ⟨pa, pb, pc, pd⟩).toArray 94) := by rw [hW7]; exact heap_alloc_new _ _
            have hM7 : Mod none' wp3 W7 := by rw [hW7]; exact (Mod.refl _ _).alloc _
            have HU := Lib.hid (HU.out.mods hM7 id)
            have HXI := Lib.hid (HXI.out.mods hM7 id)
            have HV0 := Lib.hid (HV0.out.trans (hM7.mono fun c _ h => h.elim))
            have htw := hM7.at hHeld.1 id
            have hz7 : W7.heap.size = wp3.heap.size + 1 := by rw [hW7]; simp
            rw [← hW7]
            clear hW7
            try go_wp2_with fail
            refine hK.out _ _ ⟨htw, HXI.out.c5⟩ (fun hHeld => ?_)
            clear hK K
            try simp only [Act.put, List.setIfInBounds_toArray, List.set_cons_zero, List.set_cons_succ]
            clear htw
            refine anyX_ready (rs := [12]) (by kernel_rfl) (by simp) ?_
            refine anyX_cons (o := ?_) ?_ (fun K hK => ?_) ?_
            rotate_left 1
            · simp only [List.getElem?_toArray, List.getElem?_cons_succ, List.getElem?_cons_zero]; rfl
            rotate_left 1
            · exact anyX_nil
            have HG7 := Lib.hid (HG.out.mod (HV0.out) (fun c hc _ e => by have e : c = b := e; have := HZ6.out; have := HXB.out; omega))
            refine step_append_g (by rfl) (.tmp 30) (.tmp 40) 90 90 (by rfl) 94 j0 _ 32 Tryz.underlying90 hji hy0 hy1 hy2 (by rfl) (by rfl) HG7.out _ 1 (ptC ⟨pa, pb, pc, pd⟩) (by rfl) (src_pt _ _ Tryz.underlying90 wp3.heap.size _ 94 hh7 _) (by have := HLm.out; omega) (by have := HLm.out; omega) ?_
            intro a8 cap8 w8 hg8 hM8 hz8
            have HS7 : Hid (w6.heap.size ≤ W7.heap.size) := Lib.hid (Nat.le_trans HM.out.size HV0.out.size)
            have hx8 : ¬ (w6.heap.size ≤ xb) := by have := HZ6.out; omega
            have HXI := Lib.hid (HXI.out.mods hM8 hx8)
            have HU := Lib.hid (HU.out.mods hM8 (by have := HZ6.out; have := HXB.out; omega))
            have htw := hM8.at hHeld.1 (by have := HZ6.out; have := HXB.out; omega)
            have HV8 : Hid (Mod (fun c => c = b ∨ c = xb) w6 w8) := Lib.hid ((HM.out.trans (HV0.out.mono fun c _ e => Or.inl e)).trans' hM8 (fun c h e => by omega))
            have HG8 := Lib.hid hg8
            have c5 := HXI.out.c5
            have f5 := HXI.out.f5
            have l5 := cell_lt c5
            clear hg8 hM8 hz8 hh7 hM7 hz7
            try go_wp2_with fail
            refine hK.out _ _ ⟨htw, c5⟩ (fun hHeld => ?_)
            clear hK K
            try simp only [Act.put, List.setIfInBounds_toArray, List.set_cons_zero, List.set_cons_succ]
            refine anyX_ready (rs := [13]) (by kernel_rfl) (by simp) ?_
            refine anyX_cons (o := ?_) ?_ (fun K hK => ?_) ?_
            rotate_left 1
            · simp only [List.getElem?_toArray, List.getElem?_cons_succ, List.getElem?_cons_zero]; rfl
            rotate_left 1
            · exact anyX_nil
            go_simp
            try go_wp2_with fail
            refine hK.out _ _ hHeld (fun hHeld => ?_)
            clear hK K
            try simp only [Act.put, List.setIfInBounds_toArray, List.set_cons_zero, List.set_cons_succ]
            refine anyX_ready (rs := [14]) (by kernel_rfl) (by simp) ?_
            refine anyX_last (o := ?_) ?_ (fun K hK => ?_)
            rotate_left 1
            · simp only [List.getElem?_toArray, List.getElem?_cons_succ, List.getElem?_cons_zero]; rfl
            go_simp
            refine hK.out _ _ (anyX_done (by kernel_rfl) ?_ _)
            clear hK K hHeld htw
            go_wp2_with fail
            go_roundg (nm - (j + 1))
            case measure => exact hmj
            case rel =>
              have hMs : Mod (· = xb) w8 (w8.setCell ⟨xb, 5, none⟩ (.slice a8 (j + 1) cap8)) := (Mod.refl (· = xb) w8).setCellAt (fun _ => rfl) _
              exact ⟨j + 1, qd, a8, cap8, lp ++ [(⟨pa, pb, pc, pd⟩ : PtS)], rfl, HJT.out, by first | rfl | rw [hwrj.out], by rw [List.length_append, HLP.out]; rfl, HU.out.mods hMs (fun e => hxb0 e.symm), by first | exact HXI.out.set _ | (rw [← Int.natCast_succ]; exact HXI.out.set _), by
                rw [List.flatMap_append, show ([⟨pa, pb, pc, pd⟩] : List PtS).flatMap ptC = ptC ⟨pa, pb, pc, pd⟩ from List.append_nil _]
                exact (HG8.out.sub (fun c _ hc => by have := HS7.out; rcases hc with hc | hc <;> omega)).mod hMs (fun c hc _ e => by have e : c = xb := e; have := HZ6.out; omega), HV8.out.trans (hMs.mono fun c _ e => Or.inr e), kp_part HK.out⟩
          · skip
            obtain rfl : j = nm := by omega
            have HXF := Lib.hid HXI.out
            have HK := Lib.hid (show r0 = (rRep rIno (n1 - (i + 1)) sP).bind _ by have h1 := HKP.out; rw [Nat.sub_self] at h1; exact h1)
            have HD := Lib.hid (HD.out.gen (F := fun c => c = b ∨ c = xb) HM.out (fun c _ e => e.imp id (fun e => by have := HXB.out; omega)) HU.out)
            have HR := Lib.hid (HR.out.mods HM.out (fun c h e => Or.inr (by have := HXB.out; have := HD.out.bl; rcases e with e | e <;> omega)))
            have hd1 : wr.cell? ⟨db, 1, none⟩ = some (.slice ao i cap) := HD.out.bx.at' 1 (by decide)
            have hdf : wr.frozen? ⟨db, 1, none⟩ = false := HD.out.bx.fz 1
            obtain ⟨h0, h1, h2, h3, h4, h5, hf5⟩ := HXI.out
            obtain ⟨x, hx⟩ : ∃ x : InC, x = ⟨na, nb, nc, nd, ne, ap, cp, lp⟩ := ⟨_, rfl⟩
            obtain ⟨W7, hW7⟩ : ∃ W7, W7 = wr.alloc (.cells #[.int .i64 na, .int .i64 nb, .int .i64 nc, .int .i64 nd, .int .i64 ne, .slice ap j cp] 102) := ⟨_, rfl⟩
            have hh7 : W7.heap[wr.heap.size]? = some (.cells x.cells.toArray 102) := by rw [hW7, hx]; show _ = some (Obj.cells #[.int .i64 na, .int .i64 nb, .int .i64 nc, .int .i64 nd, .int .i64 ne, .slice ap lp.length cp] 102); rw [HLP.out]; exact heap_alloc_new _ _
            have hM7 : Mod none' wr W7 := by rw [hW7]; exact (Mod.refl _ _).alloc _
            obtain ⟨j0, hji, hy0, hy1, hy2⟩ := info_parts Tryz.infoInode
            have HR7 := Lib.hid (HR.out.mods hM7 (fun c _ h => h.elim))
            have HD7 := Lib.hid (HD.out.oth hM7 (fun c _ h => h.elim))
            have HM7 := Lib.hid hM7
            have HH7 := Lib.hid hh7
            have HW7 := Lib.hid hW7
            have HXX := Lib.hid hx
            have HG7 := Lib.hid (show GRowAt W7 R 6 i cap ao (k.flatMap InC.cells) by have h := HR7.out.row; rw [HKL.out] at h; exact h)
            have hdl := cell_lt hd1
            clear hW7 hM7 hh7 hx hjt hjm htw
            have hg7 := HG7.out
            have hsr := HH7.out
            have hc7 : W7.cell? ⟨db, 1, none⟩ = some (.slice ao i cap) := HD7.out.bx.at' 1 (by decide)
            have hz7 : W7.frozen? ⟨db, 1, none⟩ = false := HD7.out.bx.fz 1
            rw [HW7.out] at hg7 hsr hc7 hz7
            have HC7 := Lib.hid (And.intro hc7 hz7)
            have hnr : ¬ R db := fun h => (HR.out.lo db h).2.2 rfl
            clear hc7 hz7
            have HG7' := Lib.hid hg7
            have HSR := Lib.hid hsr
            clear hg7 hsr
            go_wp2_with (at_builtin; refine wpList_append_g (by rfl) (.tmp 45) (.tmp 47) 23 23 (by rfl) 102 j0 _ 64 Tryz.underlying23 hji hy0 hy1 hy2 (by rfl) (by rfl) HG7'.out _ 1 x.cells (by rfl) (src_inc _ _ Tryz.underlying23 _ _ 102 HSR.out _) (by have := HL4.out; omega) (by have := HL4.out; omega) ?_; intro a8 cap8 w8 hg8 hM8 hz8; have hd8 := hM8.at HC7.out.1 hnr; have hf8 := (hM8.frozen (p := ⟨db, 1, none⟩) (cell_lt HC7.out.1) hnr).trans HC7.out.2; have hl8 := cell_lt hd8)
            rw [← HW7.out] at hg8 hM8 hz8
            have HD8 := Lib.hid (HD7.out.oth hM8 (fun c _ e => by have := HR.out.lo c e; omega))
            have HM8 := Lib.hid hM8
            have HG8 := Lib.hid hg8
            clear hg8 hM8 hz8 h0 h1 h2 h3 h4 h5 hf5
            go_wp2_with fail
            go_roundg (n1 - (i + 1))
            case measure => exact hms
            case rel =>
              have hMs : Mod (· = db) w8 (w8.setCell ⟨db, 1, none⟩ (.slice a8 (i + 1) cap8)) := (Mod.refl (· = db) w8).setCellAt (fun _ => rfl) _
              have hDs := HD8.out.set (k := 1) (by decide) (.slice a8 (i + 1) cap8)
              rw [dmf1] at hDs
              refine ⟨i + 1, sP, a8, cap8, k ++ [x], fun c => R c ∨ (c = W7.heap.size ∧ c < w8.heap.size), rfl, HLT.out, by first | rfl | rw [hwr.out], by rw [List.length_append, HKL.out]; rfl, hDs, ⟨w8.heap.size, ?_, fun c hc => ?_, fun y hy => ?_, hMs.size⟩, ?_⟩
              · rw [List.length_append, HKL.out, List.flatMap_append, show [x].flatMap InC.cells = x.cells from List.append_nil _]
                refine (HG8.out.sub (fun c hl hc => hc.imp id (fun e => ⟨e, hl⟩))).mod hMs (fun c hc _ e => ?_)
                have e : c = db := e
                rcases hc with hc | hc
                · exact (HR.out.lo c hc).2.2 e
                · have := HM7.out.size; have := HXB.out; have := HR.out.zl; omega
              · rcases hc with hc | hc
                · have := HR.out.lo c hc; have := HR.out.zl; have := HM7.out.size; have := HM8.out.size; omega
                · have := HM7.out.size; have := HXB.out; have := HR.out.zl; omega
              · have h7 := HM7.out.size
                have h8 := HM8.out.size
                have hz := HR.out.zl
                have hzb := HXB.out
                rcases List.mem_append.1 hy with hy | hy
                · have q1 := (HR7.out.pc y hy).mod HM8.out (fun c hc _ e => hc.2.2.2 e)
                  refine (q1.mod hMs (fun c hc _ e => hc.2.2.1 e)).sub (fun c _ hc => ⟨hc.1, by omega, hc.2.2.1, fun e => e.elim hc.2.2.2 (fun e => by omega)⟩)
                · rw [List.mem_singleton] at hy
                  subst hy
                  have q0 : PcOk wr (fun c => w6.heap.size ≤ c) y := by
                    rw [HXX.out]
                    have hg := HG.out
                    refine ⟨by have := hg.row; rw [← HLP.out] at this; exact this, fun e => hg.nilA e, ⟨by show lp.length ≤ cp; rw [HLP.out]; exact hg.le, hg.max⟩, by show lp.length ≤ 100000; rw [HLP.out]; have := HLm.out; omega⟩
                  have q1 := ((q0.mod HM7.out (fun c _ _ e => e.elim)).sub (T := fun c => w6.heap.size ≤ c ∧ c < W7.heap.size) (fun c hl hc => ⟨hc, hl⟩)).mod HM8.out (fun c hc _ e => by have := HR.out.lo c e; have := HZ6.out; omega)
                  refine (q1.mod hMs (fun c hc _ e => by have e : c = db := e; have := HZ6.out; omega)).sub (fun c _ hc => ⟨by have := HZ6.out; omega, by omega, by have := HZ6.out; omega, fun e => e.elim (fun e => by have := HR.out.lo c e; have := HZ6.out; omega) (fun e => by omega)⟩)
              · have h1 := HKP.out
                rw [Nat.sub_self] at h1
                have h2 : r0 = KP n0 (k.map InC.val) (n1 - (i + 1)) na nb nc nd ne (lp ++ []) sP := h1
                rw [List.append_nil] at h2
                rw [List.map_append, HXX.out]
                exact h2
    · skip
      obtain rfl : i = n1 := by omega
      have HK := Lib.hid (show r0 = (rNum 4 sI).bind _ by have h1 := HKK.out; rw [Nat.sub_self] at h1; have h2 : r0 = KI n0 (k.map InC.val ++ []) sI := h1; rw [List.append_nil] at h2; exact h2)
      obtain ⟨ik, hik⟩ : ∃ ik, ik = k.map InC.val := ⟨_, rfl⟩
      rw [← hik] at HK
      obtain ⟨iv, hiv⟩ : ∃ iv, iv = Value.slice ao i cap := ⟨_, rfl⟩
      rw [← hiv] at HD
      have HIK := Lib.hid hik
      have HIV := Lib.hid hiv
      have HR := Lib.hid (HR.out.top)
      obtain ⟨zi, hzi⟩ : ∃ zi, zi = wr.heap.size := ⟨_, rfl⟩
      rw [← hzi] at HR
      have HZI := Lib.hid hzi
      have HME := Lib.hid (Mod.refl (fun c => c = b ∨ c = db) wr)
      have htb := HD.out.tb
      have hblw := HD.out.bl
      have hdlw := HD.out.dl
      have HDZ : Hid (db < wr.heap.size) := Lib.hid (cell_lt (HD.out.bx.at' 0 (by decide)))
      clear hik hiv hzi hlt hil
      go_wp2_with fail
      refine (rdNum_any _ b 4 sI rfl HD.out.un).mono ?_
      rintro e w10 ⟨hM, ⟨hr, rfl⟩ | ⟨r, hr, rfl, hU⟩⟩
      · go_wp2_with fail
        exact ⟨rfl, HD.out.md.trans hM, Or.inl ⟨step_none HK.out hr, rfl⟩⟩
      have HD := Lib.hid (HD.out.num hM hU)
      have HK := Lib.hid (step_some HK.out hr)
      have HLM := Lib.hid (rNum_lt8 hr)
      have HM1 := Lib.hid hM
      obtain ⟨m0, sM⟩ := r
      simp only at HD HK
      clear hr hU hM
      have HME := Lib.hid (HME.out.trans (HM1.out.mono fun c _ e => Or.inl e))
      have hd2 : w10.cell? ⟨db, 2, none⟩ = some (.int .i64 0) := HD.out.bx.at' 2 (by decide)
      have hf2 : w10.frozen? ⟨db, 2, none⟩ = false := HD.out.bx.fz 2
      have hl2 := cell_lt hd2
      have htb := HD.out.tb
      have hne2 : w.heap.size ≠ db := by omega
      have hDs := HD.out.set (k := 2) (by decide) (.int .i64 m0)
      rw [dmf2] at hDs
      have HME : Hid (Mod (fun c => c = b ∨ c = db) wr (w10.setCell ⟨db, 2, none⟩ (.int .i64 m0))) := Lib.hid (HME.out.trans ((Mod.refl (fun c => c = b ∨ c = db) w10).setCellAt (b := db) (fun _ => Or.inr rfl) (.int .i64 m0)))
      have HD := Lib.hid hDs
      clear hDs
      go_wp2_with fail
      refine (rdNum_any _ b 2 sM rfl HD.out.un).mono ?_
      rintro e w11 ⟨hM, ⟨hr, rfl⟩ | ⟨r, hr, rfl, hU⟩⟩
      · go_wp2_with fail
        exact ⟨rfl, HD.out.md.trans hM, Or.inl ⟨step_none HK.out hr, rfl⟩⟩
      have HD := Lib.hid (HD.out.num hM hU)
      have HK := Lib.hid (step_some HK.out hr)
      have HL2 := Lib.hid (rNum_lt8 hr)
      have HM1 := Lib.hid hM
      obtain ⟨n2, sN⟩ := r
      simp only at HD HK
      clear hr hU hM
      have HME := Lib.hid (HME.out.trans (HM1.out.mono fun c _ e => Or.inl e))
      have htb := HD.out.tb
      have HZ11 : Hid (zi ≤ w11.heap.size ∧ db < w11.heap.size ∧ b < w11.heap.size ∧ w.heap.size + 1 < w11.heap.size) := Lib.hid (by have := HME.out.size; have := HZI.out; have := HDZ.out; have := HD.out.dl; omega)
      clear hd2 hf2 hl2
      go_wp2_with fail
      go_loopg [56] n2 (fun g v wr => L3Rel w w11 b db n0 n2 m0 iv ik r0 g v wr)
      case atStart => exact ⟨0, sN, none, 0, [], rfl, Nat.zero_le _, rfl, rfl, HD.out, GRowAt.nil _ _ _ _, Mod.refl _ _, HK.out⟩
      case round =>
        obtain ⟨q, sE, an, cn, nl, rfl, hq, rfl, hnl, hD, hG, hM, hK⟩ := hrel
        have HD := Lib.hid hD
        have HG := Lib.hid hG
        have HMO := Lib.hid hM
        have HKK := Lib.hid hK
        have HNL := Lib.hid hnl
        clear hD hG hM hK hnl
        by_cases hqt : q < n2
        · skip
          have HQT := Lib.hid hqt
          have hql2 : (0 : Int) ≤ q ∧ (q : Int) < n2 := by omega
          have hwr := Lib.hid (show wrap64 ((q : Int) + 1) = ((q + 1 : Nat) : Int) by have := HL2.out; unfold wrap64; omega)
          have hms : n2 - (q + 1) < n2 - q := by omega
          have HDW : Hid (db < wr.heap.size ∧ b < wr.heap.size ∧ w.heap.size + 1 < wr.heap.size ∧ w11.heap.size ≤ wr.heap.size) := Lib.hid (by have h1 := HMO.out.size; have := HZ11.out; omega)
          have HK := Lib.hid (show r0 = ((rNum 4 sE).bind _).bind _ by have h1 := HKK.out; rw [show n2 - q = (n2 - (q + 1)) + 1 by omega, rRep_bind] at h1; exact h1)
          have htb := HD.out.tb
          clear hqt
          go_wp2_with fail
          refine (rdNum_any _ b 4 sE rfl HD.out.un).mono ?_
          rintro e w12 ⟨hM, ⟨hr, rfl⟩ | ⟨r, hr, rfl, hU⟩⟩
          · go_wp2_with fail
            exact ⟨rfl, HD.out.md.trans hM, Or.inl ⟨step_none2 HK.out hr, rfl⟩⟩
          have HD := Lib.hid (HD.out.num hM hU)
          have HK := Lib.hid (step_some2 HK.out hr)
          have HLa := Lib.hid (rNum_lt8 hr)
          have HM1 := Lib.hid hM
          obtain ⟨ea, sA⟩ := r
          simp only at HD HK
          clear hr hU hM
          have HMX := Lib.hid (HM1.out.mono (G := fun c => c = b ∨ wr.heap.size ≤ c) fun c _ e => Or.inl e)
          have htb := HD.out.tb
          have htbl := cell_lt htb
          obtain ⟨eb, heb⟩ : ∃ eb, eb = w12.heap.size := ⟨_, rfl⟩
          obtain ⟨W13, hW13⟩ : ∃ W13, W13 = w12.alloc (.cells #[.int .i64 ea, .string ⟨#[]⟩, .int .i64 0] 106) := ⟨_, rfl⟩
          have hMA : Mod none' w12 W13 := by rw [hW13]; exact (Mod.refl _ _).alloc _
          have HD := Lib.hid (HD.out.oth hMA (fun c _ h => h.elim))
          have e0 : W13.cell? ⟨eb, 0, none⟩ = some (.int .i64 ea) := by rw [hW13, heb]; go_simp
          have e1 : W13.cell? ⟨eb, 1, none⟩ = some (.string ⟨#[]⟩) := by rw [hW13, heb]; go_simp
          have e2 : W13.cell? ⟨eb, 2, none⟩ = some (.int .i64 0) := by rw [hW13, heb]; go_simp
          have f1 : W13.frozen? ⟨eb, 1, none⟩ = false := by rw [hW13, heb]; go_simp
          have f2 : W13.frozen? ⟨eb, 2, none⟩ = false := by rw [hW13, heb]; go_simp
          have HEB : Hid (wr.heap.size ≤ eb ∧ eb < W13.heap.size) := Lib.hid (by have h1 := HM1.out.size; have h2 : W13.heap.size = w12.heap.size + 1 := (by rw [hW13]; simp); omega)
          have HMX := Lib.hid (HMX.out.trans' hMA (fun c _ h => h.elim))
          have HW13 := Lib.hid hW13
          have HEBQ := Lib.hid heb
          clear hW13 heb hMA
          go_wp2_with fail
          rw [← HW13.out, ← HEBQ.out]
          refine (unText_any W13 b sA.1 sA.2 8 HD.out.un).mono ?_
          rintro e w14 ⟨rfl, hU, hM⟩
          have hebb : eb ≠ b := by have := HEB.out; have := HDW.out; omega
          have e0 := hM.at e0 hebb
          have e2 := hM.at e2 hebb
          have e1 := hM.at e1 hebb
          have f1 := (hM.frozen (p := ⟨eb, 1, none⟩) HEB.out.2 hebb).trans f1
          have f2 := (hM.frozen (p := ⟨eb, 2, none⟩) HEB.out.2 hebb).trans f2
          have HD := Lib.hid (HD.out.num (s' := (unText sA.1 sA.2 8).2) hM hU)
          have HMX := Lib.hid (HMX.out.trans (hM.mono fun c _ e => Or.inl e))
          clear hU hM
          obtain ⟨tx, htx⟩ : ∃ tx, tx = unText sA.1 sA.2 8 := ⟨_, rfl⟩
          have hk2 := HK.out
          have hk3 : r0 = ((rNum 4 (unText sA.1 sA.2 8).2).bind _).bind _ := hk2
          rw [← htx] at HD hk3 ⊢
          have HK := Lib.hid hk3
          clear htx hk2 hk3
          obtain ⟨nm, hnm⟩ : ∃ nm : Nm, nm = tx.1.data.toList := ⟨_, rfl⟩
          have hnb : tx.1 = bs nm := by rw [hnm]; rfl
          rw [← hnm] at HK
          rw [hnb]
          clear hnm hnb
          have htb := HD.out.tb
          have hel := cell_lt e0
          have hlne : w.heap.size ≠ eb := by have := HEB.out; have := HDW.out; omega
          obtain ⟨W15, hW15⟩ : ∃ W15, W15 = w14.setCell ⟨eb, 1, none⟩ (.string (bs nm)) := ⟨_, rfl⟩
          have hMs : Mod (· = eb) w14 W15 := by rw [hW15]; exact (Mod.refl (· = eb) w14).setCellAt (b := eb) (fun _ => rfl) _
          have HD := Lib.hid (HD.out.oth hMs (fun c _ e => by have e : c = eb := e; have := HEB.out; have := HDW.out; omega))
          have g0 : W15.cell? ⟨eb, 0, none⟩ = some (.int .i64 ea) := by rw [hW15]; go_simp
          have g1 : W15.cell? ⟨eb, 1, none⟩ = some (.string (bs nm)) := by rw [hW15]; go_simp
          have g2 : W15.cell? ⟨eb, 2, none⟩ = some (.int .i64 0) := by rw [hW15]; go_simp
          have k2 : W15.frozen? ⟨eb, 2, none⟩ = false := by rw [hW15, World.frozen?_setCell]; exact f2
          have HMX := Lib.hid (HMX.out.trans (hMs.mono fun c _ e => Or.inr (by have e : c = eb := e; have := HEB.out; omega)))
          have HW15 := Lib.hid hW15
          clear hW15 hMs
          go_wp2_with fail
          rw [← HW15.out]
          clear e0 e1 e2 f1 f2
          refine (rdNum_any _ b 4 tx.2 rfl HD.out.un).mono ?_
          rintro e w16 ⟨hM, ⟨hr, rfl⟩ | ⟨r, hr, rfl, hU⟩⟩
          · go_wp2_with fail
            exact ⟨rfl, HD.out.md.trans hM, Or.inl ⟨step_none2 HK.out hr, rfl⟩⟩
          have HD := Lib.hid (HD.out.num hM hU)
          have HK := Lib.hid (step_some2 HK.out hr)
          have HLe := Lib.hid (rNum_lt8 hr)
          have HM1 := Lib.hid hM
          obtain ⟨ec, sC⟩ := r
          simp only at HD HK
          clear hr hU hM
          have g0 := HM1.out.at g0 hebb
          have g1 := HM1.out.at g1 hebb
          have k2 := (HM1.out.frozen (p := ⟨eb, 2, none⟩) (cell_lt g2) hebb).trans k2
          have g2 := HM1.out.at g2 hebb
          have hc7 : w16.cell? ⟨db, 3, none⟩ = some (.slice an q cn) := HD.out.bx.at' 3 (by decide)
          have hel := cell_lt g0
          have HMX := Lib.hid (HMX.out.trans (HM1.out.mono fun c _ e => Or.inl e))
          obtain ⟨j0, hji, hy0, hy1, hy2⟩ := info_parts Tryz.infoEnt
          obtain ⟨W17, hW17⟩ : ∃ W17, W17 = w16.setCell ⟨eb, 2, none⟩ (.int .i64 ec) := ⟨_, rfl⟩
          have hMs : Mod (· = eb) w16 W17 := by rw [hW17]; exact (Mod.refl (· = eb) w16).setCellAt (b := eb) (fun _ => rfl) _
          have HD := Lib.hid (HD.out.oth hMs (fun c _ e => by have e : c = eb := e; have := HEB.out; have := HDW.out; omega))
          obtain ⟨W18, hW18⟩ : ∃ W18, W18 = W17.alloc (.cells #[.int .i64 ea, .string (bs nm), .int .i64 ec] 106) := ⟨_, rfl⟩
          have hMB : Mod none' W17 W18 := by rw [hW18]; exact (Mod.refl _ _).alloc _
          have HD := Lib.hid (HD.out.oth hMB (fun c _ h => h.elim))
          have hh8 : W18.heap[w16.heap.size]? = some (.cells (enC (ea, nm, ec)).toArray 106) := by rw [hW18, show w16.heap.size = W17.heap.size by rw [hW17]; simp]; exact heap_alloc_new _ _
          have HMX := Lib.hid ((HMX.out.trans (hMs.mono fun c _ e => Or.inr (by have e : c = eb := e; have := HEB.out; omega))).trans' hMB (fun c _ h => h.elim))
          have hg8 : GRowAt W18 (fun c => w11.heap.size ≤ c) 3 q cn an (nl.flatMap enC) := HG.out.mod HMX.out (fun c hc hl e => by have := HZ11.out; omega)
          have hc8 : W18.cell? ⟨db, 3, none⟩ = some (.slice an q cn) := HD.out.bx.at' 3 (by decide)
          have hf8 : W18.frozen? ⟨db, 3, none⟩ = false := HD.out.bx.fz 3
          rw [hW18, hW17] at hh8 hg8 hc8 hf8
          have HH8 := Lib.hid hh8
          have HG8 := Lib.hid hg8
          have HC8 := Lib.hid (And.intro hc8 hf8)
          have HW8 : Hid (W18 = (w16.setCell ⟨eb, 2, none⟩ (.int .i64 ec)).alloc (.cells #[.int .i64 ea, .string (bs nm), .int .i64 ec] 106)) := Lib.hid (by rw [hW18, hW17])
          have hdl7 := cell_lt hc7
          have hdne : db ≠ eb := by have := HEB.out; have := HDW.out; omega
          clear hW17 hMs hW18 hMB hh8 hg8 hc8 hf8
          go_wp2_with (at_builtin; refine wpList_append_g (by rfl) (.tmp 69) (.tmp 71) 24 24 (by rfl) 106 j0 _ 32 Tryz.underlying24 hji hy0 hy1 hy2 (by rfl) (by rfl) HG8.out _ 1 (enC (ea, nm, ec)) (by rfl) (srcR _ _ Tryz.underlying24 _ enC (ea, nm, ec) enC_len enC_oneR 106 HH8.out _) (by have := HL2.out; omega) (by have := HL2.out; omega) ?_; intro a8 cap8 w8 hg8 hM8 hz8; have hn8 : ¬ w11.heap.size ≤ db := (by have := HZ11.out; omega); have hd8 := hM8.at HC8.out.1 hn8; have hf8 := (hM8.frozen (p := ⟨db, 3, none⟩) (cell_lt HC8.out.1) hn8).trans HC8.out.2; have hl8 := cell_lt hd8)
          rw [← HW8.out] at hg8 hM8 hz8
          have HD8 := Lib.hid (HD.out.oth hM8 (fun c _ e => by have e : w11.heap.size ≤ c := e; have := HZ11.out; omega))
          have HM8 := Lib.hid hM8
          have HG8 := Lib.hid hg8
          clear hg8 hM8 hz8 g0 g1 g2 k2 htb
          go_wp2_with fail
          go_roundg (n2 - (q + 1))
          case measure => exact hms
          case rel =>
            have hMs : Mod (· = db) w8 (w8.setCell ⟨db, 3, none⟩ (.slice a8 (q + 1) cap8)) := (Mod.refl (· = db) w8).setCellAt (fun _ => rfl) _
            have hDs := HD8.out.set (k := 3) (by decide) (.slice a8 (q + 1) cap8)
            rw [dmf3] at hDs
            refine ⟨q + 1, sC, a8, cap8, nl ++ ([((ea : Int), nm, (ec : Int))] : List EqK), rfl, HQT.out, by first | rfl | rw [hwr.out], by rw [List.length_append, HNL.out]; rfl, hDs, ?_, ?_, HK.out⟩
            · rw [List.flatMap_append, show ([((ea : Int), nm, (ec : Int))] : List EqK).flatMap enC = enC ((ea : Int), nm, (ec : Int)) from List.append_nil _]
              refine (HG8.out.sub (fun c hl hc => ?_)).mod hMs (fun c hc _ e => by have e : c = db := e; have := HZ11.out; omega)
              rcases hc with hc | hc
              · exact hc
              · have := HMX.out.size; have := HDW.out; omega
            · exact ((HMO.out.trans' HMX.out (fun c h e => by have := HDW.out; rcases e with e | e; (· exact Or.inl e); (· omega))).trans' HM8.out (fun c h e => by have e : w11.heap.size ≤ c := e; omega)).trans (hMs.mono fun c _ e => Or.inr e)
        · skip
          obtain rfl : q = n2 := by omega
          have HK := Lib.hid (show r0 = (rNum 1 sE).bind _ by have h1 := HKK.out; rw [Nat.sub_self] at h1; have h2 : r0 = KN n0 ik m0 (nl ++ []) sE := h1; rw [List.append_nil] at h2; exact h2)
          obtain ⟨nv, hnv⟩ : ∃ nv, nv = Value.slice an q cn := ⟨_, rfl⟩
          rw [← hnv] at HD
          have HNV := Lib.hid hnv
          have HME := Lib.hid (HME.out.trans HMO.out)
          have HGN : Hid (RwAt wr (fun c => w11.heap.size ≤ c ∧ c < wr.heap.size) 3 nl.length an (nl.flatMap enC)) := Lib.hid (by rw [HNL.out]; exact HG.out.row.sub (fun c hl hc => ⟨hc, hl⟩))
          have HNW := Lib.hid (Mod.refl (fun c => c = b ∨ c = db) wr)
          obtain ⟨wn, hwn⟩ : ∃ wn, wn = wr := ⟨_, rfl⟩
          rw [← hwn] at HD HME HGN HNW HMO ⊢
          clear hwn
          have htb := HD.out.tb
          clear hnv hqt hq
          go_wp2_with fail
          refine (rdNum_any _ b 1 sE rfl HD.out.un).mono ?_
          rintro e w20 ⟨hM, ⟨hr, rfl⟩ | ⟨r, hr, rfl, hU⟩⟩
          · go_wp2_with fail
            exact ⟨rfl, HD.out.md.trans hM, Or.inl ⟨step_none HK.out hr, rfl⟩⟩
          have HD := Lib.hid (HD.out.num hM hU)
          have HK := Lib.hid (step_some HK.out hr)
          have HL3 := Lib.hid (rNum_lt8 hr)
          have HM1 := Lib.hid hM
          obtain ⟨n3, sH⟩ := r
          simp only at HD HK
          clear hr hU hM
          have HME := Lib.hid (HME.out.trans (HM1.out.mono fun c _ e => Or.inl e))
          have HNW := Lib.hid (HNW.out.trans (HM1.out.mono fun c _ e => Or.inl e))
          have htb := HD.out.tb
          have HZ20 : Hid (wn.heap.size ≤ w20.heap.size ∧ db < w20.heap.size ∧ b < w20.heap.size ∧ w.heap.size + 1 < w20.heap.size) := Lib.hid (by have := HNW.out.size; have := HMO.out.size; have := HZ11.out; omega)
          go_wp2_with fail
          go_loopg [77] n3 (fun g v wr => L4Rel w w20 b db n0 n3 m0 iv nv ik nl r0 g v wr)
          case atStart => exact ⟨0, sH, none, 0, [], rfl, Nat.zero_le _, rfl, rfl, HD.out, GRowAt.nil _ _ _ _, Mod.refl _ _, HK.out⟩
          case round =>
            obtain ⟨q, sE, ah, ch, hl, rfl, hq, rfl, hhl, hD, hG, hM, hK⟩ := hrel
            have HD := Lib.hid hD
            have HG := Lib.hid hG
            have HMO := Lib.hid hM
            have HKK := Lib.hid hK
            have HHL := Lib.hid hhl
            clear hD hG hM hK hhl
            by_cases hqt : q < n3
            · skip
              have HQT := Lib.hid hqt
              have hql2 : (0 : Int) ≤ q ∧ (q : Int) < n3 := by omega
              have hwr := Lib.hid (show wrap64 ((q : Int) + 1) = ((q + 1 : Nat) : Int) by have := HL3.out; unfold wrap64; omega)
              have hms : n3 - (q + 1) < n3 - q := by omega
              have HDW : Hid (db < wr.heap.size ∧ b < wr.heap.size ∧ w.heap.size + 1 < wr.heap.size ∧ w20.heap.size ≤ wr.heap.size) := Lib.hid (by have h1 := HMO.out.size; have := HZ20.out; omega)
              have HK := Lib.hid (show r0 = ((rNum 1 sE).bind _).bind _ by have h1 := HKK.out; rw [show n3 - q = (n3 - (q + 1)) + 1 by omega, rRep_bind] at h1; exact h1)
              have HD := Lib.hid (HD.out.oth (F := none') ((Mod.refl _ _).drew) (fun k _ h => h.elim) : DIn w b db _ sE wr.drew)
              have HV0 := Lib.hid ((Mod.refl (· = b) wr).drew)
              have hKX : wr.drew.cell? ⟨w.heap.size, 0, none⟩ = some (.pointer (some ⟨b, 0, none⟩)) ∧ wr.drew.cell? ⟨db, 4, none⟩ = some (.slice ah q ch) := ⟨HD.out.tb, HD.out.bx.at' 4 (by decide)⟩
              obtain ⟨j0, hji, hy0, hy1, hy2⟩ := info_parts Tryz.infoHd
              clear hqt
              go_wp2_with fail
              refine anyX_begin 12 (fun W => W.cell? ⟨w.heap.size, 0, none⟩ = some (.pointer (some ⟨b, 0, none⟩)) ∧ W.cell? ⟨db, 4, none⟩ = some (.slice ah q ch)) (by kernel_rfl) hKX (fun hHeld => ?_)
              clear hKX
              refine takeX 0 ?_
              refine takeX 1 ?_
              refine takeX 2 ?_
              refine takeX 4 ?_
              refine takeX 6 ?_
              refine anyX_ready (rs := [3]) (by kernel_rfl) (by simp) ?_
              refine anyX_cons (o := ?_) ?_ (fun K hK => ?_) ?_
              rotate_left 1
              · simp only [List.getElem?_toArray, List.getElem?_cons_succ, List.getElem?_cons_zero]; rfl
              rotate_left 1
              · exact anyX_nil
              go_simp
              refine (rdNum_any wr.drew b 1 sE rfl HD.out.un).mono ?_
              rintro e wh0 ⟨hM, ⟨hr, rfl⟩ | ⟨r, hr, rfl, hU⟩⟩
              · go_wp2_with fail
                exact ⟨rfl, HD.out.md.trans hM, Or.inl ⟨step_none2 HK.out hr, rfl⟩⟩
              have HK := Lib.hid (step_some2 HK.out hr)
              have HD := Lib.hid (HD.out.num hM hU)
              have HV0 := Lib.hid (HV0.out.trans hM)
              obtain ⟨ha, sA⟩ := r
              simp only at HK HD
              clear hr hU hM
              try go_wp2_with fail
              refine hK.out _ _ ⟨HD.out.tb, HD.out.bx.at' 4 (by decide)⟩ (fun hHeld => ?_)
              clear hK K
              try simp only [Act.put, List.setIfInBounds_toArray, List.set_cons_zero, List.set_cons_succ]
              refine anyX_ready (rs := [5]) (by kernel_rfl) (by simp) ?_
              refine anyX_cons (o := ?_) ?_ (fun K hK => ?_) ?_
              rotate_left 1
              · simp only [List.getElem?_toArray, List.getElem?_cons_succ, List.getElem?_cons_zero]; rfl
              rotate_left 1
              · exact anyX_nil
              go_simp
              refine (rdNum_any wh0 b 2 sA rfl HD.out.un).mono ?_
              rintro e wh1 ⟨hM, ⟨hr, rfl⟩ | ⟨r, hr, rfl, hU⟩⟩
              · go_wp2_with fail
                exact ⟨rfl, HD.out.md.trans hM, Or.inl ⟨step_none2 HK.out hr, rfl⟩⟩
              have HK := Lib.hid (step_some2 HK.out hr)
              have HD := Lib.hid (HD.out.num hM hU)
              have HV0 := Lib.hid (HV0.out.trans hM)
              obtain ⟨hb, sB⟩ := r
              simp only at HK HD
              clear hr hU hM
              try go_wp2_with fail
              refine hK.out _ _ ⟨HD.out.tb, HD.out.bx.at' 4 (by decide)⟩ (fun hHeld => ?_)
              clear hK K
              try simp only [Act.put, List.setIfInBounds_toArray, List.set_cons_zero, List.set_cons_succ]
              refine anyX_ready (rs := [7]) (by kernel_rfl) (by simp) ?_
              refine anyX_cons (o := ?_) ?_ (fun K hK => ?_) ?_
              rotate_left 1
              · simp only [List.getElem?_toArray, List.getElem?_cons_succ, List.getElem?_cons_zero]; rfl
              rotate_left 1
              · exact anyX_nil
              go_simp
              refine (rdNum_any wh1 b 4 sB rfl HD.out.un).mono ?_
              rintro e wh2 ⟨hM, ⟨hr, rfl⟩ | ⟨r, hr, rfl, hU⟩⟩
              · go_wp2_with fail
                exact ⟨rfl, HD.out.md.trans hM, Or.inl ⟨step_none2 HK.out hr, rfl⟩⟩
              have HK := Lib.hid (step_some2 HK.out hr)
              have HD := Lib.hid (HD.out.num hM hU)
              have HV0 := Lib.hid (HV0.out.trans hM)
              obtain ⟨hc, sC⟩ := r
              simp only at HK HD
              clear hr hU hM
              try go_wp2_with fail
              refine hK.out _ _ ⟨HD.out.tb, HD.out.bx.at' 4 (by decide)⟩ (fun hHeld => ?_)
              clear hK K
              try simp only [Act.put, List.setIfInBounds_toArray, List.set_cons_zero, List.set_cons_succ]
              refine takeX 8 ?_
              refine anyX_ready (rs := [9]) (by kernel_rfl) (by simp) ?_
              refine anyX_cons (o := ?_) ?_ (fun K hK => ?_) ?_
              rotate_left 1
              · simp only [List.getElem?_toArray, List.getElem?_cons_succ, List.getElem?_cons_zero]; rfl
              rotate_left 1
              · exact anyX_nil
              go_simp
              obtain ⟨W7, hW7⟩ : ∃ W7, W7 = wh2.alloc (.cells #[.int .i64 ha, .int .i64 hb, .int .i64 hc] 108) := ⟨_, rfl⟩
              have hh7 : W7.heap[wh2.heap.size]? = some (.cells (hdC ((ha, hb), hc)).toArray 108) := by rw [hW7]; exact heap_alloc_new _ _
              have hM7 : Mod none' wh2 W7 := by rw [hW7]; exact (Mod.refl _ _).alloc _
              have HD := Lib.hid (HD.out.oth hM7 (fun c _ h => h.elim))
              have HV0 := Lib.hid (HV0.out.trans' hM7 (fun c _ h => h.elim))
              rw [← hW7]
              clear hW7
              try go_wp2_with fail
              refine hK.out _ _ ⟨HD.out.tb, HD.out.bx.at' 4 (by decide)⟩ (fun hHeld => ?_)
              clear hK K
              try simp only [Act.put, List.setIfInBounds_toArray, List.set_cons_zero, List.set_cons_succ]
              refine anyX_ready (rs := [10]) (by kernel_rfl) (by simp) ?_
              refine anyX_cons (o := ?_) ?_ (fun K hK => ?_) ?_
              rotate_left 1
              · simp only [List.getElem?_toArray, List.getElem?_cons_succ, List.getElem?_cons_zero]; rfl
              rotate_left 1
              · exact anyX_nil
              have HG7 := Lib.hid (HG.out.mod HV0.out (fun c hc _ e => by have e : c = b := e; have := HZ20.out; omega))
              refine step_append_g (by rfl) (.tmp 80) (.tmp 88) 25 25 (by rfl) 108 j0 _ 24 Tryz.underlying25 hji hy0 hy1 hy2 (by rfl) (by rfl) HG7.out _ 1 (hdC ((ha, hb), hc)) (by rfl) (srcR _ _ Tryz.underlying25 wh2.heap.size hdC ((ha, hb), hc) hdC_len hdC_oneR 108 hh7 _) (by have := HL3.out; omega) (by have := HL3.out; omega) ?_
              intro a8 cap8 w8 hg8 hM8 hz8
              have HS7 : Hid (wr.heap.size ≤ W7.heap.size) := Lib.hid HV0.out.size
              have HD8 := Lib.hid (HD.out.oth hM8 (fun c _ e => by have e : w20.heap.size ≤ c := e; have := HZ20.out; omega))
              have HM8 := Lib.hid hM8
              have HG8 := Lib.hid hg8
              have hd8 : w8.cell? ⟨db, 4, none⟩ = some (.slice ah q ch) := HD8.out.bx.at' 4 (by decide)
              have hf8 : w8.frozen? ⟨db, 4, none⟩ = false := HD8.out.bx.fz 4
              have hl8 := cell_lt hd8
              clear hg8 hM8 hz8 hh7 hM7
              try go_wp2_with fail
              refine hK.out _ _ ⟨HD8.out.tb, hd8⟩ (fun hHeld => ?_)
              clear hK K
              try simp only [Act.put, List.setIfInBounds_toArray, List.set_cons_zero, List.set_cons_succ]
              refine anyX_ready (rs := [11]) (by kernel_rfl) (by simp) ?_
              refine anyX_cons (o := ?_) ?_ (fun K hK => ?_) ?_
              rotate_left 1
              · simp only [List.getElem?_toArray, List.getElem?_cons_succ, List.getElem?_cons_zero]; rfl
              rotate_left 1
              · exact anyX_nil
              go_simp
              try go_wp2_with fail
              refine hK.out _ _ hHeld (fun hHeld => ?_)
              clear hK K
              try simp only [Act.put, List.setIfInBounds_toArray, List.set_cons_zero, List.set_cons_succ]
              refine anyX_ready (rs := [12]) (by kernel_rfl) (by simp) ?_
              refine anyX_last (o := ?_) ?_ (fun K hK => ?_)
              rotate_left 1
              · simp only [List.getElem?_toArray, List.getElem?_cons_succ, List.getElem?_cons_zero]; rfl
              go_simp
              refine hK.out _ _ (anyX_done (by kernel_rfl) ?_ _)
              clear hK K hHeld
              go_wp2_with fail
              go_roundg (n3 - (q + 1))
              case measure => exact hms
              case rel =>
                have hMs : Mod (· = db) w8 (w8.setCell ⟨db, 4, none⟩ (.slice a8 (q + 1) cap8)) := (Mod.refl (· = db) w8).setCellAt (fun _ => rfl) _
                have hDs := HD8.out.set (k := 4) (by decide) (.slice a8 (q + 1) cap8)
                rw [dmf4] at hDs
                refine ⟨q + 1, sC, a8, cap8, hl ++ ([(((ha : Int), (hb : Int)), (hc : Int))] : List Hd), rfl, HQT.out, by first | rfl | rw [hwr.out], by rw [List.length_append, HHL.out]; rfl, hDs, ?_, ?_, HK.out⟩
                · rw [List.flatMap_append, show ([(((ha : Int), (hb : Int)), (hc : Int))] : List Hd).flatMap hdC = hdC (((ha : Int), (hb : Int)), (hc : Int)) from List.append_nil _]
                  refine (HG8.out.sub (fun c hl hc => ?_)).mod hMs (fun c hc _ e => by have e : c = db := e; have := HZ20.out; omega)
                  rcases hc with hc | hc
                  · exact hc
                  · have := HS7.out; have := HDW.out; omega
                · exact ((HMO.out.trans (HV0.out.mono fun c _ e => Or.inl e)).trans' HM8.out (fun c h e => by have e : w20.heap.size ≤ c := e; omega)).trans (hMs.mono fun c _ e => Or.inr e)
            · skip
              obtain rfl : q = n3 := by omega
              have HK := Lib.hid (show r0 = (rRep rRow 8 sE).bind _ by have h1 := HKK.out; rw [Nat.sub_self] at h1; have h2 : r0 = KH n0 ik m0 nl (hl ++ []) sE := h1; rw [List.append_nil] at h2; exact h2)
              obtain ⟨hv, hhv⟩ : ∃ hv, hv = Value.slice ah q ch := ⟨_, rfl⟩
              rw [← hhv] at HD
              have HHV := Lib.hid hhv
              have HME := Lib.hid (HME.out.trans HMO.out)
              have HNW := Lib.hid (HNW.out.trans HMO.out)
              have HGH : Hid (RwAt wr (fun c => w20.heap.size ≤ c ∧ c < wr.heap.size) 3 hl.length ah (hl.flatMap hdC)) := Lib.hid (by rw [HHL.out]; exact HG.out.row.sub (fun c hl hc => ⟨hc, hl⟩))
              obtain ⟨wh, hwh⟩ : ∃ wh, wh = wr := ⟨_, rfl⟩
              rw [← hwh] at HD HME HGH HNW HMO ⊢
              clear hwh
              have HD0 : Hid (DIn w b db (dmR n0 iv m0 nv hv []) sE wh) := Lib.hid ⟨HD.out.tb, HD.out.bx.congr (dmR_nil n0 iv m0 nv hv), HD.out.un, HD.out.rs, HD.out.md, HD.out.bl, HD.out.dl⟩
              clear hhv hqt hq
              go_wp2_with fail
              go_loopg [92] 8 (fun g v wr => L5Rel w wh b db n0 m0 iv nv hv ik nl hl r0 g v wr)
              case atStart => exact ⟨0, sE, [], rfl, Nat.zero_le _, rfl, rfl, HD0.out, Mod.refl _ _, HK.out⟩
              case round =>
                obtain ⟨q, sR, rl, rfl, hq, rfl, hrl, hD, hM, hK⟩ := hrel
                have HD := Lib.hid hD
                have HMO := Lib.hid hM
                have HKK := Lib.hid hK
                have HRL := Lib.hid hrl
                clear hD hM hK hrl
                by_cases hqt : q < 8
                · skip
                  have hql2 : (0 : Int) ≤ q ∧ (q : Int) < 8 := by omega
                  have HQT := Lib.hid hqt
                  have hwr := Lib.hid (show wrap64 ((q : Int) + 1) = ((q + 1 : Nat) : Int) by unfold wrap64; omega)
                  have hms : 8 - (q + 1) < 8 - q := by omega
                  have HK := Lib.hid (show r0 = ((rNum 8 sR).bind _).bind _ by have h1 := HKK.out; rw [show 8 - q = (8 - (q + 1)) + 1 by omega, rRep_bind] at h1; exact h1)
                  have hq5 : 5 + q < 37 := by omega
                  have hq13 : 13 + q < 37 := by omega
                  have hq21 : 21 + q * 2 < 37 := by omega
                  have hq22 : 21 + q * 2 + 1 < 37 := by omega
                  have htb := HD.out.tb
                  have hnlo : w.heap.size ≠ db := by have := HD.out.dl; omega
                  go_wp2_with fail
                  refine (rdNum_any _ b 8 sR rfl HD.out.un).mono ?_
                  rintro e w31 ⟨hM, ⟨hr, rfl⟩ | ⟨r, hr, rfl, hU⟩⟩
                  · go_wp2_with fail
                    exact ⟨rfl, HD.out.md.trans hM, Or.inl ⟨step_none2 HK.out hr, rfl⟩⟩
                  have HD := Lib.hid (HD.out.num hM hU)
                  have HK := Lib.hid (step_some2 HK.out hr)
                  have HLa := Lib.hid (rNum_lt8 hr)
                  have HM1 := Lib.hid hM
                  obtain ⟨ra, sA⟩ := r
                  simp only at HD HK
                  clear hr hU hM
                  have HMO := Lib.hid (HMO.out.trans (HM1.out.mono fun c _ e => Or.inl e))
                  have d5 := HD.out.bx.at' (5 + q) hq5
                  have z5 := HD.out.bx.fz (5 + q)
                  have dl5 := cell_lt d5
                  have htb := HD.out.tb
                  have hDs := HD.out.set (k := 5 + q) hq5 (.int .i64 ra)
                  obtain ⟨w32, hw32⟩ : ∃ w32, w32 = w31.setCell ⟨db, 5 + q, none⟩ (.int .i64 ra) := ⟨_, rfl⟩
                  have hMs : Mod (fun c => c = b ∨ c = db) w31 w32 := by rw [hw32]; exact (Mod.refl (fun c => c = b ∨ c = db) w31).setCellAt (b := db) (fun _ => Or.inr rfl) _
                  rw [← hw32] at hDs
                  have HD := Lib.hid hDs
                  have HMO := Lib.hid (HMO.out.trans hMs)
                  have HW32 := Lib.hid hw32
                  have htb2 := HD.out.tb
                  clear hDs hw32 hMs
                  go_wp2_with fail
                  rw [← HW32.out]
                  clear d5 z5 dl5 htb
                  have htb := htb2
                  go_wp2_with fail
                  refine (rdNum_any _ b 4 sA rfl HD.out.un).mono ?_
                  rintro e w33 ⟨hM, ⟨hr, rfl⟩ | ⟨r, hr, rfl, hU⟩⟩
                  · go_wp2_with fail
                    exact ⟨rfl, HD.out.md.trans hM, Or.inl ⟨step_none2 HK.out hr, rfl⟩⟩
                  have HD := Lib.hid (HD.out.num hM hU)
                  have HK := Lib.hid (step_some2 HK.out hr)
                  have HLb := Lib.hid (rNum_lt8 hr)
                  have HM1 := Lib.hid hM
                  obtain ⟨rb, sB⟩ := r
                  simp only at HD HK
                  clear hr hU hM
                  have HMO := Lib.hid (HMO.out.trans (HM1.out.mono fun c _ e => Or.inl e))
                  have d6 := HD.out.bx.at' (13 + q) hq13
                  have z6 := HD.out.bx.fz (13 + q)
                  have dl6 := cell_lt d6
                  have htb := HD.out.tb
                  have hDs := HD.out.set (k := 13 + q) hq13 (.int .i64 rb)
                  obtain ⟨w34, hw34⟩ : ∃ w34, w34 = w33.setCell ⟨db, 13 + q, none⟩ (.int .i64 rb) := ⟨_, rfl⟩
                  have hMs : Mod (fun c => c = b ∨ c = db) w33 w34 := by rw [hw34]; exact (Mod.refl (fun c => c = b ∨ c = db) w33).setCellAt (b := db) (fun _ => Or.inr rfl) _
                  rw [← hw34] at hDs
                  have HD := Lib.hid hDs
                  have HMO := Lib.hid (HMO.out.trans hMs)
                  have HW34 := Lib.hid hw34
                  clear hDs hw34 hMs htb2
                  go_wp2_with fail
                  rw [← HW34.out]
                  have HD := Lib.hid (HD.out.oth (F := none') ((Mod.refl _ _).drew) (fun k _ h => h.elim) : DIn w b db _ sB w34.drew)
                  have HMO := Lib.hid (HMO.out.trans ((Mod.refl _ _).drew))
                  clear d6 z6 dl6 htb
                  have htb := HD.out.tb
                  refine wp_region_held_drew (S := fun W => W.cell? ⟨w.heap.size, 0, none⟩ = some (.pointer (some ⟨b, 0, none⟩))) (by kernel_rfl) htb (fun hHeld => ?_)
                  refine takeL 0 ?_
                  refine takeL 1 ?_
                  refine takeL 3 ?_
                  refine takeL 6 ?_
                  refine wpAnyH_ready (rs := [2]) (by kernel_rfl) (by simp) ?_
                  refine AllReadyH.cons (o := _) rfl (fun K hK => ?_) AllReadyH.nil
                  go_simp
                  refine (rdNum_any _ b 2 sB rfl HD.out.un).mono ?_
                  rintro e w35 ⟨hM, ⟨hr, rfl⟩ | ⟨r, hr, rfl, hU⟩⟩
                  · go_wp2_with fail
                    exact ⟨rfl, HD.out.md.trans hM, Or.inl ⟨step_none2 HK.out hr, rfl⟩⟩
                  have HD := Lib.hid (HD.out.num hM hU)
                  have HK := Lib.hid (step_some2 HK.out hr)
                  have HLc := Lib.hid (rNum_lt8 hr)
                  have HM1 := Lib.hid hM
                  obtain ⟨rc, sC⟩ := r
                  simp only at HD HK
                  clear hr hU hM
                  have HMO := Lib.hid (HMO.out.trans (HM1.out.mono fun c _ e => Or.inl e))
                  try go_wp2_with fail
                  refine hK.out _ _ HD.out.tb (fun hHeld => ?_)
                  clear hK K
                  try simp only [Act.put, List.setIfInBounds_toArray, List.set_cons_zero, List.set_cons_succ]
                  refine wpAnyH_ready (rs := [4]) (by kernel_rfl) (by simp) ?_
                  refine AllReadyH.cons (o := _) rfl (fun K hK => ?_) AllReadyH.nil
                  go_simp
                  refine (rdNum_any _ b 2 sC rfl HD.out.un).mono ?_
                  rintro e w36 ⟨hM, ⟨hr, rfl⟩ | ⟨r, hr, rfl, hU⟩⟩
                  · go_wp2_with fail
                    exact ⟨rfl, HD.out.md.trans hM, Or.inl ⟨step_none2 HK.out hr, rfl⟩⟩
                  have HD := Lib.hid (HD.out.num hM hU)
                  have HK := Lib.hid (step_some2 HK.out hr)
                  have HLd := Lib.hid (rNum_lt8 hr)
                  have HM1 := Lib.hid hM
                  obtain ⟨rd, sD⟩ := r
                  simp only at HD HK
                  clear hr hU hM
                  have HMO := Lib.hid (HMO.out.trans (HM1.out.mono fun c _ e => Or.inl e))
                  try go_wp2_with fail
                  refine hK.out _ _ HD.out.tb (fun hHeld => ?_)
                  clear hK K
                  try simp only [Act.put, List.setIfInBounds_toArray, List.set_cons_zero, List.set_cons_succ]
                  refine takeL 5 ?_
                  refine takeL 7 ?_
                  have d7 := HD.out.bx.at' (21 + q * 2) hq21
                  have z7 := HD.out.bx.fz (21 + q * 2)
                  have d8 := HD.out.bx.at' (21 + q * 2 + 1) hq22
                  have z8 := HD.out.bx.fz (21 + q * 2 + 1)
                  have dl7 := cell_lt d7
                  have htb3 := HD.out.tb
                  have hDs := (HD.out.set (k := 21 + q * 2) hq21 (.int .i64 rc)).set (k := 21 + q * 2 + 1) hq22 (.int .i64 rd)
                  obtain ⟨w37, hw37⟩ : ∃ w37, w37 = (w36.setCell ⟨db, 21 + q * 2, none⟩ (.int .i64 rc)).setCell ⟨db, 21 + q * 2 + 1, none⟩ (.int .i64 rd) := ⟨_, rfl⟩
                  have hMs : Mod (fun c => c = b ∨ c = db) w36 w37 := by rw [hw37]; exact ((Mod.refl (fun c => c = b ∨ c = db) w36).setCellAt (b := db) (fun _ => Or.inr rfl) _).setCellAt (b := db) (fun _ => Or.inr rfl) _
                  rw [← hw37] at hDs
                  have HD := Lib.hid hDs
                  have HMO := Lib.hid (HMO.out.trans hMs)
                  have HW37 := Lib.hid hw37
                  clear hDs hw37 hMs
                  refine wpAnyH_ready (rs := [8]) (by kernel_rfl) (by simp) ?_
                  refine AllReadyH.cons (o := _) rfl (fun K hK => ?_) AllReadyH.nil
                  go_simp
                  rw [← HW37.out]
                  try go_wp2_with fail
                  refine hK.out _ _ HD.out.tb (fun hHeld => ?_)
                  clear hK K
                  try simp only [Act.put, List.setIfInBounds_toArray, List.set_cons_zero, List.set_cons_succ]
                  refine wpAnyH_done (by kernel_rfl) ?_ _
                  clear hHeld d7 z7 d8 z8 dl7 htb3 htb
                  go_wp2_with fail
                  go_roundg (8 - (q + 1))
                  case measure => exact hms
                  case rel =>
                    have hdd := HD.out
                    have hcg := dmR_snoc n0 iv m0 nv hv rl ra rb rc rd (by rw [HRL.out]; exact HQT.out)
                    rw [HRL.out] at hcg
                    exact ⟨q + 1, sD, rl ++ ([(((ra : Int), (rb : Int)), ((rc : Int), (rd : Int)))] : List RowV), rfl, HQT.out, by first | rfl | rw [hwr.out], by rw [List.length_append, HRL.out]; rfl, ⟨hdd.tb, hdd.bx.congr hcg, hdd.un, hdd.rs, hdd.md, hdd.bl, hdd.dl⟩, HMO.out, HK.out⟩
                · skip
                  obtain rfl : q = 8 := by omega
                  obtain ⟨x, hx⟩ : ∃ x : DmC, x = ⟨n0, ao, cap, k, m0, an, cn, nl, ah, ch, hl, fun i => (rl.getD i rw0).1.1, fun i => (rl.getD i rw0).1.2, fun i => if i % 2 = 0 then (rl.getD (i / 2) rw0).2.1 else (rl.getD (i / 2) rw0).2.2⟩ := ⟨_, rfl⟩
                  have hda := dm_at n0 m0 ao an ah cap cn ch k nl hl rl x hx
                  rw [HKL.out, HNL.out, HHL.out, ← HIV.out, ← HNV.out, ← HHV.out] at hda
                  have HRG : Hid (wr.rangeAt db 0 x.cells) := Lib.hid (fun j v hv => by
                    have hj : j < 37 := (List.getElem?_eq_some_iff.1 hv).1
                    rw [Nat.zero_add, HD.out.bx.at' j hj, hda j v hv])
                  have HTH : Hid (wr.there (w.heap.size + 1) 0 37) := Lib.hid HD.out.rs.there
                  have HON : Hid (x.cells.toArray.all (·.oneCell') = true) := Lib.hid (by simp [DmC.cells, Value.oneCell'])
                  have HX := Lib.hid hx
                  clear hx hda hqt hq
                  go_wp2_with (first
                    | (refine wpList_load_mid (by rfl) 32 _ (by rfl) db 0 (by rfl) x.cells _ HRG.out Tryz.underlying32 rfl (by kernel_rfl) ?_)
                    | (refine wpList_store_mid (by rfl) 32 _ _ (by rfl) (w.heap.size + 1) 0 x.cells.toArray (by rfl) (by rfl) HTH.out (by kernel_rfl) HON.out ?_))
                  refine bodyPost_ret (rd_results _ (w.heap.size + 1) x.cells _ (by rfl) (World.rangeAt_setCells_same _ _ _ _ HTH.out) rfl) rfl ?_
                  have hMF : Mod (· = w.heap.size + 1) wr (wr.setCells (w.heap.size + 1) 0 x.cells) := Mod.setCellsAt (F := (· = w.heap.size + 1)) (show (· = w.heap.size + 1) (w.heap.size + 1) from rfl) _ _ _ (Mod.refl _ _)
                  obtain ⟨wf, hwf⟩ : ∃ wf, wf = wr.setCells (w.heap.size + 1) 0 x.cells := ⟨_, rfl⟩
                  rw [← hwf] at hMF ⊢
                  clear hwf HRG HTH HON
                  have hmd := HD.out.md
                  have hdl := HD.out.dl
                  have hbl2 := HD.out.bl
                  have hzi := HZI.out
                  have hz11 := HZ11.out
                  have hz20 := HZ20.out
                  have hRi := (HR.out.mods HME.out (fun c hc e => by rcases e with e | e; (· exact Or.inr (by omega)); (· exact Or.inl e)))
                  have hRj := (hRi.mods HMO.out (fun c hc e => by rcases e with e | e; (· exact Or.inr (by omega)); (· exact Or.inl e)))
                  have hRk := (hRj.mods hMF (fun c hc e => Or.inr (by have e : c = w.heap.size + 1 := e; omega)))
                  have hk1 : r0 = KR n0 ik m0 nl hl (rl ++ []) sR := by have h1 := HKK.out; rw [Nat.sub_self] at h1; exact h1
                  rw [List.append_nil] at hk1
                  have hgn := ((HGN.out.mod HNW.out (fun c hc _ e => by omega)).mod HMO.out (fun c hc _ e => by omega)).mod hMF (fun c hc _ e => by have e : c = w.heap.size + 1 := e; omega)
                  have hgh := (HGH.out.mod HMO.out (fun c hc _ e => by omega)).mod hMF (fun c hc _ e => by have e : c = w.heap.size + 1 := e; omega)
                  refine ⟨hmd.trans' hMF (fun c hc e => by have e : c = w.heap.size + 1 := e; omega), Or.inr ⟨x, ⟨n0, ik, m0, nl, hl, rl⟩, sR, hk1, rfl, ?_, ?_, HD.out.un.mods hMF (by show ¬ b = w.heap.size + 1; omega)⟩⟩
                  · rw [HX.out]
                    exact ⟨⟨hRk.row.row.sub (fun c _ hc => by have := hRk.lo c hc; show w.heap.size ≤ c; omega), fun y hy => (hRk.pc y hy).sub (fun c _ hc => by show w.heap.size ≤ c; omega)⟩, hgn.sub (fun c _ hc => by show w.heap.size ≤ c; omega), hgh.sub (fun c _ hc => by show w.heap.size ≤ c; omega), by show k.length ≤ 100000; rw [HKL.out]; have := HL4.out; omega, by show nl.length ≤ 100000; rw [HNL.out]; have := HL2.out; omega, by show hl.length ≤ 100000; rw [HHL.out]; have := HL3.out; omega⟩
                  · rw [HX.out]
                    refine ⟨rfl, HIK.out.symm, rfl, rfl, rfl, HRL.out, fun j hj => ⟨rfl, rfl, ?_, ?_⟩⟩
                    · show (if 2 * j % 2 = 0 then _ else _) = _
                      rw [if_pos (by omega), show 2 * j / 2 = j by omega]; rfl
                    · show (if (2 * j + 1) % 2 = 0 then _ else _) = _
                      rw [if_neg (by omega), show (2 * j + 1) / 2 = j by omega]; rfl
end Go.Proofs.YtmnkackkeppheaaGreat
