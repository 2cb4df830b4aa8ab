/- package tree: place -/
import Derived.Test.YtakbalmbkokklaaGreatTree
namespace Go.Proofs.YtakbalmbkokklaaGreat
open Go.RowKit Esch Go.Shelf

def spotV (x : SpotS) : Value := .agg #[.int .i64 x.dir, .string (bs x.name), .int .i64 x.ino]
set_option maxRecDepth 100000 in
set_option maxHeartbeats 4000000 in
theorem trPlace_any (w : World) (b : Nat) (S : Nat → Prop) (s : TrS) (h : TreeAt w b S s) (p : Nm) (ofRoot : Int) :
    Calls Tryz.prog 46 #[.pointer (some ⟨b, 0, none⟩), .string (bs p), .int .i64 ofRoot] w (ResPost w (s.place p ofRoot) spotV) := by
  have hgd := fun W => good_any W p
  have hup := fun W => up_any W p
  have hno := stop_no
  have hys := stop_yes
  have hkd := fun W hW i => trKind_any W b S s hW i
  obtain ⟨W1, hW1⟩ : ∃ W1, W1 = w.alloc (.cells #[.int .i64 0, .string ⟨#[]⟩, .int .i64 0] 75) := ⟨_, rfl⟩
  have hB1 : Below w.heap.size w W1 := by rw [hW1]; exact belC (Below.refl _ _)
  have r0 : W1.cell? ⟨w.heap.size, 0, none⟩ = some (.int .i64 0) := by rw [hW1]; go_simp
  have r1 : W1.cell? ⟨w.heap.size, 1, none⟩ = some (.string ⟨#[]⟩) := by rw [hW1]; go_simp
  have r2 : W1.cell? ⟨w.heap.size, 2, none⟩ = some (.int .i64 0) := by rw [hW1]; go_simp
  have f0 : W1.frozen? ⟨w.heap.size, 0, none⟩ = false := by rw [hW1]; go_simp
  have f1 : W1.frozen? ⟨w.heap.size, 1, none⟩ = false := by rw [hW1]; go_simp
  have f2 : W1.frozen? ⟨w.heap.size, 2, none⟩ = false := by rw [hW1]; go_simp
  have hl1 : w.heap.size < W1.heap.size := cell_lt r0
  have H := Lib.hid (h.below' hB1)
  have HW1 := Lib.hid hW1
  have HB1 := Lib.hid hB1
  have hpl : s.place p ofRoot = match namesOf p with
    | none => .err 11
    | some l => if l = [] then .err ofRoot else (s.res 1 l.dropLast).bind fun d => if s.kind d ≠ 1 then .err 62 else .ok ⟨d, l.getLastD [], (s.n.find d (l.getLastD [])).getD 0⟩ := rfl
  cases hr : namesOf p with
  | none =>
    rw [hr] at hpl hgd
    rw [hpl]
    clear h hr hpl hW1 hB1
    go_enter Tryz.func46, Tryz.ntmps46
    go_wp2_with fail
    rw [← HW1.out]
    refine (hgd _).mono ?_
    clear hgd
    rintro e w1 ⟨rfl, hB⟩
    go_wp2_with fail
    refine (hys _ _).mono ?_
    rintro e w9 ⟨rfl, rfl⟩
    go_wp2_with fail
    exact ⟨rfl, HB1.out.trans (hB.mono HB1.out.size), rfl⟩
  | some l =>
    have hsn := namesOf_some hr
    rw [hr] at hpl hgd hup
    by_cases hl : l = []
    · have hpl2 : s.place p ofRoot = .err ofRoot := by rw [hpl]; simp [hl]
      subst hl
      rw [hpl2]
      clear h hr hpl hW1 hB1 hsn hpl2
      go_enter Tryz.func46, Tryz.ntmps46
      go_wp2_with fail
      rw [← HW1.out]
      refine (hgd _).mono ?_
      clear hgd
      rintro e w1 ⟨rfl, hB⟩
      go_wp2_with fail
      refine (hno _ _).mono ?_
      rintro e w2 ⟨rfl, rfl⟩
      go_wp2_with fail
      refine (hup _).mono ?_
      clear hup
      rintro e w3 ⟨hB3, rfl⟩
      go_wp2_with fail
      refine (hys _ _).mono ?_
      rintro e w9 ⟨rfl, rfl⟩
      go_wp2_with fail
      exact ⟨rfl, HB1.out.trans ((hB.trans (hB3.mono hB.size)).mono HB1.out.size), rfl⟩
    · obtain ⟨dl, hdl⟩ : ∃ x, x = l.dropLast := ⟨_, rfl⟩
      obtain ⟨nm, hnm⟩ : ∃ x, x = l.getLastD [] := ⟨_, rfl⟩
      have hupd : upOf (some l) = some (dl, nm) := by unfold upOf; simp [hl, hdl, hnm]
      have hpl2 : s.place p ofRoot = (s.res 1 dl).bind fun d => if s.kind d ≠ 1 then .err 62 else .ok ⟨d, nm, (s.n.find d nm).getD 0⟩ := by rw [hpl]; simp [hl, hdl, hnm]
      rw [hupd] at hup
      have hres := fun W hW => trResolve_any W b S s hW (pathL dl)
      have hrs : s.resolve (pathL dl) = s.res 1 dl := by
        unfold TrS.resolve
        rw [namesOf_path (l := dl) (by rw [hdl, List.length_dropLast]; have := hsn.1; omega) (fun a ha => hsn.2.1 a (List.dropLast_subset l (by rw [← hdl]; exact ha)))]
      rw [hrs] at hres
      rw [hpl2]
      have hup2 : ∀ W, Calls Tryz.prog 85 #[.string (bs p)] W fun e w' => Below W.heap.size W w' ∧ e = .returned (.tuple #[.string (bs (pathL dl)), .string (bs nm), .bool true]) := hup
      clear hup
      have hup := hup2
      clear hup2
      generalize pathL dl = up at hup hres
      cases hrd : s.res 1 dl with
      | err x =>
        rw [hrd] at hres
        show Calls Tryz.prog 46 _ w (ResPost w (.err x) spotV)
        clear h hr hpl hW1 hB1 hsn hpl2 hupd hrs hrd hdl hnm hl
        go_enter Tryz.func46, Tryz.ntmps46
        go_wp2_with fail
        rw [← HW1.out]
        refine (hgd _).mono ?_
        clear hgd
        rintro e w1 ⟨rfl, hB⟩
        go_wp2_with fail
        refine (hno _ _).mono ?_
        rintro e w2 ⟨rfl, rfl⟩
        go_wp2_with fail
        refine (hup _).mono ?_
        clear hup
        rintro e w3 ⟨hB3, rfl⟩
        have HB13 := Lib.hid (hB.trans (hB3.mono hB.size))
        have HB3 := Lib.hid (HB1.out.trans (HB13.out.mono HB1.out.size))
        have H3 := Lib.hid (H.out.below' HB13.out)
        clear hB hB3
        go_wp2_with fail
        refine (hno _ _).mono ?_
        rintro e w3b ⟨rfl, rfl⟩
        go_wp2_with fail
        refine (hres _ H3.out).mono ?_
        clear hres
        rintro e w4 ⟨hB4, rfl⟩
        go_wp2_with fail
        exact ⟨rfl, HB3.out.trans (hB4.mono HB3.out.size), rfl⟩
      | ok d =>
        rw [hrd] at hres
        have hgo : ((Res.ok d : Res Int).bind fun d => if s.kind d ≠ 1 then Res.err 62 else Res.ok (⟨d, nm, (s.n.find d nm).getD 0⟩ : SpotS)) = if s.kind d ≠ 1 then .err 62 else .ok ⟨d, nm, (s.n.find d nm).getD 0⟩ := rfl
        rw [hgo]
        clear h hr hpl hW1 hB1 hsn hpl2 hupd hrs hrd hdl hnm hl hgo
        by_cases hkk : s.kind d = 1
        rotate_left 1
        · rw [if_pos hkk]
          have hkk2 : (s.kind d != 1) = true := by simpa using hkk
          have hkd2 := fun W hW => hkd W hW d
          generalize s.kind d = kk at hkd2 hkk2
          clear hkd hkk
          go_enter Tryz.func46, Tryz.ntmps46
          go_wp2_with fail
          rw [← HW1.out]
          refine (hgd _).mono ?_
          clear hgd
          rintro e w1 ⟨rfl, hB⟩
          go_wp2_with fail
          refine (hno _ _).mono ?_
          rintro e w2 ⟨rfl, rfl⟩
          go_wp2_with fail
          refine (hup _).mono ?_
          clear hup
          rintro e w3 ⟨hB3, rfl⟩
          have HB13 := Lib.hid (hB.trans (hB3.mono hB.size))
          have HB3 := Lib.hid (HB1.out.trans (HB13.out.mono HB1.out.size))
          have H3 := Lib.hid (H.out.below' HB13.out)
          clear hB hB3
          go_wp2_with fail
          refine (hno _ _).mono ?_
          rintro e w3b ⟨rfl, rfl⟩
          go_wp2_with fail
          refine (hres _ H3.out).mono ?_
          clear hres
          rintro e w4 ⟨hB4, rfl⟩
          have HB4 := Lib.hid hB4
          have hz4 := hB4.size
          clear hB4
          go_wp2_with fail
          refine (hkd2 _ ((H3.out.below' HB4.out).below' (by exact belC (Below.refl _ _)))).mono ?_
          rintro e w5 ⟨rfl, hB5⟩
          go_wp2_with fail
          refine (hys _ _).mono ?_
          rintro e w9 ⟨rfl, rfl⟩
          go_wp2_with fail
          refine ⟨rfl, HB3.out.trans ((HB4.out.trans ?_).mono HB3.out.size), rfl⟩
          exact (show Below w4.heap.size w4 (w4.alloc (.cells #[.int .i64 d, .string (bs nm), .int .i64 0] 75)) by exact belC (Below.refl _ _)).trans (hB5.mono (by simp)) |>.mono HB4.out.size
        · rw [if_neg (by simpa using hkk)]
          have hkd2 := fun W hW => hkd W hW d
          rw [hkk] at hkd2
          obtain ⟨ino, hino⟩ : ∃ ino, ino = (s.n.find d nm).getD 0 := ⟨_, rfl⟩
          rw [← hino]
          have HINO := Lib.hid hino
          clear hkd hkk hino
          go_enter Tryz.func46, Tryz.ntmps46
          go_wp2_with fail
          rw [← HW1.out]
          refine (hgd _).mono ?_
          clear hgd
          rintro e w1 ⟨rfl, hB⟩
          go_wp2_with fail
          refine (hno _ _).mono ?_
          rintro e w2 ⟨rfl, rfl⟩
          go_wp2_with fail
          refine (hup _).mono ?_
          clear hup
          rintro e w3 ⟨hB3, rfl⟩
          have HB13 := Lib.hid (hB.trans (hB3.mono hB.size))
          have HB3 := Lib.hid (HB1.out.trans (HB13.out.mono HB1.out.size))
          have H3 := Lib.hid (H.out.below' HB13.out)
          clear hB hB3
          go_wp2_with fail
          refine (hno _ _).mono ?_
          rintro e w3b ⟨rfl, rfl⟩
          go_wp2_with fail
          refine (hres _ H3.out).mono ?_
          clear hres
          rintro e w4 ⟨hB4, rfl⟩
          have HB4 := Lib.hid hB4
          have hz4 := hB4.size
          clear hB4
          go_wp2_with fail
          obtain ⟨W5, hW5⟩ : ∃ W5, W5 = w4.alloc (.cells #[.int .i64 d, .string (bs nm), .int .i64 0] 75) := ⟨_, rfl⟩
          have hB5 : Below w4.heap.size w4 W5 := by rw [hW5]; exact belC (Below.refl _ _)
          have k0 : W5.cell? ⟨w4.heap.size, 0, none⟩ = some (.int .i64 d) := by rw [hW5]; go_simp
          have k1 : W5.cell? ⟨w4.heap.size, 1, none⟩ = some (.string (bs nm)) := by rw [hW5]; go_simp
          have k2 : W5.cell? ⟨w4.heap.size, 2, none⟩ = some (.int .i64 0) := by rw [hW5]; go_simp
          have g2 : W5.frozen? ⟨w4.heap.size, 2, none⟩ = false := by rw [hW5]; go_simp
          rw [← hW5]
          clear hW5
          refine (hkd2 W5 ((H3.out.below' HB4.out).below' hB5)).mono ?_
          clear hkd2
          rintro e W6 ⟨rfl, hB6⟩
          have hl5 : w4.heap.size < W5.heap.size := cell_lt k0
          have k0 := below_at hB6 k0 hl5
          have k1 := below_at hB6 k1 hl5
          have k2 := below_at hB6 k2 hl5
          have g2 := (hB6.frozen (p := ⟨w4.heap.size, 2, none⟩) hl5).trans g2
          have hB46 : Below w4.heap.size w4 W6 := hB5.trans (hB6.mono hB5.size)
          have hT6 := (H3.out.below' HB4.out).below' hB46
          have hB16 : Below W1.heap.size W1 W6 := HB13.out.trans ((HB4.out.trans (hB46.mono HB4.out.size)).mono HB13.out.size)
          have r0 := below_at hB16 r0 hl1
          have r1 := below_at hB16 r1 hl1
          have r2 := below_at hB16 r2 hl1
          have f0 := (hB16.frozen (p := ⟨w.heap.size, 0, none⟩) hl1).trans f0
          have f1 := (hB16.frozen (p := ⟨w.heap.size, 1, none⟩) hl1).trans f1
          have f2 := (hB16.frozen (p := ⟨w.heap.size, 2, none⟩) hl1).trans f2
          have hne : w.heap.size ≠ w4.heap.size := by have h1 := HB13.out.size; have h2 := HB4.out.size; have := HB1.out.size; omega
          have hw4 : w.heap.size ≤ w4.heap.size := by have h1 := HB13.out.size; have h2 := HB4.out.size; have := HB1.out.size; omega
          have hl6 := cell_lt k0
          have hlr := cell_lt r0
          obtain ⟨sb, lt, ib, nb, S1, S2, c0, c1, ht, hn, s1, s2, dd, b1, b2⟩ := hT6
          have hfd := dirFind_any W6.drew nb S2 s.n (hn.below' (by exact belC (Below.refl _ _))) d nm
          have hbl := cell_lt c1
          have hbn4 : b ≠ w4.heap.size := fun e => by
            have h1 := (H3.out.below' HB4.out).lt b (H3.out.below' HB4.out).sb
            omega
          have q0 : W6.drew.cell? ⟨b, 1, none⟩ = some (.pointer (some ⟨nb, 0, none⟩)) := c1
          have q1 : W6.drew.cell? ⟨w4.heap.size, 0, none⟩ = some (.int .i64 d) := k0
          have HB16 := Lib.hid (HB1.out.trans (hB16.mono HB1.out.size))
          rw [← HINO.out] at hfd
          generalize (s.n.find d nm).isSome = iss at hfd
          clear hB5 hB6 hB46 hB16 ht hn s1 s2 dd b1 b2 lt c0 H3 HB4
          go_wp2_with fail
          refine (hno _ _).mono ?_
          rintro e w9 ⟨rfl, rfl⟩
          go_wp2_with fail
          have hKd : w9.drew.cell? ⟨b, 1, none⟩ = some (.pointer (some ⟨nb, 0, none⟩)) ∧ w9.drew.cell? ⟨w4.heap.size, 0, none⟩ = some (.int .i64 d) := ⟨q0, q1⟩
          have hKe : ∀ v, (w9.setCell ⟨w4.heap.size, 2, none⟩ v).drew.cell? ⟨b, 1, none⟩ = some (.pointer (some ⟨nb, 0, none⟩)) ∧ (w9.setCell ⟨w4.heap.size, 2, none⟩ v).drew.cell? ⟨w4.heap.size, 0, none⟩ = some (.int .i64 d) := fun v => ⟨by go_simp, by go_simp⟩
          go_region_held3 (fun W' => W'.cell? ⟨b, 1, none⟩ = some (.pointer (some ⟨nb, 0, none⟩)) ∧ W'.cell? ⟨w4.heap.size, 0, none⟩ = some (.int .i64 d))
            (first
              | with_reducible exact hKd
              | with_reducible exact hKe _)
            (first
              | (go_at_call 82; (with_reducible refine hfd.mono ?_); rintro e w10 ⟨rfl, rfl⟩))
          clear hKd hKe hfd
          have hz16 := HB16.out.size
          go_wp2_with fail
          refine bodyPost_ret (v := .agg #[.int .i64 d, .string (bs nm), .int .i64 ino]) (by simp [results, Tryz.results46, go_sem, *]) rfl ?_
          exact ⟨by exact belC HB16.out, rfl⟩
end Go.Proofs.YtakbalmbkokklaaGreat
