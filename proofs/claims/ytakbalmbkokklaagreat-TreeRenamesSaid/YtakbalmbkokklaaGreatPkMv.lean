import Derived.Test.YtakbalmbkokklaaGreatPkRT
/- the document's tree: Link -/
namespace Go.Proofs.YtakbalmbkokklaaGreat
open Go.RowKit Esch Go.Shelf

theorem split_len {i : Int} : ∀ (pre pre' post post' : List (Int × InS)) (x x' : InS), pre ++ (i, x) :: post = pre' ++ (i, x') :: post' → (∀ p ∈ pre, p.1 ≠ i) → (∀ p ∈ pre', p.1 ≠ i) → pre.length = pre'.length
  | [], [], _, _, _, _, _, _, _ => rfl
  | [], b :: pre', _, _, _, _, e, _, h2 => absurd (by have := (List.cons.inj e).1; rw [← this]) (h2 b (List.mem_cons_self ..))
  | a :: pre, [], _, _, _, _, e, h1, _ => absurd (by have := (List.cons.inj e).1; rw [this]) (h1 a (List.mem_cons_self ..))
  | a :: pre, b :: pre', post, post', x, x', e, h1, h2 => by
    have := split_len pre pre' post post' x x' (List.cons.inj e).2 (fun p hp => h1 p (List.mem_cons_of_mem _ hp)) (fun p hp => h2 p (List.mem_cons_of_mem _ hp))
    simp [this]
set_option maxRecDepth 100000 in
set_option maxHeartbeats 8000000 in
theorem rtLink_any (w : World) (q : Nat) (R : Nat → Prop) (s : TrS) (h : RTreeAt w q R s) (hg : GK s) (p p2 : Nm) (hp : p.length ≤ 100000) (hto : p2.length ≤ 100000) :
    Calls Tryz.prog 67 #[.pointer (some ⟨q, 0, none⟩), .string (bs p), .string (bs p2)] w (RTPost w q R ((s.lnk p p2).run s).2 (.int .i64 ((s.lnk p p2).run s).1)) := by
  have hfd := rtFind_any w q R s h hg p hp
  have hlt := Lib.hid h.lt
  have H := Lib.hid h
  obtain ⟨rr, hrr⟩ : ∃ rr, rr = s.lnk p p2 := ⟨_, rfl⟩
  rw [← hrr]
  unfold TrS.lnk at hrr
  cases hr : s.resolve p with
  | err e0 =>
    have he0 : (e0 != 0) = true := by simpa using rresolve_err hr
    rw [hr] at hfd hrr
    have hrr : rr = .err e0 := hrr
    subst hrr
    clear hr
    go_enter Tryz.func67, Tryz.ntmps67
    go_wp2_with fail
    refine hfd.mono ?_
    clear hfd
    rintro e w1 ⟨rfl, hB⟩
    have HB := Lib.hid hB
    have hz := hB.size
    rw [show (Res.err e0 : Res Int).code = e0 from rfl, show (Res.err e0 : Res Int).val 0 = 0 from rfl]
    go_wp2_with fail
    go_ret
    exact RTPost.keep H.out (by exact belC HB.out) _
  | ok i =>
    rw [hr] at hfd hrr
    have hi1 : s.t.has i = true := by
      unfold TrS.resolve at hr
      split at hr
      · cases hr
      · exact hg.good.res_has _ 1 i hg.good.h1 hr
    have HRR := Lib.hid (show rr = (stopB 63 (decide (s.kind i = 1))).bind fun _ => (s.place p2 61).bind fun x =>
  (stopB 61 (decide (x.ino ≠ 0))).bind fun _ => (stopB 66 (decide (8 ≤ (s.t.at i).links))).bind fun _ => (stopB 67 (decide (64 ≤ s.n.count x.dir))).bind fun _ => .ok (s.add x i) from hrr)
    clear hrr hr
    have hkx := fun W hW => rtKind_any W q R s hW hg i
    have hpl := fun W hW => rtPlace_any W q R s hW hg p2 hto 61
    by_cases hk : s.kind i = 1
    · have hr2 : rr = .err 63 := by rw [HRR.out, decide_eq_true hk]; rfl
      rw [hk] at hkx
      subst hr2
      clear HRR hk
      go_enter Tryz.func67, Tryz.ntmps67
      go_wp2_with fail
      refine hfd.mono ?_
      clear hfd
      rintro e w1 ⟨rfl, hB⟩
      have HB := Lib.hid hB
      have hz := hB.size
      rw [show (Res.ok i : Res Int).code = 0 from rfl, show (Res.ok i : Res Int).val 0 = i from rfl]
      go_wp2_with fail
      refine (hkx _ (H.out.below' HB.out)).mono ?_
      rintro e w3 ⟨rfl, rfl⟩
      go_wp2_with fail
      go_ret
      exact RTPost.keep H.out (by exact belC HB.out) _
    · have hk' : (s.kind i == 1) = false := by simpa using hk
      have HRA := Lib.hid (show rr = (s.place p2 61).bind fun x =>
  (stopB 61 (decide (x.ino ≠ 0))).bind fun _ => (stopB 66 (decide (8 ≤ (s.t.at i).links))).bind fun _ => (stopB 67 (decide (64 ≤ s.n.count x.dir))).bind fun _ => .ok (s.add x i) from by rw [HRR.out, decide_eq_false hk]; rfl)
      have HK := Lib.hid hk
      generalize s.kind i = kv at *
      clear HRR hk
      cases hr : s.place p2 61 with
      | err e0 =>
        have he0 : (e0 != 0) = true := by simpa using rplace_err (by decide) hr
        rw [hr] at hpl
        have hrr : rr = .err e0 := by rw [HRA.out, hr]; rfl
        subst hrr
        clear hr HRA
        go_enter Tryz.func67, Tryz.ntmps67
        go_wp2_with fail
        refine hfd.mono ?_
        clear hfd
        rintro e w1 ⟨rfl, hB⟩
        have HB := Lib.hid hB
        have hz := hB.size
        rw [show (Res.ok i : Res Int).code = 0 from rfl, show (Res.ok i : Res Int).val 0 = i from rfl]
        go_wp2_with fail
        refine (hkx _ (H.out.below' HB.out)).mono ?_
        clear hkx
        rintro e w2 ⟨rfl, rfl⟩
        go_wp2_with fail
        refine (hpl _ (H.out.below' HB.out)).mono ?_
        clear hpl
        rintro e w3 ⟨rfl, hB3⟩
        have HB3 := Lib.hid (HB.out.trans (hB3.mono HB.out.size))
        have hz3 := hB3.size
        clear hB3 hB
        rw [show (Res.err e0 : Res SpotS).code = e0 from rfl, show (Res.err e0 : Res SpotS).val spotZ = spotZ from rfl]
        unfold spotZ spV
        go_wp2_with fail
        go_ret
        exact RTPost.keep H.out (by exact belC HB3.out) _
      | ok x =>
        have hx := place_ok hr
        obtain ⟨xd, xn, xi⟩ := x
        rw [hr] at hpl
        have HRB := Lib.hid (show rr = (stopB 61 (decide (xi ≠ 0))).bind fun _ => (stopB 66 (decide (8 ≤ (s.t.at i).links))).bind fun _ => (stopB 67 (decide (64 ≤ s.n.count xd))).bind fun _ => .ok (s.add ⟨xd, xn, xi⟩ i) from by rw [HRA.out, hr]; rfl)
        clear hr HRA
        obtain ⟨ib, nb, T1, T2, L, h2, hs⟩ := RT2.of h
        have hls := rtLs h2.hn hs hg
        have H2 := Lib.hid h2
        have HS := Lib.hid hs
        have c0 := h2.c0
        have c1 := h2.c1
        have hql := cell_lt c0
        obtain ⟨pre, post, hsp, hpre⟩ := find_split s.t hi1
        have hfi : ∀ W, Below w.heap.size w W → Calls Tryz.prog 104 #[.pointer (some ⟨ib, 0, none⟩), .int .i64 i] W fun e w' => e = .returned (.int .i64 (pre.length : Nat)) ∧ w' = W := fun W hB => by
          refine (rFind_any W ib T1 s.t ((h2.below hB).ht) hg.ki i).mono ?_
          rintro e w' ⟨⟨r, rfl, hr⟩, rfl⟩
          rcases hr with ⟨hf, rfl⟩ | ⟨pre', post', hsp', hpre', rfl⟩
          · rw [hi1] at hf; cases hf
          · rw [split_len pre' pre post' post _ _ (hsp'.symm.trans hsp) hpre' hpre]
            exact ⟨rfl, rfl⟩
        obtain ⟨-, -, ao, cap, t0, -, -, -, hgr⟩ := h2.ht
        rw [hsp] at hgr
        obtain ⟨rb, ro, rfl, -, hrl, -, -, d2, -, -, -, -⟩ := inoAt hgr
        have hpll : pre.length < s.t.m.length := by rw [hsp, List.length_append, List.length_cons]; omega
        have HPL := Lib.hid hpll
        have htl := cell_lt t0
        clear h2 hs hsp hgr hpre hpll
        generalize (s.t.at i).links = lk at *
        go_enter Tryz.func67, Tryz.ntmps67
        go_wp2_with fail
        refine hfd.mono ?_
        clear hfd
        rintro e w1 ⟨rfl, hB⟩
        have HB := Lib.hid hB
        have hz := hB.size
        rw [show (Res.ok i : Res Int).code = 0 from rfl, show (Res.ok i : Res Int).val 0 = i from rfl]
        go_wp2_with fail
        refine (hkx _ (H.out.below' HB.out)).mono ?_
        clear hkx
        rintro e w2 ⟨rfl, rfl⟩
        go_wp2_with fail
        refine (hpl _ (H.out.below' HB.out)).mono ?_
        clear hpl
        rintro e w3 ⟨rfl, hB3⟩
        have hB3 := HB.out.trans (hB3.mono HB.out.size)
        have hz3 := hB3.size
        rw [show (Res.ok (SpotS.mk xd xn xi)).code = 0 from rfl, show (Res.ok (SpotS.mk xd xn xi)).val spotZ = ⟨xd, xn, xi⟩ from rfl]
        obtain ⟨W2, hW2⟩ : ∃ W2, W2 = w3.alloc (.cells #[.int .i64 xd, .string (bs xn), .int .i64 xi] 140) := ⟨_, rfl⟩
        have hB2 : Below w.heap.size w W2 := by rw [hW2]; exact belC hB3
        have x0 : W2.cell? ⟨w3.heap.size, 0, none⟩ = some (.int .i64 xd) := by rw [hW2]; go_simp
        have x1 : W2.cell? ⟨w3.heap.size, 1, none⟩ = some (.string (bs xn)) := by rw [hW2]; go_simp
        have x2 : W2.cell? ⟨w3.heap.size, 2, none⟩ = some (.int .i64 xi) := by rw [hW2]; go_simp
        obtain ⟨xb, hxb⟩ : ∃ xb, xb = w3.heap.size := ⟨_, rfl⟩
        rw [← hxb] at x0 x1 x2
        have HXB := Lib.hid hxb
        have HW2 := Lib.hid hW2
        have HB2 := Lib.hid hB2
        have HLX0 := Lib.hid (show w.heap.size ≤ xb from by rw [hxb]; exact hz3)
        clear hxb hW2 hB2 hB hB3 hz
        unfold spV
        by_cases h0 : xi ≠ 0
        · have hr2 : rr = .err 61 := by rw [HRB.out, decide_eq_true h0]; rfl
          have h0' : (xi != 0) = true := by simpa using h0
          subst hr2
          clear HRB h0
          go_wp2_with fail
          rw [← HW2.out, ← HXB.out]
          go_wp2_with fail
          go_ret
          exact RTPost.keep H.out (by exact belC HB2.out) _
        · have h0 : xi = 0 := by omega
          subst h0
          have HRC := Lib.hid (show rr = (stopB 66 (decide (8 ≤ lk))).bind fun _ => (stopB 67 (decide (64 ≤ s.n.count xd))).bind fun _ => .ok (s.add ⟨xd, xn, 0⟩ i) from HRB.out)
          clear HRB
          have c02 := below_at HB2.out c0 hql
          have c12 := below_at HB2.out c1 hql
          have t02 := below_at HB2.out t0 htl
          have d22 := below_at HB2.out d2 hrl
          have hnn : (0 : Int) ≤ ((pre.length : Nat) : Int) := by omega
          have hil : (0 : Int) ≤ (pre.length : Nat) ∧ ((pre.length : Nat) : Int) < s.t.m.length := by have := HPL.out; omega
          have hfi := hfi W2.drew HB2.out.drew
          have hKd : W2.drew.cell? ⟨q, 0, none⟩ = some (.pointer (some ⟨ib, 0, none⟩)) ∧ W2.drew.cell? ⟨ib, 0, none⟩ = some (.slice (some ⟨rb, ro, none⟩) s.t.m.length cap) ∧ W2.drew.cell? ⟨rb, ro + pre.length * 6 + 2, none⟩ = some (.int .i64 lk) := ⟨c02, t02, d22⟩
          by_cases hl8 : 8 ≤ lk
          · have hr2 : rr = .err 66 := by rw [HRC.out, decide_eq_true hl8]; rfl
            have hl8' : decide ((8 : Int) ≤ lk) = true := decide_eq_true hl8
            subst hr2
            clear HRC hl8
            go_wp2_with fail
            rw [← HW2.out, ← HXB.out]
            go_wp2_with fail
            go_region_held3 (fun W' => W'.cell? ⟨q, 0, none⟩ = some (.pointer (some ⟨ib, 0, none⟩)) ∧ W'.cell? ⟨ib, 0, none⟩ = some (.slice (some ⟨rb, ro, none⟩) s.t.m.length cap) ∧ W'.cell? ⟨rb, ro + pre.length * 6 + 2, none⟩ = some (.int .i64 lk))
              (first
                | with_reducible exact hKd)
              (first
                | (go_at_call 104; (with_reducible refine hfi.mono ?_); rintro e w5 ⟨rfl, rfl⟩))
            go_wp2_with fail
            go_ret
            exact RTPost.keep H.out (by exact belC HB2.out) _
          · have hl8' : decide ((8 : Int) ≤ lk) = false := decide_eq_false hl8
            have HRD := Lib.hid (show rr = (stopB 67 (decide (64 ≤ s.n.count xd))).bind fun _ => .ok (s.add ⟨xd, xn, 0⟩ i) from by rw [HRC.out, decide_eq_false hl8]; rfl)
            clear HRC hl8
            have hls := hls W2.drew.drew HB2.out.drew.drew xd
            have hKl : W2.drew.drew.cell? ⟨q, 1, none⟩ = some (.pointer (some ⟨nb, 0, none⟩)) ∧ W2.drew.drew.cell? ⟨xb, 0, none⟩ = some (.int .i64 xd) := ⟨c12, x0⟩
            have HLQ := Lib.hid (cell_lt hKl.1)
            have HLX := Lib.hid (cell_lt hKl.2)
            have HX1 := Lib.hid (show W2.drew.drew.cell? ⟨xb, 1, none⟩ = some (.string (bs xn)) from x1)
            have HBdd := Lib.hid (show Below w.heap.size w W2.drew.drew from HB2.out.drew.drew)
            by_cases hc : 64 ≤ s.n.count xd
            · have hr2 : rr = .err 67 := by rw [HRD.out, decide_eq_true hc]; rfl
              have HC := Lib.hid hc
              subst hr2
              clear HRD hc
              go_wp2_with fail
              rw [← HW2.out, ← HXB.out]
              go_wp2_with fail
              go_region_held3 (fun W' => W'.cell? ⟨q, 0, none⟩ = some (.pointer (some ⟨ib, 0, none⟩)) ∧ W'.cell? ⟨ib, 0, none⟩ = some (.slice (some ⟨rb, ro, none⟩) s.t.m.length cap) ∧ W'.cell? ⟨rb, ro + pre.length * 6 + 2, none⟩ = some (.int .i64 lk))
                (first
                  | with_reducible exact hKd)
                (first
                  | (go_at_call 104; (with_reducible refine hfi.mono ?_); rintro e w5 ⟨rfl, rfl⟩))
              go_wp2_with fail
              go_region_held3 (fun W' => W'.cell? ⟨q, 1, none⟩ = some (.pointer (some ⟨nb, 0, none⟩)) ∧ W'.cell? ⟨xb, 0, none⟩ = some (.int .i64 xd))
                (first
                  | with_reducible exact hKl
                  | with_reducible exact hK2)
                (first
                  | (go_at_call 101; (with_reducible refine hls.mono ?_); rintro e w4 ⟨a1, n1, k1, rfl, hn, hB4⟩
                     have hK2 : w4.cell? ⟨q, 1, none⟩ = some (.pointer (some ⟨nb, 0, none⟩)) ∧ w4.cell? ⟨xb, 0, none⟩ = some (.int .i64 xd) := ⟨below_at hB4 hKl.1 HLQ.out, below_at hB4 hKl.2 HLX.out⟩
                     have hn0 : decide ((64 : Int) ≤ (n1 : Int)) = true := decide_eq_true (by rw [hn]; exact HC.out)
                     have y1 := below_at hB4 HX1.out HLX.out
                     have HB4 := Lib.hid (HBdd.out.trans (hB4.mono HBdd.out.size))
                     clear hB4 hn))
              go_wp2_with fail
              go_ret
              exact RTPost.keep H.out (by exact belC HB4.out) _
            · have HC := Lib.hid (show s.n.count xd < 64 by omega)
              have hr2 : rr = .ok ⟨(s.t.link i 1).2, (s.n.add xd xn i).2⟩ := by rw [HRD.out, decide_eq_false hc]; rfl
              have hf0 : s.n.find xd xn = none := hg.good.zero hx.ino.symm
              have hdl : 1 ≤ xd ∧ xd ≤ 2147483647 := hg.good.dlt hx.dir
              have hnmx : nameL xn = true := hx.name
              have hi2 : 1 ≤ i ∧ i ≤ 2147483647 := by have := hg.good.ino i hi1; have := hg.good.next; omega
              have hae := add_eq hg.good hnmx hdl hi2 hf0 HC.out
              have hcnt : (namesD' L xd).length < 64 := by
                have e : ((namesD' L xd).length : Int) = s.n.count xd := by rw [HS.out.cnt, hg.good.ok.n.cnt]
                have := HC.out
                omega
              have hgl : get L (xd, xn) = none := by rw [HS.out.get hg.good.ok.n.nd]; exact hf0
              have HINS := Lib.hid (fun kk (hk : InsAt L (xd, xn) kk) => (show Srt (s.n.add xd xn i).2.m (L.take kk ++ ((xd, xn), i) :: L.drop kk) by rw [hae]; exact HS.out.ins hk (get_none.1 hf0)))
              have hLl := hg.L HS.out
              have had := fun W T (hW : RNamAt W nb T L) => rNAdd_ok W nb T L hW (by omega) xd i xn hnmx hdl.1 hdl.2 hi2.1 hi2.2 hgl hcnt
              have hlk := fun W (hB : Below w.heap.size w W) => rLink_any W ib T1 s.t ((H2.out.below hB).ht) hg.ki hg.good.ok.t.x i 1 (Or.inl rfl)
              subst hr2
              generalize (s.n.add xd xn i).2 = n9 at *
              generalize s.t.link i 1 = lt9 at *
              obtain ⟨le9, t9⟩ := lt9
              clear HRD hc hae hcnt hgl hf0 hdl hi2 hLl hnmx
              go_wp2_with fail
              rw [← HW2.out, ← HXB.out]
              go_wp2_with fail
              go_region_held3 (fun W' => W'.cell? ⟨q, 0, none⟩ = some (.pointer (some ⟨ib, 0, none⟩)) ∧ W'.cell? ⟨ib, 0, none⟩ = some (.slice (some ⟨rb, ro, none⟩) s.t.m.length cap) ∧ W'.cell? ⟨rb, ro + pre.length * 6 + 2, none⟩ = some (.int .i64 lk))
                (first
                  | with_reducible exact hKd)
                (first
                  | (go_at_call 104; (with_reducible refine hfi.mono ?_); rintro e w5 ⟨rfl, rfl⟩))
              go_wp2_with fail
              go_region_held3 (fun W' => W'.cell? ⟨q, 1, none⟩ = some (.pointer (some ⟨nb, 0, none⟩)) ∧ W'.cell? ⟨xb, 0, none⟩ = some (.int .i64 xd))
                (first
                  | with_reducible exact hKl
                  | with_reducible exact hK2)
                (first
                  | (go_at_call 101; (with_reducible refine hls.mono ?_); rintro e w4 ⟨a1, n1, k1, rfl, hn, hB4⟩
                     have hK2 : w4.cell? ⟨q, 1, none⟩ = some (.pointer (some ⟨nb, 0, none⟩)) ∧ w4.cell? ⟨xb, 0, none⟩ = some (.int .i64 xd) := ⟨below_at hB4 hKl.1 HLQ.out, below_at hB4 hKl.2 HLX.out⟩
                     have hn0 : decide ((64 : Int) ≤ (n1 : Int)) = false := decide_eq_false (by rw [hn]; have := HC.out; omega)
                     have y1 := below_at hB4 HX1.out HLX.out
                     have HB4 := Lib.hid (HBdd.out.trans (hB4.mono HBdd.out.size))
                     clear hB4 hn))
              have hlk4 := hlk w4 HB4.out
              have c04 := below_at HB4.out c0 hql
              have hnx4 : ¬ T1 xb := fun hk => by have := H2.out.lt _ (H2.out.s1 _ hk); have := HLX0.out; omega
              have HNX4 := Lib.hid hnx4
              clear hlk hnx4
              go_wp2_with fail
              refine hlk4.mono ?_
              clear hlk4
              rintro e w6 ⟨rfl, ht6, hM6⟩
              have hR6 := (H2.out.below HB4.out).ino ht6 hM6
              have z06 := hM6.at hK2.2 HNX4.out
              have z16 := hM6.at y1 HNX4.out
              have HR6 := Lib.hid hR6
              have c16 := hR6.1.c1
              have hBd6 : Below w6.heap.size w6 w6.drew := by exact belC (Below.refl _ _)
              have had6 := had w6.drew _ (hR6.1.below hBd6).hn
              clear hR6 ht6 hM6 had hBd6
              have hKe : w6.drew.cell? ⟨q, 1, none⟩ = some (.pointer (some ⟨nb, 0, none⟩)) ∧ w6.drew.cell? ⟨xb, 0, none⟩ = some (.int .i64 xd) ∧ w6.drew.cell? ⟨xb, 1, none⟩ = some (.string (bs xn)) := ⟨c16, z06, z16⟩
              have HT2q := Lib.hid (show ¬ T2 q from H2.out.b2)
              have HT2x := Lib.hid (show ¬ T2 xb from fun hk => by have := H2.out.lt _ (H2.out.s2 _ hk); have := HLX0.out; omega)
              go_wp2_with fail
              go_region_held3 (fun W' => W'.cell? ⟨q, 1, none⟩ = some (.pointer (some ⟨nb, 0, none⟩)) ∧ W'.cell? ⟨xb, 0, none⟩ = some (.int .i64 xd) ∧ W'.cell? ⟨xb, 1, none⟩ = some (.string (bs xn)))
                (first
                  | with_reducible exact hKe
                  | with_reducible exact hK7)
                (first
                  | (go_at_call 106; (with_reducible refine had6.mono ?_); rintro e w7 ⟨kk, hk7, rfl, hn7, hM7⟩
                     have hK7 : w7.cell? ⟨q, 1, none⟩ = some (.pointer (some ⟨nb, 0, none⟩)) ∧ w7.cell? ⟨xb, 0, none⟩ = some (.int .i64 xd) ∧ w7.cell? ⟨xb, 1, none⟩ = some (.string (bs xn)) := ⟨hM7.at hKe.1 HT2q.out, hM7.at hKe.2.1 HT2x.out, hM7.at hKe.2.2 HT2x.out⟩
                     have hBd7 : Below w6.heap.size w6 w6.drew := by exact belC (Below.refl _ _)
                     have hR7 := (HR6.out.1.below hBd7).nam hn7 hM7
                     have hP7 : RTPost w6.drew q _ ⟨t9, n9⟩ (.int .i64 0) (.returned (.int .i64 0)) w7 := ⟨rfl, hR7.1.to (HINS.out kk hk7), hR7.2⟩
                     have hP6 := hP7.after HR6.out.1.lt hBd7
                     have hP4 := rtp_step (fun k hk => Nat.lt_of_lt_of_le (H2.out.lt k hk) HB4.out.size) HR6.out.2 hP6
                     have hP3 : RTPost w4 q R ⟨t9, n9⟩ (.int .i64 0) (.returned (.int .i64 0)) w7 := ⟨rfl, hP4⟩
                     have HFIN := Lib.hid (hP3.after hlt.out HB4.out)
                     clear hk7 hn7 hM7 hR7 hP7 hP6 hP4 hP3 hBd7))
              go_wp2_with fail
              go_ret
              exact ⟨rfl, HFIN.out⟩
end Go.Proofs.YtakbalmbkokklaaGreat
/- a name goes from its place to another one: plain -/
namespace Esch
open Go

theorem dadd_eq {s : DirS} {d i : Int} {n : Nm} (hn : nameL n = true) (hd : 1 ≤ d ∧ d ≤ 2147483647) (hi : 1 ≤ i ∧ i ≤ 2147483647) (hf : s.find d n = none) (hc : s.count d < 64) :
    (s.add d n i).2.m = s.m ++ [((d, n), i)] := by
  unfold DirS.add
  rw [if_neg (by rw [hn]; decide), if_neg (by omega), if_neg (by rw [hf]; simp), if_neg (by omega)]
  exact set_miss _ _ _ (get_none.1 hf)
structure MvOk (n : DirS) (L : List Ent) (xd xi yd : Int) (xn yn : Nm) : Prop where
  ex : ∃ pre post, L = pre ++ ((xd, xn), xi) :: post ∧ (∀ e ∈ pre, e.1 ≠ (xd, xn)) ∧ get (pre ++ post) (yd, yn) = none ∧ (Go.Proofs.YtakbalmbkokklaaGreat.namesD' (pre ++ post) yd).length < 64 ∧ (pre ++ post).length ≤ L.length ∧
    ∀ k, Go.Proofs.YtakbalmbkokklaaGreat.InsAt (pre ++ post) (yd, yn) k → Srt (((n.drop xd xn).2.add yd yn xi).2).m ((pre ++ post).take k ++ ((yd, yn), xi) :: (pre ++ post).drop k)
theorem mv_plain {n : DirS} (hok : n.ok) {L : List Ent} (hs : Srt n.m L) {xd yd xi : Int} {xn yn : Nm} (hf : n.find xd xn = some xi) (hf' : n.find yd yn = none) (hn : nameL yn = true) (hd : 1 ≤ yd ∧ yd ≤ 2147483647) (hi : 1 ≤ xi ∧ xi ≤ 2147483647)
    (hc : n.count yd < 64 ∨ yd = xd) : MvOk n L xd xi yd xn yn := by
  have hgl : get L (xd, xn) = some xi := by rw [hs.get hok.nd]; exact hf
  obtain ⟨pre, post, hL, hpre⟩ := get_some hgl
  subst hL
  have hs2 := hs.del hok.nd
  have hok2 : ((n.drop xd xn).2).ok := hok.drop xd xn
  have hde : (n.drop xd xn).2.m = del n.m (xd, xn) := by rw [drop_eq hf]
  have hf2 : (n.drop xd xn).2.find yd yn = none := by
    unfold DirS.find
    rw [hde, get_del]
    split
    · rfl
    · exact hf'
  have hc2 : (n.drop xd xn).2.count yd < 64 := by
    rw [count_drop hf]
    have := hok.le xd
    split
    · omega
    · rename_i e
      rcases hc with hc | hc
      · exact hc
      · exact absurd hc.symm e
  rw [← hde] at hs2
  have hg2 : get (pre ++ post) (yd, yn) = none := by rw [hs2.get hok2.nd]; exact hf2
  refine ⟨pre, post, rfl, hpre, hg2, ?_, by simp, fun k hk => ?_⟩
  · have e : ((Go.Proofs.YtakbalmbkokklaaGreat.namesD' (pre ++ post) yd).length : Int) = (n.drop xd xn).2.count yd := by rw [hs2.cnt, hok2.cnt]
    omega
  · rw [dadd_eq hn hd hi hf2 hc2]
    exact hs2.ins hk (get_none.1 hf2)
theorem renS_no {s : TrS} {x y : SpotS} (h : y.ino = 0) : s.renS x y = ⟨s.t, ((s.n.drop x.dir x.name).2.add y.dir y.name x.ino).2⟩ := by
  unfold TrS.renS
  simp only
  rw [if_neg (by rw [h]; decide)]
theorem renS_yes {s : TrS} {x y : SpotS} (h : y.ino ≠ 0) : s.renS x y = ⟨(s.drop y).t, (((s.drop y).n.drop x.dir x.name).2.add y.dir y.name x.ino).2⟩ := by
  unfold TrS.renS
  simp only
  rw [if_pos h]
/-- behind the drop of what stood at the new place -/
theorem mv_drop {s : TrS} (h : GoodS s) {x y : SpotS} (hx : s.n.find x.dir x.name = some x.ino) (hy : s.n.find y.dir y.name = some y.ino) (hne : x.ino ≠ y.ino) : (s.drop y).n.ok ∧ (s.drop y).n.find x.dir x.name = some x.ino ∧ (s.drop y).n.find y.dir y.name = none ∧ (s.drop y).n.count y.dir < 64 ∧ (s.drop y).n.m.length ≤ s.n.m.length := by
  have he : (s.drop y).n = (s.n.drop y.dir y.name).2 := rfl
  have hde : (s.n.drop y.dir y.name).2.m = del s.n.m (y.dir, y.name) := by rw [drop_eq hy]
  rw [he]
  refine ⟨h.ok.n.drop _ _, ?_, ?_, ?_, ddrop_len _ _ _⟩
  · unfold DirS.find
    rw [hde, get_del, if_neg]
    · exact hx
    · intro e
      have h1 : get s.n.m (y.dir, y.name) = some y.ino := hy
      have h2 : get s.n.m (x.dir, x.name) = some x.ino := hx
      rw [e, h2] at h1
      exact hne (Option.some.inj h1)
  · unfold DirS.find
    rw [hde, get_del, if_pos rfl]
  · rw [count_drop hy, if_pos rfl]
    have := h.ok.n.le y.dir
    omega
end Esch
