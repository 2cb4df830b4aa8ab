import Derived.Test.YtakbalmbkokklaaGreatRTree
/- the document's tree: place -/
namespace Go.Proofs.YtakbalmbkokklaaGreat
open Go.RowKit Esch Go.Shelf

def spotZ : SpotS := ⟨0, [], 0⟩
def spV (x : SpotS) : Value := .agg #[.int .i64 x.dir, .string (bs x.name), .int .i64 x.ino]
def RPlacePost (w : World) (r : Res SpotS) (e : Ending) (w' : World) : Prop := e = .returned (.tuple #[spV (r.val spotZ), .int .i64 r.code]) ∧ Below w.heap.size w w'
/-- the result's box -/
structure SpBox (w : World) (b : Nat) : Prop where
  g0 : w.cell? ⟨b, 0, none⟩ = some (.int .i64 0)
  g1 : w.cell? ⟨b, 1, none⟩ = some (.string ⟨#[]⟩)
  g2 : w.cell? ⟨b, 2, none⟩ = some (.int .i64 0)
  v0 : w.frozen? ⟨b, 0, none⟩ = false
  v1 : w.frozen? ⟨b, 1, none⟩ = false
  v2 : w.frozen? ⟨b, 2, none⟩ = false
theorem SpBox.below {w w' : World} {b : Nat} (h : SpBox w b) (hB : Below w.heap.size w w') : SpBox w' b := by
  obtain ⟨g0, g1, g2, v0, v1, v2⟩ := h
  have hl := cell_lt g0
  exact ⟨below_at hB g0 hl, below_at hB g1 hl, below_at hB g2 hl, (hB.frozen (p := ⟨b, 0, none⟩) hl).trans v0, (hB.frozen (p := ⟨b, 1, none⟩) hl).trans v1, (hB.frozen (p := ⟨b, 2, none⟩) hl).trans v2⟩
theorem res_err (s : TrS) : ∀ (k : List Nm) (d e : Int), s.res d k = .err e → e = 60 ∨ e = 62 := by
  intro k
  induction k with
  | nil => intro d e h; cases h
  | cons n k ih =>
    intro d e h
    unfold TrS.res at h
    split at h
    · cases h; exact Or.inr rfl
    · split at h
      · cases h; exact Or.inl rfl
      · exact ih _ _ h
set_option maxRecDepth 100000 in
set_option maxHeartbeats 8000000 in
theorem rtPlace_any (w : World) (q : Nat) (R : Nat → Prop) (s : TrS) (h : RTreeAt w q R s) (hg : GK s) (p : Nm) (hp : p.length ≤ 100000) (root : Int) :
    Calls Tryz.prog 99 #[.pointer (some ⟨q, 0, none⟩), .string (bs p), .int .i64 root] w (RPlacePost w (s.place p root)) := by
  obtain ⟨W1, hW1⟩ : ∃ W1, W1 = w.alloc (.cells #[.int .i64 0, .string ⟨#[]⟩, .int .i64 0] 140) := ⟨_, rfl⟩
  have hB1 : Below w.heap.size w W1 := by rw [hW1]; exact belC (Below.refl _ _)
  have hX1 : SpBox W1 w.heap.size := by rw [hW1]; exact ⟨by go_simp, by go_simp, by go_simp, by go_simp, by go_simp, by go_simp⟩
  have hgd := rGood_any W1 p hp
  have hup := fun W => rUp_any W p hp
  have HW1 := Lib.hid hW1
  have HB1 := Lib.hid hB1
  have HX1 := Lib.hid hX1
  have H := Lib.hid h
  clear hW1 hB1 hX1
  unfold TrS.place
  cases hr : namesOf p with
  | none =>
    rw [hr] at hgd
    clear hr hup h
    simp only [Option.isSome_none] at hgd
    go_enter Tryz.func99, Tryz.ntmps99
    go_wp2_with fail
    rw [← HW1.out]
    refine hgd.mono ?_
    clear hgd
    rintro e w2 ⟨rfl, hB2⟩
    have HX2 := Lib.hid (HX1.out.below hB2)
    have HB2 := Lib.hid (HB1.out.trans (hB2.mono HB1.out.size))
    clear hB2
    obtain ⟨g0, g1, g2, v0, v1, v2⟩ := HX2.out
    have hlb := cell_lt g0
    go_wp2_with fail
    refine bodyPost_ret (v := .tuple #[.agg #[.int .i64 0, .string ⟨#[]⟩, .int .i64 0], .int .i64 11]) (by simp [results, Tryz.results99, go_sem, *]) rfl ?_
    exact ⟨rfl, by exact belC HB2.out⟩
  | some l =>
    rw [hr] at hgd hup
    simp only [Option.isSome_some] at hgd
    have hns := namesOf_some hr
    clear hr
    by_cases h0 : l = []
    · subst h0
      rw [show upOf (some ([] : List Nm)) = none from rfl] at hup
      clear h hns
      go_enter Tryz.func99, Tryz.ntmps99
      go_wp2_with fail
      rw [← HW1.out]
      refine hgd.mono ?_
      clear hgd
      rintro e w2 ⟨rfl, hB2⟩
      have HX2 := Lib.hid (HX1.out.below hB2)
      have HB2 := Lib.hid (HB1.out.trans (hB2.mono HB1.out.size))
      clear hB2
      go_wp2_with fail
      refine (hup _).mono ?_
      clear hup
      rintro e w3 ⟨hB3, rfl⟩
      obtain ⟨W4, hW4⟩ : ∃ W4, W4 = w3.alloc (.cells #[.string ⟨#[]⟩, .string ⟨#[]⟩, .bool false] 168) := ⟨_, rfl⟩
      have hz3 := hB3.size
      have hB4 : Below w2.heap.size w2 W4 := by rw [hW4]; exact belC hB3
      have HX3 := HX2.out.below hB3
      have HX4 := Lib.hid (HX2.out.below hB4)
      have HB4 := Lib.hid (HB2.out.trans (hB4.mono HB2.out.size))
      have HW4 := Lib.hid hW4
      obtain ⟨a0, a1, a2, b0, b1, b2⟩ := HX3
      have hlb3 := cell_lt a0
      have HB3 := Lib.hid (HB2.out.trans (hB3.mono HB2.out.size))
      have hwz : w.heap.size ≤ w3.heap.size := HB3.out.size
      clear hB3 hB4 hW4
      go_wp2_with fail
      refine bodyPost_ret (v := .tuple #[.agg #[.int .i64 0, .string ⟨#[]⟩, .int .i64 0], .int .i64 root]) (by simp [results, Tryz.results99, go_sem, *]) rfl ?_
      exact ⟨rfl, by exact belC HB3.out⟩
    · rw [show upOf (some l) = some (l.dropLast, l.getLastD []) by unfold upOf; simp [h0]] at hup
      have hup : ∀ W, Calls Tryz.prog 127 #[.string (bs p)] W (fun e w' => Below W.heap.size W w' ∧ e = .returned (.agg #[.string (bs (pathL l.dropLast)), .string (bs (l.getLastD [])), .bool true])) := hup
      show Calls _ _ _ w (RPlacePost w (if l = [] then .err root else (s.res 1 l.dropLast).bind fun d => if s.kind d ≠ 1 then .err 62 else .ok ⟨d, l.getLastD [], (s.n.find d (l.getLastD [])).getD 0⟩))
      rw [if_neg h0]
      have hnd : ∀ a ∈ l.dropLast, nameL a = true := fun a ha => hns.2.1 a (List.dropLast_subset l ha)
      have hl8 : l.dropLast.length ≤ 8 := by rw [List.length_dropLast]; have := hns.1; omega
      have hpl : (pathL l.dropLast).length ≤ 100000 := by
        unfold pathL
        split
        · exact (by decide : ([47] : Nm).length ≤ 100000)
        · have := pathT_len hnd; omega
      have hfd : ∀ W, RTreeAt W q R s → Calls Tryz.prog 103 #[.pointer (some ⟨q, 0, none⟩), .string (bs (pathL l.dropLast))] W (RFindPost W (s.res 1 l.dropLast)) := fun W hW => by
        have := rtFind_any W q R s hW hg (pathL l.dropLast) hpl
        unfold TrS.resolve at this
        rw [namesOf_path hl8 hnd] at this
        exact this
      have hkd := fun W hW i => rtKind_any W q R s hW hg i
      have hre := res_err s l.dropLast 1
      generalize pathL l.dropLast = dp at hfd hup
      generalize s.res 1 l.dropLast = r at hfd hre ⊢
      generalize l.getLastD [] = nn at hup ⊢
      obtain ⟨rr, hrr⟩ : ∃ rr : Res SpotS, rr = r.bind fun d => if s.kind d ≠ 1 then .err 62 else .ok (SpotS.mk d nn ((s.n.find d nn).getD 0)) := ⟨_, rfl⟩
      rw [← hrr]
      have HRR := Lib.hid hrr
      clear hrr
      obtain ⟨rq, lt, ib, nb, T1, T2, L, c0, c1, ht, hn, hs, s1, s2, d, b1, b2⟩ := h
      have hgt : ∀ W, Below w.heap.size w W → ∀ dd n, Calls Tryz.prog 128 #[.pointer (some ⟨nb, 0, none⟩), .int .i64 dd, .string (bs n)] W fun e w' => e = .returned (.tuple #[.int .i64 ((s.n.find dd n).getD 0), .bool (s.n.find dd n).isSome]) ∧ w' = W := fun W hB dd n => by
        have := rNFind_any W nb T2 L (hn.below' hB) (by have := hg.L hs; omega) dd n
        rw [hs.get hg.good.ok.n.nd] at this
        exact this
      have hql := cell_lt c1
      clear ht hn hs s1 s2 d b1 b2 lt c0 hnd hl8 hpl hns h0
      go_enter Tryz.func99, Tryz.ntmps99
      go_wp2_with fail
      rw [← HW1.out]
      refine hgd.mono ?_
      clear hgd
      rintro e w2 ⟨rfl, hB2⟩
      have HX2 := Lib.hid (HX1.out.below hB2)
      have HB2 := Lib.hid (HB1.out.trans (hB2.mono HB1.out.size))
      clear hB2
      go_wp2_with fail
      refine (hup _).mono ?_
      clear hup
      rintro e w3 ⟨hB3, rfl⟩
      have hz3 := hB3.size
      obtain ⟨W4, hW4⟩ : ∃ W4, W4 = w3.alloc (.cells #[.string (bs dp), .string (bs nn), .bool true] 168) := ⟨_, rfl⟩
      have hB4 : Below w2.heap.size w2 W4 := by rw [hW4]; exact belC hB3
      have u0 : W4.cell? ⟨w3.heap.size, 0, none⟩ = some (.string (bs dp)) := by rw [hW4]; go_simp
      have u1 : W4.cell? ⟨w3.heap.size, 1, none⟩ = some (.string (bs nn)) := by rw [hW4]; go_simp
      have HX4 := Lib.hid (HX2.out.below hB4)
      have HB4 := Lib.hid (HB2.out.trans (hB4.mono HB2.out.size))
      have HW4 := Lib.hid hW4
      obtain ⟨ub, hub⟩ : ∃ ub, ub = w3.heap.size := ⟨_, rfl⟩
      rw [← hub] at u0 u1
      have HUB := Lib.hid hub
      have hul := cell_lt u0
      have c14 := below_at HB4.out c1 hql
      clear hB3 hB4 hW4 hub hz3
      go_wp2_with fail
      rw [← HW4.out, ← HUB.out]
      refine (hfd _ (H.out.below' HB4.out)).mono ?_
      clear hfd
      rintro e w5 ⟨rfl, hB5⟩
      have HX5 := Lib.hid (HX4.out.below hB5)
      have u15 := below_at hB5 u1 hul
      have c15 := below_at hB5 c14 (cell_lt c14)
      have HB5 := Lib.hid (HB4.out.trans (hB5.mono HB4.out.size))
      have hul5 := cell_lt u15
      have hql5 := cell_lt c15
      have hwz : w.heap.size ≤ w5.heap.size := HB5.out.size
      clear hB5 u0 u1 c14 hul
      cases r with
      | err e0 =>
        have he0 : (e0 != 0) = true := by rcases hre e0 rfl with e | e <;> subst e <;> rfl
        have hrr2 : rr = .err e0 := HRR.out
        subst hrr2
        clear HRR
        obtain ⟨g0, g1, g2, v0, v1, v2⟩ := HX5.out
        have hlb := cell_lt g0
        have hnv : (Res.err e0 : Res Int).code = e0 := rfl
        rw [hnv]
        generalize (Res.err e0 : Res Int).val 0 = vv
        clear hkd hgt
        go_wp2_with fail
        refine bodyPost_ret (v := .tuple #[.agg #[.int .i64 0, .string ⟨#[]⟩, .int .i64 0], .int .i64 e0]) (by simp [results, Tryz.results99, go_sem, *]) rfl ?_
        exact ⟨rfl, by exact belC HB5.out⟩
      | ok d0 =>
        have hkk := hkd w5 (H.out.below' HB5.out) d0
        have hrr2 : rr = if s.kind d0 ≠ 1 then .err 62 else .ok ⟨d0, nn, (s.n.find d0 nn).getD 0⟩ := HRR.out
        have hgd := hgt w5.drew HB5.out.drew d0 nn
        obtain ⟨g0, g1, g2, v0, v1, v2⟩ := HX5.out
        have hlb := cell_lt g0
        rw [show (Res.ok d0 : Res Int).val 0 = d0 from rfl, show (Res.ok d0 : Res Int).code = 0 from rfl]
        clear hkd hgt hre HRR
        by_cases hk1 : s.kind d0 ≠ 1
        · rw [if_pos hk1] at hrr2
          subst hrr2
          have hk2 : (s.kind d0 != 1) = true := by simpa using hk1
          generalize s.kind d0 = kv at *
          clear hk1 hgd
          go_wp2_with fail
          refine hkk.mono ?_
          clear hkk
          rintro e w6 ⟨rfl, rfl⟩
          go_wp2_with fail
          refine bodyPost_ret (v := .tuple #[.agg #[.int .i64 0, .string ⟨#[]⟩, .int .i64 0], .int .i64 62]) (by simp [results, Tryz.results99, go_sem, *]) rfl ?_
          exact ⟨rfl, by exact belC HB5.out⟩
        · rw [if_neg hk1] at hrr2
          subst hrr2
          have hk2 : (s.kind d0 != 1) = false := by simpa using hk1
          generalize s.kind d0 = kv at *
          generalize s.n.find d0 nn = fd at *
          have hKd : w5.drew.cell? ⟨q, 1, none⟩ = some (.pointer (some ⟨nb, 0, none⟩)) ∧ w5.drew.cell? ⟨ub, 1, none⟩ = some (.string (bs nn)) := ⟨c15, u15⟩
          clear hk1
          go_wp2_with fail
          refine hkk.mono ?_
          clear hkk
          rintro e w6 ⟨rfl, rfl⟩
          go_wp2_with fail
          go_region_held3 (fun W' => W'.cell? ⟨q, 1, none⟩ = some (.pointer (some ⟨nb, 0, none⟩)) ∧ W'.cell? ⟨ub, 1, none⟩ = some (.string (bs nn)))
            (first
              | with_reducible exact hKd
              | with_reducible exact hK2)
            (first
              | (go_at_call 128; (with_reducible refine hgd.mono ?_); rintro e w7 ⟨rfl, rfl⟩
                 have hK2 := hKd))
          go_wp2_with fail
          refine bodyPost_ret (v := .tuple #[.agg #[.int .i64 d0, .string (bs nn), .int .i64 (fd.getD 0)], .int .i64 0]) (by simp [results, Tryz.results99, go_sem, *]) rfl ?_
          exact ⟨rfl, by exact belC HB5.out⟩
end Go.Proofs.YtakbalmbkokklaaGreat
/- the document's tree: a name goes -/
namespace Go.Proofs.YtakbalmbkokklaaGreat
open Go.RowKit Esch Go.Shelf

def RTPost (w : World) (q : Nat) (R : Nat → Prop) (s' : TrS) (v : Value) (e : Ending) (w' : World) : Prop := e = .returned v ∧ RTreeAt w' q (growS R w w') s' ∧ Mod R w w'
theorem growS_lt {T : Nat → Prop} {w w' : World} (h : ∀ k, T k → k < w.heap.size) (hz : w.heap.size ≤ w'.heap.size) : ∀ k, growS T w w' k → k < w'.heap.size := fun k hk => by
  rcases hk with hk | hk
  · have := h k hk; omega
  · exact hk.2
/-- behind a call on the names and one on the inodes -/
theorem rtree_both {w W1 w2 w3 : World} {q ib nb : Nat} {R T1 T2 : Nat → Prop} {t' : TabS} {n' : DirS} {L' : List Ent} (rq : R q) (lt : ∀ k, R k → k < w.heap.size)
    (c0 : w.cell? ⟨q, 0, none⟩ = some (.pointer (some ⟨ib, 0, none⟩))) (c1 : w.cell? ⟨q, 1, none⟩ = some (.pointer (some ⟨nb, 0, none⟩))) (s1 : ∀ k, T1 k → R k) (s2 : ∀ k, T2 k → R k) (d : ∀ k, T1 k → ¬ T2 k) (b1 : ¬ T1 q) (b2 : ¬ T2 q)
    (hB1 : Below w.heap.size w W1) (hn : RNamAt w2 nb (growS T2 W1 w2) L') (hM2 : Mod T2 W1 w2) (ht : RTabAt w3 ib (growS T1 w2 w3) t') (hM3 : Mod T1 w2 w3) (hs : Srt n'.m L') :
    RTreeAt w3 q (growS R w w3) ⟨t', n'⟩ ∧ Mod R w w3 := by
  have hz1 := hB1.size
  have hz2 := hM2.size
  have hz3 := hM3.size
  have hq := lt q rq
  have hM : Mod R w w3 := ((Mod.of_below hB1).trans (hM2.mono (fun k _ hk => s2 k hk))).trans (hM3.mono (fun k _ hk => s1 k hk))
  have hc : ∀ o v, w.cell? ⟨q, o, none⟩ = some v → w3.cell? ⟨q, o, none⟩ = some v := fun o v hv => hM3.at (hM2.at (below_at hB1 hv hq) b2) b1
  refine ⟨⟨Or.inl rq, growS_lt lt hM.size, ib, nb, growS T1 w2 w3, growS T2 W1 w2, L', hc 0 _ c0, hc 1 _ c1, ht, hn.mod hM3 (fun k hk h1 => ?_), hs, fun k hk => ?_, fun k hk => ?_, fun k hk hk2 => ?_, fun hk => ?_, fun hk => ?_⟩, hM⟩
  · rcases hk with hk | hk
    · exact d k h1 hk
    · have := lt k (s1 k h1); omega
  · rcases hk with hk | hk
    · exact Or.inl (s1 k hk)
    · exact Or.inr ⟨by omega, hk.2⟩
  · rcases hk with hk | hk
    · exact Or.inl (s2 k hk)
    · exact Or.inr ⟨by omega, by omega⟩
  · rcases hk with hk | hk
    · rcases hk2 with hk2 | hk2
      · exact d k hk hk2
      · have := lt k (s1 k hk); omega
    · rcases hk2 with hk2 | hk2
      · have := lt k (s2 k hk2); omega
      · omega
  · rcases hk with hk | hk
    · exact b1 hk
    · omega
  · rcases hk with hk | hk
    · exact b2 hk
    · omega
set_option maxRecDepth 100000 in
set_option maxHeartbeats 8000000 in
theorem rtGone_any (w : World) (q : Nat) (R : Nat → Prop) (s : TrS) (h : RTreeAt w q R s) (hg : GK s) (x : SpotS) (hf : s.n.find x.dir x.name = some x.ino) :
    Calls Tryz.prog 102 #[.pointer (some ⟨q, 0, none⟩), spV x] w (RTPost w q R (s.drop x) (.tuple #[])) := by
  obtain ⟨xd, xn, xi⟩ := x
  simp only [spV] at hf ⊢
  obtain ⟨W1, hW1⟩ : ∃ W1, W1 = w.alloc (.cells #[.int .i64 xd, .string (bs xn), .int .i64 xi] 140) := ⟨_, rfl⟩
  have hB1 : Below w.heap.size w W1 := by rw [hW1]; exact belC (Below.refl _ _)
  have x0 : W1.cell? ⟨w.heap.size, 0, none⟩ = some (.int .i64 xd) := by rw [hW1]; go_simp
  have x1 : W1.cell? ⟨w.heap.size, 1, none⟩ = some (.string (bs xn)) := by rw [hW1]; go_simp
  have x2 : W1.cell? ⟨w.heap.size, 2, none⟩ = some (.int .i64 xi) := by rw [hW1]; go_simp
  have H := h
  obtain ⟨rq, lt, ib, nb, T1, T2, L, c0, c1, ht, hn, hs, s1, s2, d, b1, b2⟩ := h
  have hgl : get L (xd, xn) = some xi := by rw [hs.get hg.good.ok.n.nd]; exact hf
  obtain ⟨pre, post, hL, hpre⟩ := get_some hgl
  subst hL
  have hBd := hB1.drew
  have hql := cell_lt c0
  have hnd : Calls Tryz.prog 108 #[.pointer (some ⟨nb, 0, none⟩), .int .i64 xd, .string (bs xn)] W1.drew (RNChg W1.drew nb T2 (pre ++ post) (.int .i64 0)) := rNDrop_ok W1.drew nb T2 pre post xd xi xn (hn.below' hBd) (by have := hg.L hs; omega) hpre
  have hlk : ∀ W, RTabAt W ib T1 s.t → Calls Tryz.prog 105 #[.pointer (some ⟨ib, 0, none⟩), .int .i64 xi, .int .i64 (-1)] W (RChg W ib T1 (s.t.link xi (-1)).2 (.int .i64 (s.t.link xi (-1)).1)) := fun W hW => rLink_any W ib T1 s.t hW hg.ki hg.good.ok.t.x xi (-1) (Or.inr rfl)
  have hsd : Srt (s.n.drop xd xn).2.m (pre ++ post) := by rw [drop_eq hf]; exact hs.del hg.good.ok.n.nd
  have hall := fun w2 w3 (hn2 : RNamAt w2 nb (growS T2 W1.drew w2) (pre ++ post)) (hM2 : Mod T2 W1.drew w2) (ht3 : RTabAt w3 ib (growS T1 w2.drew w3) (s.t.link xi (-1)).2) (hM3 : Mod T1 w2.drew w3) => rtree_both (w := w) (W1 := W1.drew) (w2 := w2.drew) (w3 := w3) (n' := (s.n.drop xd xn).2) rq lt c0 c1 s1 s2 d b1 b2 hBd (hn2.below' (show Below w2.heap.size w2 w2.drew by exact belC (Below.refl _ _))) (hM2.trans (Mod.of_below (show Below w2.heap.size w2 w2.drew by exact belC (Below.refl _ _)))) ht3 hM3 hsd
  have ht1 := ht.below' hBd
  have d0 := below_at hB1 c0 hql
  have d1 := below_at hB1 c1 hql
  have HALL := Lib.hid hall
  have HT1 := Lib.hid ht1
  have HW1 := Lib.hid hW1
  obtain ⟨xb, hxb⟩ : ∃ xb, xb = w.heap.size := ⟨_, rfl⟩
  rw [← hxb] at x0 x1 x2
  have HXB := Lib.hid hxb
  have HT1q := Lib.hid (show ¬ T1 q from b1)
  have HT1x := Lib.hid (show ¬ T1 xb from fun hk => by have := lt _ (s1 _ hk); omega)
  have hxl := cell_lt x0
  have hq1 := cell_lt d0
  have hqx : q ≠ xb := by omega
  have HQ := Lib.hid (show ¬ T2 q from b2)
  have HX := Lib.hid (show ¬ T2 xb from fun hk => by have := lt _ (s2 _ hk); omega)
  have HD := Lib.hid d
  have hKd : W1.drew.cell? ⟨q, 1, none⟩ = some (.pointer (some ⟨nb, 0, none⟩)) ∧ W1.drew.cell? ⟨xb, 0, none⟩ = some (.int .i64 xd) ∧ W1.drew.cell? ⟨xb, 1, none⟩ = some (.string (bs xn)) := ⟨d1, x0, x1⟩
  clear hall ht1 hW1 hxb hgl hs hsd ht hn s1 s2 d b1 b2 hpre lt hBd hf
  go_enter Tryz.func102, Tryz.ntmps102
  go_wp2_with fail
  rw [← HW1.out, ← HXB.out]
  go_region_held3 (fun W' => W'.cell? ⟨q, 1, none⟩ = some (.pointer (some ⟨nb, 0, none⟩)) ∧ W'.cell? ⟨xb, 0, none⟩ = some (.int .i64 xd) ∧ W'.cell? ⟨xb, 1, none⟩ = some (.string (bs xn)))
    (first
      | with_reducible exact hKd
      | with_reducible exact hK2)
    (first
      | (go_at_call 108; (with_reducible refine hnd.mono ?_); rintro e w2 ⟨rfl, hn2, hM2⟩
         have hK2 : w2.cell? ⟨q, 1, none⟩ = some (.pointer (some ⟨nb, 0, none⟩)) ∧ w2.cell? ⟨xb, 0, none⟩ = some (.int .i64 xd) ∧ w2.cell? ⟨xb, 1, none⟩ = some (.string (bs xn)) := ⟨hM2.at hKd.1 HQ.out, hM2.at hKd.2.1 HX.out, hM2.at hKd.2.2 HX.out⟩
         have e0 := hM2.at (show W1.drew.cell? ⟨q, 0, none⟩ = some (.pointer (some ⟨ib, 0, none⟩)) from d0) HQ.out
         have e2 := hM2.at (show W1.drew.cell? ⟨xb, 2, none⟩ = some (.int .i64 xi) from x2) HX.out
         have ht2 := HT1.out.mod hM2 (fun k hk hk2 => HD.out k hk hk2)
         have HN2 := Lib.hid hn2
         have HM2 := Lib.hid hM2
         clear hn2 hM2))
  have hq2 := cell_lt e0
  have hx2 := cell_lt e2
  have hlk2 := hlk w2.drew (ht2.below' (show Below w2.heap.size w2 w2.drew by exact belC (Below.refl _ _)))
  have hKe : w2.drew.cell? ⟨q, 0, none⟩ = some (.pointer (some ⟨ib, 0, none⟩)) ∧ w2.drew.cell? ⟨xb, 2, none⟩ = some (.int .i64 xi) := ⟨e0, e2⟩
  clear hlk ht2 hKd hK2
  go_wp2_with fail
  go_region_held3 (fun W' => W'.cell? ⟨q, 0, none⟩ = some (.pointer (some ⟨ib, 0, none⟩)) ∧ W'.cell? ⟨xb, 2, none⟩ = some (.int .i64 xi))
    (first
      | with_reducible exact hKe
      | with_reducible exact hK3)
    (first
      | (go_at_call 105; (with_reducible refine hlk2.mono ?_); rintro e w3 ⟨rfl, ht3, hM3⟩
         have hK3 : w3.cell? ⟨q, 0, none⟩ = some (.pointer (some ⟨ib, 0, none⟩)) ∧ w3.cell? ⟨xb, 2, none⟩ = some (.int .i64 xi) := ⟨hM3.at hKe.1 HT1q.out, hM3.at hKe.2 HT1x.out⟩
         have HR := Lib.hid (HALL.out _ _ HN2.out HM2.out ht3 hM3)
         clear ht3 hM3))
  go_wp2_with fail
  go_end0
  exact ⟨rfl, HR.out⟩
end Go.Proofs.YtakbalmbkokklaaGreat
/- the document's tree: Unlink, Rmdir -/
namespace Go.Proofs.YtakbalmbkokklaaGreat
open Go.RowKit Esch Go.Shelf

theorem rplace_err {s : TrS} {p : Nm} {r e : Int} (hr : r ≠ 0) (h : s.place p r = .err e) : e ≠ 0 := by
  unfold TrS.place at h
  split at h
  · cases h; decide
  rename_i l hl
  split at h
  · cases h; exact hr
  cases hres : s.res 1 l.dropLast with
  | err e' =>
    rw [hres] at h
    cases h
    rcases res_err s _ _ _ hres with e | e <;> subst e <;> decide
  | ok d =>
    rw [hres] at h
    change (if s.kind d ≠ 1 then Res.err 62 else Res.ok _) = _ at h
    split at h
    · cases h; decide
    · cases h
theorem _root_.Esch.RTreeAt.grow' {w w' : World} {q : Nat} {R : Nat → Prop} {s : TrS} (h : RTreeAt w q R s) (hB : Below w.heap.size w w') : RTreeAt w' q (growS R w w') s :=
  (h.below' hB).wide (fun _ hk => Or.inl hk) (growS_lt h.lt hB.size)
theorem RTPost.keep {w w' : World} {q : Nat} {R : Nat → Prop} {s : TrS} (h : RTreeAt w q R s) (hB : Below w.heap.size w w') (v : Value) : RTPost w q R s v (.returned v) w' := ⟨rfl, h.grow' hB, Mod.of_below hB⟩
theorem RTPost.after {w w1 w' : World} {q : Nat} {R : Nat → Prop} {s' : TrS} {v : Value} {e : Ending} (hlt : ∀ k, R k → k < w.heap.size) (hB : Below w.heap.size w w1) (h : RTPost w1 q R s' v e w') : RTreeAt w' q (growS R w w') s' ∧ Mod R w w' := by
  obtain ⟨-, h2, h3⟩ := h
  have hz := hB.size
  have hz3 := h3.size
  refine ⟨h2.wide (fun k hk => ?_) (growS_lt hlt (by omega)), (Mod.of_below hB).trans h3⟩
  rcases hk with hk | hk
  · exact Or.inl hk
  · exact Or.inr ⟨by omega, hk.2⟩
set_option maxRecDepth 100000 in
set_option maxHeartbeats 8000000 in
theorem rtUnlink_any (w : World) (q : Nat) (R : Nat → Prop) (s : TrS) (h : RTreeAt w q R s) (hg : GK s) (p : Nm) (hp : p.length ≤ 100000) :
    Calls Tryz.prog 68 #[.pointer (some ⟨q, 0, none⟩), .string (bs p)] w (RTPost w q R ((s.unlink p).run s).2 (.int .i64 ((s.unlink p).run s).1)) := by
  have hpl := fun W hW => rtPlace_any W q R s hW hg p hp 70
  have hkd := fun W hW i => rtKind_any W q R s hW hg i
  have hgn := fun W hW x hf => rtGone_any W q R s hW hg x hf
  have hlt := Lib.hid h.lt
  have H := Lib.hid h
  obtain ⟨rr, hrr⟩ : ∃ rr, rr = s.unlink p := ⟨_, rfl⟩
  rw [← hrr]
  unfold TrS.unlink at hrr
  cases hr : s.place p 70 with
  | err e0 =>
    have he0 : (e0 != 0) = true := by simpa using rplace_err (by decide) hr
    rw [hr] at hpl hrr
    have hrr : rr = .err e0 := hrr
    subst hrr
    clear hr
    go_enter Tryz.func68, Tryz.ntmps68
    go_wp2_with fail
    refine (hpl _ H.out).mono ?_
    clear hpl
    rintro e w1 ⟨rfl, hB⟩
    have HB := Lib.hid hB
    have hz := hB.size
    rw [show (Res.err e0 : Res SpotS).code = e0 from rfl, show (Res.err e0 : Res SpotS).val spotZ = spotZ from rfl]
    unfold spotZ spV
    go_wp2_with fail
    go_ret
    exact RTPost.keep H.out (by exact belC HB.out) _
  | ok x =>
    have hx := place_ok hr
    obtain ⟨xd, xn, xi⟩ := x
    have hkx := fun W hW => hkd W hW xi
    rw [hr] at hpl hrr
    have HRR := Lib.hid (show rr = (stopB 60 (decide (xi = 0))).bind fun _ => (stopB 63 (decide (s.kind xi = 1))).bind fun _ => .ok (s.drop ⟨xd, xn, xi⟩) from hrr)
    clear hr hkd hrr
    go_enter Tryz.func68, Tryz.ntmps68
    go_wp2_with fail
    refine (hpl _ H.out).mono ?_
    clear hpl
    rintro e w1 ⟨rfl, hB⟩
    have HB := Lib.hid hB
    have hz := hB.size
    rw [show (Res.ok (SpotS.mk xd xn xi)).code = 0 from rfl, show (Res.ok (SpotS.mk xd xn xi)).val spotZ = ⟨xd, xn, xi⟩ from rfl]
    obtain ⟨W2, hW2⟩ : ∃ W2, W2 = w1.alloc (.cells #[.int .i64 xd, .string (bs xn), .int .i64 xi] 140) := ⟨_, rfl⟩
    have hB2 : Below w.heap.size w W2 := by rw [hW2]; exact belC hB
    have x0 : W2.cell? ⟨w1.heap.size, 0, none⟩ = some (.int .i64 xd) := by rw [hW2]; go_simp
    have x1 : W2.cell? ⟨w1.heap.size, 1, none⟩ = some (.string (bs xn)) := by rw [hW2]; go_simp
    have x2 : W2.cell? ⟨w1.heap.size, 2, none⟩ = some (.int .i64 xi) := by rw [hW2]; go_simp
    obtain ⟨xb, hxb⟩ : ∃ xb, xb = w1.heap.size := ⟨_, rfl⟩
    rw [← hxb] at x0 x1 x2
    have HXB := Lib.hid hxb
    have HW2 := Lib.hid hW2
    have HB2 := Lib.hid hB2
    clear hxb hW2 hB2 hB
    unfold spV
    by_cases h0 : xi = 0
    · have hr2 : rr = .err 60 := by rw [HRR.out, decide_eq_true h0]; rfl
      subst h0 hr2
      clear HRR
      go_wp2_with fail
      rw [← HW2.out, ← HXB.out]
      go_wp2_with fail
      go_ret
      exact RTPost.keep H.out (by exact belC HB2.out) _
    · have h0' : (xi == 0) = false := by simpa using h0
      have hrr := HRR.out
      clear HRR
      rw [decide_eq_false h0] at hrr
      have HRR := Lib.hid (show rr = (stopB 63 (decide (s.kind xi = 1))).bind fun _ => .ok (s.drop ⟨xd, xn, xi⟩) from hrr)
      clear hrr
      have hfx : s.n.find xd xn = some xi := find_some hx.ino.symm h0
      by_cases hk : s.kind xi = 1
      · have hr2 : rr = .err 63 := by rw [HRR.out, decide_eq_true hk]; rfl
        rw [hk] at hkx
        subst hr2
        clear HRR hk
        go_wp2_with fail
        rw [← HW2.out, ← HXB.out]
        go_wp2_with fail
        refine (hkx _ (H.out.below' HB2.out)).mono ?_
        rintro e w3 ⟨rfl, rfl⟩
        go_wp2_with fail
        go_ret
        exact RTPost.keep H.out (by exact belC HB2.out) _
      · have hr2 : rr = .ok (s.drop ⟨xd, xn, xi⟩) := by rw [HRR.out, decide_eq_false hk]; rfl
        have hk' : (s.kind xi == 1) = false := by simpa using hk
        have hgx := fun W hW => hgn W hW ⟨xd, xn, xi⟩ hfx
        unfold spV at hgx
        subst hr2
        generalize s.kind xi = kv at *
        generalize s.drop ⟨xd, xn, xi⟩ = s9 at *
        clear HRR hk hgn hfx
        go_wp2_with fail
        rw [← HW2.out, ← HXB.out]
        go_wp2_with fail
        refine (hkx _ (H.out.below' HB2.out)).mono ?_
        clear hkx
        rintro e w3 ⟨rfl, rfl⟩
        go_wp2_with fail
        refine (hgx _ (H.out.below' HB2.out)).mono ?_
        clear hgx
        rintro e w3 hP
        have hA := Lib.hid (hP.after hlt.out HB2.out)
        obtain ⟨rfl, -, -⟩ := hP
        go_wp2_with fail
        go_ret
        exact ⟨rfl, hA.out⟩
end Go.Proofs.YtakbalmbkokklaaGreat
/- the document's tree: Rmdir -/
namespace Go.Proofs.YtakbalmbkokklaaGreat
open Go.RowKit Esch Go.Shelf

def RLsPost (w : World) (c : Int) (e : Ending) (w' : World) : Prop := ∃ a n k, e = .returned (.slice a n k) ∧ (n : Int) = c ∧ Below w.heap.size w w'
theorem rtLs {w : World} {nb : Nat} {T : Nat → Prop} {L : List Ent} {s : TrS} (hn : RNamAt w nb T L) (hs : Srt s.n.m L) (hg : GK s) : ∀ W, Below w.heap.size w W → ∀ d, Calls Tryz.prog 101 #[.pointer (some ⟨nb, 0, none⟩), .int .i64 d] W (RLsPost W (s.n.count d)) := fun W hB d => by
  refine (rList_any W nb T L (hn.below' hB) (by have := hg.L hs; omega) d).mono ?_
  rintro e w' ⟨a, c, rfl, -, hB'⟩
  exact ⟨a, _, c, rfl, by rw [hs.cnt, hg.good.ok.n.cnt], hB'⟩
set_option maxRecDepth 100000 in
set_option maxHeartbeats 8000000 in
theorem rtRmdir_any (w : World) (q : Nat) (R : Nat → Prop) (s : TrS) (h : RTreeAt w q R s) (hg : GK s) (p : Nm) (hp : p.length ≤ 100000) :
    Calls Tryz.prog 65 #[.pointer (some ⟨q, 0, none⟩), .string (bs p)] w (RTPost w q R ((s.rmdir p).run s).2 (.int .i64 ((s.rmdir p).run s).1)) := by
  have hpl := fun W hW => rtPlace_any W q R s hW hg p hp 70
  have hkd := fun W hW i => rtKind_any W q R s hW hg i
  have HLS : Hid (∃ nb, w.cell? ⟨q, 1, none⟩ = some (.pointer (some ⟨nb, 0, none⟩)) ∧ ∀ W, Below w.heap.size w W → ∀ d, Calls Tryz.prog 101 #[.pointer (some ⟨nb, 0, none⟩), .int .i64 d] W (RLsPost W (s.n.count d))) := Lib.hid (by
    obtain ⟨rq, lt, ib, nb, T1, T2, L, c0, c1, ht, hn, hs, s1, s2, d, b1, b2⟩ := h
    exact ⟨nb, c1, rtLs hn hs hg⟩)
  have hgn := fun W hW x hf => rtGone_any W q R s hW hg x hf
  have hlt := Lib.hid h.lt
  have H := Lib.hid h
  obtain ⟨rr, hrr⟩ : ∃ rr, rr = s.rmdir p := ⟨_, rfl⟩
  rw [← hrr]
  unfold TrS.rmdir at hrr
  cases hr : s.place p 70 with
  | err e0 =>
    have he0 : (e0 != 0) = true := by simpa using rplace_err (by decide) hr
    rw [hr] at hpl hrr
    have hrr : rr = .err e0 := hrr
    subst hrr
    clear hr
    go_enter Tryz.func65, Tryz.ntmps65
    go_wp2_with fail
    refine (hpl _ H.out).mono ?_
    clear hpl
    rintro e w1 ⟨rfl, hB⟩
    have HB := Lib.hid hB
    have hz := hB.size
    rw [show (Res.err e0 : Res SpotS).code = e0 from rfl, show (Res.err e0 : Res SpotS).val spotZ = spotZ from rfl]
    unfold spotZ spV
    go_wp2_with fail
    go_ret
    exact RTPost.keep H.out (by exact belC HB.out) _
  | ok x =>
    have hx := place_ok hr
    obtain ⟨xd, xn, xi⟩ := x
    have hkx := fun W hW => hkd W hW xi
    rw [hr] at hpl hrr
    have HRR := Lib.hid (show rr = (stopB 60 (decide (xi = 0))).bind fun _ => (stopB 62 (decide (s.kind xi ≠ 1))).bind fun _ => (stopB 64 (decide (0 < s.n.count xi))).bind fun _ => .ok (s.drop ⟨xd, xn, xi⟩) from hrr)
    clear hr hkd hrr
    go_enter Tryz.func65, Tryz.ntmps65
    go_wp2_with fail
    refine (hpl _ H.out).mono ?_
    clear hpl
    rintro e w1 ⟨rfl, hB⟩
    have HB := Lib.hid hB
    have hz := hB.size
    rw [show (Res.ok (SpotS.mk xd xn xi)).code = 0 from rfl, show (Res.ok (SpotS.mk xd xn xi)).val spotZ = ⟨xd, xn, xi⟩ from rfl]
    obtain ⟨W2, hW2⟩ : ∃ W2, W2 = w1.alloc (.cells #[.int .i64 xd, .string (bs xn), .int .i64 xi] 140) := ⟨_, rfl⟩
    have hB2 : Below w.heap.size w W2 := by rw [hW2]; exact belC hB
    have x0 : W2.cell? ⟨w1.heap.size, 0, none⟩ = some (.int .i64 xd) := by rw [hW2]; go_simp
    have x1 : W2.cell? ⟨w1.heap.size, 1, none⟩ = some (.string (bs xn)) := by rw [hW2]; go_simp
    have x2 : W2.cell? ⟨w1.heap.size, 2, none⟩ = some (.int .i64 xi) := by rw [hW2]; go_simp
    obtain ⟨xb, hxb⟩ : ∃ xb, xb = w1.heap.size := ⟨_, rfl⟩
    rw [← hxb] at x0 x1 x2
    have HXB := Lib.hid hxb
    have HW2 := Lib.hid hW2
    have HB2 := Lib.hid hB2
    clear hxb hW2 hB2 hB
    unfold spV
    by_cases h0 : xi = 0
    · have hr2 : rr = .err 60 := by rw [HRR.out, decide_eq_true h0]; rfl
      subst h0 hr2
      clear HRR
      go_wp2_with fail
      rw [← HW2.out, ← HXB.out]
      go_wp2_with fail
      go_ret
      exact RTPost.keep H.out (by exact belC HB2.out) _
    · have h0' : (xi == 0) = false := by simpa using h0
      have hrr := HRR.out
      clear HRR
      rw [decide_eq_false h0] at hrr
      have HRR := Lib.hid (show rr = (stopB 62 (decide (s.kind xi ≠ 1))).bind fun _ => (stopB 64 (decide (0 < s.n.count xi))).bind fun _ => .ok (s.drop ⟨xd, xn, xi⟩) from hrr)
      clear hrr
      have hfx : s.n.find xd xn = some xi := find_some hx.ino.symm h0
      by_cases hk : s.kind xi ≠ 1
      · have hr2 : rr = .err 62 := by rw [HRR.out, decide_eq_true hk]; rfl
        have hk' : (s.kind xi != 1) = true := by simpa using hk
        subst hr2
        generalize s.kind xi = kv at *
        clear HRR hk
        go_wp2_with fail
        rw [← HW2.out, ← HXB.out]
        go_wp2_with fail
        refine (hkx _ (H.out.below' HB2.out)).mono ?_
        rintro e w3 ⟨rfl, rfl⟩
        go_wp2_with fail
        go_ret
        exact RTPost.keep H.out (by exact belC HB2.out) _
      · have hk' : (s.kind xi != 1) = false := by simpa using hk
        have hrr := HRR.out
        clear HRR
        rw [decide_eq_false hk] at hrr
        have HRR := Lib.hid (show rr = (stopB 64 (decide (0 < s.n.count xi))).bind fun _ => .ok (s.drop ⟨xd, xn, xi⟩) from hrr)
        clear hrr hk
        have hgx := fun W hW => hgn W hW ⟨xd, xn, xi⟩ hfx
        unfold spV at hgx
        generalize s.kind xi = kv at *
        generalize s.drop ⟨xd, xn, xi⟩ = s9 at *
        clear hgn hfx
        obtain ⟨nb, c1, hls⟩ := HLS.out
        have hls := hls W2.drew HB2.out.drew xi
        have hql := cell_lt c1
        have c12 := below_at HB2.out c1 hql
        have hKd : W2.drew.cell? ⟨q, 1, none⟩ = some (.pointer (some ⟨nb, 0, none⟩)) ∧ W2.drew.cell? ⟨xb, 2, none⟩ = some (.int .i64 xi) := ⟨c12, x2⟩
        have HQL := Lib.hid (cell_lt hKd.1)
        have HXL := Lib.hid (cell_lt hKd.2)
        by_cases hc : 0 < s.n.count xi
        · have hr2 : rr = .err 64 := by rw [HRR.out, decide_eq_true hc]; rfl
          have HC := Lib.hid hc
          subst hr2
          clear HRR hc
          go_wp2_with fail
          rw [← HW2.out, ← HXB.out]
          go_wp2_with fail
          refine (hkx _ (H.out.below' HB2.out)).mono ?_
          clear hkx
          rintro e w3 ⟨rfl, rfl⟩
          go_wp2_with fail
          go_region_held3 (fun W' => W'.cell? ⟨q, 1, none⟩ = some (.pointer (some ⟨nb, 0, none⟩)) ∧ W'.cell? ⟨xb, 2, none⟩ = some (.int .i64 xi))
            (first
              | with_reducible exact hKd
              | with_reducible exact hK2)
            (first
              | (go_at_call 101; (with_reducible refine hls.mono ?_); rintro e w4 ⟨ao, n, kc, rfl, hn, hB4⟩
                 have hK2 : w4.cell? ⟨q, 1, none⟩ = some (.pointer (some ⟨nb, 0, none⟩)) ∧ w4.cell? ⟨xb, 2, none⟩ = some (.int .i64 xi) := ⟨below_at hB4 hKd.1 HQL.out, below_at hB4 hKd.2 HXL.out⟩
                 have hn0 : (0 : Int) < (n : Int) := by rw [hn]; exact HC.out
                 have HB4 := Lib.hid (HB2.out.drew.trans (hB4.mono HB2.out.drew.size))
                 clear hB4 hn))
          go_wp2_with fail
          go_ret
          exact RTPost.keep H.out (by exact belC HB4.out) _
        · have hr2 : rr = .ok s9 := by rw [HRR.out, decide_eq_false hc]; rfl
          have hc0 : s.n.count xi = 0 := by have := hg.good.ok.n.nn xi; omega
          have HC := Lib.hid hc0
          subst hr2
          clear HRR hc hc0
          go_wp2_with fail
          rw [← HW2.out, ← HXB.out]
          go_wp2_with fail
          refine (hkx _ (H.out.below' HB2.out)).mono ?_
          clear hkx
          rintro e w3 ⟨rfl, rfl⟩
          go_wp2_with fail
          go_region_held3 (fun W' => W'.cell? ⟨q, 1, none⟩ = some (.pointer (some ⟨nb, 0, none⟩)) ∧ W'.cell? ⟨xb, 2, none⟩ = some (.int .i64 xi))
            (first
              | with_reducible exact hKd
              | with_reducible exact hK2)
            (first
              | (go_at_call 101; (with_reducible refine hls.mono ?_); rintro e w4 ⟨ao, n, kc, rfl, hn, hB4⟩
                 have hK2 : w4.cell? ⟨q, 1, none⟩ = some (.pointer (some ⟨nb, 0, none⟩)) ∧ w4.cell? ⟨xb, 2, none⟩ = some (.int .i64 xi) := ⟨below_at hB4 hKd.1 HQL.out, below_at hB4 hKd.2 HXL.out⟩
                 obtain rfl : n = 0 := by rw [HC.out] at hn; exact Int.ofNat.inj hn
                 have y0 := below_at hB4 (show w3.drew.cell? ⟨xb, 0, none⟩ = some (.int .i64 xd) from x0) HXL.out
                 have y1 := below_at hB4 (show w3.drew.cell? ⟨xb, 1, none⟩ = some (.string (bs xn)) from x1) HXL.out
                 have HB4 := Lib.hid (HB2.out.drew.trans (hB4.mono HB2.out.drew.size))
                 clear hB4 hn))
          go_wp2_with fail
          refine (hgx _ (H.out.below' HB4.out)).mono ?_
          clear hgx
          rintro e w5 hP
          have hA := Lib.hid (hP.after hlt.out HB4.out)
          obtain ⟨rfl, -, -⟩ := hP
          go_wp2_with fail
          go_ret
          exact ⟨rfl, hA.out⟩
end Go.Proofs.YtakbalmbkokklaaGreat
/- the document's tree: its parts, one call behind the other; Truncate -/
namespace Go.Proofs.YtakbalmbkokklaaGreat
open Go.RowKit Esch Go.Shelf

/-- the tree's parts, each by its blocks -/
structure RT2 (w : World) (q ib nb : Nat) (R T1 T2 : Nat → Prop) (t : TabS) (L : List Ent) : Prop where
  rq : R q
  lt : ∀ k, R k → k < w.heap.size
  c0 : w.cell? ⟨q, 0, none⟩ = some (.pointer (some ⟨ib, 0, none⟩))
  c1 : w.cell? ⟨q, 1, none⟩ = some (.pointer (some ⟨nb, 0, none⟩))
  ht : RTabAt w ib T1 t
  hn : RNamAt w nb T2 L
  s1 : ∀ k, T1 k → R k
  s2 : ∀ k, T2 k → R k
  d : ∀ k, T1 k → ¬ T2 k
  b1 : ¬ T1 q
  b2 : ¬ T2 q
theorem RT2.of {w : World} {q : Nat} {R : Nat → Prop} {s : TrS} (h : RTreeAt w q R s) : ∃ ib nb T1 T2 L, RT2 w q ib nb R T1 T2 s.t L ∧ Srt s.n.m L := by
  obtain ⟨rq, lt, ib, nb, T1, T2, L, c0, c1, ht, hn, hs, s1, s2, d, b1, b2⟩ := h
  exact ⟨ib, nb, T1, T2, L, ⟨rq, lt, c0, c1, ht, hn, s1, s2, d, b1, b2⟩, hs⟩
theorem RT2.to {w : World} {q ib nb : Nat} {R T1 T2 : Nat → Prop} {t : TabS} {n : DirS} {L : List Ent} (h : RT2 w q ib nb R T1 T2 t L) (hs : Srt n.m L) : RTreeAt w q R ⟨t, n⟩ :=
  ⟨h.rq, h.lt, ib, nb, T1, T2, L, h.c0, h.c1, h.ht, h.hn, hs, h.s1, h.s2, h.d, h.b1, h.b2⟩
theorem RT2.below {w w' : World} {q ib nb : Nat} {R T1 T2 : Nat → Prop} {t : TabS} {L : List Ent} (h : RT2 w q ib nb R T1 T2 t L) (hB : Below w.heap.size w w') : RT2 w' q ib nb R T1 T2 t L :=
  have hql := h.lt q h.rq
  ⟨h.rq, fun k hk => Nat.lt_of_lt_of_le (h.lt k hk) hB.size, below_at hB h.c0 hql, below_at hB h.c1 hql, h.ht.below' hB, h.hn.below' hB, h.s1, h.s2, h.d, h.b1, h.b2⟩
theorem RT2.ino {w w' : World} {q ib nb : Nat} {R T1 T2 : Nat → Prop} {t t' : TabS} {L : List Ent} (h : RT2 w q ib nb R T1 T2 t L) (ht : RTabAt w' ib (growS T1 w w') t') (hM : Mod T1 w w') :
    RT2 w' q ib nb (growS R w w') (growS T1 w w') T2 t' L ∧ Mod R w w' := by
  have hql := h.lt q h.rq
  have hz := hM.size
  refine ⟨⟨Or.inl h.rq, growS_lt h.lt hM.size, hM.at h.c0 h.b1, hM.at h.c1 h.b1, ht, h.hn.mod hM (fun k hk hk1 => h.d k hk1 hk), fun k hk => hk.imp (h.s1 k) id, fun k hk => Or.inl (h.s2 k hk), fun k hk hk2 => ?_, fun hk => ?_, h.b2⟩, hM.mono fun k _ hk => h.s1 k hk⟩
  · rcases hk with hk | hk
    · exact h.d k hk hk2
    · have := h.lt k (h.s2 k hk2); omega
  · rcases hk with hk | hk
    · exact h.b1 hk
    · omega
theorem RT2.nam {w w' : World} {q ib nb : Nat} {R T1 T2 : Nat → Prop} {t : TabS} {L L' : List Ent} (h : RT2 w q ib nb R T1 T2 t L) (hn : RNamAt w' nb (growS T2 w w') L') (hM : Mod T2 w w') :
    RT2 w' q ib nb (growS R w w') T1 (growS T2 w w') t L' ∧ Mod R w w' := by
  have hql := h.lt q h.rq
  have hz := hM.size
  refine ⟨⟨Or.inl h.rq, growS_lt h.lt hM.size, hM.at h.c0 h.b2, hM.at h.c1 h.b2, h.ht.mod hM (fun k hk hk1 => h.d k hk hk1), hn, fun k hk => Or.inl (h.s1 k hk), fun k hk => hk.imp (h.s2 k) id, fun k hk hk2 => ?_, h.b1, fun hk => ?_⟩, hM.mono fun k _ hk => h.s2 k hk⟩
  · rcases hk2 with hk2 | hk2
    · exact h.d k hk hk2
    · have := h.lt k (h.s1 k hk); omega
  · rcases hk with hk | hk
    · exact h.b2 hk
    · omega
/-- two changes, one behind the other -/
theorem growS_trans {R : Nat → Prop} {w w1 w2 : World} (h1 : w.heap.size ≤ w1.heap.size) (h2 : w1.heap.size ≤ w2.heap.size) : ∀ k, growS (growS R w w1) w1 w2 k → growS R w w2 k := fun k hk => by
  rcases hk with (hk | hk) | hk
  · exact Or.inl hk
  · exact Or.inr ⟨hk.1, by omega⟩
  · exact Or.inr ⟨by omega, hk.2⟩
theorem Mod.two {R : Nat → Prop} {w w1 w2 : World} (h1 : Mod R w w1) (h2 : Mod (growS R w w1) w1 w2) : Mod R w w2 := h1.trans' h2 fun k hk h => by
  rcases h with h | h
  · exact h
  · omega
theorem RTreeAt.two {w w1 w2 : World} {q : Nat} {R : Nat → Prop} {s : TrS} (hl : ∀ k, R k → k < w.heap.size) (h : RTreeAt w2 q (growS (growS R w w1) w1 w2) s) (h1 : w.heap.size ≤ w1.heap.size) (h2 : w1.heap.size ≤ w2.heap.size) : RTreeAt w2 q (growS R w w2) s :=
  h.wide (growS_trans h1 h2) (growS_lt hl (by omega))
end Go.Proofs.YtakbalmbkokklaaGreat
/- the document's tree: Truncate -/
namespace Go.Proofs.YtakbalmbkokklaaGreat
open Go.RowKit Esch Go.Shelf

theorem rcut_err {s : TabS} {i n : Int} (h : (s.cut i n).1 ≠ 0) : (s.cut i n).2 = s := by
  unfold TabS.cut at h ⊢
  by_cases h1 : s.has i = false
  · rw [if_pos h1]
  by_cases h2 : (s.at i).kind = 1
  · rw [if_neg h1, if_pos h2]
  by_cases h3 : n < 0 ∨ 8192 < n
  · rw [if_neg h1, if_neg h2, if_pos h3]
  · rw [if_neg h1, if_neg h2, if_neg h3] at h
    exact absurd rfl h
theorem rresolve_err {s : TrS} {p : Nm} {e : Int} (h : s.resolve p = .err e) : e ≠ 0 := by
  unfold TrS.resolve at h
  split at h
  · cases h; decide
  · rcases res_err s _ _ _ h with e | e <;> subst e <;> decide
set_option maxRecDepth 100000 in
set_option maxHeartbeats 8000000 in
theorem rtTruncate_any (w : World) (q : Nat) (R : Nat → Prop) (s : TrS) (h : RTreeAt w q R s) (hg : GK s) (p : Nm) (hp : p.length ≤ 100000) (n : Int) :
    Calls Tryz.prog 70 #[.pointer (some ⟨q, 0, none⟩), .string (bs p), .int .i64 n] w (RTPost w q R ((s.trunc p n).run s).2 (.int .i64 ((s.trunc p n).run s).1)) := by
  have hfd := rtFind_any w q R s h hg p hp
  have hlt := Lib.hid h.lt
  have H := Lib.hid h
  obtain ⟨rr, hrr⟩ : ∃ rr, rr = s.trunc p n := ⟨_, rfl⟩
  rw [← hrr]
  unfold TrS.trunc at hrr
  cases hr : s.resolve p with
  | err e0 =>
    have he0 : (e0 != 0) = true := by simpa using rresolve_err hr
    rw [hr] at hfd hrr
    have hrr : rr = .err e0 := hrr
    subst hrr
    clear hr
    go_enter Tryz.func70, Tryz.ntmps70
    go_wp2_with fail
    refine hfd.mono ?_
    clear hfd
    rintro e w1 ⟨rfl, hB⟩
    have HB := Lib.hid hB
    have hz := hB.size
    rw [show (Res.err e0 : Res Int).code = e0 from rfl, show (Res.err e0 : Res Int).val 0 = 0 from rfl]
    go_wp2_with fail
    go_ret
    exact RTPost.keep H.out (by exact belC HB.out) _
  | ok i =>
    rw [hr] at hfd hrr
    have hv : (Res.run s rr).1 = (s.t.cut i n).1 ∧ (Res.run s rr).2 = ⟨(s.t.cut i n).2, s.n⟩ := by
      by_cases hc : (s.t.cut i n).1 = 0
      · have : rr = .ok ⟨(s.t.cut i n).2, s.n⟩ := by
          rw [hrr]; show (stopB _ (decide ((s.t.cut i n).1 ≠ 0))).bind _ = _
          rw [decide_eq_false (by simpa using hc)]; rfl
        rw [this]; exact ⟨hc.symm, rfl⟩
      · have : rr = .err (s.t.cut i n).1 := by
          rw [hrr]; show (stopB _ (decide ((s.t.cut i n).1 ≠ 0))).bind _ = _
          rw [decide_eq_true hc]; rfl
        rw [this, rcut_err hc]; exact ⟨rfl, rfl⟩
    obtain ⟨v1, v2⟩ := hv
    rw [v1, v2]
    clear v1 v2 hrr hr
    obtain ⟨ib, nb, T1, T2, L, h2, hs⟩ := RT2.of h
    have hct := fun W hB => rTruncate_any W ib T1 s.t ((h2.below hB).ht) hg.ki i n
    have c0 := h2.c0
    have hql := cell_lt c0
    have H2 := Lib.hid h2
    have HS := Lib.hid hs
    generalize hcc : s.t.cut i n = cc at *
    obtain ⟨ce, ct⟩ := cc
    clear h2 hs hcc
    go_enter Tryz.func70, Tryz.ntmps70
    go_wp2_with fail
    refine hfd.mono ?_
    clear hfd
    rintro e w1 ⟨rfl, hB⟩
    have HB := Lib.hid hB
    have hz := hB.size
    rw [show (Res.ok i : Res Int).code = 0 from rfl, show (Res.ok i : Res Int).val 0 = i from rfl]
    have c01 := below_at hB c0 hql
    go_wp2_with fail
    refine (hct w1 HB.out).mono ?_
    clear hct
    rintro e w3 ⟨rfl, ht3, hM3⟩
    have hR := (H2.out.below HB.out).ino ht3 hM3
    have hP : RTPost w1 q R ⟨ct, s.n⟩ (.int .i64 ce) (.returned (.int .i64 ce)) w3 := ⟨rfl, hR.1.to HS.out, hR.2⟩
    have hA := Lib.hid (hP.after hlt.out HB.out)
    clear hR hP ht3 hM3
    go_wp2_with fail
    go_ret
    exact ⟨rfl, hA.out⟩
end Go.Proofs.YtakbalmbkokklaaGreat
/- the document's tree: make -/
namespace Go.Proofs.YtakbalmbkokklaaGreat
open Go.RowKit Esch Go.Shelf

theorem rtp_step {w w1 w2 : World} {q : Nat} {R : Nat → Prop} {s : TrS} (hl : ∀ k, R k → k < w.heap.size) (hM : Mod R w w1) (h : RTreeAt w2 q (growS (growS R w w1) w1 w2) s ∧ Mod (growS R w w1) w1 w2) : RTreeAt w2 q (growS R w w2) s ∧ Mod R w w2 :=
  ⟨RTreeAt.two hl h.1 hM.size h.2.size, Mod.two hM h.2⟩
theorem rmake_ki {s : TabS} (h : KI s) (hnew : s.has s.next = false) (hl : s.m.length < 64) (k : Int) : KI ⟨Esch.set s.m s.next ⟨s.next, k, 0, 0, 0⟩, s.next + 1⟩ := by
  have hg : get s.m s.next = none := by
    unfold TabS.has at hnew
    cases e : get s.m s.next with
    | none => rfl
    | some x => rw [e] at hnew; cases hnew
  have he := set_miss s.m s.next (⟨s.next, k, 0, 0, 0⟩ : InS) (get_none.1 hg)
  refine ⟨set_nodup _ _ h.nd, fun p hp => ?_, ?_⟩
  · have hp : p ∈ s.m ++ [(s.next, (⟨s.next, k, 0, 0, 0⟩ : InS))] := by rw [← he]; exact hp
    rcases List.mem_append.1 hp with hp | hp
    · exact h.ino p hp
    · rw [List.mem_singleton.1 hp]
  · show (Esch.set s.m s.next _).length ≤ 64
    rw [he, List.length_append]
    simp
    omega
set_option maxRecDepth 100000 in
set_option maxHeartbeats 8000000 in
theorem rtMake_any (w : World) (q : Nat) (R : Nat → Prop) (s : TrS) (h : RTreeAt w q R s) (hg : GK s) (p : Nm) (hp : p.length ≤ 100000) (k : Int) (hk12 : k = 1 ∨ k = 2) :
    Calls Tryz.prog 98 #[.pointer (some ⟨q, 0, none⟩), .string (bs p), .int .i64 k] w (RTPost w q R ((s.mk' p k).run s).2 (.int .i64 ((s.mk' p k).run s).1)) := by
  have hpl := fun W hW => rtPlace_any W q R s hW hg p hp 61
  obtain ⟨ib, nb, T1, T2, L, h2, hs⟩ := RT2.of h
  have hls := rtLs h2.hn hs hg
  have hnew : s.t.has s.t.next = false := by
    cases e : s.t.has s.t.next with
    | false => rfl
    | true => have := (hg.good.ino _ e).2.2.1; omega
  have hmk := fun W hB => rMake_any W ib T1 s.t ((h2.below hB).ht) hg.ki hg.good.ok.t.next k hk12 hnew
  have H2 := Lib.hid h2
  have HS := Lib.hid hs
  have c0 := h2.c0
  have c1 := h2.c1
  have hql := cell_lt c0
  obtain ⟨ao, cap, t0⟩ : ∃ ao cap, w.cell? ⟨ib, 0, none⟩ = some (.slice ao s.t.m.length cap) := by
    obtain ⟨-, -, ao, cap, t0, -⟩ := h2.ht
    exact ⟨ao, cap, t0⟩
  have htl := cell_lt t0
  have HNEW := Lib.hid hnew
  clear h2 hs hnew
  have hlt := Lib.hid h.lt
  have H := Lib.hid h
  obtain ⟨rr, hrr⟩ : ∃ rr, rr = s.mk' p k := ⟨_, rfl⟩
  rw [← hrr]
  unfold TrS.mk' at hrr
  cases hr : s.place p 61 with
  | err e0 =>
    have he0 : (e0 != 0) = true := by simpa using rplace_err (by decide) hr
    rw [hr] at hpl hrr
    have hrr : rr = .err e0 := hrr
    subst hrr
    clear hr
    go_enter Tryz.func98, Tryz.ntmps98
    go_wp2_with fail
    refine (hpl _ H.out).mono ?_
    clear hpl
    rintro e w1 ⟨rfl, hB⟩
    have HB := Lib.hid hB
    have hz := hB.size
    rw [show (Res.err e0 : Res SpotS).code = e0 from rfl, show (Res.err e0 : Res SpotS).val spotZ = spotZ from rfl]
    unfold spotZ spV
    go_wp2_with fail
    go_ret
    exact RTPost.keep H.out (by exact belC HB.out) _
  | ok x =>
    have hx := place_ok hr
    obtain ⟨xd, xn, xi⟩ := x
    rw [hr] at hpl hrr
    have HRR := Lib.hid (show rr = (stopB 61 (decide (xi ≠ 0))).bind fun _ => (stopB 67 (decide (64 ≤ s.n.count xd))).bind fun _ => (stopB (s.t.make k).1.2 (decide ((s.t.make k).1.2 ≠ 0))).bind fun _ => .ok (TrS.add ⟨(s.t.make k).2, s.n⟩ ⟨xd, xn, xi⟩ (s.t.make k).1.1) from hrr)
    clear hr hrr
    go_enter Tryz.func98, Tryz.ntmps98
    go_wp2_with fail
    refine (hpl _ H.out).mono ?_
    clear hpl
    rintro e w1 ⟨rfl, hB⟩
    have HB := Lib.hid hB
    have hz := hB.size
    rw [show (Res.ok (SpotS.mk xd xn xi)).code = 0 from rfl, show (Res.ok (SpotS.mk xd xn xi)).val spotZ = ⟨xd, xn, xi⟩ from rfl]
    obtain ⟨W2, hW2⟩ : ∃ W2, W2 = w1.alloc (.cells #[.int .i64 xd, .string (bs xn), .int .i64 xi] 140) := ⟨_, rfl⟩
    have hB2 : Below w.heap.size w W2 := by rw [hW2]; exact belC hB
    have x0 : W2.cell? ⟨w1.heap.size, 0, none⟩ = some (.int .i64 xd) := by rw [hW2]; go_simp
    have x1 : W2.cell? ⟨w1.heap.size, 1, none⟩ = some (.string (bs xn)) := by rw [hW2]; go_simp
    have x2 : W2.cell? ⟨w1.heap.size, 2, none⟩ = some (.int .i64 xi) := by rw [hW2]; go_simp
    obtain ⟨xb, hxb⟩ : ∃ xb, xb = w1.heap.size := ⟨_, rfl⟩
    rw [← hxb] at x0 x1 x2
    have HXB := Lib.hid hxb
    have HW2 := Lib.hid hW2
    have HB2 := Lib.hid hB2
    clear hxb hW2 hB2 hB
    unfold spV
    by_cases h0 : xi ≠ 0
    · have hr2 : rr = .err 61 := by rw [HRR.out, decide_eq_true h0]; rfl
      have h0' : (xi != 0) = true := by simpa using h0
      subst hr2
      clear HRR h0
      go_wp2_with fail
      rw [← HW2.out, ← HXB.out]
      go_wp2_with fail
      go_ret
      exact RTPost.keep H.out (by exact belC HB2.out) _
    · have h0 : xi = 0 := by omega
      subst h0
      have HRA := Lib.hid (show rr = (stopB 67 (decide (64 ≤ s.n.count xd))).bind fun _ => (stopB (s.t.make k).1.2 (decide ((s.t.make k).1.2 ≠ 0))).bind fun _ => .ok (TrS.add ⟨(s.t.make k).2, s.n⟩ ⟨xd, xn, 0⟩ (s.t.make k).1.1) from HRR.out)
      clear HRR
      have c02 := below_at HB2.out c0 hql
      have c12 := below_at HB2.out c1 hql
      have t02 := below_at HB2.out t0 htl
      have hls := hls W2.drew HB2.out.drew xd
      by_cases h64 : 64 ≤ s.t.m.length
      · have hr2 : rr = .err 67 := by
          rw [HRA.out]
          have hm : (s.t.make k).1.2 = 67 := by
            unfold TabS.make
            rw [if_neg (by omega), if_pos (Or.inl h64)]
          rw [hm]
          by_cases hc : 64 ≤ s.n.count xd
          · rw [decide_eq_true hc]; rfl
          · rw [decide_eq_false hc]; rfl
        subst hr2
        generalize s.t.m.length = ml at *
        have hKd : W2.drew.cell? ⟨q, 0, none⟩ = some (.pointer (some ⟨ib, 0, none⟩)) ∧ W2.drew.cell? ⟨q, 1, none⟩ = some (.pointer (some ⟨nb, 0, none⟩)) ∧ W2.drew.cell? ⟨ib, 0, none⟩ = some (.slice ao ml cap) ∧ W2.drew.cell? ⟨xb, 0, none⟩ = some (.int .i64 xd) := ⟨c02, c12, t02, x0⟩
        have hlenb : decide ((ml : Int) ≥ 64) = true := decide_eq_true (by omega)
        have hlenc : (64 : Int) ≤ (ml : Int) := by omega
        clear HRA h64
        go_wp2_with fail
        rw [← HW2.out, ← HXB.out]
        go_wp2_with fail
        go_region
        go_wp2_with fail
        go_ret
        exact RTPost.keep H.out (by exact belC HB2.out) _
      · have h64i : decide ((64 : Int) ≤ ((s.t.m.length : Nat) : Int)) = false := decide_eq_false (by omega)
        have H64 := Lib.hid h64
        by_cases hc : 64 ≤ s.n.count xd
        · have hr2 : rr = .err 67 := by rw [HRA.out, decide_eq_true hc]; rfl
          have HC := Lib.hid hc
          subst hr2
          generalize s.t.m.length = ml at *
          have hKd : W2.drew.cell? ⟨q, 0, none⟩ = some (.pointer (some ⟨ib, 0, none⟩)) ∧ W2.drew.cell? ⟨q, 1, none⟩ = some (.pointer (some ⟨nb, 0, none⟩)) ∧ W2.drew.cell? ⟨ib, 0, none⟩ = some (.slice ao ml cap) ∧ W2.drew.cell? ⟨xb, 0, none⟩ = some (.int .i64 xd) := ⟨c02, c12, t02, x0⟩
          have HLQ := Lib.hid (cell_lt hKd.1)
          have HLI := Lib.hid (cell_lt hKd.2.2.1)
          have HLX := Lib.hid (cell_lt hKd.2.2.2)
          clear HRA hc h64
          go_wp2_with fail
          rw [← HW2.out, ← HXB.out]
          go_wp2_with fail
          go_region_held3 (fun W' => W'.cell? ⟨q, 0, none⟩ = some (.pointer (some ⟨ib, 0, none⟩)) ∧ W'.cell? ⟨q, 1, none⟩ = some (.pointer (some ⟨nb, 0, none⟩)) ∧ W'.cell? ⟨ib, 0, none⟩ = some (.slice ao ml cap) ∧ W'.cell? ⟨xb, 0, none⟩ = some (.int .i64 xd))
            (first
              | with_reducible exact hKd
              | with_reducible exact hK2)
            (first
              | (go_at_call 101; (with_reducible refine hls.mono ?_); rintro e w4 ⟨a1, n1, k1, rfl, hn, hB4⟩
                 have hK2 : w4.cell? ⟨q, 0, none⟩ = some (.pointer (some ⟨ib, 0, none⟩)) ∧ w4.cell? ⟨q, 1, none⟩ = some (.pointer (some ⟨nb, 0, none⟩)) ∧ w4.cell? ⟨ib, 0, none⟩ = some (.slice ao ml cap) ∧ w4.cell? ⟨xb, 0, none⟩ = some (.int .i64 xd) := ⟨below_at hB4 hKd.1 HLQ.out, below_at hB4 hKd.2.1 HLQ.out, below_at hB4 hKd.2.2.1 HLI.out, below_at hB4 hKd.2.2.2 HLX.out⟩
                 have hn0 : decide ((64 : Int) ≤ (n1 : Int)) = true := decide_eq_true (by rw [hn]; exact HC.out)
                 have y1 := below_at hB4 (show W2.drew.cell? ⟨xb, 1, none⟩ = some (.string (bs xn)) from x1) HLX.out
                 have HB4 := Lib.hid (HB2.out.drew.trans (hB4.mono HB2.out.drew.size))
                 clear hB4 hn))
          go_wp2_with fail
          go_ret
          exact RTPost.keep H.out (by exact belC HB4.out) _
        · have HRB := Lib.hid (show rr = (stopB (s.t.make k).1.2 (decide ((s.t.make k).1.2 ≠ 0))).bind fun _ => .ok (TrS.add ⟨(s.t.make k).2, s.n⟩ ⟨xd, xn, 0⟩ (s.t.make k).1.1) from by rw [HRA.out, decide_eq_false hc]; rfl)
          have HC := Lib.hid hc
          obtain ⟨ml, hml⟩ : ∃ ml, ml = s.t.m.length := ⟨_, rfl⟩
          rw [← hml] at t02 h64i
          have HML := Lib.hid hml
          have hKd : W2.drew.cell? ⟨q, 0, none⟩ = some (.pointer (some ⟨ib, 0, none⟩)) ∧ W2.drew.cell? ⟨q, 1, none⟩ = some (.pointer (some ⟨nb, 0, none⟩)) ∧ W2.drew.cell? ⟨ib, 0, none⟩ = some (.slice ao ml cap) ∧ W2.drew.cell? ⟨xb, 0, none⟩ = some (.int .i64 xd) := ⟨c02, c12, t02, x0⟩
          have HLQ := Lib.hid (cell_lt hKd.1)
          have HLI := Lib.hid (cell_lt hKd.2.2.1)
          have HLX := Lib.hid (cell_lt hKd.2.2.2)
          clear HRA hc h64 hml
          by_cases hnx : 2147483647 ≤ s.t.next
          · have hm : s.t.make k = ((0, 67), s.t) := by
              unfold TabS.make
              rw [if_neg (by omega), if_pos (Or.inr hnx)]
            have hr2 : rr = .err 67 := by rw [HRB.out, hm]; rfl
            rw [hm] at hmk
            subst hr2
            clear HRB hnx hm
            go_wp2_with fail
            rw [← HW2.out, ← HXB.out]
            go_wp2_with fail
            go_region_held3 (fun W' => W'.cell? ⟨q, 0, none⟩ = some (.pointer (some ⟨ib, 0, none⟩)) ∧ W'.cell? ⟨q, 1, none⟩ = some (.pointer (some ⟨nb, 0, none⟩)) ∧ W'.cell? ⟨ib, 0, none⟩ = some (.slice ao ml cap) ∧ W'.cell? ⟨xb, 0, none⟩ = some (.int .i64 xd))
              (first
                | with_reducible exact hKd
                | with_reducible exact hK2)
              (first
                | (go_at_call 101; (with_reducible refine hls.mono ?_); rintro e w4 ⟨a1, n1, k1, rfl, hn, hB4⟩
                   have hK2 : w4.cell? ⟨q, 0, none⟩ = some (.pointer (some ⟨ib, 0, none⟩)) ∧ w4.cell? ⟨q, 1, none⟩ = some (.pointer (some ⟨nb, 0, none⟩)) ∧ w4.cell? ⟨ib, 0, none⟩ = some (.slice ao ml cap) ∧ w4.cell? ⟨xb, 0, none⟩ = some (.int .i64 xd) := ⟨below_at hB4 hKd.1 HLQ.out, below_at hB4 hKd.2.1 HLQ.out, below_at hB4 hKd.2.2.1 HLI.out, below_at hB4 hKd.2.2.2 HLX.out⟩
                   have hn0 : decide ((64 : Int) ≤ (n1 : Int)) = false := decide_eq_false (by rw [hn]; have := HC.out; omega)
                   have y1 := below_at hB4 (show W2.drew.cell? ⟨xb, 1, none⟩ = some (.string (bs xn)) from x1) HLX.out
                   have HB4 := Lib.hid (HB2.out.drew.trans (hB4.mono HB2.out.drew.size))
                   clear hB4 hn))
            have hmk4 := hmk w4 HB4.out
            clear hmk
            go_wp2_with fail
            refine hmk4.mono ?_
            clear hmk4
            rintro e w5 ⟨rfl, ht5, hM5⟩
            have hR := (H2.out.below HB4.out).ino ht5 hM5
            have hP : RTPost w4 q R s (.int .i64 67) (.returned (.int .i64 67)) w5 := ⟨rfl, hR.1.to HS.out, hR.2⟩
            have hA := Lib.hid (hP.after hlt.out HB4.out)
            clear hR hP ht5 hM5
            go_wp2_with fail
            go_ret
            exact ⟨rfl, hA.out⟩
          · have hm : s.t.make k = ((s.t.next, 0), ⟨Esch.set s.t.m s.t.next ⟨s.t.next, k, 0, 0, 0⟩, s.t.next + 1⟩) := by
              unfold TabS.make
              rw [if_neg (by omega), if_neg (by have := H64.out; omega)]
            have hki2 : KI (s.t.make k).2 := by rw [hm]; exact rmake_ki hg.ki HNEW.out (by have := H64.out; omega) k
            have hok2 := hg.good.ok.t.make k
            have hr2 : rr = .ok ⟨((s.t.make k).2.link s.t.next 1).2, (s.n.add xd xn s.t.next).2⟩ := by rw [HRB.out, hm]; rfl
            have hf0 : s.n.find xd xn = none := hg.good.zero hx.ino.symm
            have hdl : 1 ≤ xd ∧ xd ≤ 2147483647 := hg.good.dlt hx.dir
            have hnmx : nameL xn = true := hx.name
            have hnx1 : 1 ≤ s.t.next ∧ s.t.next ≤ 2147483647 := by have := (hg.good.ino 1 hg.good.h1).2.2.1; omega
            have hae := add_eq hg.good hnmx hdl hnx1 hf0 (by have := HC.out; omega)
            have hcnt : (namesD' L xd).length < 64 := by
              have e : ((namesD' L xd).length : Int) = s.n.count xd := by rw [HS.out.cnt, hg.good.ok.n.cnt]
              have := HC.out
              omega
            have hgl : get L (xd, xn) = none := by rw [HS.out.get hg.good.ok.n.nd]; exact hf0
            have HINS := Lib.hid (fun kk (hk : InsAt L (xd, xn) kk) => (show Srt (s.n.add xd xn s.t.next).2.m (L.take kk ++ ((xd, xn), s.t.next) :: L.drop kk) by rw [hae]; exact HS.out.ins hk (get_none.1 hf0)))
            have hLl := hg.L HS.out
            have had := fun W T (hW : RNamAt W nb T L) => rNAdd_ok W nb T L hW (by omega) xd s.t.next xn hnmx hdl.1 hdl.2 hnx1.1 hnx1.2 hgl hcnt
            have hlk := fun W T (hW : RTabAt W ib T (s.t.make k).2) => rLink_any W ib T (s.t.make k).2 hW hki2 hok2.x s.t.next 1 (Or.inl rfl)
            have hmv : (s.t.make k).1 = (s.t.next, 0) := by rw [hm]
            rw [hmv] at hmk
            subst hr2
            generalize (s.t.make k).2 = mk at *
            generalize (s.n.add xd xn s.t.next).2 = n9 at *
            generalize s.t.next = nx at *
            have HLX0 := Lib.hid (show w.heap.size ≤ xb from by rw [HXB.out]; exact hz)
            clear HRB hnx hm hmv hae hcnt hgl hf0 hdl hnx1 hki2 hok2 hLl hnmx
            go_wp2_with fail
            rw [← HW2.out, ← HXB.out]
            go_wp2_with fail
            go_region_held3 (fun W' => W'.cell? ⟨q, 0, none⟩ = some (.pointer (some ⟨ib, 0, none⟩)) ∧ W'.cell? ⟨q, 1, none⟩ = some (.pointer (some ⟨nb, 0, none⟩)) ∧ W'.cell? ⟨ib, 0, none⟩ = some (.slice ao ml cap) ∧ W'.cell? ⟨xb, 0, none⟩ = some (.int .i64 xd))
              (first
                | with_reducible exact hKd
                | with_reducible exact hK2)
              (first
                | (go_at_call 101; (with_reducible refine hls.mono ?_); rintro e w4 ⟨a1, n1, k1, rfl, hn, hB4⟩
                   have hK2 : w4.cell? ⟨q, 0, none⟩ = some (.pointer (some ⟨ib, 0, none⟩)) ∧ w4.cell? ⟨q, 1, none⟩ = some (.pointer (some ⟨nb, 0, none⟩)) ∧ w4.cell? ⟨ib, 0, none⟩ = some (.slice ao ml cap) ∧ w4.cell? ⟨xb, 0, none⟩ = some (.int .i64 xd) := ⟨below_at hB4 hKd.1 HLQ.out, below_at hB4 hKd.2.1 HLQ.out, below_at hB4 hKd.2.2.1 HLI.out, below_at hB4 hKd.2.2.2 HLX.out⟩
                   have hn0 : decide ((64 : Int) ≤ (n1 : Int)) = false := decide_eq_false (by rw [hn]; have := HC.out; omega)
                   have y1 := below_at hB4 (show W2.drew.cell? ⟨xb, 1, none⟩ = some (.string (bs xn)) from x1) HLX.out
                   have HB4 := Lib.hid (HB2.out.drew.trans (hB4.mono HB2.out.drew.size))
                   clear hB4 hn))
            have hmk4 := hmk w4 HB4.out
            clear hmk
            go_wp2_with fail
            refine hmk4.mono ?_
            clear hmk4
            rintro e w5 ⟨rfl, ht5, hM5⟩
            have hR5 := (H2.out.below HB4.out).ino ht5 hM5
            have HR5 := Lib.hid hR5
            have c05 := hR5.1.c0
            have hlk5 := hlk w5 _ hR5.1.ht
            have hnx4 : ¬ T1 xb := fun hk => by have := H2.out.lt _ (H2.out.s1 _ hk); have := HLX0.out; omega
            have z0 := hM5.at hK2.2.2.2 hnx4
            have z1 := hM5.at y1 hnx4
            have hnx5 : ¬ growS T1 w4 w5 xb := fun hk => hk.elim hnx4 (fun h => by have := cell_lt y1; omega)
            have HNX5 := Lib.hid hnx5
            clear hnx5 hnx4 hR5 ht5 hM5 hlk
            go_wp2_with fail
            refine hlk5.mono ?_
            clear hlk5
            rintro e w6 ⟨rfl, ht6, hM6⟩
            have hR6 := HR5.out.1.ino ht6 hM6
            have z06 := hM6.at z0 HNX5.out
            have z16 := hM6.at z1 HNX5.out
            have HR6 := Lib.hid hR6
            have c16 := hR6.1.c1
            have hBd6 : Below w6.heap.size w6 w6.drew := by exact belC (Below.refl _ _)
            have had6 := had w6.drew _ (hR6.1.below hBd6).hn
            have HZ6 := Lib.hid hM6.size
            clear hR6 ht6 hM6 had hBd6
            have hKe : w6.drew.cell? ⟨q, 1, none⟩ = some (.pointer (some ⟨nb, 0, none⟩)) ∧ w6.drew.cell? ⟨xb, 0, none⟩ = some (.int .i64 xd) ∧ w6.drew.cell? ⟨xb, 1, none⟩ = some (.string (bs xn)) := ⟨c16, z06, z16⟩
            have HT2q := Lib.hid (show ¬ T2 q from H2.out.b2)
            have HT2x := Lib.hid (show ¬ T2 xb from fun hk => by have := H2.out.lt _ (H2.out.s2 _ hk); have := HLX0.out; omega)
            go_wp2_with fail
            go_region_held3 (fun W' => W'.cell? ⟨q, 1, none⟩ = some (.pointer (some ⟨nb, 0, none⟩)) ∧ W'.cell? ⟨xb, 0, none⟩ = some (.int .i64 xd) ∧ W'.cell? ⟨xb, 1, none⟩ = some (.string (bs xn)))
              (first
                | with_reducible exact hKe
                | with_reducible exact hK7)
              (first
                | (go_at_call 106; (with_reducible refine had6.mono ?_); rintro e w7 ⟨kk, hk7, rfl, hn7, hM7⟩
                   have hK7 : w7.cell? ⟨q, 1, none⟩ = some (.pointer (some ⟨nb, 0, none⟩)) ∧ w7.cell? ⟨xb, 0, none⟩ = some (.int .i64 xd) ∧ w7.cell? ⟨xb, 1, none⟩ = some (.string (bs xn)) := ⟨hM7.at hKe.1 HT2q.out, hM7.at hKe.2.1 HT2x.out, hM7.at hKe.2.2 HT2x.out⟩
                   have hBd7 : Below w6.heap.size w6 w6.drew := by exact belC (Below.refl _ _)
                   have hR7 := (HR6.out.1.below hBd7).nam hn7 hM7
                   have hP7 : RTPost w6.drew q _ ⟨(mk.link nx 1).2, n9⟩ (.int .i64 0) (.returned (.int .i64 0)) w7 := ⟨rfl, hR7.1.to (HINS.out kk hk7), hR7.2⟩
                   have hP6 := hP7.after HR6.out.1.lt hBd7
                   have hP5 := rtp_step HR5.out.1.lt HR6.out.2 hP6
                   have hP4 := rtp_step (fun k hk => Nat.lt_of_lt_of_le (H2.out.lt k hk) HB4.out.size) HR5.out.2 hP5
                   have hP3 : RTPost w4 q R ⟨(mk.link nx 1).2, n9⟩ (.int .i64 0) (.returned (.int .i64 0)) w7 := ⟨rfl, hP4⟩
                   have HFIN := Lib.hid (hP3.after hlt.out HB4.out)
                   clear hk7 hn7 hM7 hR7 hP7 hP6 hP5 hP4 hP3 hBd7))
            go_wp2_with fail
            go_ret
            exact ⟨rfl, HFIN.out⟩
end Go.Proofs.YtakbalmbkokklaaGreat
/- the document's tree: Mkdir, Create -/
namespace Go.Proofs.YtakbalmbkokklaaGreat
open Go.RowKit Esch Go.Shelf

set_option maxRecDepth 100000 in
set_option maxHeartbeats 1000000 in
theorem rtMkdir_any (w : World) (q : Nat) (R : Nat → Prop) (s : TrS) (h : RTreeAt w q R s) (hg : GK s) (p : Nm) (hp : p.length ≤ 100000) :
    Calls Tryz.prog 64 #[.pointer (some ⟨q, 0, none⟩), .string (bs p)] w (RTPost w q R ((s.mk' p 1).run s).2 (.int .i64 ((s.mk' p 1).run s).1)) := by
  have hmk := rtMake_any w q R s h hg p hp 1 (Or.inl rfl)
  go_enter Tryz.func64, Tryz.ntmps64
  go_wp2_with fail
  refine hmk.mono ?_
  clear hmk
  rintro e w1 ⟨rfl, h1⟩
  go_wp2_with fail
  go_ret
  exact ⟨rfl, h1⟩
set_option maxRecDepth 100000 in
set_option maxHeartbeats 1000000 in
theorem rtCreate_any (w : World) (q : Nat) (R : Nat → Prop) (s : TrS) (h : RTreeAt w q R s) (hg : GK s) (p : Nm) (hp : p.length ≤ 100000) :
    Calls Tryz.prog 66 #[.pointer (some ⟨q, 0, none⟩), .string (bs p)] w (RTPost w q R ((s.mk' p 2).run s).2 (.int .i64 ((s.mk' p 2).run s).1)) := by
  have hmk := rtMake_any w q R s h hg p hp 2 (Or.inr rfl)
  go_enter Tryz.func66, Tryz.ntmps66
  go_wp2_with fail
  refine hmk.mono ?_
  clear hmk
  rintro e w1 ⟨rfl, h1⟩
  go_wp2_with fail
  go_ret
  exact ⟨rfl, h1⟩
end Go.Proofs.YtakbalmbkokklaaGreat
