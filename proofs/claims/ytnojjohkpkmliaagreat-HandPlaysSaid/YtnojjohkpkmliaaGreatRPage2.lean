/- the document's pages: written, filled, read -/
import Derived.Test.YtnojjohkpkmliaaGreatRPage
namespace Go.Proofs.YtnojjohkpkmliaaGreat
open Go.RowKit Esch

theorem src_pg {P : Program} {W : World} (tx e' : TypeId) (hk : P.underlying tx = some (.slice e')) (b : Nat) (p : PgE) (t : TypeId) (hb : W.heap[b]? = some (.cells (pgC p).toArray t)) (c : Nat) : Src P 3 tx (.slice (some ⟨b, 0, none⟩) 1 c) 1 (pgC p) W := by
  refine Src.ofSlice W hk _ 1 c (pgC p) rfl (fun j u hu => ?_) (fun u hu => ?_)
  · rw [addr_add, Nat.zero_add]
    simp [World.cell?, hb, hu]
  · have := pgCells_one [p] u
    simp only [pgCells, List.flatMap_cons, List.flatMap_nil, List.append_nil] at this
    exact this hu
theorem Tryz.infoOne : (Tryz.prog.info? 142).map (fun i => (i.zero, i.size, i.bytes)) = some (some (.agg #[.int .i64 0, .int .i64 0, .string ⟨#[]⟩]), 3, 32) := by kernel_rfl
def RPgPost (w : World) (b : Nat) (S : Nat → Prop) (r : Int × PgS) (e : Ending) (w' : World) : Prop := e = .returned (.int .i64 r.1) ∧ RPgAt w' b (fun k => S k ∨ w.heap.size ≤ k) r.2 ∧ Mod (· = b) w w'
theorem RPgAt.same {w : World} {b : Nat} {S : Nat → Prop} {s : PgS} (h : RPgAt w b S s) {w' : World} (hB : Below w.heap.size w w') : RPgAt w' b (fun k => S k ∨ w.heap.size ≤ k) s := (h.below hB).sub (fun _ _ hk => Or.inl hk)
theorem RPgAt.setRow {w w8 : World} {b : Nat} {S : Nat → Prop} {s : PgS} {a : Option Addr} {cap n : Nat} {m : List PgE} (h : RPgAt w b S s) (hB : Below w.heap.size w w8) (hg : GRowAt w8 (From w.heap.size) 3 n cap a (pgCells m)) (hn : n = m.length) :
    RPgAt (w8.setCell ⟨b, 0, none⟩ (.slice a n cap)) b (fun k => S k ∨ w.heap.size ≤ k) { s with m := m } ∧ Mod (· = b) w (w8.setCell ⟨b, 0, none⟩ (.slice a n cap)) := by
  subst hn
  have hl := h.lt
  have hz := hB.size
  obtain ⟨ao, c, c0, -⟩ := h.row
  have d0 := below_at hB c0 hl
  have d1 := below_at hB h.c1 hl
  have d2 := below_at hB h.c2 hl
  have hM : Mod (· = b) w8 (w8.setCell ⟨b, 0, none⟩ (.slice a m.length cap)) := (Mod.refl (· = b) w8).setCellAt (fun _ => rfl) _
  refine ⟨⟨⟨a, cap, by go_simp, ?_⟩, by go_simp, by go_simp, fun o ho => ?_⟩, (Mod.of_below (F := (· = b)) hB).trans hM⟩
  · refine (hg.mod hM (fun k hk _ e => ?_)).sub (fun k _ hk => Or.inr hk)
    have hk : w.heap.size ≤ k := hk
    omega
  · have := (hB.frozen (p := ⟨b, o, none⟩) hl).trans (h.fr o ho)
    go_simp
section
variable {w : World} {b : Nat} {S : Nat → Prop} {s : PgS}
set_option maxRecDepth 100000 in
set_option maxHeartbeats 2000000 in
theorem rwrite_any (h : RPgAt w b S s) (hok : s.ok) (a : Int) (d : ByteArray) (hd : d.size ≤ 9223372036854775807) : Calls Tryz.prog 74 #[.pointer (some ⟨b, 0, none⟩), .int .i64 a, .string d] w (RPgPost w b S (s.write a d)) := by
  have hth := rthere_any w a
  have hkn := rkind_any h a (by have := hok.len; have := hok.room; omega)
  obtain ⟨ao, cap, c0, hr⟩ := h.row
  have c1 := h.c1
  have hl := h.lt
  have cf0 := h.fr 0 (by decide)
  have HS := Lib.hid (show ∀ W, Mod none' w W → Src Tryz.prog 3 136 (.slice ao s.m.length cap) s.m.length (pgCells s.m) W from fun W hM => (hr.mod hM (fun _ _ _ => id)).src Tryz.underlying136 (pgCells_one _))
  have hlen : s.m.length ≤ 4096 := by have := hok.len; have := hok.room; omega
  have H := Lib.hid h
  obtain ⟨j0, hi, hy0, hy1, hy2⟩ := info_parts Tryz.infoOne
  obtain ⟨kd, hkd⟩ : ∃ kd, kd = s.kind a := ⟨_, rfl⟩
  rw [← hkd] at hkn
  have Hkd := Lib.hid hkd
  have Hkc := Lib.hid (hok.kind_cases a)
  have Hok := Lib.hid hok
  clear h hr hkd hok
  have Hd := Lib.hid hd
  clear hd
  go_enter Tryz.func74, Tryz.ntmps74
  go_wp2_with fail
  refine hth.mono ?_
  clear hth
  rintro e w1 ⟨rfl, rfl⟩
  cases hin : inB a with
  | false =>
    have HR := Lib.hid (show s.write a d = (1, s) by unfold PgS.write; rw [if_pos hin])
    go_wp2_with fail
    go_ret
    exact ⟨by rw [HR.out]; rfl, by rw [HR.out]; exact H.out.same (by (repeat (first | with_reducible exact (Below.refl _ _) | with_reducible refine Below.drew ?_ | with_reducible refine Esch.below_drewN ?_ _ | with_reducible refine Below.setCell ?_ (by first | omega | (simp; done) | (simp; omega)) _ | with_reducible refine Below.alloc ?_ (by first | omega | (simp; done) | (simp; omega)) _))), by (repeat' (first | (with_reducible exact (Mod.refl _ _)) | (with_reducible apply Mod.drew) | (with_reducible apply Mod.drewN) | (with_reducible apply Mod.alloc) | (with_reducible apply Mod.setCellAt) | (intro _; first | rfl | exact Or.inl rfl | exact Or.inr rfl) | (intro h; exfalso; omega)))⟩
  | true =>
    have Hin := Lib.hid (show ¬ inB a = false by rw [hin]; simp)
    clear hin
    by_cases hbig : 4096 < d.size
    · have hbig' : (4096 : Int) < d.size := by omega
      have HR := Lib.hid (show s.write a d = (2, s) by unfold PgS.write; rw [if_neg Hin.out, if_pos hbig])
      clear hbig
      go_wp2_with fail
      go_ret
      exact ⟨by rw [HR.out]; rfl, by rw [HR.out]; exact H.out.same (by (repeat (first | with_reducible exact (Below.refl _ _) | with_reducible refine Below.drew ?_ | with_reducible refine Esch.below_drewN ?_ _ | with_reducible refine Below.setCell ?_ (by first | omega | (simp; done) | (simp; omega)) _ | with_reducible refine Below.alloc ?_ (by first | omega | (simp; done) | (simp; omega)) _))), by (repeat' (first | (with_reducible exact (Mod.refl _ _)) | (with_reducible apply Mod.drew) | (with_reducible apply Mod.drewN) | (with_reducible apply Mod.alloc) | (with_reducible apply Mod.setCellAt) | (intro _; first | rfl | exact Or.inl rfl | exact Or.inr rfl) | (intro h; exfalso; omega)))⟩
    · have hbig' : (d.size : Int) ≤ 4096 := by omega
      have Hbig := Lib.hid hbig
      clear hbig
      go_wp2_with fail
      refine hkn.mono ?_
      rintro e w2 ⟨rfl, rfl⟩
      by_cases h3 : a < s.edge
      · have e3 : kd = 3 := by rw [Hkd.out]; unfold PgS.kind; rw [if_neg Hin.out, if_pos h3]
        subst e3
        have HR := Lib.hid (show s.write a d = (43, s) by unfold PgS.write; rw [if_neg Hin.out, if_neg (show ¬ 4096 < d.size by have := Hbig.out; omega), if_pos h3])
        clear h3 hkn
        go_wp2_with fail
        go_ret
        exact ⟨by rw [HR.out]; rfl, by rw [HR.out]; exact H.out.same (by (repeat (first | with_reducible exact (Below.refl _ _) | with_reducible refine Below.drew ?_ | with_reducible refine Esch.below_drewN ?_ _ | with_reducible refine Below.setCell ?_ (by first | omega | (simp; done) | (simp; omega)) _ | with_reducible refine Below.alloc ?_ (by first | omega | (simp; done) | (simp; omega)) _))), by (repeat' (first | (with_reducible exact (Mod.refl _ _)) | (with_reducible apply Mod.drew) | (with_reducible apply Mod.drewN) | (with_reducible apply Mod.alloc) | (with_reducible apply Mod.setCellAt) | (intro _; first | rfl | exact Or.inl rfl | exact Or.inr rfl) | (intro h; exfalso; omega)))⟩
      · have h3' : kd ≠ 3 := fun e => by
          rw [Hkd.out] at e
          unfold PgS.kind at e
          rw [if_neg Hin.out, if_neg h3] at e
          have := Hkd.out
          unfold PgS.kind at this
          rw [if_neg Hin.out, if_neg h3] at this
          cases hg : get s.m a with
          | none => rw [hg] at e; simp at e
          | some v =>
            have := (Hok.out.kinds _ (mem_of_get hg)).1
            rw [hg] at e
            simp at e this
            omega
        have hk3 : (kd == 3) = false := by simpa using h3'
        have H3 := Lib.hid h3
        clear h3 h3'
        go_wp2_with fail
        refine hkn.mono ?_
        clear hkn
        rintro e w3 ⟨rfl, rfl⟩
        by_cases h0 : kd = 0
        · have hk0 : (kd != 0) = false := by simp [h0]
          have HR0 := Lib.hid (show s.write a d = s.put a (1, d) by unfold PgS.write; rw [if_neg Hin.out, if_neg (show ¬ 4096 < d.size by have := Hbig.out; omega), if_neg (show ¬ a < (s.edge : Int) by have := H3.out; omega), if_neg (by rw [← Hkd.out]; simp [h0])])
          subst h0
          by_cases hfull : s.room ≤ s.m.length
          · have hfull' : (s.room : Int) ≤ s.m.length := by omega
            have HR := Lib.hid (show s.write a d = (44, s) by rw [HR0.out]; unfold PgS.put; rw [if_pos hfull])
            clear hfull
            go_wp2_with fail
            go_region
            go_wp2_with fail
            go_ret
            exact ⟨by rw [HR.out]; rfl, by rw [HR.out]; exact H.out.same (by (repeat (first | with_reducible exact (Below.refl _ _) | with_reducible refine Below.drew ?_ | with_reducible refine Esch.below_drewN ?_ _ | with_reducible refine Below.setCell ?_ (by first | omega | (simp; done) | (simp; omega)) _ | with_reducible refine Below.alloc ?_ (by first | omega | (simp; done) | (simp; omega)) _))), by (repeat' (first | (with_reducible exact (Mod.refl _ _)) | (with_reducible apply Mod.drew) | (with_reducible apply Mod.drewN) | (with_reducible apply Mod.alloc) | (with_reducible apply Mod.setCellAt) | (intro _; first | rfl | exact Or.inl rfl | exact Or.inr rfl) | (intro h; exfalso; omega)))⟩
          · have hfull' : (s.m.length : Int) < s.room := by omega
            have HR := Lib.hid (show s.write a d = (0, { s with m := s.m ++ [(a, (1, d))] }) by rw [HR0.out]; unfold PgS.put; rw [if_neg hfull])
            clear hfull
            go_wp2_with fail
            go_region
            go_wp2_with (at_builtin; first
              | (refine wpList_append_g (by rfl) (.tmp 37) (.tmp 41) 136 136 (by rfl) 142 j0 _ 32 Tryz.underlying136 hi hy0 hy1 hy2 (by rfl) (by rfl) (GRowAt.nil _ none' 3 _) _ s.m.length (pgCells s.m) (by rfl) (HS.out _ (by (repeat' (first | (with_reducible exact (Mod.refl _ _)) | (with_reducible apply Mod.drew) | (with_reducible apply Mod.drewN) | (with_reducible apply Mod.alloc) | (with_reducible apply Mod.setCellAt) | (intro _; first | rfl | exact Or.inl rfl | exact Or.inr rfl) | (intro h; exfalso; omega))))) (by omega) (by omega) ?_; intro a6 cap6 w6 hg6 hM6 hz6
                 have hB6 : Below w3.heap.size w3 w6 := (show Mod none' w3 w6 from Mod.trans (by (repeat' (first | (with_reducible exact (Mod.refl _ _)) | (with_reducible apply Mod.drew) | (with_reducible apply Mod.drewN) | (with_reducible apply Mod.alloc) | (with_reducible apply Mod.setCellAt) | (intro _; first | rfl | exact Or.inl rfl | exact Or.inr rfl) | (intro h; exfalso; omega)))) hM6).below
                 simp only [Nat.zero_add, List.nil_append] at hg6
                 have HG6 := Lib.hid (show GRowAt w6 (From w3.heap.size) 3 s.m.length cap6 a6 (pgCells s.m) from hg6.sub (fun k _ hk => by
                   rcases hk with hk | hk
                   · exact hk.elim
                   · show w3.heap.size ≤ k; rw [hk]; simp))
                 have HB6 := Lib.hid hB6
                 have hzB := hB6.size
                 clear hg6 hM6 hB6)
              | (refine wpList_append_g (by rfl) (.tmp 42) (.tmp 46) 136 136 (by rfl) 142 j0 _ 32 Tryz.underlying136 hi hy0 hy1 hy2 (by rfl) (by rfl) (HG6.out.mod (F := none') (by (repeat' (first | (with_reducible exact (Mod.refl _ _)) | (with_reducible apply Mod.drew) | (with_reducible apply Mod.drewN) | (with_reducible apply Mod.alloc) | (with_reducible apply Mod.setCellAt) | (intro _; first | rfl | exact Or.inl rfl | exact Or.inr rfl) | (intro h; exfalso; omega)))) (fun _ _ _ => id)) _ 1 (pgC (a, ((1 : Int), d))) (by rfl) (src_pg _ _ Tryz.underlying136 w6.heap.size (a, ((1 : Int), d)) 142 (heap_alloc_new _ _) _) (by omega) (by omega) ?_; intro a8 cap8 w8 hg8 hM8 hz8
                 have hB8 : Below w3.heap.size w3 w8 := HB6.out.trans (((Below.refl _ w6).alloc (by omega) _).trans (hM8.below_at (by simp only [World.size_alloc]; omega) (fun k hk e => by have e : w3.heap.size ≤ k := e; omega)))
                 have d0 := below_at hB8 c0 hl
                 have f0 := (hB8.frozen (p := ⟨b, 0, none⟩) hl).trans cf0
                 have HG8 := Lib.hid hg8
                 have HB8 := Lib.hid hB8
                 clear hg8 hM8 hB8))
            go_ret
            have hg := HG8.out
            rw [show pgCells s.m ++ pgC (a, ((1 : Int), d)) = pgCells (s.m ++ [(a, ((1 : Int), d))]) by rw [pgCells_append]; rfl] at hg
            obtain ⟨h1, h2⟩ := H.out.setRow HB8.out (hg.sub (fun k _ hk => by
              rcases hk with hk | hk
              · exact hk
              · show w3.heap.size ≤ k; rw [hk]; simp only [World.size_alloc]; omega)) (n := s.m.length + 1) (m := s.m ++ [(a, ((1 : Int), d))]) (by simp)
            exact ⟨by rw [HR.out]; rfl, by rw [HR.out]; exact h1, h2⟩
        · have hk0 : (kd != 0) = true := by simpa using h0
          have HR := Lib.hid (show s.write a d = (41, s) by unfold PgS.write; rw [if_neg Hin.out, if_neg (show ¬ 4096 < d.size by have := Hbig.out; omega), if_neg (show ¬ a < (s.edge : Int) by have := H3.out; omega), if_pos (by rw [← Hkd.out]; exact h0)])
          clear h0
          go_wp2_with fail
          go_ret
          exact ⟨by rw [HR.out]; rfl, by rw [HR.out]; exact H.out.same (by (repeat (first | with_reducible exact (Below.refl _ _) | with_reducible refine Below.drew ?_ | with_reducible refine Esch.below_drewN ?_ _ | with_reducible refine Below.setCell ?_ (by first | omega | (simp; done) | (simp; omega)) _ | with_reducible refine Below.alloc ?_ (by first | omega | (simp; done) | (simp; omega)) _))), by (repeat' (first | (with_reducible exact (Mod.refl _ _)) | (with_reducible apply Mod.drew) | (with_reducible apply Mod.drewN) | (with_reducible apply Mod.alloc) | (with_reducible apply Mod.setCellAt) | (intro _; first | rfl | exact Or.inl rfl | exact Or.inr rfl) | (intro h; exfalso; omega)))⟩
set_option maxRecDepth 100000 in
set_option maxHeartbeats 2000000 in
theorem rfill_any (h : RPgAt w b S s) (hok : s.ok) (a : Int) : Calls Tryz.prog 75 #[.pointer (some ⟨b, 0, none⟩), .int .i64 a] w (RPgPost w b S (s.fill a)) := by
  have hth := rthere_any w a
  have hkn := rkind_any h a (by have := hok.len; have := hok.room; omega)
  obtain ⟨ao, cap, c0, hr⟩ := h.row
  have c1 := h.c1
  have hl := h.lt
  have cf0 := h.fr 0 (by decide)
  have HS := Lib.hid (show ∀ W, Mod none' w W → Src Tryz.prog 3 136 (.slice ao s.m.length cap) s.m.length (pgCells s.m) W from fun W hM => (hr.mod hM (fun _ _ _ => id)).src Tryz.underlying136 (pgCells_one _))
  have hlen : s.m.length ≤ 4096 := by have := hok.len; have := hok.room; omega
  have H := Lib.hid h
  obtain ⟨j0, hi, hy0, hy1, hy2⟩ := info_parts Tryz.infoOne
  obtain ⟨kd, hkd⟩ : ∃ kd, kd = s.kind a := ⟨_, rfl⟩
  rw [← hkd] at hkn
  have Hkd := Lib.hid hkd
  have Hkc := Lib.hid (hok.kind_cases a)
  have Hok := Lib.hid hok
  clear h hr hkd hok
  go_enter Tryz.func75, Tryz.ntmps75
  go_wp2_with fail
  refine hth.mono ?_
  clear hth
  rintro e w1 ⟨rfl, rfl⟩
  cases hin : inB a with
  | false =>
    have HR := Lib.hid (show s.fill a = (1, s) by unfold PgS.fill; rw [if_pos hin])
    go_wp2_with fail
    go_ret
    exact ⟨by rw [HR.out]; rfl, by rw [HR.out]; exact H.out.same (by (repeat (first | with_reducible exact (Below.refl _ _) | with_reducible refine Below.drew ?_ | with_reducible refine Esch.below_drewN ?_ _ | with_reducible refine Below.setCell ?_ (by first | omega | (simp; done) | (simp; omega)) _ | with_reducible refine Below.alloc ?_ (by first | omega | (simp; done) | (simp; omega)) _))), by (repeat' (first | (with_reducible exact (Mod.refl _ _)) | (with_reducible apply Mod.drew) | (with_reducible apply Mod.drewN) | (with_reducible apply Mod.alloc) | (with_reducible apply Mod.setCellAt) | (intro _; first | rfl | exact Or.inl rfl | exact Or.inr rfl) | (intro h; exfalso; omega)))⟩
  | true =>
    have Hin := Lib.hid (show ¬ inB a = false by rw [hin]; simp)
    clear hin
    go_wp2_with fail
    refine hkn.mono ?_
    rintro e w2 ⟨rfl, rfl⟩
    by_cases h3 : kd = 3
    · have HR := Lib.hid (show s.fill a = (43, s) by unfold PgS.fill; rw [if_neg Hin.out, if_pos (by rw [← Hkd.out]; exact h3)])
      subst h3
      go_wp2_with fail
      go_ret
      exact ⟨by rw [HR.out]; rfl, by rw [HR.out]; exact H.out.same (by (repeat (first | with_reducible exact (Below.refl _ _) | with_reducible refine Below.drew ?_ | with_reducible refine Esch.below_drewN ?_ _ | with_reducible refine Below.setCell ?_ (by first | omega | (simp; done) | (simp; omega)) _ | with_reducible refine Below.alloc ?_ (by first | omega | (simp; done) | (simp; omega)) _))), by (repeat' (first | (with_reducible exact (Mod.refl _ _)) | (with_reducible apply Mod.drew) | (with_reducible apply Mod.drewN) | (with_reducible apply Mod.alloc) | (with_reducible apply Mod.setCellAt) | (intro _; first | rfl | exact Or.inl rfl | exact Or.inr rfl) | (intro h; exfalso; omega)))⟩
    · have hk3 : (kd == 3) = false := by simpa using h3
      have H3 := Lib.hid (show ¬ s.kind a = 3 by rw [← Hkd.out]; exact h3)
      clear h3
      go_wp2_with fail
      refine hkn.mono ?_
      rintro e w3 ⟨rfl, rfl⟩
      by_cases h2 : kd = 2
      · have HR := Lib.hid (show s.fill a = (0, s) by unfold PgS.fill; rw [if_neg Hin.out, if_neg H3.out, if_pos (by rw [← Hkd.out]; exact h2)])
        subst h2
        go_wp2_with fail
        go_ret
        exact ⟨by rw [HR.out]; rfl, by rw [HR.out]; exact H.out.same (by (repeat (first | with_reducible exact (Below.refl _ _) | with_reducible refine Below.drew ?_ | with_reducible refine Esch.below_drewN ?_ _ | with_reducible refine Below.setCell ?_ (by first | omega | (simp; done) | (simp; omega)) _ | with_reducible refine Below.alloc ?_ (by first | omega | (simp; done) | (simp; omega)) _))), by (repeat' (first | (with_reducible exact (Mod.refl _ _)) | (with_reducible apply Mod.drew) | (with_reducible apply Mod.drewN) | (with_reducible apply Mod.alloc) | (with_reducible apply Mod.setCellAt) | (intro _; first | rfl | exact Or.inl rfl | exact Or.inr rfl) | (intro h; exfalso; omega)))⟩
      · have hk2 : (kd == 2) = false := by simpa using h2
        have H2 := Lib.hid (show ¬ s.kind a = 2 by rw [← Hkd.out]; exact h2)
        clear h2
        go_wp2_with fail
        refine hkn.mono ?_
        clear hkn
        rintro e w4 ⟨rfl, rfl⟩
        by_cases h1 : kd = 1
        · have HR := Lib.hid (show s.fill a = (41, s) by unfold PgS.fill; rw [if_neg Hin.out, if_neg H3.out, if_neg H2.out, if_pos (by rw [← Hkd.out]; exact h1)])
          subst h1
          go_wp2_with fail
          go_ret
          exact ⟨by rw [HR.out]; rfl, by rw [HR.out]; exact H.out.same (by (repeat (first | with_reducible exact (Below.refl _ _) | with_reducible refine Below.drew ?_ | with_reducible refine Esch.below_drewN ?_ _ | with_reducible refine Below.setCell ?_ (by first | omega | (simp; done) | (simp; omega)) _ | with_reducible refine Below.alloc ?_ (by first | omega | (simp; done) | (simp; omega)) _))), by (repeat' (first | (with_reducible exact (Mod.refl _ _)) | (with_reducible apply Mod.drew) | (with_reducible apply Mod.drewN) | (with_reducible apply Mod.alloc) | (with_reducible apply Mod.setCellAt) | (intro _; first | rfl | exact Or.inl rfl | exact Or.inr rfl) | (intro h; exfalso; omega)))⟩
        · have hk1 : (kd == 1) = false := by simpa using h1
          have HR0 := Lib.hid (show s.fill a = s.put a (2, ⟨#[]⟩) by unfold PgS.fill; rw [if_neg Hin.out, if_neg H3.out, if_neg H2.out, if_neg (by rw [← Hkd.out]; exact h1)])
          clear h1
          by_cases hfull : s.room ≤ s.m.length
          · have hfull' : (s.room : Int) ≤ s.m.length := by omega
            have HR := Lib.hid (show s.fill a = (44, s) by rw [HR0.out]; unfold PgS.put; rw [if_pos hfull])
            clear hfull
            go_wp2_with fail
            go_region
            go_wp2_with fail
            go_ret
            exact ⟨by rw [HR.out]; rfl, by rw [HR.out]; exact H.out.same (by (repeat (first | with_reducible exact (Below.refl _ _) | with_reducible refine Below.drew ?_ | with_reducible refine Esch.below_drewN ?_ _ | with_reducible refine Below.setCell ?_ (by first | omega | (simp; done) | (simp; omega)) _ | with_reducible refine Below.alloc ?_ (by first | omega | (simp; done) | (simp; omega)) _))), by (repeat' (first | (with_reducible exact (Mod.refl _ _)) | (with_reducible apply Mod.drew) | (with_reducible apply Mod.drewN) | (with_reducible apply Mod.alloc) | (with_reducible apply Mod.setCellAt) | (intro _; first | rfl | exact Or.inl rfl | exact Or.inr rfl) | (intro h; exfalso; omega)))⟩
          · have hfull' : (s.m.length : Int) < s.room := by omega
            have HR := Lib.hid (show s.fill a = (0, { s with m := s.m ++ [(a, (2, ⟨#[]⟩))] }) by rw [HR0.out]; unfold PgS.put; rw [if_neg hfull])
            clear hfull
            go_wp2_with fail
            go_region
            go_wp2_with (at_builtin; first
              | (refine wpList_append_g (by rfl) (.tmp 36) (.tmp 40) 136 136 (by rfl) 142 j0 _ 32 Tryz.underlying136 hi hy0 hy1 hy2 (by rfl) (by rfl) (GRowAt.nil _ none' 3 _) _ s.m.length (pgCells s.m) (by rfl) (HS.out _ (by (repeat' (first | (with_reducible exact (Mod.refl _ _)) | (with_reducible apply Mod.drew) | (with_reducible apply Mod.drewN) | (with_reducible apply Mod.alloc) | (with_reducible apply Mod.setCellAt) | (intro _; first | rfl | exact Or.inl rfl | exact Or.inr rfl) | (intro h; exfalso; omega))))) (by omega) (by omega) ?_; intro a6 cap6 w6 hg6 hM6 hz6
                 have hB6 : Below w4.heap.size w4 w6 := (show Mod none' w4 w6 from Mod.trans (by (repeat' (first | (with_reducible exact (Mod.refl _ _)) | (with_reducible apply Mod.drew) | (with_reducible apply Mod.drewN) | (with_reducible apply Mod.alloc) | (with_reducible apply Mod.setCellAt) | (intro _; first | rfl | exact Or.inl rfl | exact Or.inr rfl) | (intro h; exfalso; omega)))) hM6).below
                 simp only [Nat.zero_add, List.nil_append] at hg6
                 have HG6 := Lib.hid (show GRowAt w6 (From w4.heap.size) 3 s.m.length cap6 a6 (pgCells s.m) from hg6.sub (fun k _ hk => by
                   rcases hk with hk | hk
                   · exact hk.elim
                   · show w4.heap.size ≤ k; rw [hk]; simp))
                 have HB6 := Lib.hid hB6
                 have hzB := hB6.size
                 clear hg6 hM6 hB6)
              | (refine wpList_append_g (by rfl) (.tmp 41) (.tmp 44) 136 136 (by rfl) 142 j0 _ 32 Tryz.underlying136 hi hy0 hy1 hy2 (by rfl) (by rfl) (HG6.out.mod (F := none') (by (repeat' (first | (with_reducible exact (Mod.refl _ _)) | (with_reducible apply Mod.drew) | (with_reducible apply Mod.drewN) | (with_reducible apply Mod.alloc) | (with_reducible apply Mod.setCellAt) | (intro _; first | rfl | exact Or.inl rfl | exact Or.inr rfl) | (intro h; exfalso; omega)))) (fun _ _ _ => id)) _ 1 (pgC (a, ((2 : Int), (⟨#[]⟩ : ByteArray)))) (by rfl) (src_pg _ _ Tryz.underlying136 w6.heap.size (a, ((2 : Int), (⟨#[]⟩ : ByteArray))) 142 (heap_alloc_new _ _) _) (by omega) (by omega) ?_; intro a8 cap8 w8 hg8 hM8 hz8
                 have hB8 : Below w4.heap.size w4 w8 := HB6.out.trans (((Below.refl _ w6).alloc (by omega) _).trans (hM8.below_at (by simp only [World.size_alloc]; omega) (fun k hk e => by have e : w4.heap.size ≤ k := e; omega)))
                 have d0 := below_at hB8 c0 hl
                 have f0 := (hB8.frozen (p := ⟨b, 0, none⟩) hl).trans cf0
                 have HG8 := Lib.hid hg8
                 have HB8 := Lib.hid hB8
                 clear hg8 hM8 hB8))
            go_ret
            have hg := HG8.out
            rw [show pgCells s.m ++ pgC (a, ((2 : Int), (⟨#[]⟩ : ByteArray))) = pgCells (s.m ++ [(a, ((2 : Int), (⟨#[]⟩ : ByteArray)))]) by rw [pgCells_append]; rfl] at hg
            obtain ⟨h1, h2⟩ := H.out.setRow HB8.out (hg.sub (fun k _ hk => by
              rcases hk with hk | hk
              · exact hk
              · show w4.heap.size ≤ k; rw [hk]; simp only [World.size_alloc]; omega)) (n := s.m.length + 1) (m := s.m ++ [(a, ((2 : Int), (⟨#[]⟩ : ByteArray)))]) (by simp)
            exact ⟨by rw [HR.out]; rfl, by rw [HR.out]; exact h1, h2⟩
def RReadPost (w : World) (r : ByteArray × Int) (e : Ending) (w' : World) : Prop := e = .returned (.tuple #[.string r.1, .int .i64 r.2]) ∧ Below w.heap.size w w'
set_option maxRecDepth 100000 in
set_option maxHeartbeats 2000000 in
theorem rread_any (h : RPgAt w b S s) (hok : s.ok) (a : Int) : Calls Tryz.prog 76 #[.pointer (some ⟨b, 0, none⟩), .int .i64 a] w (RReadPost w (s.read a)) := by
  have hth := rthere_any w a
  have hlen : s.m.length ≤ 4096 := by have := hok.len; have := hok.room; omega
  have hkn := rkind_any h a (by omega)
  have hcon := fun W (hW : Below w.heap.size w W) => rfind_any (h.below hW) a (by omega : s.m.length ≤ 1000000)
  obtain ⟨ao, cap, c0, hr⟩ := h.row
  have HRow := Lib.hid hr
  obtain ⟨kd, hkd⟩ : ∃ kd, kd = s.kind a := ⟨_, rfl⟩
  rw [← hkd] at hkn
  have Hkd := Lib.hid hkd
  have Hkc := Lib.hid (hok.kind_cases a)
  have HC := Lib.hid hcon
  clear h hr hkd hok hcon
  go_enter Tryz.func76, Tryz.ntmps76
  go_wp2_with fail
  refine hth.mono ?_
  clear hth
  rintro e w1 ⟨rfl, rfl⟩
  cases hin : inB a with
  | false =>
    have HR := Lib.hid (show s.read a = (⟨#[]⟩, 1) by unfold PgS.read; rw [if_pos hin])
    go_wp2_with fail
    go_ret2
    exact ⟨by rw [HR.out]; rfl, by (repeat (first | with_reducible exact (Below.refl _ _) | with_reducible refine Below.drew ?_ | with_reducible refine Esch.below_drewN ?_ _ | with_reducible refine Below.setCell ?_ (by first | omega | (simp; done) | (simp; omega)) _ | with_reducible refine Below.alloc ?_ (by first | omega | (simp; done) | (simp; omega)) _))⟩
  | true =>
    have Hin := Lib.hid (show ¬ inB a = false by rw [hin]; simp)
    clear hin
    go_wp2_with fail
    refine hkn.mono ?_
    rintro e w2 ⟨rfl, rfl⟩
    by_cases h3 : kd = 3
    · have HR := Lib.hid (show s.read a = (⟨#[]⟩, 43) by unfold PgS.read; rw [if_neg Hin.out, if_pos (by rw [← Hkd.out]; exact h3)])
      subst h3
      go_wp2_with fail
      go_ret2
      exact ⟨by rw [HR.out]; rfl, by (repeat (first | with_reducible exact (Below.refl _ _) | with_reducible refine Below.drew ?_ | with_reducible refine Esch.below_drewN ?_ _ | with_reducible refine Below.setCell ?_ (by first | omega | (simp; done) | (simp; omega)) _ | with_reducible refine Below.alloc ?_ (by first | omega | (simp; done) | (simp; omega)) _))⟩
    · have hk3 : (kd == 3) = false := by simpa using h3
      have H3 := Lib.hid (show ¬ s.kind a = 3 by rw [← Hkd.out]; exact h3)
      clear h3
      go_wp2_with fail
      refine hkn.mono ?_
      rintro e w3 ⟨rfl, rfl⟩
      by_cases h0 : kd = 0
      · have HR := Lib.hid (show s.read a = (⟨#[]⟩, 42) by unfold PgS.read; rw [if_neg Hin.out, if_neg H3.out, if_pos (by rw [← Hkd.out]; exact h0)])
        subst h0
        go_wp2_with fail
        go_ret2
        exact ⟨by rw [HR.out]; rfl, by (repeat (first | with_reducible exact (Below.refl _ _) | with_reducible refine Below.drew ?_ | with_reducible refine Esch.below_drewN ?_ _ | with_reducible refine Below.setCell ?_ (by first | omega | (simp; done) | (simp; omega)) _ | with_reducible refine Below.alloc ?_ (by first | omega | (simp; done) | (simp; omega)) _))⟩
      · have hk0 : (kd == 0) = false := by simpa using h0
        have H0 := Lib.hid (show ¬ s.kind a = 0 by rw [← Hkd.out]; exact h0)
        clear h0
        go_wp2_with fail
        refine hkn.mono ?_
        clear hkn
        rintro e w4 ⟨rfl, rfl⟩
        by_cases h2 : kd = 2
        · have HR := Lib.hid (show s.read a = (⟨#[]⟩, 46) by unfold PgS.read; rw [if_neg Hin.out, if_neg H3.out, if_neg H0.out, if_pos (by rw [← Hkd.out]; exact h2)])
          subst h2
          go_wp2_with fail
          go_ret2
          exact ⟨by rw [HR.out]; rfl, by (repeat (first | with_reducible exact (Below.refl _ _) | with_reducible refine Below.drew ?_ | with_reducible refine Esch.below_drewN ?_ _ | with_reducible refine Below.setCell ?_ (by first | omega | (simp; done) | (simp; omega)) _ | with_reducible refine Below.alloc ?_ (by first | omega | (simp; done) | (simp; omega)) _))⟩
        · have hk2 : (kd == 2) = false := by simpa using h2
          have HR := Lib.hid (show s.read a = (s.text a, 0) by unfold PgS.read; rw [if_neg Hin.out, if_neg H3.out, if_neg H0.out, if_neg (by rw [← Hkd.out]; exact h2)])
          have hkey : ∃ k p, pgFind s.m a = some k ∧ s.m[k]? = some p ∧ s.text a = p.2.2 := by
            have hg := pgFind_get s.m a
            cases hf : pgFind s.m a with
            | none =>
              rw [hf] at hg
              exfalso
              apply H0.out
              unfold PgS.kind
              rw [if_neg Hin.out]
              split
              · rename_i h
                exfalso
                apply H3.out
                unfold PgS.kind
                rw [if_neg Hin.out, if_pos h]
              · rw [hg]; rfl
            | some k =>
              have hk := hf
              unfold pgFind at hk
              rw [List.findIdx?_eq_some_iff_getElem] at hk
              obtain ⟨hkl, -⟩ := hk
              refine ⟨k, s.m[k], rfl, List.getElem?_eq_getElem hkl, ?_⟩
              unfold PgS.text
              rw [hg, hf, Option.bind_some, List.getElem?_eq_getElem hkl]
              rfl
          obtain ⟨k, p, hf, hp, htx⟩ := hkey
          have hkl := (List.getElem?_eq_some_iff.1 hp).1
          obtain ⟨rb, off, rfl, -, -, hc⟩ := rowAt HRow.out (by omega)
          obtain ⟨-, -, k2⟩ := hc k p hp
          rw [← htx] at k2
          obtain ⟨tx, htx2⟩ : ∃ tx, tx = s.text a := ⟨_, rfl⟩
          rw [← htx2] at k2
          have Htx := Lib.hid htx2
          have hcon : Calls Tryz.prog 93 #[.pointer (some ⟨b, 0, none⟩), .int .i64 a] w4.drew fun e w' => e = .returned (.int .i64 (k : Int)) ∧ w' = w4.drew := (HC.out w4.drew ((Mod.refl none' w4).drew.below)).mono (fun e w' h => by
            unfold FindPost at h
            rw [hf] at h
            exact h)
          have d0 : w4.drew.cell? ⟨b, 0, none⟩ = some (.slice (some ⟨rb, off, none⟩) s.m.length cap) := c0
          have d2 : w4.drew.cell? ⟨rb, off + k * 3 + 2, none⟩ = some (.string tx) := k2
          have n0 : (0 : Int) ≤ k := by omega
          have n1 : (k : Int) < s.m.length := by omega
          clear h2 hp htx hc htx2 hf
          go_wp2_with fail
          go_region_held3 (fun w' => w'.cell? ⟨b, 0, none⟩ = some (.slice (some ⟨rb, off, none⟩) s.m.length cap) ∧ w'.cell? ⟨rb, off + k * 3 + 2, none⟩ = some (.string tx))
            (first | with_reducible exact ⟨d0, d2⟩)
            (first | (go_at_call 93; (with_reducible refine hcon.mono ?_); rintro e w5 ⟨rfl, rfl⟩))
          go_wp2_with fail
          go_ret2
          exact ⟨by rw [HR.out, ← Htx.out]; rfl, by (repeat (first | with_reducible exact (Below.refl _ _) | with_reducible refine Below.drew ?_ | with_reducible refine Esch.below_drewN ?_ _ | with_reducible refine Below.setCell ?_ (by first | omega | (simp; done) | (simp; omega)) _ | with_reducible refine Below.alloc ?_ (by first | omega | (simp; done) | (simp; omega)) _))⟩
end
end Go.Proofs.YtnojjohkpkmliaaGreat
