import Derived.Test.YtpkdpmkiplopmaaPage
/- pages: what is done to them -/
namespace Go.Proofs.Ytpkdpmkiplopmaa
open Go.RowKit Esch

theorem mod_none {F : Nat → Prop} {w w' : World} (h : Mod none' w w') : Mod F w w' := h.mono (fun _ _ h => h.elim)
theorem PagesAt.keep {w w' : World} {b mb : Nat} {s : PgS} (h : PagesAt w b mb s) (hM : Mod none' w w') : PagesAt w' b mb s := h.mod hM id id
def PgPost (w : World) (b mb : Nat) (r : Int × PgS) (e : Ending) (w' : World) : Prop := e = .returned (.int .i64 r.1) ∧ PagesAt w' b mb r.2 ∧ Mod (fun k => k = b ∨ k = mb) w w'
set_option maxRecDepth 100000 in
set_option maxHeartbeats 1000000 in
theorem pwrite_any (w : World) (b mb : Nat) (s : PgS) (hok : s.ok) (h : PagesAt w b mb s) (a : Int) (d : ByteArray) (hd : d.size ≤ 9223372036854775807) :
    Calls Try.prog 115 #[.pointer (some ⟨b, 0, none⟩), .int .i64 a, .string d] w (PgPost w b mb (s.write a d)) := by
  have hth := there_any w b a
  have H := Lib.hid h
  have Hok := Lib.hid hok
  have hkd := fun W hW => pkind_any W b mb s (h.keep hW) a
  have c2 := h.c2
  unfold PgPost PgS.write
  cases hin : inB a
  · rw [hin] at hth
    rw [if_pos rfl]
    clear h hok hkd
    go_enter Try.func115, Try.ntmps115
    go_wp2_with fail
    refine hth.mono ?_
    rintro e w1 ⟨rfl, rfl⟩
    go_wp2_with fail
    go_ret
    exact ⟨rfl, H.out.keep (by (repeat' (first | (with_reducible exact (Mod.refl _ _)) | (with_reducible apply Mod.drew) | (with_reducible apply Mod.drewN) | (with_reducible apply Mod.alloc) | (with_reducible apply Mod.setCellAt) | (intro _; first | rfl | exact Or.inl rfl | exact Or.inr rfl) | (intro h; exfalso; omega)))), by (repeat' (first | (with_reducible exact (Mod.refl _ _)) | (with_reducible apply Mod.drew) | (with_reducible apply Mod.drewN) | (with_reducible apply Mod.alloc) | (with_reducible apply Mod.setCellAt) | (intro _; first | rfl | exact Or.inl rfl | exact Or.inr rfl) | (intro h; exfalso; omega)))⟩
  · rw [hin] at hth
    rw [if_neg (by simp)]
    have Hin := Lib.hid hin
    clear hin
    by_cases hl : 4096 < d.size
    · rw [if_pos hl]
      have hl' : (4096 : Int) < d.size := by omega
      clear h hok hkd
      go_enter Try.func115, Try.ntmps115
      go_wp2_with fail
      refine hth.mono ?_
      rintro e w1 ⟨rfl, rfl⟩
      go_wp2_with fail
      go_ret
      exact ⟨rfl, H.out.keep (by (repeat' (first | (with_reducible exact (Mod.refl _ _)) | (with_reducible apply Mod.drew) | (with_reducible apply Mod.drewN) | (with_reducible apply Mod.alloc) | (with_reducible apply Mod.setCellAt) | (intro _; first | rfl | exact Or.inl rfl | exact Or.inr rfl) | (intro h; exfalso; omega)))), by (repeat' (first | (with_reducible exact (Mod.refl _ _)) | (with_reducible apply Mod.drew) | (with_reducible apply Mod.drewN) | (with_reducible apply Mod.alloc) | (with_reducible apply Mod.setCellAt) | (intro _; first | rfl | exact Or.inl rfl | exact Or.inr rfl) | (intro h; exfalso; omega)))⟩
    · rw [if_neg hl]
      have hl' : decide ((4096 : Int) < d.size) = false := decide_eq_false (by omega)
      have Hl := Lib.hid hl
      clear hl
      by_cases he : a < s.edge
      · rw [if_pos he]
        clear h hok hkd
        go_enter Try.func115, Try.ntmps115
        go_wp2_with fail
        refine hth.mono ?_
        rintro e w1 ⟨rfl, rfl⟩
        go_wp2_with fail
        go_ret
        exact ⟨rfl, H.out.keep (by (repeat' (first | (with_reducible exact (Mod.refl _ _)) | (with_reducible apply Mod.drew) | (with_reducible apply Mod.drewN) | (with_reducible apply Mod.alloc) | (with_reducible apply Mod.setCellAt) | (intro _; first | rfl | exact Or.inl rfl | exact Or.inr rfl) | (intro h; exfalso; omega)))), by (repeat' (first | (with_reducible exact (Mod.refl _ _)) | (with_reducible apply Mod.drew) | (with_reducible apply Mod.drewN) | (with_reducible apply Mod.alloc) | (with_reducible apply Mod.setCellAt) | (intro _; first | rfl | exact Or.inl rfl | exact Or.inr rfl) | (intro h; exfalso; omega)))⟩
      · rw [if_neg he]
        have he' : decide (a < (s.edge : Int)) = false := decide_eq_false he
        have He := Lib.hid he
        clear he
        by_cases hk : s.kind a ≠ 0
        · rw [if_pos hk]
          have hk' : (s.kind a != 0) = true := by simpa using hk
          generalize s.kind a = kd at hkd hk'
          clear h hok hk
          go_enter Try.func115, Try.ntmps115
          go_wp2_with fail
          refine hth.mono ?_
          rintro e w1 ⟨rfl, rfl⟩
          go_wp2_with fail
          refine (hkd _ (by (repeat' (first | (with_reducible exact (Mod.refl _ _)) | (with_reducible apply Mod.drew) | (with_reducible apply Mod.drewN) | (with_reducible apply Mod.alloc) | (with_reducible apply Mod.setCellAt) | (intro _; first | rfl | exact Or.inl rfl | exact Or.inr rfl) | (intro h; exfalso; omega))))).mono ?_
          rintro e w2 ⟨rfl, hM2⟩
          go_wp2_with fail
          go_ret
          exact ⟨rfl, H.out.keep (by (repeat' (first | (with_reducible exact hM2) | (with_reducible apply Mod.drew) | (with_reducible apply Mod.drewN) | (with_reducible apply Mod.alloc) | (with_reducible apply Mod.setCellAt) | (intro _; first | rfl | exact Or.inl rfl | exact Or.inr rfl) | (intro h; exfalso; omega)))), mod_none (show Mod none' _ _ from by (repeat' (first | (with_reducible exact hM2) | (with_reducible apply Mod.drew) | (with_reducible apply Mod.drewN) | (with_reducible apply Mod.alloc) | (with_reducible apply Mod.setCellAt) | (intro _; first | rfl | exact Or.inl rfl | exact Or.inr rfl) | (intro h; exfalso; omega))))⟩
        · rw [if_neg hk]
          have hk0 : s.kind a = 0 := by simpa using hk
          have hg := hok.empty_none Hin.out He.out hk0
          rw [hk0] at hkd
          have hst := fun W hW => pset_any W b mb s (h.keep hW) a (1, d) hg
          clear h hok hk hk0 hg
          go_enter Try.func115, Try.ntmps115
          go_wp2_with fail
          refine hth.mono ?_
          rintro e w1 ⟨rfl, rfl⟩
          go_wp2_with fail
          refine (hkd _ (by (repeat' (first | (with_reducible exact (Mod.refl _ _)) | (with_reducible apply Mod.drew) | (with_reducible apply Mod.drewN) | (with_reducible apply Mod.alloc) | (with_reducible apply Mod.setCellAt) | (intro _; first | rfl | exact Or.inl rfl | exact Or.inr rfl) | (intro h; exfalso; omega))))).mono ?_
          rintro e w2 ⟨rfl, hM2⟩
          go_wp2_with fail
          refine (hst _ (by (repeat' (first | (with_reducible exact hM2) | (with_reducible apply Mod.drew) | (with_reducible apply Mod.drewN) | (with_reducible apply Mod.alloc) | (with_reducible apply Mod.setCellAt) | (intro _; first | rfl | exact Or.inl rfl | exact Or.inr rfl) | (intro h; exfalso; omega))))).mono ?_
          rintro e w3 ⟨rfl, hP3, hM3⟩
          go_wp2_with fail
          go_ret
          exact ⟨rfl, hP3, (mod_none (show Mod none' _ _ from by (repeat' (first | (with_reducible exact hM2) | (with_reducible apply Mod.drew) | (with_reducible apply Mod.drewN) | (with_reducible apply Mod.alloc) | (with_reducible apply Mod.setCellAt) | (intro _; first | rfl | exact Or.inl rfl | exact Or.inr rfl) | (intro h; exfalso; omega))))).trans (hM3.mono (fun _ _ h => Or.inr h))⟩
set_option maxRecDepth 100000 in
set_option maxHeartbeats 1000000 in
theorem pfill_any (w : World) (b mb : Nat) (s : PgS) (hok : s.ok) (h : PagesAt w b mb s) (a : Int) :
    Calls Try.prog 116 #[.pointer (some ⟨b, 0, none⟩), .int .i64 a] w (PgPost w b mb (s.fill a)) := by
  have hth := there_any w b a
  have H := Lib.hid h
  have hkd := fun W hW => pkind_any W b mb s (h.keep hW) a
  unfold PgPost PgS.fill
  cases hin : inB a
  · rw [hin] at hth
    rw [if_pos rfl]
    clear h hok hkd
    go_enter Try.func116, Try.ntmps116
    go_wp2_with fail
    refine hth.mono ?_
    rintro e w1 ⟨rfl, rfl⟩
    go_wp2_with fail
    go_ret
    exact ⟨rfl, H.out.keep (by (repeat' (first | (with_reducible exact (Mod.refl _ _)) | (with_reducible apply Mod.drew) | (with_reducible apply Mod.drewN) | (with_reducible apply Mod.alloc) | (with_reducible apply Mod.setCellAt) | (intro _; first | rfl | exact Or.inl rfl | exact Or.inr rfl) | (intro h; exfalso; omega)))), by (repeat' (first | (with_reducible exact (Mod.refl _ _)) | (with_reducible apply Mod.drew) | (with_reducible apply Mod.drewN) | (with_reducible apply Mod.alloc) | (with_reducible apply Mod.setCellAt) | (intro _; first | rfl | exact Or.inl rfl | exact Or.inr rfl) | (intro h; exfalso; omega)))⟩
  · rw [hin] at hth
    rw [if_neg (by simp)]
    have hc := hok.kind_cases a
    by_cases h3 : s.kind a = 3
    · rw [if_pos h3]
      rw [h3] at hkd
      clear h3 hc
      clear h hok
      go_enter Try.func116, Try.ntmps116
      go_wp2_with fail
      refine hth.mono ?_
      rintro e w1 ⟨rfl, rfl⟩
      go_wp2_with fail
      refine (hkd _ (by (repeat' (first | (with_reducible exact (Mod.refl _ _)) | (with_reducible apply Mod.drew) | (with_reducible apply Mod.drewN) | (with_reducible apply Mod.alloc) | (with_reducible apply Mod.setCellAt) | (intro _; first | rfl | exact Or.inl rfl | exact Or.inr rfl) | (intro h; exfalso; omega))))).mono ?_
      rintro e w2 ⟨rfl, hM2⟩
      go_wp2_with fail
      go_ret
      exact ⟨rfl, H.out.keep (by (repeat' (first | (with_reducible exact hM2) | (with_reducible apply Mod.drew) | (with_reducible apply Mod.drewN) | (with_reducible apply Mod.alloc) | (with_reducible apply Mod.setCellAt) | (intro _; first | rfl | exact Or.inl rfl | exact Or.inr rfl) | (intro h; exfalso; omega)))), mod_none (show Mod none' _ _ from by (repeat' (first | (with_reducible exact hM2) | (with_reducible apply Mod.drew) | (with_reducible apply Mod.drewN) | (with_reducible apply Mod.alloc) | (with_reducible apply Mod.setCellAt) | (intro _; first | rfl | exact Or.inl rfl | exact Or.inr rfl) | (intro h; exfalso; omega))))⟩
    · rw [if_neg h3]
      by_cases h2 : s.kind a = 2
      · rw [if_pos h2]
        rw [h2] at hkd
        clear h2 h3 hc
        clear h hok
        go_enter Try.func116, Try.ntmps116
        go_wp2_with fail
        refine hth.mono ?_
        rintro e w1 ⟨rfl, rfl⟩
        go_wp2_with fail
        refine (hkd _ (by (repeat' (first | (with_reducible exact (Mod.refl _ _)) | (with_reducible apply Mod.drew) | (with_reducible apply Mod.drewN) | (with_reducible apply Mod.alloc) | (with_reducible apply Mod.setCellAt) | (intro _; first | rfl | exact Or.inl rfl | exact Or.inr rfl) | (intro h; exfalso; omega))))).mono ?_
        rintro e w2 ⟨rfl, hM2⟩
        go_wp2_with fail
        go_ret
        exact ⟨rfl, H.out.keep (by (repeat' (first | (with_reducible exact hM2) | (with_reducible apply Mod.drew) | (with_reducible apply Mod.drewN) | (with_reducible apply Mod.alloc) | (with_reducible apply Mod.setCellAt) | (intro _; first | rfl | exact Or.inl rfl | exact Or.inr rfl) | (intro h; exfalso; omega)))), mod_none (show Mod none' _ _ from by (repeat' (first | (with_reducible exact hM2) | (with_reducible apply Mod.drew) | (with_reducible apply Mod.drewN) | (with_reducible apply Mod.alloc) | (with_reducible apply Mod.setCellAt) | (intro _; first | rfl | exact Or.inl rfl | exact Or.inr rfl) | (intro h; exfalso; omega))))⟩
      · rw [if_neg h2]
        by_cases h1 : s.kind a = 1
        · rw [if_pos h1]
          rw [h1] at hkd
          clear h1 h2 h3 hc
          clear h hok
          go_enter Try.func116, Try.ntmps116
          go_wp2_with fail
          refine hth.mono ?_
          rintro e w1 ⟨rfl, rfl⟩
          go_wp2_with fail
          refine (hkd _ (by (repeat' (first | (with_reducible exact (Mod.refl _ _)) | (with_reducible apply Mod.drew) | (with_reducible apply Mod.drewN) | (with_reducible apply Mod.alloc) | (with_reducible apply Mod.setCellAt) | (intro _; first | rfl | exact Or.inl rfl | exact Or.inr rfl) | (intro h; exfalso; omega))))).mono ?_
          rintro e w2 ⟨rfl, hM2⟩
          go_wp2_with fail
          go_ret
          exact ⟨rfl, H.out.keep (by (repeat' (first | (with_reducible exact hM2) | (with_reducible apply Mod.drew) | (with_reducible apply Mod.drewN) | (with_reducible apply Mod.alloc) | (with_reducible apply Mod.setCellAt) | (intro _; first | rfl | exact Or.inl rfl | exact Or.inr rfl) | (intro h; exfalso; omega)))), mod_none (show Mod none' _ _ from by (repeat' (first | (with_reducible exact hM2) | (with_reducible apply Mod.drew) | (with_reducible apply Mod.drewN) | (with_reducible apply Mod.alloc) | (with_reducible apply Mod.setCellAt) | (intro _; first | rfl | exact Or.inl rfl | exact Or.inr rfl) | (intro h; exfalso; omega))))⟩
        · rw [if_neg h1]
          have hk0 : s.kind a = 0 := by omega
          have he : ¬ a < s.edge := by
            intro he
            apply h3
            unfold PgS.kind
            rw [if_neg (by rw [hin]; simp), if_pos he]
          have hg := hok.empty_none hin he hk0
          rw [hk0] at hkd
          have hst := fun W hW => pset_any W b mb s (h.keep hW) a (2, ⟨#[]⟩) hg
          clear h hok hk0 hg he h1 h2 h3 hc hin
          go_enter Try.func116, Try.ntmps116
          go_wp2_with fail
          refine hth.mono ?_
          rintro e w1 ⟨rfl, rfl⟩
          go_wp2_with fail
          refine (hkd _ (by (repeat' (first | (with_reducible exact (Mod.refl _ _)) | (with_reducible apply Mod.drew) | (with_reducible apply Mod.drewN) | (with_reducible apply Mod.alloc) | (with_reducible apply Mod.setCellAt) | (intro _; first | rfl | exact Or.inl rfl | exact Or.inr rfl) | (intro h; exfalso; omega))))).mono ?_
          rintro e w2 ⟨rfl, hM2⟩
          go_wp2_with fail
          refine (hst _ (by (repeat' (first | (with_reducible exact hM2) | (with_reducible apply Mod.drew) | (with_reducible apply Mod.drewN) | (with_reducible apply Mod.alloc) | (with_reducible apply Mod.setCellAt) | (intro _; first | rfl | exact Or.inl rfl | exact Or.inr rfl) | (intro h; exfalso; omega))))).mono ?_
          rintro e w3 ⟨rfl, hP3, hM3⟩
          go_wp2_with fail
          go_ret
          exact ⟨rfl, hP3, (mod_none (show Mod none' _ _ from by (repeat' (first | (with_reducible exact hM2) | (with_reducible apply Mod.drew) | (with_reducible apply Mod.drewN) | (with_reducible apply Mod.alloc) | (with_reducible apply Mod.setCellAt) | (intro _; first | rfl | exact Or.inl rfl | exact Or.inr rfl) | (intro h; exfalso; omega))))).trans (hM3.mono (fun _ _ h => Or.inr h))⟩
def RdPost (w : World) (r : ByteArray × Int) (e : Ending) (w' : World) : Prop := e = .returned (.tuple #[.string r.1, .int .i64 r.2]) ∧ Mod none' w w'
set_option maxRecDepth 100000 in
set_option maxHeartbeats 1000000 in
theorem pread_any (w : World) (b mb : Nat) (s : PgS) (hok : s.ok) (h : PagesAt w b mb s) (a : Int) :
    Calls Try.prog 117 #[.pointer (some ⟨b, 0, none⟩), .int .i64 a] w (RdPost w (s.read a)) := by
  have hth := there_any w b a
  have H := Lib.hid h
  have hkd := fun W hW => pkind_any W b mb s (h.keep hW) a
  unfold RdPost PgS.read
  cases hin : inB a
  · rw [hin] at hth
    rw [if_pos rfl]
    clear h hok hkd
    go_enter Try.func117, Try.ntmps117
    go_wp2_with fail
    refine hth.mono ?_
    rintro e w1 ⟨rfl, rfl⟩
    go_wp2_with fail
    go_ret2
    exact ⟨rfl, by (repeat' (first | (with_reducible exact (Mod.refl _ _)) | (with_reducible apply Mod.drew) | (with_reducible apply Mod.drewN) | (with_reducible apply Mod.alloc) | (with_reducible apply Mod.setCellAt) | (intro _; first | rfl | exact Or.inl rfl | exact Or.inr rfl) | (intro h; exfalso; omega)))⟩
  · rw [hin] at hth
    rw [if_neg (by simp)]
    have hc := hok.kind_cases a
    by_cases h3 : s.kind a = 3
    · rw [if_pos h3]
      rw [h3] at hkd
      clear h3 hc
      clear h hok
      go_enter Try.func117, Try.ntmps117
      go_wp2_with fail
      refine hth.mono ?_
      rintro e w1 ⟨rfl, rfl⟩
      go_wp2_with fail
      refine (hkd _ (by (repeat' (first | (with_reducible exact (Mod.refl _ _)) | (with_reducible apply Mod.drew) | (with_reducible apply Mod.drewN) | (with_reducible apply Mod.alloc) | (with_reducible apply Mod.setCellAt) | (intro _; first | rfl | exact Or.inl rfl | exact Or.inr rfl) | (intro h; exfalso; omega))))).mono ?_
      rintro e w2 ⟨rfl, hM2⟩
      go_wp2_with fail
      go_ret2
      exact ⟨rfl, by (repeat' (first | (with_reducible exact hM2) | (with_reducible apply Mod.drew) | (with_reducible apply Mod.drewN) | (with_reducible apply Mod.alloc) | (with_reducible apply Mod.setCellAt) | (intro _; first | rfl | exact Or.inl rfl | exact Or.inr rfl) | (intro h; exfalso; omega)))⟩
    · rw [if_neg h3]
      by_cases h0 : s.kind a = 0
      · rw [if_pos h0]
        rw [h0] at hkd
        clear h0 h3 hc
        clear h hok
        go_enter Try.func117, Try.ntmps117
        go_wp2_with fail
        refine hth.mono ?_
        rintro e w1 ⟨rfl, rfl⟩
        go_wp2_with fail
        refine (hkd _ (by (repeat' (first | (with_reducible exact (Mod.refl _ _)) | (with_reducible apply Mod.drew) | (with_reducible apply Mod.drewN) | (with_reducible apply Mod.alloc) | (with_reducible apply Mod.setCellAt) | (intro _; first | rfl | exact Or.inl rfl | exact Or.inr rfl) | (intro h; exfalso; omega))))).mono ?_
        rintro e w2 ⟨rfl, hM2⟩
        go_wp2_with fail
        go_ret2
        exact ⟨rfl, by (repeat' (first | (with_reducible exact hM2) | (with_reducible apply Mod.drew) | (with_reducible apply Mod.drewN) | (with_reducible apply Mod.alloc) | (with_reducible apply Mod.setCellAt) | (intro _; first | rfl | exact Or.inl rfl | exact Or.inr rfl) | (intro h; exfalso; omega)))⟩
      · rw [if_neg h0]
        by_cases h2 : s.kind a = 2
        · rw [if_pos h2]
          rw [h2] at hkd
          clear h2 h3 h0 hc
          clear h hok
          go_enter Try.func117, Try.ntmps117
          go_wp2_with fail
          refine hth.mono ?_
          rintro e w1 ⟨rfl, rfl⟩
          go_wp2_with fail
          refine (hkd _ (by (repeat' (first | (with_reducible exact (Mod.refl _ _)) | (with_reducible apply Mod.drew) | (with_reducible apply Mod.drewN) | (with_reducible apply Mod.alloc) | (with_reducible apply Mod.setCellAt) | (intro _; first | rfl | exact Or.inl rfl | exact Or.inr rfl) | (intro h; exfalso; omega))))).mono ?_
          rintro e w2 ⟨rfl, hM2⟩
          go_wp2_with fail
          go_ret2
          exact ⟨rfl, by (repeat' (first | (with_reducible exact hM2) | (with_reducible apply Mod.drew) | (with_reducible apply Mod.drewN) | (with_reducible apply Mod.alloc) | (with_reducible apply Mod.setCellAt) | (intro _; first | rfl | exact Or.inl rfl | exact Or.inr rfl) | (intro h; exfalso; omega)))⟩
        · rw [if_neg h2]
          have hk1 : s.kind a = 1 := by omega
          rw [hk1] at hkd
          unfold PgS.text
          have hlk := fun W hW => (show ∃ es clock, MapAt W mb κs1 κc s.m es clock from (h.keep hW).map)
          have c1 := h.c1
          clear h hok hk1 h2 h3 h0 hc hin
          go_enter Try.func117, Try.ntmps117
          go_wp2_with fail
          refine hth.mono ?_
          rintro e w1 ⟨rfl, rfl⟩
          go_wp2_with fail
          refine (hkd _ (by (repeat' (first | (with_reducible exact (Mod.refl _ _)) | (with_reducible apply Mod.drew) | (with_reducible apply Mod.drewN) | (with_reducible apply Mod.alloc) | (with_reducible apply Mod.setCellAt) | (intro _; first | rfl | exact Or.inl rfl | exact Or.inr rfl) | (intro h; exfalso; omega))))).mono ?_
          rintro e w2 ⟨rfl, hM2⟩
          obtain ⟨es, clock, hm⟩ := hlk w2 (by (repeat' (first | (with_reducible exact hM2) | (with_reducible apply Mod.drew) | (with_reducible apply Mod.drewN) | (with_reducible apply Mod.alloc) | (with_reducible apply Mod.setCellAt) | (intro _; first | rfl | exact Or.inl rfl | exact Or.inr rfl) | (intro h; exfalso; omega))))
          have hlk2 := page_look hm a
          have c1w := hM2.at c1 id
          clear hm hlk
          go_wp2_with fail
          go_ret2
          exact ⟨rfl, by (repeat' (first | (with_reducible exact hM2) | (with_reducible apply Mod.drew) | (with_reducible apply Mod.drewN) | (with_reducible apply Mod.alloc) | (with_reducible apply Mod.setCellAt) | (intro _; first | rfl | exact Or.inl rfl | exact Or.inr rfl) | (intro h; exfalso; omega)))⟩
set_option maxHeartbeats 1000000 in
theorem pused_any (w : World) (b mb : Nat) (s : PgS) (h : PagesAt w b mb s) :
    Calls Try.prog 38 #[.pointer (some ⟨b, 0, none⟩)] w fun e w' => e = .returned (.int .i64 s.m.length) ∧ Mod none' w w' := by
  obtain ⟨c0, c1, c2, f2, ⟨es, clock, hm⟩, hne⟩ := h
  have hlen := hm.len Try.underlying103
  clear hm
  go_enter Try.func38, Try.ntmps38
  go_wp2_with fail
  go_ret
  exact ⟨rfl, by (repeat' (first | (with_reducible exact (Mod.refl _ _)) | (with_reducible apply Mod.drew) | (with_reducible apply Mod.drewN) | (with_reducible apply Mod.alloc) | (with_reducible apply Mod.setCellAt) | (intro _; first | rfl | exact Or.inl rfl | exact Or.inr rfl) | (intro h; exfalso; omega)))⟩
end Go.Proofs.Ytpkdpmkiplopmaa
