import Derived.Test.YtajbooppoohplaaGreatDoorMac
import Derived.Test.YtajbooppoohplaaGreatDoorPkTrf
import Derived.Test.YtajbooppoohplaaGreatDoorPkTre
import Derived.Test.YtajbooppoohplaaGreatDoorPkExt
import Derived.Test.YtajbooppoohplaaGreatDoorPkBase
/- package tree: Link, Truncate -/
set_option maxRecDepth 100000
set_option maxHeartbeats 8000000
namespace Esch
open Go Go.RowKit
theorem cut_same (s : TabS) (i n : Int) (h : (s.cut i n).1 ≠ 0) : (s.cut i n).2 = s := by
 unfold TabS.cut at *
 split
 · rfl
 split
 · rfl
 split
 · rfl
 · rename_i h1 h2 h3
   simp [h1, h2, h3] at h
theorem TreeAt.wide {w : World} {b : Nat} {S T : Nat → Prop} {s : TrS} (h : TreeAt w b S s) (hS : ∀ k, S k → T k) (hl : ∀ k, T k → k < w.heap.size) : TreeAt w b T s := by
 obtain ⟨sb, lt, ib, nb, S1, S2, c0, c1, ht, hn, s1, s2, d, b1, b2⟩ := h
 exact ⟨hS b sb, hl, ib, nb, S1, S2, c0, c1, ht, hn, fun k hk => hS k (s1 k hk), fun k hk => hS k (s2 k hk), d, b1, b2⟩
theorem TreeAt.grow {w : World} {b : Nat} {S : Nat → Prop} {s : TrS} (h : TreeAt w b S s) (w0 : World) : TreeAt w b (growI S w0 w) s := h.wide (fun _ => Or.inl) (fun k hk => hk.elim (h.lt k) (fun h => h.2))
theorem TreeAt.grow2 {w w0 w2 : World} {b : Nat} {S : Nat → Prop} {s : TrS} (h : TreeAt w b (growI S w2 w) s) (hz : w0.heap.size ≤ w2.heap.size) : TreeAt w b (growI S w0 w) s := h.wide (fun _ hk => hk.imp id fun h => ⟨Nat.le_trans hz h.1, h.2⟩) (fun k hk => hk.elim (fun hs => h.lt k (Or.inl hs)) (fun h => h.2))
/-- the inodes alone were written, and more has come -/
theorem TreeAt.tabG {w w' : World} {b ib nb : Nat} {S S1 S2 : Nat → Prop} {s : TrS} {t' : TabS} (sb : S b) (lt : ∀ k, S k → k < w.heap.size) (c0 : w.cell? ⟨b, 0, none⟩ = some (.pointer (some ⟨ib, 0, none⟩))) (c1 : w.cell? ⟨b, 1, none⟩ = some (.pointer (some ⟨nb, 0, none⟩)))
    (hn : DirAt w nb S2 s.n) (s1 : ∀ k, S1 k → S k) (s2 : ∀ k, S2 k → S k) (d : ∀ k, S1 k → ¬ S2 k) (b1 : ¬ S1 b) (b2 : ¬ S2 b) (ht : TabAt w' ib (growI S1 w w') t') (hM : Mod S1 w w') : TreeAt w' b (growI S w w') ⟨t', s.n⟩ ∧ Mod S w w' :=
  ⟨⟨Or.inl sb, fun k hk => hk.elim (fun hk => Nat.lt_of_lt_of_le (lt k hk) hM.size) (fun h => h.2), ib, nb, growI S1 w w', S2, hM.at c0 b1, hM.at c1 b1, ht, hn.mod hM (fun k hk h => d k h hk), fun k hk => hk.imp (s1 k) id, fun k hk => Or.inl (s2 k hk), fun k hk h2 => hk.elim (fun h => d k h h2) (fun h => absurd (lt k (s2 k h2)) (Nat.not_lt.2 h.1)), fun hk => hk.elim b1 (fun h => absurd (lt b sb) (Nat.not_lt.2 h.1)), b2⟩, hM.mono fun k _ hk => s1 k hk⟩
def ChgRG (W1 : World) (b : Nat) (S : Nat → Prop) (r : Int × TrS) (x : Int) (W : World) : Prop := x = r.1 ∧ TreeAt W b (growI S W1 W) r.2 ∧ Mod S W1 W
end Esch
namespace Go.Proofs.YtajbooppoohplaaGreatDoor
open Go.RowKit Esch Go.Shelf

def ErrPostG (w : World) (b : Nat) (S : Nat → Prop) (r : Int × TrS) (e : Ending) (w' : World) : Prop := e = .returned (.int .i64 r.1) ∧ TreeAt w' b (growI S w w') r.2 ∧ Mod S w w'
theorem tries_treeG (w : World) (b g : Nat) (lb : Array Value) (S : Nat → Prop) (r : Int × TrS) (hS : ¬ S w.heap.size) (eg : ∀ args w, (callFunc g args).run Tryz.prog w = .ok (.enter g args) w)
    (hdo : Calls Tryz.prog g lb (w.alloc (.cells #[.int .i64 0] 37)) (DoPost (ChgRG (w.alloc (.cells #[.int .i64 0] 37)) b S r))) :
    Calls Tryz.prog 62 #[.pointer (some ⟨b, 0, none⟩), .func (.func g) #[] lb] w (ErrPostG w b S r) := by
 refine (tries_any w b g lb _ eg hdo (fun x W hr => ⟨hr.2.2.at (by go_simp) hS, (hr.2.2.frozen (p := ⟨w.heap.size, 0, none⟩) (by simp) hS).trans (by go_simp)⟩)).mono ?_
 rintro e w' ⟨x, W, rfl, ⟨rfl, hT, hM⟩, hM2⟩
 have h1 : Mod S w W := (show Mod S w (w.alloc (.cells #[.int .i64 0] 37)) by exact modC (Mod.refl _ _)).trans hM
 have hT2 := hT.mod hM2 (fun k hk e => hk.elim (fun hk => hS (by rw [← e]; exact hk)) (fun h => by have := h.1; simp only [World.size_alloc] at this; have e : k = w.heap.size := e; omega))
 exact ⟨rfl, (hT2.wide (T := growI S w w') (fun k hk => hk.imp id (fun h => ⟨by have := h.1; simp only [World.size_alloc] at this; omega, Nat.lt_of_lt_of_le h.2 hM2.size⟩)) (fun k hk => hk.elim (fun hs => hT2.lt k (Or.inl hs)) (fun h => h.2))), ⟨hM2.os.trans h1.os, hM2.tape.trans h1.tape, hM2.output.trans h1.output, Nat.le_trans h1.size hM2.size, fun k hk hF => (hM2.block k (Nat.lt_of_lt_of_le hk h1.size) (fun e => by have e : k = w.heap.size := e; omega)).trans (h1.block k hk hF)⟩⟩
theorem trLink_any (w : World) (b : Nat) (S : Nat → Prop) (s : TrS) (h : TreeAt w b S s) (hok : s.ok) (p q : Nm) :
    Calls Tryz.prog 130 #[.pointer (some ⟨b, 0, none⟩), .string (bs p), .string (bs q)] w (ErrPost w b S ((s.lnk p q).run s)) := by
 obtain ⟨W1, hW1⟩ : ∃ W1, W1 = ((w.alloc (.cells #[.pointer (some ⟨b, 0, none⟩)] 52)).alloc (.cells #[.string (bs p)] 9)).alloc (.cells #[.string (bs q)] 9) := ⟨_, rfl⟩
 have hmf : ∀ (fn : Fn) (first cap : Array Value) (w : World), (Instr.makeFunc fn first cap).run Tryz.prog w = .ok (.func fn first cap) w := fun _ _ _ _ => rfl
 have hB1 : Below w.heap.size w W1 := by rw [hW1]; exact belC (Below.refl _ _)
 have hz1 : W1.heap.size = w.heap.size + 3 := by rw [hW1]; simp
 have hns : ∀ k, w.heap.size ≤ k → ¬ S k := fun k hk hs => by have := h.lt k hs; omega
 have hs1 : ¬ S W1.heap.size := hns _ (by omega)
 have hBe : Below w.heap.size w (W1.alloc (.cells #[.int .i64 0] 37)) := by exact belC hB1
 have hdo := link1_any (W1.alloc (.cells #[.int .i64 0] 37)) b w.heap.size (w.heap.size + 1) (w.heap.size + 2) S s (h.below' hBe) hok p q (by rw [hW1]; go_simp) (by rw [hW1]; go_simp) (by rw [hW1]; go_simp)
 have HM1 := Lib.hid (Mod.of_below (F := S) hB1)
 have HW1 := Lib.hid hW1
 obtain ⟨r, hr⟩ : ∃ r, r = (s.lnk p q).run s := ⟨_, rfl⟩
 rw [← hr] at hdo ⊢
 clear hr hB1 hW1 hBe h hz1 hns hok
 go_enter Tryz.func130, Tryz.ntmps130
 go_wp2_with fail
 rw [← HW1.out]
 refine (tries_tree W1 b 178 _ S r hs1 (enters_of Tryz.func178 (by kernel_rfl) rfl) hdo).mono ?_
 clear hdo
 rintro e W2 ⟨rfl, hT2, hM2⟩
 go_wp2_with fail
 go_ret
 exact ⟨rfl, hT2, HM1.out.trans hM2⟩
theorem trunc1_any (W : World) (b tb pb kb : Nat) (S : Nat → Prop) (s : TrS) (h : TreeAt W b S s) (hok : s.ok) (p : Nm) (n : Int)
    (t0 : W.cell? ⟨tb, 0, none⟩ = some (.pointer (some ⟨b, 0, none⟩))) (p0 : W.cell? ⟨pb, 0, none⟩ = some (.string (bs p))) (k0 : W.cell? ⟨kb, 0, none⟩ = some (.int .i64 n)) (nt : ¬ S tb) (np : ¬ S pb) (nk : ¬ S kb) :
    Calls Tryz.prog 185 #[.pointer (some ⟨tb, 0, none⟩), .pointer (some ⟨pb, 0, none⟩), .pointer (some ⟨kb, 0, none⟩)] W (DoPost (ChgRG W b S ((s.trunc p n).run s))) := by
 have hBd : Below W.heap.size W W.drew := by exact belC (Below.refl _ _)
 have hno := stop_no
 have hys := stop_yes
 have hrs := trResolve_any W.drew b S s (h.below' hBd) p
 have H := Lib.hid h
 have hT := h.below' hBd
 obtain ⟨sb, lt, ib, nb, S1, S2, c0, c1, ht, hn, s1, s2, dd, b1, b2⟩ := hT
 have hKd : W.drew.cell? ⟨tb, 0, none⟩ = some (.pointer (some ⟨b, 0, none⟩)) ∧ W.drew.cell? ⟨pb, 0, none⟩ = some (.string (bs p)) ∧ W.drew.cell? ⟨kb, 0, none⟩ = some (.int .i64 n) ∧ W.drew.cell? ⟨b, 0, none⟩ = some (.pointer (some ⟨ib, 0, none⟩)) := ⟨t0, p0, k0, c0⟩
 have hst := fun W' hB i => inoTruncate_any W' ib S1 s.t (ht.below' (w' := W') hB) i n (hok.t.x i)
 have HX := Lib.hid (show ∀ W2 W' t', Below W.drew.heap.size W.drew W2 → TabAt W' ib (growI S1 W2 W') t' → Mod S1 W2 W' → TreeAt W' b (growI S W2 W') ⟨t', s.n⟩ ∧ Mod S W2 W' from fun W2 W' t' hB h1 h2 => TreeAt.tabG (s := s) sb (fun k hk => Nat.lt_of_lt_of_le (lt k hk) hB.size) (below_at hB c0 (cell_lt c0)) (below_at hB c1 (cell_lt c1)) (hn.below' hB) s1 s2 dd b1 b2 h1 h2)
 have m1 : ¬ S1 tb := fun hk => nt (s1 _ hk)
 have m2 : ¬ S1 pb := fun hk => np (s1 _ hk)
 have m3 : ¬ S1 kb := fun hk => nk (s1 _ hk)
 obtain ⟨r, hr⟩ : ∃ r, r = (s.trunc p n).run s := ⟨_, rfl⟩
 rw [← hr]
 have HR := Lib.hid hr
 clear h ht hn s1 s2 dd lt sb c1 b2 hr hok
 cases hp : s.resolve p with
 | err e =>
   rw [hp] at hrs
   have HE := Lib.hid (show r = (e, s) by rw [HR.out]; unfold TrS.trunc; rw [hp]; rfl)
   clear hp hst
   go_enter Tryz.func185, Tryz.ntmps185
   go_wp2_with fail
   refine wp_region_held_drew (S := fun W' => W'.cell? ⟨tb, 0, none⟩ = some (.pointer (some ⟨b, 0, none⟩)) ∧ W'.cell? ⟨pb, 0, none⟩ = some (.string (bs p)) ∧ W'.cell? ⟨kb, 0, none⟩ = some (.int .i64 n) ∧ W'.cell? ⟨b, 0, none⟩ = some (.pointer (some ⟨ib, 0, none⟩))) (by kernel_rfl) hKd (fun hHeld => ?_)
   refine takeL 0 ?_
   refine takeL 1 ?_
   refine takeL 2 ?_
   refine takeL 3 ?_
   refine takeL 4 ?_
   refine takeL 5 ?_
   refine takeL 7 ?_
   refine wpAnyH_ready (rs := [6]) (by kernel_rfl) (by simp) ?_
   refine AllReadyH.cons (o := _) rfl (fun K hK => ?_) AllReadyH.nil
   go_simp
   go_at_call 64
   with_reducible refine hrs.mono ?_
   clear hrs
   rintro e W2 ⟨hB2, rfl⟩
   go_wp2_with fail
   have hB : Below W.heap.size W W2 := hBd.trans hB2
   exact ⟨rfl, Or.inr ⟨_, rfl, by rw [HE.out], by rw [HE.out]; exact (H.out.below' hB).grow W, Mod.of_below hB⟩⟩
 | ok i =>
   rw [hp] at hrs
   have HP := Lib.hid hp
   have hst2 := fun W' hB => hst W' hB i
   obtain ⟨rc, hrc⟩ : ∃ rc, rc = s.t.cut i n := ⟨_, rfl⟩
   have hsm := cut_same s.t i n
   rw [← hrc] at hsm
   have HQ := Lib.hid (show s.trunc p n = (stopB rc.1 (decide (rc.1 ≠ 0))).bind fun _ => .ok ⟨rc.2, s.n⟩ by unfold TrS.trunc; rw [hp, hrc]; rfl)
   rw [← hrc] at hst2
   obtain ⟨re, rt⟩ := rc
   have HC := Lib.hid hsm
   clear hp hst hrc hsm
   by_cases hz : re = 0
   · subst hz
     have HE := Lib.hid (show r = (0, ⟨rt, s.n⟩) by rw [HR.out, HQ.out]; simp [Res.bind, stopB, Res.run])
     go_enter Tryz.func185, Tryz.ntmps185
     go_wp2_with fail
     refine wp_region_held_drew (S := fun W' => W'.cell? ⟨tb, 0, none⟩ = some (.pointer (some ⟨b, 0, none⟩)) ∧ W'.cell? ⟨pb, 0, none⟩ = some (.string (bs p)) ∧ W'.cell? ⟨kb, 0, none⟩ = some (.int .i64 n) ∧ W'.cell? ⟨b, 0, none⟩ = some (.pointer (some ⟨ib, 0, none⟩))) (by kernel_rfl) hKd (fun hHeld => ?_)
     refine takeL 0 ?_
     refine takeL 1 ?_
     refine takeL 2 ?_
     refine takeL 3 ?_
     refine takeL 4 ?_
     refine takeL 5 ?_
     refine takeL 7 ?_
     refine wpAnyH_ready (rs := [6]) (by kernel_rfl) (by simp) ?_
     refine AllReadyH.cons (o := _) rfl (fun K hK => ?_) AllReadyH.nil
     go_simp
     go_at_call 64
     with_reducible refine hrs.mono ?_
     clear hrs
     rintro e W2 ⟨hB2, rfl⟩
     have q2 : W2.cell? ⟨tb, 0, none⟩ = some (.pointer (some ⟨b, 0, none⟩)) ∧ W2.cell? ⟨pb, 0, none⟩ = some (.string (bs p)) ∧ W2.cell? ⟨kb, 0, none⟩ = some (.int .i64 n) ∧ W2.cell? ⟨b, 0, none⟩ = some (.pointer (some ⟨ib, 0, none⟩)) := ⟨below_at hB2 hKd.1 (cell_lt hKd.1), below_at hB2 hKd.2.1 (cell_lt hKd.2.1), below_at hB2 hKd.2.2.1 (cell_lt hKd.2.2.1), below_at hB2 hKd.2.2.2 (cell_lt hKd.2.2.2)⟩
     have hst3 := hst2 W2 hB2
     have HB2 := Lib.hid hB2
     clear hB2 hst2
     try go_wp2_with fail
     refine hK.out _ _ q2 (fun hHeld => ?_)
     clear hK K
     try simp only [Act.put, List.setIfInBounds_toArray, List.set_cons_zero, List.set_cons_succ]
     refine wpAnyH_ready (rs := [8]) (by kernel_rfl) (by simp) ?_
     refine AllReadyH.cons (o := _) rfl (fun K hK => ?_) AllReadyH.nil
     go_simp
     go_at_call 186
     with_reducible refine hst3.mono ?_
     clear hst3
     rintro e W3 ⟨rfl, hT3, hM3⟩
     have q3 : W3.cell? ⟨tb, 0, none⟩ = some (.pointer (some ⟨b, 0, none⟩)) ∧ W3.cell? ⟨pb, 0, none⟩ = some (.string (bs p)) ∧ W3.cell? ⟨kb, 0, none⟩ = some (.int .i64 n) ∧ W3.cell? ⟨b, 0, none⟩ = some (.pointer (some ⟨ib, 0, none⟩)) := ⟨hM3.at q2.1 m1, hM3.at q2.2.1 m2, hM3.at q2.2.2.1 m3, hM3.at q2.2.2.2 b1⟩
     have HT3 := Lib.hid ((HX.out _ _ _ HB2.out hT3 hM3).1.grow2 (hBd.trans HB2.out).size)
     have HM3 := Lib.hid ((Mod.of_below (F := S) (hBd.trans HB2.out)).trans (HX.out _ _ _ HB2.out hT3 hM3).2)
     clear hT3 hM3
     try go_wp2_with fail
     refine hK.out _ _ q3 (fun hHeld => ?_)
     clear hK K
     try simp only [Act.put, List.setIfInBounds_toArray, List.set_cons_zero, List.set_cons_succ]
     refine takeL 9 ?_
     refine wpAnyH_done (by kernel_rfl) ?_ _
     go_wp2_with fail
     refine (hno _ _).mono ?_
     rintro e w9 ⟨rfl, rfl⟩
     go_wp2_with fail
     go_end0
     exact Or.inl ⟨rfl, by rw [HE.out], by rw [HE.out]; exact HT3.out, HM3.out⟩
   · have HE := Lib.hid (show r = (re, s) by rw [HR.out, HQ.out]; simp [Res.bind, stopB, hz, Res.run])
     have hz2 : (re != 0) = true := by simpa using hz
     have hsm : rt = s.t := HC.out hz
     subst hsm
     clear hz
     go_enter Tryz.func185, Tryz.ntmps185
     go_wp2_with fail
     refine wp_region_held_drew (S := fun W' => W'.cell? ⟨tb, 0, none⟩ = some (.pointer (some ⟨b, 0, none⟩)) ∧ W'.cell? ⟨pb, 0, none⟩ = some (.string (bs p)) ∧ W'.cell? ⟨kb, 0, none⟩ = some (.int .i64 n) ∧ W'.cell? ⟨b, 0, none⟩ = some (.pointer (some ⟨ib, 0, none⟩))) (by kernel_rfl) hKd (fun hHeld => ?_)
     refine takeL 0 ?_
     refine takeL 1 ?_
     refine takeL 2 ?_
     refine takeL 3 ?_
     refine takeL 4 ?_
     refine takeL 5 ?_
     refine takeL 7 ?_
     refine wpAnyH_ready (rs := [6]) (by kernel_rfl) (by simp) ?_
     refine AllReadyH.cons (o := _) rfl (fun K hK => ?_) AllReadyH.nil
     go_simp
     go_at_call 64
     with_reducible refine hrs.mono ?_
     clear hrs
     rintro e W2 ⟨hB2, rfl⟩
     have q2 : W2.cell? ⟨tb, 0, none⟩ = some (.pointer (some ⟨b, 0, none⟩)) ∧ W2.cell? ⟨pb, 0, none⟩ = some (.string (bs p)) ∧ W2.cell? ⟨kb, 0, none⟩ = some (.int .i64 n) ∧ W2.cell? ⟨b, 0, none⟩ = some (.pointer (some ⟨ib, 0, none⟩)) := ⟨below_at hB2 hKd.1 (cell_lt hKd.1), below_at hB2 hKd.2.1 (cell_lt hKd.2.1), below_at hB2 hKd.2.2.1 (cell_lt hKd.2.2.1), below_at hB2 hKd.2.2.2 (cell_lt hKd.2.2.2)⟩
     have hst3 := hst2 W2 hB2
     have HB2 := Lib.hid hB2
     clear hB2 hst2
     try go_wp2_with fail
     refine hK.out _ _ q2 (fun hHeld => ?_)
     clear hK K
     try simp only [Act.put, List.setIfInBounds_toArray, List.set_cons_zero, List.set_cons_succ]
     refine wpAnyH_ready (rs := [8]) (by kernel_rfl) (by simp) ?_
     refine AllReadyH.cons (o := _) rfl (fun K hK => ?_) AllReadyH.nil
     go_simp
     go_at_call 186
     with_reducible refine hst3.mono ?_
     clear hst3
     rintro e W3 ⟨rfl, hT3, hM3⟩
     have q3 : W3.cell? ⟨tb, 0, none⟩ = some (.pointer (some ⟨b, 0, none⟩)) ∧ W3.cell? ⟨pb, 0, none⟩ = some (.string (bs p)) ∧ W3.cell? ⟨kb, 0, none⟩ = some (.int .i64 n) ∧ W3.cell? ⟨b, 0, none⟩ = some (.pointer (some ⟨ib, 0, none⟩)) := ⟨hM3.at q2.1 m1, hM3.at q2.2.1 m2, hM3.at q2.2.2.1 m3, hM3.at q2.2.2.2 b1⟩
     have HT3 := Lib.hid ((HX.out _ _ _ HB2.out hT3 hM3).1.grow2 (hBd.trans HB2.out).size)
     have HM3 := Lib.hid ((Mod.of_below (F := S) (hBd.trans HB2.out)).trans (HX.out _ _ _ HB2.out hT3 hM3).2)
     clear hT3 hM3
     try go_wp2_with fail
     refine hK.out _ _ q3 (fun hHeld => ?_)
     clear hK K
     try simp only [Act.put, List.setIfInBounds_toArray, List.set_cons_zero, List.set_cons_succ]
     refine takeL 9 ?_
     refine wpAnyH_done (by kernel_rfl) ?_ _
     go_wp2_with fail
     refine (hys _ _).mono ?_
     rintro e w9 ⟨rfl, rfl⟩
     go_wp2_with fail
     exact ⟨rfl, Or.inr ⟨_, rfl, by rw [HE.out], by rw [HE.out]; exact HT3.out, HM3.out⟩⟩
theorem trTruncate_any (w : World) (b : Nat) (S : Nat → Prop) (s : TrS) (h : TreeAt w b S s) (hok : s.ok) (p : Nm) (n : Int) :
    Calls Tryz.prog 133 #[.pointer (some ⟨b, 0, none⟩), .string (bs p), .int .i64 n] w (ErrPostG w b S ((s.trunc p n).run s)) := by
 obtain ⟨W1, hW1⟩ : ∃ W1, W1 = ((w.alloc (.cells #[.pointer (some ⟨b, 0, none⟩)] 52)).alloc (.cells #[.string (bs p)] 9)).alloc (.cells #[.int .i64 n] 3) := ⟨_, rfl⟩
 have hmf : ∀ (fn : Fn) (first cap : Array Value) (w : World), (Instr.makeFunc fn first cap).run Tryz.prog w = .ok (.func fn first cap) w := fun _ _ _ _ => rfl
 have hB1 : Below w.heap.size w W1 := by rw [hW1]; exact belC (Below.refl _ _)
 have hz1 : W1.heap.size = w.heap.size + 3 := by rw [hW1]; simp
 have hns : ∀ k, w.heap.size ≤ k → ¬ S k := fun k hk hs => by have := h.lt k hs; omega
 have hs1 : ¬ S W1.heap.size := hns _ (by omega)
 have hBe : Below w.heap.size w (W1.alloc (.cells #[.int .i64 0] 37)) := by exact belC hB1
 have hdo := trunc1_any (W1.alloc (.cells #[.int .i64 0] 37)) b w.heap.size (w.heap.size + 1) (w.heap.size + 2) S s (h.below' hBe) hok p n (by rw [hW1]; go_simp) (by rw [hW1]; go_simp) (by rw [hW1]; go_simp) (hns _ (by omega)) (hns _ (by omega)) (hns _ (by omega))
 have HM1 := Lib.hid (Mod.of_below (F := S) hB1)
 have HW1 := Lib.hid hW1
 obtain ⟨r, hr⟩ : ∃ r, r = (s.trunc p n).run s := ⟨_, rfl⟩
 rw [← hr] at hdo ⊢
 clear hr hB1 hW1 hBe h hz1 hns hok
 go_enter Tryz.func133, Tryz.ntmps133
 go_wp2_with fail
 rw [← HW1.out]
 refine (tries_treeG W1 b 185 _ S r hs1 (enters_of Tryz.func185 (by kernel_rfl) rfl) hdo).mono ?_
 clear hdo
 rintro e W2 ⟨rfl, hT2, hM2⟩
 go_wp2_with fail
 go_ret
 exact ⟨rfl, hT2.grow2 HM1.out.size, HM1.out.trans hM2⟩
end Go.Proofs.YtajbooppoohplaaGreatDoor
/- package tree: Rmdir, Unlink -/
namespace Go.Proofs.YtajbooppoohplaaGreatDoor
open Go.RowKit Esch Go.Shelf

theorem rmdir1_any (W : World) (b tb pb : Nat) (S : Nat → Prop) (s : TrS) (h : TreeAt W b S s) (hok : s.ok) (p : Nm)
    (t0 : W.cell? ⟨tb, 0, none⟩ = some (.pointer (some ⟨b, 0, none⟩))) (p0 : W.cell? ⟨pb, 0, none⟩ = some (.string (bs p))) :
    Calls Tryz.prog 174 #[.pointer (some ⟨tb, 0, none⟩), .pointer (some ⟨pb, 0, none⟩)] W (DoPost (ChgR W b S ((s.rmdir p).run s))) := by
 have hpl := trPlace_any W b S s h p 70
 have hno := stop_no
 have hys := stop_yes
 have k0 := p0
 have hkd := fun W hW d => trKind_any W b S s hW d
 have H := Lib.hid h
 obtain ⟨r, hr⟩ : ∃ r, r = (s.rmdir p).run s := ⟨_, rfl⟩
 rw [← hr]
 have HR := Lib.hid hr
 clear h hr
 cases hp : s.place p 70 with
 | err x =>
   rw [hp] at hpl
   have HE := Lib.hid (show r = (x, s) by rw [HR.out]; unfold TrS.rmdir; rw [hp]; rfl)
   clear hp
   go_enter Tryz.func174, Tryz.ntmps174
   go_wp2_with fail
   refine hpl.mono ?_
   rintro e W2 ⟨hB2, rfl⟩
   go_wp2_with fail
   exact ⟨rfl, Or.inr ⟨x, rfl, by rw [HE.out], by rw [HE.out]; exact H.out.below' hB2, Mod.of_below hB2⟩⟩
 | ok x =>
   rw [hp] at hpl
   obtain ⟨xd, xn, xi⟩ := x
   have HP := Lib.hid hp
   clear hp
   by_cases hi : xi = 0
   · subst hi
     have HE := Lib.hid (show r = (60, s) by rw [HR.out]; unfold TrS.rmdir; rw [HP.out]; simp [Res.bind, stopB, Res.run])
     go_enter Tryz.func174, Tryz.ntmps174
     go_wp2_with fail
     refine hpl.mono ?_
     clear hpl
     rintro e W2 ⟨hB2, rfl⟩
     have t2 := below_at hB2 t0 (cell_lt t0)
     have p2 := below_at hB2 p0 (cell_lt p0)
     have k2 := below_at hB2 k0 (cell_lt k0)
     have HT2 := H.out.below' hB2
     simp only [spotV]
     obtain ⟨W4, hW4⟩ : ∃ W4, W4 = W2.alloc (.cells #[.int .i64 xd, .string (bs xn), .int .i64 (0)] 257) := ⟨_, rfl⟩
     have hB4 : Below W2.heap.size W2 W4 := by rw [hW4]; exact belC (Below.refl _ _)
     have x0 : W4.cell? ⟨W2.heap.size, 0, none⟩ = some (.int .i64 xd) := by rw [hW4]; go_simp
     have x1 : W4.cell? ⟨W2.heap.size, 1, none⟩ = some (.string (bs xn)) := by rw [hW4]; go_simp
     have x2 : W4.cell? ⟨W2.heap.size, 2, none⟩ = some (.int .i64 (0)) := by rw [hW4]; go_simp
     have t4 := below_at hB4 t2 (cell_lt t2)
     have p4 := below_at hB4 p2 (cell_lt p2)
     have k4 := below_at hB4 k2 (cell_lt k2)
     have nx : ¬ S W2.heap.size := fun hk => by have := HT2.lt _ hk; omega
     have HT4 := Lib.hid (HT2.below' hB4)
     have HM4 := Lib.hid (Mod.of_below (F := S) (hB2.trans (hB4.mono hB2.size)))
     have HW4 := Lib.hid hW4
     clear HT2 hB4 hW4 t2 p2 k2 hB2
     go_wp2_with fail
     rw [← HW4.out]
     refine (hys _ _).mono ?_
     rintro e w9 ⟨rfl, rfl⟩
     go_wp2_with fail
     exact ⟨rfl, Or.inr ⟨_, rfl, by rw [HE.out], by rw [HE.out]; exact HT4.out, HM4.out⟩⟩
   have hi2 : (xi == 0) = false := by simpa using hi
   have Hi := Lib.hid hi
   have hkd2 := fun W hW => hkd W hW xi
   clear hkd hi
   by_cases hk : s.kind xi = 1
   rotate_left 1
   · have HE := Lib.hid (show r = (62, s) by rw [HR.out]; unfold TrS.rmdir; rw [HP.out]; simp [Res.bind, stopB, Hi.out, hk, Res.run])
     have hk2 : (s.kind xi != 1) = true := by simpa using hk
     generalize s.kind xi = kk at hkd2 hk2
     clear hk
     go_enter Tryz.func174, Tryz.ntmps174
     go_wp2_with fail
     refine hpl.mono ?_
     clear hpl
     rintro e W2 ⟨hB2, rfl⟩
     have t2 := below_at hB2 t0 (cell_lt t0)
     have p2 := below_at hB2 p0 (cell_lt p0)
     have k2 := below_at hB2 k0 (cell_lt k0)
     have HT2 := H.out.below' hB2
     simp only [spotV]
     obtain ⟨W4, hW4⟩ : ∃ W4, W4 = W2.alloc (.cells #[.int .i64 xd, .string (bs xn), .int .i64 (xi)] 257) := ⟨_, rfl⟩
     have hB4 : Below W2.heap.size W2 W4 := by rw [hW4]; exact belC (Below.refl _ _)
     have x0 : W4.cell? ⟨W2.heap.size, 0, none⟩ = some (.int .i64 xd) := by rw [hW4]; go_simp
     have x1 : W4.cell? ⟨W2.heap.size, 1, none⟩ = some (.string (bs xn)) := by rw [hW4]; go_simp
     have x2 : W4.cell? ⟨W2.heap.size, 2, none⟩ = some (.int .i64 (xi)) := by rw [hW4]; go_simp
     have t4 := below_at hB4 t2 (cell_lt t2)
     have p4 := below_at hB4 p2 (cell_lt p2)
     have k4 := below_at hB4 k2 (cell_lt k2)
     have nx : ¬ S W2.heap.size := fun hk => by have := HT2.lt _ hk; omega
     have HT4 := Lib.hid (HT2.below' hB4)
     have HM4 := Lib.hid (Mod.of_below (F := S) (hB2.trans (hB4.mono hB2.size)))
     have HW4 := Lib.hid hW4
     clear HT2 hB4 hW4 t2 p2 k2 hB2
     go_wp2_with fail
     rw [← HW4.out]
     refine (hno _ _).mono ?_
     rintro e w9 ⟨rfl, rfl⟩
     go_wp2_with fail
     refine (hkd2 _ HT4.out).mono ?_
     rintro e w5 ⟨rfl, hB5⟩
     have t5 := below_at hB5 t4 (cell_lt t4)
     have y0 := below_at hB5 x0 (cell_lt x0)
     have y1 := below_at hB5 x1 (cell_lt x1)
     have y2 := below_at hB5 x2 (cell_lt x2)
     have HT5 := Lib.hid (HT4.out.below' hB5)
     have HM5 := Lib.hid (HM4.out.trans (Mod.of_below (F := S) hB5))
     clear hB5
     go_wp2_with fail
     refine (hys _ _).mono ?_
     rintro e w9 ⟨rfl, rfl⟩
     go_wp2_with fail
     exact ⟨rfl, Or.inr ⟨_, rfl, by rw [HE.out], by rw [HE.out]; exact HT5.out, HM5.out⟩⟩
   have Hk := Lib.hid hk
   rw [hk] at hkd2
   clear hk
   by_cases hc : 0 < s.n.count xi
   · have HE := Lib.hid (show r = (64, s) by rw [HR.out]; unfold TrS.rmdir; rw [HP.out]; simp [Res.bind, stopB, Hi.out, Hk.out, hc, Res.run])
     have hct := fun W nb S2 hW => dirCount_any W nb S2 s.n hW xi
     generalize s.n.count xi = cc at hct hc
     go_enter Tryz.func174, Tryz.ntmps174
     go_wp2_with fail
     refine hpl.mono ?_
     clear hpl
     rintro e W2 ⟨hB2, rfl⟩
     have t2 := below_at hB2 t0 (cell_lt t0)
     have p2 := below_at hB2 p0 (cell_lt p0)
     have k2 := below_at hB2 k0 (cell_lt k0)
     have HT2 := H.out.below' hB2
     simp only [spotV]
     obtain ⟨W4, hW4⟩ : ∃ W4, W4 = W2.alloc (.cells #[.int .i64 xd, .string (bs xn), .int .i64 (xi)] 257) := ⟨_, rfl⟩
     have hB4 : Below W2.heap.size W2 W4 := by rw [hW4]; exact belC (Below.refl _ _)
     have x0 : W4.cell? ⟨W2.heap.size, 0, none⟩ = some (.int .i64 xd) := by rw [hW4]; go_simp
     have x1 : W4.cell? ⟨W2.heap.size, 1, none⟩ = some (.string (bs xn)) := by rw [hW4]; go_simp
     have x2 : W4.cell? ⟨W2.heap.size, 2, none⟩ = some (.int .i64 (xi)) := by rw [hW4]; go_simp
     have t4 := below_at hB4 t2 (cell_lt t2)
     have p4 := below_at hB4 p2 (cell_lt p2)
     have k4 := below_at hB4 k2 (cell_lt k2)
     have nx : ¬ S W2.heap.size := fun hk => by have := HT2.lt _ hk; omega
     have HT4 := Lib.hid (HT2.below' hB4)
     have HM4 := Lib.hid (Mod.of_below (F := S) (hB2.trans (hB4.mono hB2.size)))
     have HW4 := Lib.hid hW4
     clear HT2 hB4 hW4 t2 p2 k2 hB2
     go_wp2_with fail
     rw [← HW4.out]
     refine (hno _ _).mono ?_
     rintro e w9 ⟨rfl, rfl⟩
     go_wp2_with fail
     refine (hkd2 _ HT4.out).mono ?_
     rintro e w5 ⟨rfl, hB5⟩
     have t5 := below_at hB5 t4 (cell_lt t4)
     have y0 := below_at hB5 x0 (cell_lt x0)
     have y1 := below_at hB5 x1 (cell_lt x1)
     have y2 := below_at hB5 x2 (cell_lt x2)
     have HT5 := Lib.hid (HT4.out.below' hB5)
     have HM5 := Lib.hid (HM4.out.trans (Mod.of_below (F := S) hB5))
     clear hB5
     go_wp2_with fail
     refine (hno _ _).mono ?_
     rintro e w9 ⟨rfl, rfl⟩
     go_wp2_with fail
     obtain ⟨sb, lt, ib, nb, S1, S2, c0, c1, ht, hn, s1, s2, dd, b1, b2⟩ := HT5.out
     have hBd : Below w9.heap.size w9 w9.drew := by exact belC (Below.refl _ _)
     have hct2 := hct w9.drew nb S2 (hn.below' hBd)
     have hKd : w9.drew.cell? ⟨tb, 0, none⟩ = some (.pointer (some ⟨b, 0, none⟩)) ∧ w9.drew.cell? ⟨b, 1, none⟩ = some (.pointer (some ⟨nb, 0, none⟩)) ∧ w9.drew.cell? ⟨W2.heap.size, 2, none⟩ = some (.int .i64 xi) := ⟨t5, c1, y2⟩
     clear ht hn s1 s2 dd lt sb c0 b1 b2 hct
     refine wp_region_held_drew (S := fun W' => W'.cell? ⟨tb, 0, none⟩ = some (.pointer (some ⟨b, 0, none⟩)) ∧ W'.cell? ⟨b, 1, none⟩ = some (.pointer (some ⟨nb, 0, none⟩)) ∧ W'.cell? ⟨W2.heap.size, 2, none⟩ = some (.int .i64 xi)) (by kernel_rfl) hKd (fun hHeld => ?_)
     refine takeL 0 ?_
     refine takeL 1 ?_
     refine takeL 2 ?_
     refine takeL 3 ?_
     refine takeL 4 ?_
     refine takeL 5 ?_
     refine wpAnyH_ready (rs := [6]) (by kernel_rfl) (by simp) ?_
     refine AllReadyH.cons (o := _) rfl (fun K hK => ?_) AllReadyH.nil
     go_simp
     go_at_call 176
     with_reducible refine hct2.mono ?_
     clear hct2
     rintro e w7 ⟨rfl, rfl⟩
     try go_wp2_with fail
     refine hK.out _ _ ⟨hKd.1, hKd.2.1, hKd.2.2⟩ (fun hHeld => ?_)
     clear hK K
     try simp only [Act.put, List.setIfInBounds_toArray, List.set_cons_zero, List.set_cons_succ]
     refine takeL 7 ?_
     refine wpAnyH_ready (rs := [8]) (by kernel_rfl) (by simp) ?_
     refine AllReadyH.cons (o := _) rfl (fun K hK => ?_) AllReadyH.nil
     go_simp
     go_at_call 65
     with_reducible refine (hys _ _).mono ?_
     rintro e w9b ⟨rfl, rfl⟩
     go_wp2_with fail
     exact ⟨rfl, Or.inr ⟨_, rfl, by rw [HE.out], by rw [HE.out]; exact HT5.out.below' (by exact belC (Below.refl _ _)), HM5.out.drew⟩⟩
   · have HE := Lib.hid (show r = (0, s.drop ⟨xd, xn, xi⟩) by rw [HR.out]; unfold TrS.rmdir; rw [HP.out]; simp [Res.bind, stopB, Hi.out, Hk.out, hc, Res.run])
     have hct := fun W nb S2 hW => dirCount_any W nb S2 s.n hW xi
     generalize s.n.count xi = cc at hct hc
     go_enter Tryz.func174, Tryz.ntmps174
     go_wp2_with fail
     refine hpl.mono ?_
     clear hpl
     rintro e W2 ⟨hB2, rfl⟩
     have t2 := below_at hB2 t0 (cell_lt t0)
     have p2 := below_at hB2 p0 (cell_lt p0)
     have k2 := below_at hB2 k0 (cell_lt k0)
     have HT2 := H.out.below' hB2
     simp only [spotV]
     obtain ⟨W4, hW4⟩ : ∃ W4, W4 = W2.alloc (.cells #[.int .i64 xd, .string (bs xn), .int .i64 (xi)] 257) := ⟨_, rfl⟩
     have hB4 : Below W2.heap.size W2 W4 := by rw [hW4]; exact belC (Below.refl _ _)
     have x0 : W4.cell? ⟨W2.heap.size, 0, none⟩ = some (.int .i64 xd) := by rw [hW4]; go_simp
     have x1 : W4.cell? ⟨W2.heap.size, 1, none⟩ = some (.string (bs xn)) := by rw [hW4]; go_simp
     have x2 : W4.cell? ⟨W2.heap.size, 2, none⟩ = some (.int .i64 (xi)) := by rw [hW4]; go_simp
     have t4 := below_at hB4 t2 (cell_lt t2)
     have p4 := below_at hB4 p2 (cell_lt p2)
     have k4 := below_at hB4 k2 (cell_lt k2)
     have nx : ¬ S W2.heap.size := fun hk => by have := HT2.lt _ hk; omega
     have HT4 := Lib.hid (HT2.below' hB4)
     have HM4 := Lib.hid (Mod.of_below (F := S) (hB2.trans (hB4.mono hB2.size)))
     have HW4 := Lib.hid hW4
     clear HT2 hB4 hW4 t2 p2 k2 hB2
     go_wp2_with fail
     rw [← HW4.out]
     refine (hno _ _).mono ?_
     rintro e w9 ⟨rfl, rfl⟩
     go_wp2_with fail
     refine (hkd2 _ HT4.out).mono ?_
     rintro e w5 ⟨rfl, hB5⟩
     have t5 := below_at hB5 t4 (cell_lt t4)
     have y0 := below_at hB5 x0 (cell_lt x0)
     have y1 := below_at hB5 x1 (cell_lt x1)
     have y2 := below_at hB5 x2 (cell_lt x2)
     have HT5 := Lib.hid (HT4.out.below' hB5)
     have HM5 := Lib.hid (HM4.out.trans (Mod.of_below (F := S) hB5))
     clear hB5
     go_wp2_with fail
     refine (hno _ _).mono ?_
     rintro e w9 ⟨rfl, rfl⟩
     go_wp2_with fail
     obtain ⟨sb, lt, ib, nb, S1, S2, c0, c1, ht, hn, s1, s2, dd, b1, b2⟩ := HT5.out
     have hBd : Below w9.heap.size w9 w9.drew := by exact belC (Below.refl _ _)
     have hct2 := hct w9.drew nb S2 (hn.below' hBd)
     have hKd : w9.drew.cell? ⟨tb, 0, none⟩ = some (.pointer (some ⟨b, 0, none⟩)) ∧ w9.drew.cell? ⟨b, 1, none⟩ = some (.pointer (some ⟨nb, 0, none⟩)) ∧ w9.drew.cell? ⟨W2.heap.size, 2, none⟩ = some (.int .i64 xi) := ⟨t5, c1, y2⟩
     clear ht hn s1 s2 dd lt sb c0 b1 b2 hct
     refine wp_region_held_drew (S := fun W' => W'.cell? ⟨tb, 0, none⟩ = some (.pointer (some ⟨b, 0, none⟩)) ∧ W'.cell? ⟨b, 1, none⟩ = some (.pointer (some ⟨nb, 0, none⟩)) ∧ W'.cell? ⟨W2.heap.size, 2, none⟩ = some (.int .i64 xi)) (by kernel_rfl) hKd (fun hHeld => ?_)
     refine takeL 0 ?_
     refine takeL 1 ?_
     refine takeL 2 ?_
     refine takeL 3 ?_
     refine takeL 4 ?_
     refine takeL 5 ?_
     refine wpAnyH_ready (rs := [6]) (by kernel_rfl) (by simp) ?_
     refine AllReadyH.cons (o := _) rfl (fun K hK => ?_) AllReadyH.nil
     go_simp
     go_at_call 176
     with_reducible refine hct2.mono ?_
     clear hct2
     rintro e w7 ⟨rfl, rfl⟩
     try go_wp2_with fail
     refine hK.out _ _ ⟨hKd.1, hKd.2.1, hKd.2.2⟩ (fun hHeld => ?_)
     clear hK K
     try simp only [Act.put, List.setIfInBounds_toArray, List.set_cons_zero, List.set_cons_succ]
     refine takeL 7 ?_
     refine wpAnyH_ready (rs := [8]) (by kernel_rfl) (by simp) ?_
     refine AllReadyH.cons (o := _) rfl (fun K hK => ?_) AllReadyH.nil
     go_simp
     go_at_call 65
     rw [show decide (0 < cc) = false from decide_eq_false (by omega)]
     with_reducible refine (hno _ _).mono ?_
     rintro e w9b ⟨rfl, rfl⟩
     try go_wp2_with fail
     refine hK.out _ _ ⟨hKd.1, hKd.2.1, hKd.2.2⟩ (fun hHeld => ?_)
     clear hK K
     try simp only [Act.put, List.setIfInBounds_toArray, List.set_cons_zero, List.set_cons_succ]
     refine wpAnyH_done (by kernel_rfl) ?_ _
     go_wp2_with fail
     have hdr2 := trDrop_any w9.drew b S s (HT5.out.below' (by exact belC (Below.refl _ _))) hok ⟨xd, xn, xi⟩
     simp only [spotV] at hdr2
     refine hdr2.mono ?_
     clear hdr2
     rintro e w12 ⟨rfl, hT12, hM12⟩
     go_wp2_with fail
     go_end0
     exact Or.inl ⟨rfl, by rw [HE.out], by rw [HE.out]; exact hT12, HM5.out.drew.trans hM12⟩
theorem trRmdir_any (w : World) (b : Nat) (S : Nat → Prop) (s : TrS) (h : TreeAt w b S s) (hok : s.ok) (p : Nm) :
    Calls Tryz.prog 128 #[.pointer (some ⟨b, 0, none⟩), .string (bs p)] w (ErrPost w b S ((s.rmdir p).run s)) := by
 have hmf : ∀ (fn : Fn) (first cap : Array Value) (w : World), (Instr.makeFunc fn first cap).run Tryz.prog w = .ok (.func fn first cap) w := fun _ _ _ _ => rfl
 obtain ⟨W1, hW1⟩ : ∃ W1, W1 = (w.alloc (.cells #[.pointer (some ⟨b, 0, none⟩)] 52)).alloc (.cells #[.string (bs p)] 9) := ⟨_, rfl⟩
 have hB1 : Below w.heap.size w W1 := by rw [hW1]; exact belC (Below.refl _ _)
 have hz1 : W1.heap.size = w.heap.size + 2 := by rw [hW1]; simp
 have hns : ∀ k, w.heap.size ≤ k → ¬ S k := fun k hk hs => by have := h.lt k hs; omega
 have hs1 : ¬ S W1.heap.size := hns _ (by omega)
 have hBe : Below w.heap.size w (W1.alloc (.cells #[.int .i64 0] 37)) := by exact belC hB1
 have hdo := rmdir1_any (W1.alloc (.cells #[.int .i64 0] 37)) b w.heap.size (w.heap.size + 1) S s (h.below' hBe) hok p (by rw [hW1]; go_simp) (by rw [hW1]; go_simp)
 have HM1 := Lib.hid (Mod.of_below (F := S) hB1)
 have HW1 := Lib.hid hW1
 obtain ⟨r, hr⟩ : ∃ r, r = (s.rmdir p).run s := ⟨_, rfl⟩
 rw [← hr] at hdo ⊢
 clear hr hB1 hW1 hBe h hz1 hns hok
 go_enter Tryz.func128, Tryz.ntmps128
 go_wp2_with fail
 rw [← HW1.out]
 refine (tries_tree W1 b 174 _ S r hs1 (enters_of Tryz.func174 (by kernel_rfl) rfl) hdo).mono ?_
 clear hdo
 rintro e W2 ⟨rfl, hT2, hM2⟩
 go_wp2_with fail
 go_ret
 exact ⟨rfl, hT2, HM1.out.trans hM2⟩
theorem unlink1_any (W : World) (b tb pb : Nat) (S : Nat → Prop) (s : TrS) (h : TreeAt W b S s) (hok : s.ok) (p : Nm)
    (t0 : W.cell? ⟨tb, 0, none⟩ = some (.pointer (some ⟨b, 0, none⟩))) (p0 : W.cell? ⟨pb, 0, none⟩ = some (.string (bs p))) :
    Calls Tryz.prog 181 #[.pointer (some ⟨tb, 0, none⟩), .pointer (some ⟨pb, 0, none⟩)] W (DoPost (ChgR W b S ((s.unlink p).run s))) := by
 have hpl := trPlace_any W b S s h p 70
 have hno := stop_no
 have hys := stop_yes
 have k0 := p0
 have hkd := fun W hW d => trKind_any W b S s hW d
 have H := Lib.hid h
 obtain ⟨r, hr⟩ : ∃ r, r = (s.unlink p).run s := ⟨_, rfl⟩
 rw [← hr]
 have HR := Lib.hid hr
 clear h hr
 cases hp : s.place p 70 with
 | err x =>
   rw [hp] at hpl
   have HE := Lib.hid (show r = (x, s) by rw [HR.out]; unfold TrS.unlink; rw [hp]; rfl)
   clear hp
   go_enter Tryz.func181, Tryz.ntmps181
   go_wp2_with fail
   refine hpl.mono ?_
   rintro e W2 ⟨hB2, rfl⟩
   go_wp2_with fail
   exact ⟨rfl, Or.inr ⟨x, rfl, by rw [HE.out], by rw [HE.out]; exact H.out.below' hB2, Mod.of_below hB2⟩⟩
 | ok x =>
   rw [hp] at hpl
   obtain ⟨xd, xn, xi⟩ := x
   have HP := Lib.hid hp
   clear hp
   by_cases hi : xi = 0
   · subst hi
     have HE := Lib.hid (show r = (60, s) by rw [HR.out]; unfold TrS.unlink; rw [HP.out]; simp [Res.bind, stopB, Res.run])
     go_enter Tryz.func181, Tryz.ntmps181
     go_wp2_with fail
     refine hpl.mono ?_
     clear hpl
     rintro e W2 ⟨hB2, rfl⟩
     have t2 := below_at hB2 t0 (cell_lt t0)
     have p2 := below_at hB2 p0 (cell_lt p0)
     have k2 := below_at hB2 k0 (cell_lt k0)
     have HT2 := H.out.below' hB2
     simp only [spotV]
     obtain ⟨W4, hW4⟩ : ∃ W4, W4 = W2.alloc (.cells #[.int .i64 xd, .string (bs xn), .int .i64 (0)] 257) := ⟨_, rfl⟩
     have hB4 : Below W2.heap.size W2 W4 := by rw [hW4]; exact belC (Below.refl _ _)
     have x0 : W4.cell? ⟨W2.heap.size, 0, none⟩ = some (.int .i64 xd) := by rw [hW4]; go_simp
     have x1 : W4.cell? ⟨W2.heap.size, 1, none⟩ = some (.string (bs xn)) := by rw [hW4]; go_simp
     have x2 : W4.cell? ⟨W2.heap.size, 2, none⟩ = some (.int .i64 (0)) := by rw [hW4]; go_simp
     have t4 := below_at hB4 t2 (cell_lt t2)
     have p4 := below_at hB4 p2 (cell_lt p2)
     have k4 := below_at hB4 k2 (cell_lt k2)
     have nx : ¬ S W2.heap.size := fun hk => by have := HT2.lt _ hk; omega
     have HT4 := Lib.hid (HT2.below' hB4)
     have HM4 := Lib.hid (Mod.of_below (F := S) (hB2.trans (hB4.mono hB2.size)))
     have HW4 := Lib.hid hW4
     clear HT2 hB4 hW4 t2 p2 k2 hB2
     go_wp2_with fail
     rw [← HW4.out]
     refine (hys _ _).mono ?_
     rintro e w9 ⟨rfl, rfl⟩
     go_wp2_with fail
     exact ⟨rfl, Or.inr ⟨_, rfl, by rw [HE.out], by rw [HE.out]; exact HT4.out, HM4.out⟩⟩
   have hi2 : (xi == 0) = false := by simpa using hi
   have Hi := Lib.hid hi
   have hkd2 := fun W hW => hkd W hW xi
   clear hkd hi
   by_cases hk : s.kind xi = 1
   · have HE := Lib.hid (show r = (63, s) by rw [HR.out]; unfold TrS.unlink; rw [HP.out]; simp [Res.bind, stopB, Hi.out, hk, Res.run])
     rw [hk] at hkd2
     clear hk
     go_enter Tryz.func181, Tryz.ntmps181
     go_wp2_with fail
     refine hpl.mono ?_
     clear hpl
     rintro e W2 ⟨hB2, rfl⟩
     have t2 := below_at hB2 t0 (cell_lt t0)
     have p2 := below_at hB2 p0 (cell_lt p0)
     have k2 := below_at hB2 k0 (cell_lt k0)
     have HT2 := H.out.below' hB2
     simp only [spotV]
     obtain ⟨W4, hW4⟩ : ∃ W4, W4 = W2.alloc (.cells #[.int .i64 xd, .string (bs xn), .int .i64 (xi)] 257) := ⟨_, rfl⟩
     have hB4 : Below W2.heap.size W2 W4 := by rw [hW4]; exact belC (Below.refl _ _)
     have x0 : W4.cell? ⟨W2.heap.size, 0, none⟩ = some (.int .i64 xd) := by rw [hW4]; go_simp
     have x1 : W4.cell? ⟨W2.heap.size, 1, none⟩ = some (.string (bs xn)) := by rw [hW4]; go_simp
     have x2 : W4.cell? ⟨W2.heap.size, 2, none⟩ = some (.int .i64 (xi)) := by rw [hW4]; go_simp
     have t4 := below_at hB4 t2 (cell_lt t2)
     have p4 := below_at hB4 p2 (cell_lt p2)
     have k4 := below_at hB4 k2 (cell_lt k2)
     have nx : ¬ S W2.heap.size := fun hk => by have := HT2.lt _ hk; omega
     have HT4 := Lib.hid (HT2.below' hB4)
     have HM4 := Lib.hid (Mod.of_below (F := S) (hB2.trans (hB4.mono hB2.size)))
     have HW4 := Lib.hid hW4
     clear HT2 hB4 hW4 t2 p2 k2 hB2
     go_wp2_with fail
     rw [← HW4.out]
     refine (hno _ _).mono ?_
     rintro e w9 ⟨rfl, rfl⟩
     go_wp2_with fail
     refine (hkd2 _ HT4.out).mono ?_
     rintro e w5 ⟨rfl, hB5⟩
     have t5 := below_at hB5 t4 (cell_lt t4)
     have y0 := below_at hB5 x0 (cell_lt x0)
     have y1 := below_at hB5 x1 (cell_lt x1)
     have y2 := below_at hB5 x2 (cell_lt x2)
     have HT5 := Lib.hid (HT4.out.below' hB5)
     have HM5 := Lib.hid (HM4.out.trans (Mod.of_below (F := S) hB5))
     clear hB5
     go_wp2_with fail
     refine (hys _ _).mono ?_
     rintro e w9 ⟨rfl, rfl⟩
     go_wp2_with fail
     exact ⟨rfl, Or.inr ⟨_, rfl, by rw [HE.out], by rw [HE.out]; exact HT5.out, HM5.out⟩⟩
   · have HE := Lib.hid (show r = (0, s.drop ⟨xd, xn, xi⟩) by rw [HR.out]; unfold TrS.unlink; rw [HP.out]; simp [Res.bind, stopB, Hi.out, hk, Res.run])
     have hk2 : (s.kind xi == 1) = false := by simpa using hk
     generalize s.kind xi = kk at hkd2 hk2
     clear hk
     go_enter Tryz.func181, Tryz.ntmps181
     go_wp2_with fail
     refine hpl.mono ?_
     clear hpl
     rintro e W2 ⟨hB2, rfl⟩
     have t2 := below_at hB2 t0 (cell_lt t0)
     have p2 := below_at hB2 p0 (cell_lt p0)
     have k2 := below_at hB2 k0 (cell_lt k0)
     have HT2 := H.out.below' hB2
     simp only [spotV]
     obtain ⟨W4, hW4⟩ : ∃ W4, W4 = W2.alloc (.cells #[.int .i64 xd, .string (bs xn), .int .i64 (xi)] 257) := ⟨_, rfl⟩
     have hB4 : Below W2.heap.size W2 W4 := by rw [hW4]; exact belC (Below.refl _ _)
     have x0 : W4.cell? ⟨W2.heap.size, 0, none⟩ = some (.int .i64 xd) := by rw [hW4]; go_simp
     have x1 : W4.cell? ⟨W2.heap.size, 1, none⟩ = some (.string (bs xn)) := by rw [hW4]; go_simp
     have x2 : W4.cell? ⟨W2.heap.size, 2, none⟩ = some (.int .i64 (xi)) := by rw [hW4]; go_simp
     have t4 := below_at hB4 t2 (cell_lt t2)
     have p4 := below_at hB4 p2 (cell_lt p2)
     have k4 := below_at hB4 k2 (cell_lt k2)
     have nx : ¬ S W2.heap.size := fun hk => by have := HT2.lt _ hk; omega
     have HT4 := Lib.hid (HT2.below' hB4)
     have HM4 := Lib.hid (Mod.of_below (F := S) (hB2.trans (hB4.mono hB2.size)))
     have HW4 := Lib.hid hW4
     clear HT2 hB4 hW4 t2 p2 k2 hB2
     go_wp2_with fail
     rw [← HW4.out]
     refine (hno _ _).mono ?_
     rintro e w9 ⟨rfl, rfl⟩
     go_wp2_with fail
     refine (hkd2 _ HT4.out).mono ?_
     rintro e w5 ⟨rfl, hB5⟩
     have t5 := below_at hB5 t4 (cell_lt t4)
     have y0 := below_at hB5 x0 (cell_lt x0)
     have y1 := below_at hB5 x1 (cell_lt x1)
     have y2 := below_at hB5 x2 (cell_lt x2)
     have HT5 := Lib.hid (HT4.out.below' hB5)
     have HM5 := Lib.hid (HM4.out.trans (Mod.of_below (F := S) hB5))
     clear hB5
     go_wp2_with fail
     refine (hno _ _).mono ?_
     rintro e w9 ⟨rfl, rfl⟩
     go_wp2_with fail
     have hdr2 := trDrop_any w9 b S s HT5.out hok ⟨xd, xn, xi⟩
     simp only [spotV] at hdr2
     refine hdr2.mono ?_
     clear hdr2
     rintro e w12 ⟨rfl, hT12, hM12⟩
     go_wp2_with fail
     go_end0
     exact Or.inl ⟨rfl, by rw [HE.out], by rw [HE.out]; exact hT12, HM5.out.trans hM12⟩
theorem trUnlink_any (w : World) (b : Nat) (S : Nat → Prop) (s : TrS) (h : TreeAt w b S s) (hok : s.ok) (p : Nm) :
    Calls Tryz.prog 131 #[.pointer (some ⟨b, 0, none⟩), .string (bs p)] w (ErrPost w b S ((s.unlink p).run s)) := by
 have hmf : ∀ (fn : Fn) (first cap : Array Value) (w : World), (Instr.makeFunc fn first cap).run Tryz.prog w = .ok (.func fn first cap) w := fun _ _ _ _ => rfl
 obtain ⟨W1, hW1⟩ : ∃ W1, W1 = (w.alloc (.cells #[.pointer (some ⟨b, 0, none⟩)] 52)).alloc (.cells #[.string (bs p)] 9) := ⟨_, rfl⟩
 have hB1 : Below w.heap.size w W1 := by rw [hW1]; exact belC (Below.refl _ _)
 have hz1 : W1.heap.size = w.heap.size + 2 := by rw [hW1]; simp
 have hns : ∀ k, w.heap.size ≤ k → ¬ S k := fun k hk hs => by have := h.lt k hs; omega
 have hs1 : ¬ S W1.heap.size := hns _ (by omega)
 have hBe : Below w.heap.size w (W1.alloc (.cells #[.int .i64 0] 37)) := by exact belC hB1
 have hdo := unlink1_any (W1.alloc (.cells #[.int .i64 0] 37)) b w.heap.size (w.heap.size + 1) S s (h.below' hBe) hok p (by rw [hW1]; go_simp) (by rw [hW1]; go_simp)
 have HM1 := Lib.hid (Mod.of_below (F := S) hB1)
 have HW1 := Lib.hid hW1
 obtain ⟨r, hr⟩ : ∃ r, r = (s.unlink p).run s := ⟨_, rfl⟩
 rw [← hr] at hdo ⊢
 clear hr hB1 hW1 hBe h hz1 hns hok
 go_enter Tryz.func131, Tryz.ntmps131
 go_wp2_with fail
 rw [← HW1.out]
 refine (tries_tree W1 b 181 _ S r hs1 (enters_of Tryz.func181 (by kernel_rfl) rfl) hdo).mono ?_
 clear hdo
 rintro e W2 ⟨rfl, hT2, hM2⟩
 go_wp2_with fail
 go_ret
 exact ⟨rfl, hT2, HM1.out.trans hM2⟩
end Go.Proofs.YtajbooppoohplaaGreatDoor
/- package tree: Find, Stat, List, Inodes, Names -/
namespace Esch
open Go Go.RowKit
def Res.code {α : Type} (r : Res α) : Int := match r with
  | .ok _ => 0
  | .err e => e
def Res.val {α : Type} (r : Res α) (d : α) : α := match r with
  | .ok a => a
  | .err _ => d
end Esch
namespace Go.Proofs.YtajbooppoohplaaGreatDoor
open Go.RowKit Esch Go.Shelf

def FindR (W1 : World) (b bx : Nat) (S : Nat → Prop) (s : TrS) (r : Res Int) (x : Int) (W : World) : Prop :=
  x = r.code ∧ TreeAt W b S s ∧ W.cell? ⟨bx, 0, none⟩ = some (.int .i64 (r.val 0)) ∧ Mod (· = bx) W1 W
theorem find1_any (W : World) (b tb pb bx : Nat) (S : Nat → Prop) (s : TrS) (h : TreeAt W b S s) (p : Nm)
    (t0 : W.cell? ⟨tb, 0, none⟩ = some (.pointer (some ⟨b, 0, none⟩))) (p0 : W.cell? ⟨pb, 0, none⟩ = some (.string (bs p))) (x0 : W.cell? ⟨bx, 0, none⟩ = some (.int .i64 0)) (f0 : W.frozen? ⟨bx, 0, none⟩ = false) (nx : ¬ S bx) :
    Calls Tryz.prog 187 #[.pointer (some ⟨tb, 0, none⟩), .pointer (some ⟨pb, 0, none⟩), .pointer (some ⟨bx, 0, none⟩)] W (DoPost (FindR W b bx S s (s.resolve p))) := by
 have hrs := trResolve_any W b S s h p
 have H := Lib.hid h
 clear h
 cases hr : s.resolve p with
 | err e =>
   rw [hr] at hrs
   clear hr
   go_enter Tryz.func187, Tryz.ntmps187
   go_wp2_with fail
   refine hrs.mono ?_
   rintro e W2 ⟨hB2, rfl⟩
   go_wp2_with fail
   exact ⟨rfl, Or.inr ⟨_, rfl, rfl, H.out.below' hB2, below_at hB2 x0 (cell_lt x0), Mod.of_below hB2⟩⟩
 | ok i =>
   rw [hr] at hrs
   clear hr
   go_enter Tryz.func187, Tryz.ntmps187
   go_wp2_with fail
   refine hrs.mono ?_
   rintro e W2 ⟨hB2, rfl⟩
   have x2 := below_at hB2 x0 (cell_lt x0)
   have f2 := (hB2.frozen (p := ⟨bx, 0, none⟩) (cell_lt x0)).trans f0
   have hl := cell_lt x2
   go_wp2_with fail
   go_end0
   refine Or.inl ⟨rfl, rfl, (H.out.below' hB2).mod (F := (· = bx)) ((Mod.refl (· = bx) W2).setCellAt (fun _ => rfl) _) (fun k hk e => nx (by rw [← e]; exact hk)), by go_simp; rfl, (Mod.of_below (F := (· = bx)) hB2).setCellAt (fun _ => rfl) _⟩
def FindPost (w : World) (r : Res Int) (e : Ending) (w' : World) : Prop := e = .returned (.tuple #[.int .i64 (r.val 0), .int .i64 r.code]) ∧ Below w.heap.size w w'
theorem trFind_any (w : World) (b : Nat) (S : Nat → Prop) (s : TrS) (h : TreeAt w b S s) (p : Nm) :
    Calls Tryz.prog 134 #[.pointer (some ⟨b, 0, none⟩), .string (bs p)] w (FindPost w (s.resolve p)) := by
 obtain ⟨W1, hW1⟩ : ∃ W1, W1 = ((w.alloc (.cells #[.pointer (some ⟨b, 0, none⟩)] 52)).alloc (.cells #[.string (bs p)] 9)).alloc (.cells #[.int .i64 0] 3) := ⟨_, rfl⟩
 have hz1 : W1.heap.size = w.heap.size + 3 := by rw [hW1]; simp
 have hmf : ∀ (fn : Fn) (first cap : Array Value) (w : World), (Instr.makeFunc fn first cap).run Tryz.prog w = .ok (.func fn first cap) w := fun _ _ _ _ => rfl
 have hB1 : Below w.heap.size w W1 := by rw [hW1]; exact belC (Below.refl _ _)
 have hns : ∀ k, w.heap.size ≤ k → ¬ S k := fun k hk hs => by have := h.lt k hs; omega
 have hBe : Below w.heap.size w (W1.alloc (.cells #[.int .i64 0] 37)) := by exact belC hB1
 have hdo := find1_any (W1.alloc (.cells #[.int .i64 0] 37)) b w.heap.size (w.heap.size + 1) (w.heap.size + 2) S s (h.below' hBe) p (by rw [hW1]; go_simp) (by rw [hW1]; go_simp) (by rw [hW1]; go_simp) (by rw [hW1]; go_simp) (hns _ (by omega))
 have htr := tries_any W1 b 187 #[.pointer (some ⟨w.heap.size, 0, none⟩), .pointer (some ⟨w.heap.size + 1, 0, none⟩), .pointer (some ⟨w.heap.size + 2, 0, none⟩)] _ (enters_of Tryz.func187 (by kernel_rfl) rfl) hdo (fun x W hr => ⟨hr.2.2.2.at (by go_simp) (by omega), (hr.2.2.2.frozen (p := ⟨W1.heap.size, 0, none⟩) (by simp) (by show ¬ (W1.heap.size = w.heap.size + 2); omega)).trans (by go_simp)⟩)
 have HW1 := Lib.hid hW1
 have HB1 := Lib.hid hB1
 have HZ := Lib.hid hz1
 obtain ⟨r, hr⟩ : ∃ r, r = s.resolve p := ⟨_, rfl⟩
 rw [← hr] at htr ⊢
 clear hr hB1 hW1 hBe hns hdo hz1 h
 go_enter Tryz.func134, Tryz.ntmps134
 go_wp2_with fail
 rw [← HW1.out]
 refine htr.mono ?_
 clear htr
 rintro e W2 ⟨x, W, rfl, ⟨rfl, hT, hc, hM⟩, hM2⟩
 have hne : ¬ w.heap.size + 2 = W1.heap.size := by have := HZ.out; omega
 have c2 := hM2.at hc hne
 have hB : Below w.heap.size w W := HB1.out.trans ((show Below W1.heap.size W1 (W1.alloc (.cells #[.int .i64 0] 37)) by exact belC (Below.refl _ _)).mono HB1.out.size) |>.trans (hM.below_at (by have := HZ.out; simp only [World.size_alloc]; omega) (fun k hk e => by have e : k = w.heap.size + 2 := e; omega))
 have hB2 : Below w.heap.size w W2 := hB.trans (hM2.below_at hB.size (fun k hk e => by have := HZ.out; have e : k = W1.heap.size := e; omega))
 have HB2 := Lib.hid hB2
 clear hT hc hM hM2 hB hB2
 go_wp2_with fail
 go_ret2
 exact ⟨rfl, HB2.out⟩
end Go.Proofs.YtajbooppoohplaaGreatDoor
/- package extent: joined -/
namespace Esch
open Go Go.RowKit
theorem rowPut {w : World} {S : Nat → Prop} {size len cap b off : Nat} {xs : List Value} (h : GRowAt w S size len cap (some ⟨b, off, none⟩) xs) {i : Nat} (hi : i < len * size) (v : Value) : GRowAt (w.setCell ⟨b, off + i, none⟩ v) S size len cap (some ⟨b, off, none⟩) (xs.set i v) := by
 refine ⟨h.le, h.max, by rw [List.length_set]; exact h.xsLen, fun h0 => ?_⟩
 obtain ⟨b', off', e, hb, hl, h1, h2⟩ := h.at' h0
 cases e
 have hle := h.le
 have hlc : len * size ≤ cap * size := Nat.mul_le_mul_right _ hle
 have hx := h.xsLen
 obtain ⟨y, hy⟩ := Option.isSome_iff_exists.1 (h2 i (by omega)).1
 refine ⟨b, off, rfl, hb, by simpa using hl, fun j hj => ?_, fun j hj => ⟨?_, ?_⟩⟩
 · by_cases e : j = i
   · exact mK15
   · rw [List.getElem?_set_ne (fun e' => e e'.symm), ← h1 j hj]
     have hne : (⟨b, off + i, none⟩ : Addr) ≠ ⟨b, off + j, none⟩ := fun e' => e (by have := congrArg Addr.off e'; simp only at this; omega)
     apply World.cell?_setCell_other; exact hne
 · by_cases e : j = i
   · subst e
     go_simp
   · have hne : (⟨b, off + i, none⟩ : Addr) ≠ ⟨b, off + j, none⟩ := fun e' => e (by have := congrArg Addr.off e'; simp only at this; omega)
     have e2 : (w.setCell ⟨b, off + i, none⟩ v).cell? ⟨b, off + j, none⟩ = w.cell? ⟨b, off + j, none⟩ := by apply World.cell?_setCell_other; exact hne
     rw [e2]
     exact (h2 j hj).1
 · rw [World.frozen?_setCell]
   exact (h2 j hj).2
theorem joinP_snoc (l : List PtS) (x : PtS) : joinP (l ++ [x]) = joinStep (joinP l) x := by unfold joinP; rw [List.foldl_append]; rfl
theorem joinStep_snoc (init : List PtS) (y x : PtS) : joinStep (init ++ [y]) x = if joinsB y x = true then init ++ [{ y with len := y.len + x.len }] else init ++ [y] ++ [x] := by
 unfold joinStep
 rw [List.getLast?_append, List.getLast?_singleton]
 simp only [Option.some_or, List.dropLast_concat]
theorem PtS.In.join {y x : PtS} (hy : y.In) (hx : x.In) (h : joinsB y x = true) : PtS.In { y with len := y.len + x.len } := by
 unfold joinsB at h
 simp only [Bool.and_eq_true, decide_eq_true_eq] at h
 obtain ⟨⟨h1, -⟩, h3⟩ := h
 have := hy.o0; have := hy.l1; have := hy.a0; have := hx.l1; have := hx.ol; have := hx.al; have := hy.d0; have := hy.d1
 exact ⟨by simpa using hy.o0, by show 1 ≤ y.len + x.len; omega, by show y.len + x.len ≤ 1024; omega, by show y.off + (y.len + x.len) ≤ 8192; omega, by simpa using hy.a0, by show y.at' + (y.len + x.len) ≤ 1024; omega, by simpa using hy.d0, by simpa using hy.d1⟩
theorem snoc_of {α : Type} {l : List α} (h : l ≠ []) : ∃ i y, l = i ++ [y] := ⟨l.dropLast, l.getLast h, (List.dropLast_concat_getLast h).symm⟩
theorem joinStep_in {out : List PtS} {x : PtS} (ho : ∀ y ∈ out, y.In) (hx : x.In) : ∀ y ∈ joinStep out x, y.In := by
 by_cases h : out = []
 · subst h
   intro y hy
   have hy : y ∈ [x] := hy
   rw [List.mem_singleton] at hy
   subst hy; exact hx
 · obtain ⟨i, z, rfl⟩ := snoc_of h
   rw [joinStep_snoc]
   intro y hy
   split at hy
   · rename_i hj
     rcases List.mem_append.1 hy with hy | hy
     · exact ho y (List.mem_append_left _ hy)
     · rw [List.mem_singleton] at hy
       subst hy
       exact (ho z (by simp)).join hx hj
   · rcases List.mem_append.1 hy with hy | hy
     · exact ho y hy
     · rw [List.mem_singleton] at hy
       subst hy; exact hx
theorem flat_set (i : List PtS) (y : PtS) (v : Int) : ((i ++ [y]).flatMap ptC).set (i.length * 4 + 1) (.int .i64 v) = (i ++ [{ y with len := v }]).flatMap ptC := by
 rw [List.flatMap_append, List.flatMap_append, List.set_append_right _ _ (by rw [flat_len ptC_len]; omega), flat_len ptC_len, show i.length * 4 + 1 - i.length * 4 = 1 by omega]
 rfl
end Esch
namespace Go.Proofs.YtajbooppoohplaaGreatDoor
open Go.RowKit Esch Go.Shelf

def JRel (w : World) (l : List PtS) (g : Nat) (v4 v10 : Value) (wr : World) : Prop :=
  ∃ (i : Nat) (ao : Option Addr) (cap : Nat), g = l.length - i ∧ i ≤ l.length ∧ v10 = .int .i64 i ∧ v4 = .slice ao (joinP (l.take i)).length cap ∧ GRowAt wr (From w.heap.size) 4 (joinP (l.take i)).length cap ao ((joinP (l.take i)).flatMap ptC) ∧ (∀ x ∈ joinP (l.take i), x.In) ∧ Below w.heap.size w wr
def XJoinPost (w : World) (r : List PtS × Int) (e : Ending) (w' : World) : Prop := ∃ a c, e = .returned (.tuple #[.slice a r.1.length c, .int .i64 r.2]) ∧ GRowAt w' (fun k => w.heap.size ≤ k ∧ k < w'.heap.size) 4 r.1.length c a (r.1.flatMap ptC) ∧ Below w.heap.size w w'
set_option linter.unusedSimpArgs false in
theorem extJoined_any (w : World) (S : Nat → Prop) (a : Option Addr) (c : Nat) (l : List PtS) (h : PtsAt w S a l) (hin : ∀ x ∈ l, x.In) (hl : l.length ≤ 100000) :
    Calls Tryz.prog 219 #[.slice a l.length c] w (XJoinPost w (fewP (joinP l))) := by
 obtain ⟨j0, hi, hy0, hy1, hy2⟩ := info_parts Tryz.infoPart
 have HX := Lib.hid h
 have HIN := Lib.hid hin
 have Hll := Lib.hid hl
 obtain ⟨rr, hrr⟩ : ∃ rr, rr = fewP (joinP l) := ⟨_, rfl⟩
 rw [← hrr]
 have HRR := Lib.hid hrr
 clear h hin hl hrr
 go_enter Tryz.func219, Tryz.ntmps219
 go_wp2_with fail
 go_loopg [4, 10] l.length (fun g s4 s10 wr => JRel w l g s4 s10 wr)
 case atStart => exact ⟨0, none, 0, rfl, Nat.zero_le _, rfl, rfl, GRowAt.nil _ _ _ _, (by intro x hx; cases hx), Below.refl _ _⟩
 case round =>
  obtain ⟨i, ao, cap, rfl, hil, rfl, rfl, hG, hJI, hB'⟩ := hrel
  have HG := Lib.hid hG
  have HJI := Lib.hid hJI
  have HB' := Lib.hid hB'
  clear hG hJI hB'
  by_cases hlt : i < l.length
  · obtain ⟨bk, off, rfl, -, hbl, hc⟩ := HX.out.elem ptC_len default hlt
    have hui := HIN.out _ ((show l.getD i default ∈ l by rw [List.getD_eq_getElem?_getD, List.getElem?_eq_getElem hlt]; exact List.getElem_mem hlt))
    have HSN : Hid (joinP (l.take (i + 1)) = joinStep (joinP (l.take i)) (l.getD i default)) := Lib.hid (by rw [take_one l default hlt, joinP_snoc])
    have hlt' := Lib.hid hlt
    have hjl : (joinP (l.take i)).length ≤ i := by have := joinP_len (l.take i) []; rw [List.length_take] at this; simp only [List.length_nil] at this; unfold joinP; omega
    generalize l.getD i default = u at *
    obtain ⟨u0, u1, u2, u3⟩ := u
    have HUI := Lib.hid hui
    have f0 : wr.cell? ⟨bk, off + i * 4, none⟩ = some (.int .i64 u0) := below_at HB'.out (hc 0 (by decide)) hbl
    have f1 : wr.cell? ⟨bk, off + i * 4 + 1, none⟩ = some (.int .i64 u1) := below_at HB'.out (hc 1 (by decide)) hbl
    have f2 : wr.cell? ⟨bk, off + i * 4 + 2, none⟩ = some (.int .i64 u2) := below_at HB'.out (hc 2 (by decide)) hbl
    have f3 : wr.cell? ⟨bk, off + i * 4 + 3, none⟩ = some (.int .i64 u3) := below_at HB'.out (hc 3 (by decide)) hbl
    have hbl' : bk < wr.heap.size := cell_lt f0
    have hil2 : (0 : Int) ≤ i ∧ (i : Int) < l.length := by omega
    have hwr := Lib.hid (show wrap64 ((i : Int) + 1) = ((i + 1 : Nat) : Int) by unfold wrap64; have := Hll.out; omega)
    have hms : l.length - (i + 1) < l.length - i := by omega
    generalize joinP (l.take i) = jl at *
    have HJL := Lib.hid hjl
    obtain ⟨W1, hW1⟩ : ∃ W1, W1 = wr.alloc (.cells #[.int .i64 u0, .int .i64 u1, .int .i64 u2, .int .i64 u3] 88) := ⟨_, rfl⟩
    have hB1 : Below wr.heap.size wr W1 := by rw [hW1]; exact belC (Below.refl _ _)
    have hz1 : W1.heap.size = wr.heap.size + 1 := by rw [hW1]; simp
    have e0 : W1.drew.cell? ⟨wr.heap.size, 0, none⟩ = some (.int .i64 u0) := by rw [hW1]; go_simp
    have e1 : W1.drew.cell? ⟨wr.heap.size, 1, none⟩ = some (.int .i64 u1) := by rw [hW1]; go_simp
    have e2 : W1.drew.cell? ⟨wr.heap.size, 2, none⟩ = some (.int .i64 u2) := by rw [hW1]; go_simp
    have e3 : W1.drew.cell? ⟨wr.heap.size, 3, none⟩ = some (.int .i64 u3) := by rw [hW1]; go_simp
    obtain ⟨xb, hxb⟩ : ∃ xb, xb = wr.heap.size := ⟨_, rfl⟩
    rw [← hxb] at e0 e1 e2 e3
    have HXB := Lib.hid hxb
    have HW1 := Lib.hid hW1
    have HB1 := Lib.hid hB1
    have HZ1 := Lib.hid hz1
    have hbx := cell_lt e0
    have HBW := Lib.hid (HB'.out.trans (hB1.mono HB'.out.size))
    clear hc hbl hui hjl hW1 hB1 hxb hz1
    by_cases hj0 : jl = []
    · subst hj0
      have HSN2 : Hid (joinP (l.take (i + 1)) = [] ++ [⟨u0, u1, u2, u3⟩]) := Lib.hid (by rw [HSN.out]; rfl)
      go_wp2_with fail
      rw [← HW1.out, ← HXB.out]
      refine wp_region_held_drew (S := fun W' => W'.cell? ⟨xb, 0, none⟩ = some (.int .i64 u0)) (by kernel_rfl) e0 (fun hHeld => ?_)
      refine takeL 0 ?_
      refine takeL 1 ?_
      refine takeL 2 ?_
      refine takeU 3 ?_
      refine takeU 4 ?_
      refine takeU 5 ?_
      refine takeU 6 ?_
      refine takeU 7 ?_
      refine takeU 8 ?_
      refine takeU 9 ?_
      refine takeL 10 ?_
      refine wpAnyH_done (by kernel_rfl) ?_ _
      clear hHeld
      obtain ⟨W2, hW2, hB2⟩ : ∃ W2, W2 = W1.drew ∧ Below w.heap.size w W2 := ⟨_, rfl, HBW.out.drew⟩
      have HGA : Hid (GRowAt W2 (From w.heap.size) 4 ([] : List PtS).length cap ao (([] : List PtS).flatMap ptC)) := Lib.hid (by rw [hW2]; exact HG.out.mod (F := none') (Mod.of_below HB1.out.drew) (fun _ _ _ => id))
      have HBA : Hid (Below w.heap.size w W2) := Lib.hid hB2
      have e0 : W2.cell? ⟨xb, 0, none⟩ = some (.int .i64 u0) := by rw [hW2]; exact e0
      have e1 : W2.cell? ⟨xb, 1, none⟩ = some (.int .i64 u1) := by rw [hW2]; exact e1
      have e2 : W2.cell? ⟨xb, 2, none⟩ = some (.int .i64 u2) := by rw [hW2]; exact e2
      have e3 : W2.cell? ⟨xb, 3, none⟩ = some (.int .i64 u3) := by rw [hW2]; exact e3
      rw [← hW2]
      clear hB2 hW2
      go_wp2_with (at_builtin; refine wpList_append_g (by rfl) (.tmp 38) (.tmp 40) 83 83 (by rfl) 88 j0 _ 32 Tryz.underlying83 hi hy0 hy1 hy2 (by rfl) (by rfl) (HGA.out.mod (F := none') (by exact modC (Mod.refl _ _)) (fun _ _ _ => id)) _ 1 (ptC ⟨u0, u1, u2, u3⟩) (by rfl) (src_pt _ _ Tryz.underlying83 W2.heap.size _ 88 (heap_alloc_new _ _) _) (by have := Hll.out; have := HJL.out; omega) (by have := Hll.out; have := HJL.out; omega) ?_; intro a6 cap6 w6 hg6 hM6 hz6)
      have hB5 : Below w.heap.size w (W2.alloc (.cells #[.int .i64 u0, .int .i64 u1, .int .i64 u2, .int .i64 u3] 88)) := HBA.out.trans (show Below w.heap.size W2 _ by have := HBA.out.size; exact belC (Below.refl _ _))
      have hB6 : Below w.heap.size w w6 := hB5.trans (hM6.below_at (by have := HBA.out.size; simp only [World.size_alloc]; omega) (fun k hk e => by have e : w.heap.size ≤ k := e; omega))
      have hg7 : GRowAt w6 (From w.heap.size) 4 (([] : List PtS) ++ [(⟨u0, u1, u2, u3⟩ : PtS)]).length cap6 a6 ((([] : List PtS) ++ [(⟨u0, u1, u2, u3⟩ : PtS)]).flatMap ptC) := by
       exact mK110
      have HG6 := Lib.hid hg7
      have HB6 := Lib.hid hB6
      clear hg6 hM6 hz6 hg7 hB6 hB5
      go_wp2_with fail
      go_roundg (l.length - (i + 1))
      case measure => exact hms
      case rel => exact ⟨i + 1, a6, cap6, rfl, hlt'.out, by first | rfl | rw [hwr.out], by rw [HSN2.out]; rfl, by rw [HSN2.out]; exact HG6.out, (by rw [HSN2.out]; intro x hx; obtain rfl : x = ⟨u0, u1, u2, u3⟩ := (by simpa using hx); exact HUI.out), HB6.out⟩
    · obtain ⟨ini, y, rfl⟩ := snoc_of hj0
      have hyi := HJI.out y (by simp)
      obtain ⟨rb, ro, rfl, hrS, hrl, hrc⟩ := HG.out.row.elem ptC_len default (i := ini.length) (by simp)
      rw [show (ini ++ [y]).getD ini.length default = y by simp] at hrc
      have HRC := Lib.hid hrc
      have hFZ : wr.frozen? ⟨rb, ro + ini.length * 4 + 1, none⟩ = false := by
       obtain ⟨b', o', e, -, -, -, h2⟩ := HG.out.at' (by have := HG.out.le; simp only [List.length_append, List.length_singleton] at this; omega)
       cases e
       have := HG.out.le
       simp only [List.length_append, List.length_singleton] at this
       rw [Nat.add_assoc]
       exact (h2 (ini.length * 4 + 1) (by omega)).2
      have HLN : Hid ((ini ++ [y]).length = ini.length + 1) := Lib.hid (by simp)
      have hmi : ini.length + 1 ≤ i := by have := HJL.out; rw [HLN.out] at this; exact this
      obtain ⟨m, hm⟩ : ∃ m, m = ini.length := ⟨_, rfl⟩
      rw [HLN.out, ← hm]
      rw [← hm] at hFZ hrc hmi
      have HM := Lib.hid hm
      obtain ⟨y0, y1, y2, y3⟩ := y
      have q0 : W1.drew.cell? ⟨rb, ro + m * 4, none⟩ = some (.int .i64 y0) := below_at HB1.out (hrc 0 (by decide)) hrl
      have q1 : W1.drew.cell? ⟨rb, ro + m * 4 + 1, none⟩ = some (.int .i64 y1) := below_at HB1.out (hrc 1 (by decide)) hrl
      have q2 : W1.drew.cell? ⟨rb, ro + m * 4 + 2, none⟩ = some (.int .i64 y2) := below_at HB1.out (hrc 2 (by decide)) hrl
      have q3 : W1.drew.cell? ⟨rb, ro + m * 4 + 3, none⟩ = some (.int .i64 y3) := below_at HB1.out (hrc 3 (by decide)) hrl
      have hFZ1 : W1.drew.frozen? ⟨rb, ro + m * 4 + 1, none⟩ = false := (HB1.out.frozen (p := ⟨rb, ro + m * 4 + 1, none⟩) hrl).trans hFZ
      have hrl1 := cell_lt q0
      have hjn := fun W => joins_any W ⟨y0, y1, y2, y3⟩ ⟨u0, u1, u2, u3⟩ hyi
      unfold ptV at hjn
      simp only at hjn
      have hkl : (0 : Int) ≤ m ∧ (m : Int) < (m : Int) + 1 := by omega
      have hgt : (0 : Int) < (m : Int) + 1 := by omega
      have hwk2 : IntKind.i64.wrap (m : Int) = (m : Int) := by have := Hll.out; rw [IntKind.wrap_i64]; omega
      have hws : IntKind.i64.wrap (y1 + u1) = y1 + u1 := by have := hyi.l1; have := hyi.l2; have := HUI.out.l1; have := HUI.out.l2; simp only at *; rw [IntKind.wrap_i64]; omega
      have HYI := Lib.hid hyi
      have HRS := Lib.hid hrS
      have hrx : rb ≠ xb := by have := HXB.out; omega
      have HGW := Lib.hid (HG.out.mod (F := none') (Mod.of_below HB1.out.drew) (fun _ _ _ => id))
      clear hj0 hm hrc hmi hyi hrS hFZ
      have HKD : Hid (W1.drew.cell? ⟨xb, 0, none⟩ = some (.int .i64 u0) ∧ W1.drew.cell? ⟨xb, 1, none⟩ = some (.int .i64 u1) ∧ W1.drew.cell? ⟨xb, 2, none⟩ = some (.int .i64 u2) ∧ W1.drew.cell? ⟨xb, 3, none⟩ = some (.int .i64 u3) ∧ W1.drew.cell? ⟨rb, ro + m * 4, none⟩ = some (.int .i64 y0) ∧ W1.drew.cell? ⟨rb, ro + m * 4 + 1, none⟩ = some (.int .i64 y1) ∧ W1.drew.cell? ⟨rb, ro + m * 4 + 2, none⟩ = some (.int .i64 y2) ∧ W1.drew.cell? ⟨rb, ro + m * 4 + 3, none⟩ = some (.int .i64 y3)) := Lib.hid ⟨e0, e1, e2, e3, q0, q1, q2, q3⟩
      cases hjv : joinsB ⟨y0, y1, y2, y3⟩ ⟨u0, u1, u2, u3⟩
      · rw [hjv] at hjn
        have HSN2 : Hid (joinP (l.take (i + 1)) = (ini ++ [⟨y0, y1, y2, y3⟩]) ++ [⟨u0, u1, u2, u3⟩]) := Lib.hid (by rw [HSN.out, joinStep_snoc, hjv]; rfl)
        have HJI2 : Hid (∀ x ∈ joinP (l.take (i + 1)), x.In) := Lib.hid (by rw [HSN.out]; exact joinStep_in HJI.out HUI.out)
        clear hjv
        go_wp2_with fail
        rw [← HW1.out, ← HXB.out]
        refine wp_region_held_drew (S := fun W' => W'.cell? ⟨xb, 0, none⟩ = some (.int .i64 u0) ∧ W'.cell? ⟨xb, 1, none⟩ = some (.int .i64 u1) ∧ W'.cell? ⟨xb, 2, none⟩ = some (.int .i64 u2) ∧ W'.cell? ⟨xb, 3, none⟩ = some (.int .i64 u3) ∧ W'.cell? ⟨rb, ro + m * 4, none⟩ = some (.int .i64 y0) ∧ W'.cell? ⟨rb, ro + m * 4 + 1, none⟩ = some (.int .i64 y1) ∧ W'.cell? ⟨rb, ro + m * 4 + 2, none⟩ = some (.int .i64 y2) ∧ W'.cell? ⟨rb, ro + m * 4 + 3, none⟩ = some (.int .i64 y3)) (by kernel_rfl) HKD.out (fun hHeld => ?_)
        refine takeL 0 ?_
        refine takeL 1 ?_
        refine takeL 2 ?_
        refine takeL 3 ?_
        refine takeL 4 ?_
        refine takeL 5 ?_
        refine takeL 6 ?_
        refine takeL 7 ?_
        refine takeL 8 ?_
        refine wpAnyH_ready (rs := [9]) (by kernel_rfl) (by simp) ?_
        refine AllReadyH.cons (o := _) rfl (fun K hK => ?_) AllReadyH.nil
        go_simp
        refine (hjn _).mono ?_
        rintro e wj ⟨rfl, hB6⟩
        have g0 := below_at hB6 e0 hbx
        have g1 := below_at hB6 e1 hbx
        have g2 := below_at hB6 e2 hbx
        have g3 := below_at hB6 e3 hbx
        have q0 := below_at hB6 q0 hrl1
        have q1 := below_at hB6 q1 hrl1
        have q2 := below_at hB6 q2 hrl1
        have q3 := below_at hB6 q3 hrl1
        have HB66 := Lib.hid hB6
        clear hB6
        try go_wp2_with fail
        refine hK _ _ ⟨g0, g1, g2, g3, q0, q1, q2, q3⟩ (fun hHeld => ?_)
        clear hK K
        try simp only [Act.put, List.setIfInBounds_toArray, List.set_cons_zero, List.set_cons_succ]
        refine takeL 10 ?_
        refine wpAnyH_done (by kernel_rfl) ?_ _
        clear hHeld hjn
        have HGA : Hid (GRowAt wj (From w.heap.size) 4 (ini ++ [(⟨y0, y1, y2, y3⟩ : PtS)]).length cap (some ⟨rb, ro, none⟩) ((ini ++ [(⟨y0, y1, y2, y3⟩ : PtS)]).flatMap ptC)) := Lib.hid (HGW.out.mod (F := none') (Mod.of_below HB66.out) (fun _ _ _ => id))
        have HBA : Hid (Below w.heap.size w wj) := Lib.hid (HBW.out.drew.trans (HB66.out.mono HBW.out.size))
        rw [show m + 1 = (ini ++ [(⟨y0, y1, y2, y3⟩ : PtS)]).length by rw [HLN.out, HM.out]]
        go_wp2_with (at_builtin; refine wpList_append_g (by rfl) (.tmp 38) (.tmp 40) 83 83 (by rfl) 88 j0 _ 32 Tryz.underlying83 hi hy0 hy1 hy2 (by rfl) (by rfl) (HGA.out.mod (F := none') (by exact modC (Mod.refl _ _)) (fun _ _ _ => id)) _ 1 (ptC ⟨u0, u1, u2, u3⟩) (by rfl) (src_pt _ _ Tryz.underlying83 wj.heap.size _ 88 (heap_alloc_new _ _) _) (by have := Hll.out; have := HJL.out; omega) (by have := Hll.out; have := HJL.out; omega) ?_; intro a6 cap6 w6 hg6 hM6 hz6)
        have hB5 : Below w.heap.size w (wj.alloc (.cells #[.int .i64 u0, .int .i64 u1, .int .i64 u2, .int .i64 u3] 88)) := HBA.out.trans (show Below w.heap.size wj _ by have := HBA.out.size; exact belC (Below.refl _ _))
        have hB6 : Below w.heap.size w w6 := hB5.trans (hM6.below_at (by have := HBA.out.size; simp only [World.size_alloc]; omega) (fun k hk e => by have e : w.heap.size ≤ k := e; omega))
        have hg7 : GRowAt w6 (From w.heap.size) 4 ((ini ++ [(⟨y0, y1, y2, y3⟩ : PtS)]) ++ [(⟨u0, u1, u2, u3⟩ : PtS)]).length cap6 a6 (((ini ++ [(⟨y0, y1, y2, y3⟩ : PtS)]) ++ [(⟨u0, u1, u2, u3⟩ : PtS)]).flatMap ptC) := by
         exact mK110
        have HG6 := Lib.hid hg7
        have HB6 := Lib.hid hB6
        clear hg6 hM6 hz6 hg7 hB6 hB5
        go_wp2_with fail
        go_roundg (l.length - (i + 1))
        case measure => exact hms
        case rel => exact ⟨i + 1, a6, cap6, rfl, hlt'.out, by first | rfl | rw [hwr.out], (by rw [HSN2.out]; simp), by rw [HSN2.out]; exact HG6.out, HJI2.out, HB6.out⟩
      · rw [hjv] at hjn
        have HSN2 : Hid (joinP (l.take (i + 1)) = ini ++ [⟨y0, y1 + u1, y2, y3⟩]) := Lib.hid (by rw [HSN.out, joinStep_snoc, hjv]; rfl)
        have HJI2 : Hid (∀ x ∈ joinP (l.take (i + 1)), x.In) := Lib.hid (by rw [HSN.out]; exact joinStep_in HJI.out HUI.out)
        clear hjv
        go_wp2_with fail
        rw [← HW1.out, ← HXB.out]
        refine wp_region_held_drew (S := fun W' => W'.cell? ⟨xb, 0, none⟩ = some (.int .i64 u0) ∧ W'.cell? ⟨xb, 1, none⟩ = some (.int .i64 u1) ∧ W'.cell? ⟨xb, 2, none⟩ = some (.int .i64 u2) ∧ W'.cell? ⟨xb, 3, none⟩ = some (.int .i64 u3) ∧ W'.cell? ⟨rb, ro + m * 4, none⟩ = some (.int .i64 y0) ∧ W'.cell? ⟨rb, ro + m * 4 + 1, none⟩ = some (.int .i64 y1) ∧ W'.cell? ⟨rb, ro + m * 4 + 2, none⟩ = some (.int .i64 y2) ∧ W'.cell? ⟨rb, ro + m * 4 + 3, none⟩ = some (.int .i64 y3)) (by kernel_rfl) HKD.out (fun hHeld => ?_)
        refine takeL 0 ?_
        refine takeL 1 ?_
        refine takeL 2 ?_
        refine takeL 3 ?_
        refine takeL 4 ?_
        refine takeL 5 ?_
        refine takeL 6 ?_
        refine takeL 7 ?_
        refine takeL 8 ?_
        refine wpAnyH_ready (rs := [9]) (by kernel_rfl) (by simp) ?_
        refine AllReadyH.cons (o := _) rfl (fun K hK => ?_) AllReadyH.nil
        go_simp
        refine (hjn _).mono ?_
        rintro e wj ⟨rfl, hB6⟩
        have g0 := below_at hB6 e0 hbx
        have g1 := below_at hB6 e1 hbx
        have g2 := below_at hB6 e2 hbx
        have g3 := below_at hB6 e3 hbx
        have q0 := below_at hB6 q0 hrl1
        have q1 := below_at hB6 q1 hrl1
        have q2 := below_at hB6 q2 hrl1
        have q3 := below_at hB6 q3 hrl1
        have HB66 := Lib.hid hB6
        clear hB6
        try go_wp2_with fail
        refine hK _ _ ⟨g0, g1, g2, g3, q0, q1, q2, q3⟩ (fun hHeld => ?_)
        clear hK K
        try simp only [Act.put, List.setIfInBounds_toArray, List.set_cons_zero, List.set_cons_succ]
        refine takeL 10 ?_
        refine wpAnyH_done (by kernel_rfl) ?_ _
        clear hHeld hjn
        have hKX : wj.drew.cell? ⟨xb, 1, none⟩ = some (.int .i64 u1) ∧ wj.drew.cell? ⟨rb, ro + m * 4 + 1, none⟩ = some (.int .i64 y1) := ⟨g1, q1⟩
        have hF6 : wj.drew.frozen? ⟨rb, ro + m * 4 + 1, none⟩ = false := (HB66.out.frozen (p := ⟨rb, ro + m * 4 + 1, none⟩) hrl1).trans hFZ1
        have hr6 := cell_lt q1
        clear g0 g2 g3 q0 q2 q3
        go_wp2_with fail
        refine anyX_begin 11 (fun W' => W'.cell? ⟨xb, 1, none⟩ = some (.int .i64 u1) ∧ W'.cell? ⟨rb, ro + m * 4 + 1, none⟩ = some (.int .i64 y1)) (by kernel_rfl) hKX (fun hHeld => ?_)
        refine takeX 0 ?_
        refine takeX 1 ?_
        refine takeX 2 ?_
        refine takeX 3 ?_
        refine takeX 4 ?_
        refine takeX 5 ?_
        refine takeX 6 ?_
        refine takeX 7 ?_
        refine takeX 8 ?_
        refine anyX_ready (rs := [9]) (by kernel_rfl) (by simp) ?_
        refine anyX_cons (o := ?_) ?_ (fun K hK => ?_) ?_
        rotate_left 1
        · simp only [List.getElem?_toArray, List.getElem?_cons_succ, List.getElem?_cons_zero]; rfl
        rotate_left 1
        · exact anyX_nil
        go_simp
        try go_wp2_with fail
        refine hK.out _ _ hHeld (fun hHeld => ?_)
        clear hK K
        try simp only [Act.put, List.setIfInBounds_toArray, List.set_cons_zero, List.set_cons_succ]
        refine takeX 10 ?_
        refine anyX_ready (rs := [11]) (by kernel_rfl) (by simp) ?_
        refine anyX_last (o := ?_) ?_ (fun K hK => ?_)
        rotate_left 1
        · simp only [List.getElem?_toArray, List.getElem?_cons_succ, List.getElem?_cons_zero]; rfl
        go_simp
        refine hK.out _ _ (anyX_done (by kernel_rfl) ?_ _)
        clear hK K hHeld
        have HB7 : Hid (Below w.heap.size w (wj.drew.setCell ⟨rb, ro + m * 4 + 1, none⟩ (.int .i64 (y1 + u1)))) := Lib.hid (by have hrs : w.heap.size ≤ rb := HRS.out; exact belC (HBW.out.drew.trans (HB66.out.mono HBW.out.size)))
        have HG7 : Hid (GRowAt (wj.drew.setCell ⟨rb, ro + m * 4 + 1, none⟩ (.int .i64 (y1 + u1))) (From w.heap.size) 4 (ini ++ [(⟨y0, y1 + u1, y2, y3⟩ : PtS)]).length cap (some ⟨rb, ro, none⟩) ((ini ++ [(⟨y0, y1 + u1, y2, y3⟩ : PtS)]).flatMap ptC)) := Lib.hid (by
          have h1 := HGW.out.mod (F := none') (w' := wj.drew) (Mod.of_below HB66.out.drew) (fun _ _ _ => id)
          have h2 := rowPut h1 (i := m * 4 + 1) (by rw [HLN.out, HM.out]; omega) (.int .i64 (y1 + u1))
          rw [← Nat.add_assoc, HM.out, flat_set] at h2
          rw [HM.out]
          rw [show (ini ++ [(⟨y0, y1 + u1, y2, y3⟩ : PtS)]).length = (ini ++ [(⟨y0, y1, y2, y3⟩ : PtS)]).length by simp]
          exact h2)
        go_wp2_with fail
        go_roundg (l.length - (i + 1))
        case measure => exact hms
        case rel => exact ⟨i + 1, _, cap, rfl, hlt'.out, by first | rfl | rw [hwr.out], by rw [HSN2.out, List.length_append, HM.out]; rfl, by rw [HSN2.out]; exact HG7.out, HJI2.out, HB7.out⟩
  · obtain rfl : i = l.length := by omega
    have hg := HG.out
    rw [List.take_length] at hg ⊢
    have hjl : (joinP l).length ≤ 100000 := by have := joinP_len l []; simp only [List.length_nil] at this; have := Hll.out; unfold joinP; omega
    generalize joinP l = jl at *
    clear hlt hil
    by_cases h64 : 64 < jl.length
    · have h64' : (64 : Int) < jl.length := by omega
      have hrr : rr = ([], 3) := by rw [HRR.out]; unfold fewP; rw [if_pos h64]
      subst hrr
      go_wp2_with fail
      go_ret2
      exact ⟨none, 0, rfl, GRowAt.nil _ _ _ _, HB'.out⟩
    · have h64' : decide (64 < jl.length) = false := decide_eq_false h64
      have h64b : ¬ (64 : Int) < jl.length := by omega
      have hrr : rr = (jl, 0) := by rw [HRR.out]; unfold fewP; rw [if_neg h64]
      subst hrr
      clear h64
      go_wp2_with fail
      go_ret2
      exact ⟨ao, cap, rfl, fresh_row hg, HB'.out⟩
end Go.Proofs.YtajbooppoohplaaGreatDoor
/- package extent: Put -/
namespace Esch
open Go Go.RowKit
theorem cutF_in {n : Int} {l : List PtS} (h : ∀ p ∈ l, p.In) : ∀ y ∈ cutF n l, y.In := fun y hy => by
  unfold cutF at hy
  obtain ⟨p, hp, rfl⟩ := List.mem_map.1 hy
  obtain ⟨hp, hn⟩ := List.mem_filter.1 hp
  have hn : p.off < n := by simpa using hn
  have hi := h p hp
  have := hi.o0; have := hi.l1; have := hi.l2; have := hi.ol; have := hi.a0; have := hi.al
  exact ⟨hi.o0, by show 1 ≤ min p.len (n - p.off); omega, by show min p.len (n - p.off) ≤ 1024; omega, by show p.off + min p.len (n - p.off) ≤ 8192; omega, hi.a0, by show p.at' + min p.len (n - p.off) ≤ 1024; omega, hi.d0, hi.d1⟩
/-- how much of a part lies under x -/
def underP (x p : PtS) : Int := max 0 (x.off + x.len - p.off)
def restP (x p : PtS) : PtS := ⟨p.off + underP x p, p.len - underP x p, p.addr, p.at' + underP x p⟩
theorem behindP_snoc (l : List PtS) (x p : PtS) : behindP (l ++ [p]) x = if underP x p < p.len then behindP l x ++ [restP x p] else behindP l x := by
 unfold behindP
 rw [List.filterMap_append]
 by_cases h : underP x p < p.len
 · rw [if_pos h]
   congr 1
   rw [List.filterMap_cons_some (b := restP x p)]
   · rfl
   · exact if_pos h
 · rw [if_neg h, List.filterMap_cons_none]
   · simp
   · exact if_neg h
theorem rest_in {x p : PtS} (hp : p.In) (h : underP x p < p.len) : (restP x p).In := by
 have := hp.o0; have := hp.l1; have := hp.l2; have := hp.ol; have := hp.a0; have := hp.al
 have h0 : 0 ≤ underP x p := by unfold underP; omega
 exact ⟨by show 0 ≤ p.off + underP x p; omega, by show 1 ≤ p.len - underP x p; omega, by show p.len - underP x p ≤ 1024; omega, by show p.off + underP x p + (p.len - underP x p) ≤ 8192; omega, by show 0 ≤ p.at' + underP x p; omega, by show p.at' + underP x p + (p.len - underP x p) ≤ 1024; omega, hp.d0, hp.d1⟩
theorem behind_in {x : PtS} {l : List PtS} (h : ∀ p ∈ l, p.In) : ∀ y ∈ behindP l x, y.In := fun y hy => by
  unfold behindP at hy
  obtain ⟨p, hp, he⟩ := List.mem_filterMap.1 hy
  by_cases hu : underP x p < p.len
  · have e : some (restP x p) = some y := (if_pos hu).symm.trans he
    cases e
    exact rest_in (h p hp) hu
  · have e : (none : Option PtS) = some y := (if_neg hu).symm.trans he
    cases e
theorem behind_len (x : PtS) (l : List PtS) : (behindP l x).length ≤ l.length := List.length_filterMap_le _ _
theorem rowNil {w : World} {S : Nat → Prop} {size len cap : Nat} {ao : Option Addr} {xs : List Value} (h : GRowAt w S size len cap ao xs) (e : ao = none) : cap = 0 := by
 exact mK89
end Esch
namespace Go.Proofs.YtajbooppoohplaaGreatDoor
open Go.RowKit Esch Go.Shelf

def BehRel (w : World) (l : List PtS) (x : PtS) (g : Nat) (v7 v25 : Value) (wr : World) : Prop :=
  ∃ (i : Nat) (ao : Option Addr) (cap : Nat), g = l.length - i ∧ i ≤ l.length ∧ v25 = .int .i64 i ∧ v7 = .slice ao (behindP (l.take i) x).length cap ∧ GRowAt wr (From w.heap.size) 4 (behindP (l.take i) x).length cap ao ((behindP (l.take i) x).flatMap ptC) ∧ Below w.heap.size w wr
theorem extPut_any (w : World) (S : Nat → Prop) (a : Option Addr) (c : Nat) (l : List PtS) (h : PtsAt w S a l) (x : PtS) :
    Calls Tryz.prog 190 #[.slice a l.length c, ptV x] w (XJoinPost w (putP l x)) := by
 obtain ⟨j0, hi, hy0, hy1, hy2⟩ := info_parts Tryz.infoPart
 obtain ⟨W1, hW1, hB1⟩ : ∃ W1, W1 = w.alloc (.cells #[.int .i64 x.off, .int .i64 x.len, .int .i64 x.addr, .int .i64 x.at'] 88) ∧ Below w.heap.size w W1 := ⟨_, rfl, by exact belC (Below.refl _ _)⟩
 have hgd := extGood_any W1 S a c l (h.below' hB1)
 obtain ⟨x0, x1, x2, x3⟩ := x
 simp only [ptV] at hW1 ⊢
 have hon := fun W => one_any W ⟨x0, x1, x2, x3⟩
 unfold ptV at hon
 simp only at hon
 have z0 : W1.cell? ⟨w.heap.size, 0, none⟩ = some (.int .i64 x0) := by rw [hW1]; go_simp
 have z1 : W1.cell? ⟨w.heap.size, 1, none⟩ = some (.int .i64 x1) := by rw [hW1]; go_simp
 have z2 : W1.cell? ⟨w.heap.size, 2, none⟩ = some (.int .i64 x2) := by rw [hW1]; go_simp
 have z3 : W1.cell? ⟨w.heap.size, 3, none⟩ = some (.int .i64 x3) := by rw [hW1]; go_simp
 have hzl := cell_lt z0
 have HW1 := Lib.hid hW1
 have HB1 := Lib.hid hB1
 have HX := Lib.hid (h.below' hB1)
 clear h hW1 hB1
 obtain ⟨rr, hrr⟩ : ∃ rr, rr = putP l ⟨x0, x1, x2, x3⟩ := ⟨_, rfl⟩
 rw [← hrr]
 unfold putP at hrr
 cases hg : goodP l
 · rw [hg] at hgd
   rw [if_pos hg] at hrr
   subst hrr
   clear hg
   go_enter Tryz.func190, Tryz.ntmps190
   go_wp2_with fail
   rw [← HW1.out]
   refine hgd.mono ?_
   rintro e w2 ⟨rfl, hB2⟩
   go_wp2_with fail
   go_ret2
   exact ⟨none, 0, rfl, GRowAt.nil _ _ _ _, HB1.out.trans (hB2.mono HB1.out.size)⟩
 rw [hg] at hgd
 rw [if_neg (by rw [hg]; decide)] at hrr
 cases ho : (⟨x0, x1, x2, x3⟩ : PtS).one
 · rw [ho] at hon
   rw [if_pos ho] at hrr
   subst hrr
   clear hg ho
   go_enter Tryz.func190, Tryz.ntmps190
   go_wp2_with fail
   rw [← HW1.out]
   refine hgd.mono ?_
   clear hgd
   rintro e w2 ⟨rfl, hB2⟩
   have z0 := below_at hB2 z0 hzl
   have z1 := below_at hB2 z1 hzl
   have z2 := below_at hB2 z2 hzl
   have z3 := below_at hB2 z3 hzl
   have HB2 := Lib.hid (HB1.out.trans (hB2.mono HB1.out.size))
   clear hB2
   go_wp2_with fail
   refine (hon _).mono ?_
   rintro e w3 ⟨rfl, hB3⟩
   go_wp2_with fail
   go_ret2
   exact ⟨none, 0, rfl, GRowAt.nil _ _ _ _, HB2.out.trans (hB3.mono HB2.out.size)⟩
 rw [ho] at hon
 rw [if_neg (by rw [ho]; decide)] at hrr
 have HRR := Lib.hid hrr
 have hxin := one_in.1 ho
 have HIN := Lib.hid (fun p hp => one_in.1 (goodP_one hg (x := p) hp))
 have Hll := Lib.hid (goodP_len hg)
 have HCG := Lib.hid (cutP_good hg x0)
 have hct := fun W (hW : Below W1.heap.size W1 W) => extCut_any W S a c l (HX.out.below' hW) x0 (by have := hxin.o0; have := hxin.ol; have := hxin.l1; simp only at *; omega)
 have HXI := Lib.hid hxin
 clear hrr hg ho hxin
 go_enter Tryz.func190, Tryz.ntmps190
 go_wp2_with fail
 rw [← HW1.out]
 refine hgd.mono ?_
 clear hgd
 rintro e w2 ⟨rfl, hB2⟩
 have z0 := below_at hB2 z0 hzl
 have z1 := below_at hB2 z1 hzl
 have z2 := below_at hB2 z2 hzl
 have z3 := below_at hB2 z3 hzl
 have HB2 := Lib.hid hB2
 clear hB2
 go_wp2_with fail
 refine (hon _).mono ?_
 clear hon
 rintro e w3 ⟨rfl, hB3⟩
 have z0 := below_at hB3 z0 (cell_lt z0)
 have z1 := below_at hB3 z1 (cell_lt z1)
 have z2 := below_at hB3 z2 (cell_lt z2)
 have z3 := below_at hB3 z3 (cell_lt z3)
 have HB3 := Lib.hid (HB2.out.trans (hB3.mono HB2.out.size))
 have hct3 := hct w3 HB3.out
 clear hB3 hct
 go_wp2_with fail
 refine hct3.mono ?_
 clear hct3
 rintro e w4 ⟨ac, cc, rfl, hgc, hB4⟩
 have z0 := below_at hB4 z0 (cell_lt z0)
 have z1 := below_at hB4 z1 (cell_lt z1)
 have z2 := below_at hB4 z2 (cell_lt z2)
 have z3 := below_at hB4 z3 (cell_lt z3)
 have HB4 := Lib.hid (HB3.out.trans (hB4.mono HB3.out.size))
 have HGC := Lib.hid hgc
 have HW34 := Lib.hid hB4.size
 have HLW := Lib.hid (show w.heap.size ≤ w3.heap.size from Nat.le_trans HB1.out.size HB3.out.size)
 have HCL := Lib.hid (cutP_len l x0)
 clear hgc hB4
 have HX4 := Lib.hid (HX.out.below' HB4.out)
 have hzl4 := cell_lt z0
 have HZL := Lib.hid hzl4
 go_wp2_with fail
 go_loopg [7, 25] l.length (fun g s7 s25 wr => BehRel w4 l ⟨x0, x1, x2, x3⟩ g s7 s25 wr)
 case atStart => exact ⟨0, none, 0, rfl, Nat.zero_le _, rfl, rfl, GRowAt.nil _ _ _ _, Below.refl _ _⟩
 case round =>
  obtain ⟨i, ao, cap, rfl, hil, rfl, rfl, hG, hB'⟩ := hrel
  have HG := Lib.hid hG
  have HB' := Lib.hid hB'
  clear hG hB'
  by_cases hlt : i < l.length
  · obtain ⟨bk, off, rfl, -, hbl, hc⟩ := HX4.out.elem ptC_len default hlt
    have hui := HIN.out _ (show l.getD i default ∈ l by rw [List.getD_eq_getElem?_getD, List.getElem?_eq_getElem hlt]; exact List.getElem_mem hlt)
    have HSN : Hid (behindP (l.take (i + 1)) ⟨x0, x1, x2, x3⟩ = if underP ⟨x0, x1, x2, x3⟩ (l.getD i default) < (l.getD i default).len then behindP (l.take i) ⟨x0, x1, x2, x3⟩ ++ [restP ⟨x0, x1, x2, x3⟩ (l.getD i default)] else behindP (l.take i) ⟨x0, x1, x2, x3⟩) := Lib.hid (by rw [take_one l default hlt, behindP_snoc])
    have hlt' := Lib.hid hlt
    have hjl : (behindP (l.take i) ⟨x0, x1, x2, x3⟩).length ≤ i := by have := behind_len ⟨x0, x1, x2, x3⟩ (l.take i); rw [List.length_take] at this; omega
    generalize l.getD i default = u at *
    obtain ⟨u0, u1, u2, u3⟩ := u
    have f0 : wr.cell? ⟨bk, off + i * 4, none⟩ = some (.int .i64 u0) := below_at HB'.out (hc 0 (by decide)) hbl
    have f1 : wr.cell? ⟨bk, off + i * 4 + 1, none⟩ = some (.int .i64 u1) := below_at HB'.out (hc 1 (by decide)) hbl
    have f2 : wr.cell? ⟨bk, off + i * 4 + 2, none⟩ = some (.int .i64 u2) := below_at HB'.out (hc 2 (by decide)) hbl
    have f3 : wr.cell? ⟨bk, off + i * 4 + 3, none⟩ = some (.int .i64 u3) := below_at HB'.out (hc 3 (by decide)) hbl
    have y0 := below_at HB'.out z0 HZL.out
    have y1 := below_at HB'.out z1 HZL.out
    have hbl' : bk < wr.heap.size := cell_lt f0
    have hyl := cell_lt y0
    have hil2 : (0 : Int) ≤ i ∧ (i : Int) < l.length := by omega
    have hwr := Lib.hid (show wrap64 ((i : Int) + 1) = ((i + 1 : Nat) : Int) by unfold wrap64; have := Hll.out; omega)
    have hms : l.length - (i + 1) < l.length - i := by omega
    generalize behindP (l.take i) ⟨x0, x1, x2, x3⟩ = bl at *
    have HJL := Lib.hid hjl
    obtain ⟨cu, hcu⟩ : ∃ cu, cu = max 0 (x0 + x1 - u0) := ⟨_, rfl⟩
    have hcu0 : 0 ≤ cu := by omega
    have hxi := HXI.out
    have n1 : wrap64 (x0 + x1) = x0 + x1 := by have := hxi.o0; have := hxi.ol; have := hxi.l1; simp only at *; unfold wrap64; omega
    have n2 : wrap64 (x0 + x1 - u0) = x0 + x1 - u0 := by have := hxi.o0; have := hxi.ol; have := hxi.l1; have := hui.o0; have := hui.ol; have := hui.l1; simp only at *; unfold wrap64; omega
    have HCU := Lib.hid hcu
    by_cases hu : cu < u1
    · have n3 : wrap64 (u0 + cu) = u0 + cu := by have := hui.o0; have := hui.ol; have := hui.l1; simp only at *; unfold wrap64; omega
      have n4 : wrap64 (u1 - cu) = u1 - cu := by have := hui.l2; have := hui.l1; simp only at *; unfold wrap64; omega
      have n5 : wrap64 (u3 + cu) = u3 + cu := by have := hui.a0; have := hui.al; have := hui.l1; simp only at *; unfold wrap64; omega
      have HCT : Hid (behindP (l.take (i + 1)) ⟨x0, x1, x2, x3⟩ = bl ++ [⟨u0 + cu, u1 - cu, u2, u3 + cu⟩]) := Lib.hid (by rw [HSN.out, if_pos (by unfold underP; rw [← hcu]; exact hu)]; unfold restP underP; rw [← hcu])
      have hmx : max 0 (x0 + x1 - u0) = cu := hcu.symm
      clear hc hbl hui hjl hcu hcu0 hxi
      go_wp2_with (at_builtin; refine wpList_append_g (by rfl) (.tmp 42) (.tmp 58) 83 83 (by rfl) 88 j0 _ 32 Tryz.underlying83 hi hy0 hy1 hy2 (by rfl) (by rfl) (HG.out.mod (F := none') (by exact modC (Mod.refl _ _)) (fun _ _ _ => id)) _ 1 (ptC ⟨u0 + cu, u1 - cu, u2, u3 + cu⟩) (by rfl) (src_pt _ _ Tryz.underlying83 (wr.heap.size + 1) _ 88 (by first | exact heap_alloc_new _ _ | (rw [show wr.heap.size + 1 = (wr.alloc (.cells #[.int .i64 u0, .int .i64 u1, .int .i64 u2, .int .i64 u3] 88)).heap.size by simp]; exact heap_alloc_new _ _)) _) (by have := Hll.out; have := HJL.out; omega) (by have := Hll.out; have := HJL.out; omega) ?_; intro a6 cap6 w6 hg6 hM6 hz6)
      have hzB := HB'.out.size
      have hB5 : Below w4.heap.size w4 ((wr.alloc (.cells #[.int .i64 u0, .int .i64 u1, .int .i64 u2, .int .i64 u3] 88)).alloc (.cells #[.int .i64 (u0 + cu), .int .i64 (u1 - cu), .int .i64 u2, .int .i64 (u3 + cu)] 88)) := by exact belC HB'.out
      have hB6 : Below w4.heap.size w4 w6 := hB5.trans (hM6.below_at (by simp only [World.size_alloc]; omega) (fun k hk e => by have e : w4.heap.size ≤ k := e; omega))
      have hg7 : GRowAt w6 (From w4.heap.size) 4 (bl ++ [(⟨u0 + cu, u1 - cu, u2, u3 + cu⟩ : PtS)]).length cap6 a6 ((bl ++ [(⟨u0 + cu, u1 - cu, u2, u3 + cu⟩ : PtS)]).flatMap ptC) := by
       rw [List.flatMap_append, List.length_append, show ([⟨u0 + cu, u1 - cu, u2, u3 + cu⟩] : List PtS).flatMap ptC = ptC ⟨u0 + cu, u1 - cu, u2, u3 + cu⟩ from List.append_nil _]
       exact hg6.sub (fun k _ hk => by
         rcases hk with hk | hk
         · exact hk
         · show w4.heap.size ≤ k; rw [hk]; simp only [World.size_alloc]; have := HB'.out.size; omega)
      have HG6 := Lib.hid hg7
      have HB6 := Lib.hid hB6
      clear hg6 hM6 hz6 hg7 hB6 hB5
      go_wp2_with fail
      go_roundg (l.length - (i + 1))
      case measure => exact hms
      case rel => exact ⟨i + 1, a6, cap6, rfl, hlt'.out, by first | rfl | rw [hwr.out], (by rw [HCT.out]; simp), by rw [HCT.out]; exact HG6.out, HB6.out⟩
    · have hu' : decide (cu < u1) = false := decide_eq_false hu
      have HCT : Hid (behindP (l.take (i + 1)) ⟨x0, x1, x2, x3⟩ = bl) := Lib.hid (by rw [HSN.out, if_neg (by unfold underP; rw [← hcu]; exact hu)])
      have hmx : max 0 (x0 + x1 - u0) = cu := hcu.symm
      clear hc hbl hui hjl hcu hcu0 hxi hu
      go_wp2_with fail
      have HB5 : Hid (Below wr.heap.size wr (wr.alloc (.cells #[.int .i64 u0, .int .i64 u1, .int .i64 u2, .int .i64 u3] 88))) := Lib.hid (by exact belC (Below.refl _ _))
      exact mK90
  · obtain rfl : i = l.length := by omega
    have hg := HG.out
    rw [List.take_length] at hg ⊢
    have y0 := below_at HB'.out z0 HZL.out
    have y1 := below_at HB'.out z1 HZL.out
    have y2 := below_at HB'.out z2 HZL.out
    have y3 := below_at HB'.out z3 HZL.out
    have hyl := cell_lt y0
    have hbn := behind_len ⟨x0, x1, x2, x3⟩ l
    have HBN := Lib.hid hbn
    have HBI : Hid (∀ y ∈ behindP l ⟨x0, x1, x2, x3⟩, y.In) := Lib.hid (behind_in HIN.out)
    have HRR2 : Hid (rr = fewP (joinP ((cutP l x0 ++ [⟨x0, x1, x2, x3⟩]) ++ behindP l ⟨x0, x1, x2, x3⟩))) := Lib.hid (by rw [HRR.out, List.append_assoc]; rfl)
    have HCI : Hid (∀ y ∈ cutP l x0, y.In) := Lib.hid (by rw [HCG.out]; exact cutF_in HIN.out)
    generalize behindP l ⟨x0, x1, x2, x3⟩ = bl at *
    generalize cutP l x0 = cl at *
    have HGB := Lib.hid hg
    have HGC2 : Hid (GRowAt wr (fun k => w3.heap.size ≤ k ∧ k < w4.heap.size) 4 cl.length cc ac (cl.flatMap ptC)) := Lib.hid (HGC.out.mod (F := none') (Mod.of_below HB'.out) (fun _ _ _ => id))
    have HLB := Lib.hid (show w3.heap.size ≤ wr.heap.size from Nat.le_trans (by have := HB4.out.size; exact HW34.out) HB'.out.size)
    clear hg hlt hil hbn
    go_wp2_with (first
      | (at_builtin; refine wpList_append_g (by rfl) (.tmp 61) (.tmp 63) 83 83 (by rfl) 88 j0 _ 32 Tryz.underlying83 hi hy0 hy1 hy2 (by rfl) (by rfl) (HGC2.out.mod (F := none') (by exact modC (Mod.refl _ _)) (fun _ _ _ => id)) _ 1 (ptC ⟨x0, x1, x2, x3⟩) (by rfl) (src_pt _ _ Tryz.underlying83 wr.heap.size _ 88 (heap_alloc_new _ _) _) (by have := HCL.out; omega) (by have := HCL.out; omega) ?_
         intro a6 cap6 w6 hg6 hM6 hz6
         have HGB6 : Hid (GRowAt w6 (From w4.heap.size) 4 bl.length cap ao (bl.flatMap ptC)) := Lib.hid ((HGB.out.mod (F := none') (show Mod none' wr (wr.alloc (.cells #[.int .i64 x0, .int .i64 x1, .int .i64 x2, .int .i64 x3] 88)) by exact modC (Mod.refl _ _)) (fun _ _ _ => id)).mod hM6 (fun k hk _ e => by have hk : w4.heap.size ≤ k := hk; have := e.2; omega)))
      | (at_builtin; refine wpList_append_g (by rfl) (.tmp 64) (.tmp 65) 83 83 (by rfl) 88 j0 _ 32 Tryz.underlying83 hi hy0 hy1 hy2 (by rfl) (by rfl) hg6 _ bl.length (bl.flatMap ptC) (by rfl) (HGB6.out.row.src Tryz.underlying83 (ptC_one bl) cap (fun _ e => rowNil HGB6.out e)) (by have := HCL.out; have := Hll.out; have := HBN.out; omega) (by have := HCL.out; have := Hll.out; have := HBN.out; omega) ?_
         intro a7 cap7 w7 hg7 hM7 hz7))
    have hzw := HLW.out
    have hzB := HLB.out
    have hBa : Below w.heap.size w (wr.alloc (.cells #[.int .i64 x0, .int .i64 x1, .int .i64 x2, .int .i64 x3] 88)) := (HB1.out.trans ((HB4.out.trans (HB'.out.mono HB4.out.size)).mono HB1.out.size)).trans ((show Below wr.heap.size wr _ by exact belC (Below.refl _ _)).mono (by omega))
    have hB6 : Below w.heap.size w w6 := hBa.trans (hM6.below_at hBa.size (fun k hk e => by have := e.1; omega))
    have hB7 : Below w.heap.size w w7 := hB6.trans (hM7.below_at hB6.size (fun k hk e => by
      rcases e with e | e
      · have := e.1; omega
      · rw [World.size_alloc] at e; omega))
    have hL : (cl ++ [(⟨x0, x1, x2, x3⟩ : PtS)] ++ bl).length = cl.length + 1 + bl.length := by simp only [List.length_append, List.length_singleton]
    have hjn : Calls Tryz.prog 219 #[.slice a7 (cl.length + 1 + bl.length) cap7] w7 (XJoinPost w7 rr) := by
     have h1 := extJoined_any w7 _ a7 cap7 (cl ++ [(⟨x0, x1, x2, x3⟩ : PtS)] ++ bl) (by
       show RwAt _ _ _ _ _ _
       rw [hL, List.flatMap_append, List.flatMap_append, show ([⟨x0, x1, x2, x3⟩] : List PtS).flatMap ptC = ptC ⟨x0, x1, x2, x3⟩ from List.append_nil _]
       exact hg7.row) (fun y hy => by
       rcases List.mem_append.1 hy with hy | hy
       · rcases List.mem_append.1 hy with hy | hy
         · exact HCI.out y hy
         · rw [List.mem_singleton] at hy
           subst hy
           exact HXI.out
       · exact HBI.out y hy) (by rw [hL]; have := HCL.out; have := Hll.out; have := HBN.out; omega)
     rw [hL, ← HRR2.out] at h1
     exact h1
    have HB7 := Lib.hid hB7
    clear hg6 hM6 hz6 hg7 hM7 hz7 hB6 hBa hL hB7
    refine hjn.mono ?_
    clear hjn
    rintro e w8 ⟨a8, c8, rfl, hg8, hB8⟩
    have hz7 := HB7.out.size
    have HB8 := Lib.hid (HB7.out.trans (hB8.mono hz7))
    have HG8 := Lib.hid (hg8.sub (T := fun k => w.heap.size ≤ k ∧ k < w8.heap.size) (fun k _ hk => ⟨Nat.le_trans hz7 hk.1, hk.2⟩))
    clear hg8 hB8
    go_wp2_with fail
    go_ret2
    exact ⟨a8, c8, rfl, HG8.out, HB8.out⟩
end Go.Proofs.YtajbooppoohplaaGreatDoor
/- package inode: Write, Open -/
namespace Go.Proofs.YtajbooppoohplaaGreatDoor
open Go.RowKit Esch Go.Shelf

theorem space_any (w : World) (e0 : Int) : Calls Tryz.prog 191 #[.int .i64 e0] w fun e w' => e = .returned (.int .i64 (if e0 = 3 then 67 else e0)) ∧ w' = w := by
 by_cases h : e0 = 3
 · subst h
   exact mK111
 · have h' : (e0 == 3) = false := by simpa using h
   rw [if_neg h]
   clear h
   exact mK111
theorem inoWrite_any (w : World) (b : Nat) (S : Nat → Prop) (s : TabS) (h : TabAt w b S s) (i off n addr : Int) (hok : (s.at i).ok) :
    Calls Tryz.prog 138 #[.pointer (some ⟨b, 0, none⟩), .int .i64 i, .int .i64 off, .int .i64 n, .int .i64 addr] w (TabPostG w b S (s.write i off n addr)) := by
 have hf := inoFile_any w b S s h i
 obtain ⟨l0, l1, o0, o1⟩ := hok
 obtain ⟨r, hr⟩ : ∃ r, r = s.write i off n addr := ⟨_, rfl⟩
 rw [← hr]
 unfold TabS.write at hr
 unfold fileOf at hf
 obtain ⟨⟨x0, x1, x2, x3, x4, ps⟩, hx⟩ : ∃ x, x = s.at i := ⟨_, rfl⟩
 rw [← hx] at hf hr l0 l1 o0 o1
 simp only at l0 l1 o0 o1
 cases hh : s.has i
 · rw [hh] at hf hr
   rw [if_pos rfl] at hr hf
   subst hr
   unfold FilePost at hf
   simp only at hf
   clear hx hh l0 l1 o0 o1
   exact mK112
 rw [hh] at hf hr
 rw [if_neg (by simp)] at hr hf
 by_cases hk : x1 = 1
 · rw [if_pos hk] at hr hf
   subst hr
   unfold FilePost at hf
   simp only at hf
   clear hx hh l0 l1 o0 o1 hk
   exact mK112
 rw [if_neg hk] at hr hf
 unfold FilePost at hf
 simp only at hf
 by_cases q1 : off < 0
 · skip
   exact mK113
 by_cases q2 : n < 1
 · have q1' : decide (off < 0) = false := decide_eq_false q1
   exact mK113
 by_cases q3 : 1024 < n
 · have q1' : decide (off < 0) = false := decide_eq_false q1
   have q2' : decide (n < 1) = false := decide_eq_false q2
   exact mK113
 have hwn : wrap64 (8192 - n) = 8192 - n := by unfold wrap64; omega
 by_cases q4 : 8192 - n < off
 · have q1' : decide (off < 0) = false := decide_eq_false q1
   have q2' : decide (n < 1) = false := decide_eq_false q2
   have q3' : decide (1024 < n) = false := decide_eq_false q3
   exact mK113
 have q1' : decide (off < 0) = false := decide_eq_false q1
 have q2' : decide (n < 1) = false := decide_eq_false q2
 have q3' : decide (1024 < n) = false := decide_eq_false q3
 have q4' : decide (8192 - n < off) = false := decide_eq_false q4
 have hwo : wrap64 (off + n) = off + n := by unfold wrap64; omega
 rw [if_neg (by omega)] at hr
 have K3 : x3 ≤ 1000 := by omega
 have K1 : x2 ≤ 1000 := by omega
 have hpl := putP_len ps ⟨off, n, addr, 0⟩
 simp only at hr
 obtain ⟨pr, hpr⟩ : ∃ pr, pr = putP ps ⟨off, n, addr, 0⟩ := ⟨_, rfl⟩
 rw [← hpr] at hr hpl
 have HPR := Lib.hid hpr
 have HPL := Lib.hid hpl
 clear hx hh hk q1 q2 q3 q4 hpr hpl
 obtain ⟨pl, pe⟩ := pr
 simp only at hr
 have HR := Lib.hid hr
 clear hr
 go_enter Tryz.func138, Tryz.ntmps138
 go_wp2_with fail
 refine hf.mono ?_
 clear hf
 rintro e W2 ⟨⟨y0, y1, y2, y3, y4, pa, pc, lp⟩, hcv, rfl, hP2, hB2⟩
 simp only [InC.val] at hcv
 cases hcv
 simp only [inCV]
 obtain ⟨V2, hV2, hBV⟩ : ∃ V2, V2 = W2.alloc (.cells #[.int .i64 x0, .int .i64 x1, .int .i64 x2, .int .i64 x3, .int .i64 x4, .slice pa ps.length pc] 85) ∧ Below W2.heap.size W2 V2 := ⟨_, rfl, by exact belC (Below.refl _ _)⟩
 have hB2V := hB2.trans (hBV.mono hB2.size)
 have hct := extPut_any V2 _ pa pc ps (hP2.row.below' hBV) ⟨off, n, addr, 0⟩
 rw [← HPR.out] at hct
 unfold ptV at hct
 simp only at hct
 have HB2V := Lib.hid hB2V
 obtain ⟨bx, hbx⟩ : ∃ bx, bx = W2.heap.size := ⟨_, rfl⟩
 have v0 : V2.cell? ⟨bx, 0, none⟩ = some (.int .i64 x0) := by rw [hV2, hbx]; go_simp
 have v1 : V2.cell? ⟨bx, 1, none⟩ = some (.int .i64 x1) := by rw [hV2, hbx]; go_simp
 have v2 : V2.cell? ⟨bx, 2, none⟩ = some (.int .i64 x2) := by rw [hV2, hbx]; go_simp
 have v3 : V2.cell? ⟨bx, 3, none⟩ = some (.int .i64 x3) := by rw [hV2, hbx]; go_simp
 have v4 : V2.cell? ⟨bx, 4, none⟩ = some (.int .i64 x4) := by rw [hV2, hbx]; go_simp
 have v5 : V2.cell? ⟨bx, 5, none⟩ = some (.slice pa ps.length pc) := by rw [hV2, hbx]; go_simp
 have u4 : V2.frozen? ⟨bx, 4, none⟩ = false := by rw [hV2, hbx]; go_simp
 have u5 : V2.frozen? ⟨bx, 5, none⟩ = false := by rw [hV2, hbx]; go_simp
 have hbl := cell_lt v0
 have HV2 := Lib.hid hV2
 have HBX := Lib.hid hbx
 have HBW := Lib.hid (show w.heap.size ≤ bx by rw [hbx]; exact hB2.size)
 clear hP2 hB2 hBV hB2V hV2 hbx
 go_wp2_with fail
 rw [← HV2.out, ← HBX.out]
 refine hct.mono ?_
 clear hct
 rintro e W3 ⟨a3, c3, rfl, hg3, hB3⟩
 simp only at hg3 ⊢
 by_cases hpe : pe ≠ 0
 · have hr := HR.out
   rw [if_pos hpe] at hr
   have hsp := fun W => space_any W pe
   obtain ⟨pv, hpv⟩ : ∃ pv, pv = (if pe = 3 then (67 : Int) else pe) := ⟨_, rfl⟩
   rw [← hpv] at hr hsp
   subst hr
   have hpe' : (pe != 0) = true := by simpa using hpe
   have HB03 := Lib.hid (HB2V.out.trans (hB3.mono HB2V.out.size))
   clear hg3 hB3 hpe hpv HR
   go_wp2_with fail
   refine (hsp _).mono ?_
   clear hsp
   rintro e W4 ⟨rfl, rfl⟩
   go_wp2_with fail
   go_ret
   exact TabPostG.keep h HB03.out _
 obtain rfl : pe = 0 := by omega
 have hr := HR.out
 rw [if_neg (by decide)] at hr
 subst hr
 clear hpe HR
 have v0 := below_at hB3 v0 hbl
 have v1 := below_at hB3 v1 hbl
 have v2 := below_at hB3 v2 hbl
 have v3 := below_at hB3 v3 hbl
 have v4 := below_at hB3 v4 hbl
 have v5 := below_at hB3 v5 hbl
 have u4 := (hB3.frozen (p := ⟨bx, 4, none⟩) hbl).trans u4
 have u5 := (hB3.frozen (p := ⟨bx, 5, none⟩) hbl).trans u5
 have hbl3 := cell_lt v0
 have hB03 := HB2V.out.trans (hB3.mono HB2V.out.size)
 have hkp : ∀ W, Mod (· = bx) W3 W → W.heap.size = W3.heap.size → Calls Tryz.prog 188 #[.pointer (some ⟨b, 0, none⟩), .agg #[.int .i64 x0, .int .i64 x1, .int .i64 x2, .int .i64 x3, .int .i64 (max x4 (off + n)), .slice a3 (pl).length c3], .bool false] W (TabPost W b (growI S w W3) (0, s.keep ⟨x0, x1, x2, x3, max x4 (off + n), pl⟩ false)) := fun W hM hz => by
  have hcb : W.cell? ⟨b, 0, none⟩ = w.cell? ⟨b, 0, none⟩ := ((hM.cell (p := ⟨b, 0, none⟩) (by have := h.lt b h.sb; have := hB03.size; show b < _; omega) (fun e => by have := h.lt b h.sb; have := HBW.out; have e : b = bx := e; omega))).trans (hB03.cell (p := ⟨b, 0, none⟩) (h.lt b h.sb))
  refine inoKeep_any W b (growI S w W3) s (grow_in h hB03 hM HBW.out (fun _ hk => Or.inl hk) (growI_lt h.lt (by have := hB03.size; omega) (by omega))) ⟨x0, x1, x2, x3, max x4 (off + n), a3, c3, pl⟩ ⟨?_, rowNil0 hg3, ⟨hg3.le, hg3.max⟩, Nat.le_trans HPL.out (by decide)⟩ false l0 K1 o0 K3
  refine ((hg3.row.mod hM (fun k hk _ e => by have := hk.1; have e : k = bx := e; omega)).sub fun k _ hk => ⟨Or.inr ⟨Nat.le_trans HB2V.out.size hk.1, hk.2⟩, notMut_new h hcb (Nat.le_trans HB2V.out.size hk.1)⟩)
 have HB03 := Lib.hid hB03
 have HLT := Lib.hid h.lt
 clear hg3 hB3 hB03 h
 go_wp2_with fail
 refine (hkp _ (by exact modC (Mod.refl _ _)) (by simp only [World.size_setCell])).mono ?_
 clear hkp
 rintro e W4 ⟨rfl, hT4, hM4⟩
 have hfin := grow_done HLT.out (W3 := W3) (HB03.out.trans (by have := HBW.out; have := HB03.out.size; exact (show Below w.heap.size W3 _ by exact belC (Below.refl _ _)))) (by simp only [World.size_setCell]; exact Nat.le_refl _) hT4 hM4
 go_wp2_with fail
 go_ret
 exact ⟨rfl, hfin⟩
theorem inoOpen_any (w : World) (b : Nat) (S : Nat → Prop) (s : TabS) (h : TabAt w b S s) (i d : Int) (hd : d = 1 ∨ d = -1) (hok : (s.at i).ok) :
    Calls Tryz.prog 135 #[.pointer (some ⟨b, 0, none⟩), .int .i64 i, .int .i64 d] w (TabPost w b S (s.opn i d)) := by
 have hg := inoGet_any w b S s h i
 obtain ⟨l0, l1, o0, o1⟩ := hok
 obtain ⟨r, hr⟩ : ∃ r, r = s.opn i d := ⟨_, rfl⟩
 rw [← hr]
 unfold TabS.opn at hr
 obtain ⟨⟨x0, x1, x2, x3, x4, ps⟩, hx⟩ : ∃ x, x = s.at i := ⟨_, rfl⟩
 rw [← hx] at hg hr l0 l1 o0 o1
 unfold IGetPost at hg
 simp only at l0 l1 o0 o1
 have q1 : ((d != 1) && (d != -1)) = false := by rcases hd with rfl | rfl <;> rfl
 cases hh : s.has i
 · rw [hh] at hg hr
   rw [if_pos rfl] at hr
   subst hr
   clear hx hh l0 l1 o0 o1
   exact mK114
 rw [hh] at hg hr
 rw [if_neg (by simp), if_neg (by omega)] at hr
 by_cases hk : x1 = 1
 · rw [if_pos hk] at hr
   subst hr
   subst hk
   clear hx hh l0 l1 o0 o1
   rcases hd with rfl | rfl
   all_goals
     go_enter Tryz.func135, Tryz.ntmps135
     go_wp2_with fail
     refine hg.mono ?_
     clear hg
     rintro e W2 ⟨⟨y0, y1, y2, y3, y4, pa, pc, lp⟩, hcv, rfl, -, hB2⟩
     simp only [InC.val] at hcv
     cases hcv
     simp only [inCV]
     have hz := hB2.size
     have hT := h.below' hB2
     go_wp2_with fail
     go_ret
     exact ⟨rfl, hT.below' (by exact belC (Below.refl _ _)), Mod.of_below (by exact belC hB2)⟩
 rw [if_neg hk] at hr
 have hk' : (x1 == 1) = false := by simpa using hk
 have hwr : wrap64 (x3 + d) = x3 + d := by unfold wrap64; omega
 by_cases hlo : x3 + d < 0
 · rw [if_pos (Or.inl hlo)] at hr
   subst hr
   obtain rfl : d = -1 := by omega
   clear hx hh hk hd
   exact mK114
 by_cases hhi : 128 < x3 + d
 · rw [if_pos (Or.inr hhi)] at hr
   subst hr
   obtain rfl : d = 1 := by omega
   clear hx hh hk hd
   exact mK114
 rw [if_neg (fun h => h.elim hlo hhi)] at hr
 subst hr
 have k0 : 0 ≤ x3 + d := by omega
 have k1 : x3 + d ≤ 1000 := by omega
 have k3 : x2 ≤ 1000 := by omega
 clear hx hh hk
 rcases hd with rfl | rfl
 · go_enter Tryz.func135, Tryz.ntmps135
   go_wp2_with fail
   refine hg.mono ?_
   clear hg
   rintro e W2 ⟨⟨y0, y1, y2, y3, y4, pa, pc, lp⟩, hcv, rfl, hP2, hB2⟩
   simp only [InC.val] at hcv
   cases hcv
   simp only [inCV]
   have hz := hB2.size
   have hT := Lib.hid (h.below' hB2)
   have HB2 := Lib.hid hB2
   have HP2 := Lib.hid hP2
   clear hB2 hP2
   go_wp2_with fail
   have hB3 : Below W2.heap.size W2 (W2.alloc (.cells #[.int .i64 x0, .int .i64 x1, .int .i64 x2, .int .i64 (x3 + 1), .int .i64 x4, .slice pa ps.length pc] 85)) := by exact belC (Below.refl _ _)
   have hT3 := hT.out.below' hB3
   have hP3 : PcOk (W2.alloc (.cells #[.int .i64 x0, .int .i64 x1, .int .i64 x2, .int .i64 (x3 + 1), .int .i64 x4, .slice pa ps.length pc] 85)) (fun k => S k ∧ NotMut (W2.alloc (.cells #[.int .i64 x0, .int .i64 x1, .int .i64 x2, .int .i64 (x3 + 1), .int .i64 x4, .slice pa ps.length pc] 85)) b k) ⟨x0, x1, x2, (x3 + 1), x4, pa, pc, ps⟩ := ((HP2.out.like (y := ⟨x0, x1, x2, (x3 + 1), x4, pa, pc, ps⟩) rfl rfl rfl).below' hB3).sub fun k _ hk => ⟨hk.1, hk.2.1, fun e => hk.2.2 (by rw [← e]; exact ((HB2.out.trans (hB3.mono HB2.out.size)).cell (p := ⟨b, 0, none⟩) (h.lt b h.sb)).symm)⟩
   have hM3 : Mod S w (W2.alloc (.cells #[.int .i64 x0, .int .i64 x1, .int .i64 x2, .int .i64 (x3 + 1), .int .i64 x4, .slice pa ps.length pc] 85)) := Mod.of_below (by exact belC HB2.out)
   have HM3 := Lib.hid hM3
   have hkp3 := inoKeep_any _ b S s hT3 ⟨x0, x1, x2, (x3 + 1), x4, pa, pc, ps⟩ hP3 (decide ((1 : Int) < 0)) l0 k3 k0 k1
   simp only [inCV, InC.val] at hkp3
   clear hT3 hM3 hB3 hP3
   refine hkp3.mono ?_
   clear hkp3
   rintro e W4 ⟨rfl, hT4, hM4⟩
   go_wp2_with fail
   go_ret
   exact ⟨rfl, hT4, HM3.out.trans hM4⟩
 · go_enter Tryz.func135, Tryz.ntmps135
   go_wp2_with fail
   refine hg.mono ?_
   clear hg
   rintro e W2 ⟨⟨y0, y1, y2, y3, y4, pa, pc, lp⟩, hcv, rfl, hP2, hB2⟩
   simp only [InC.val] at hcv
   cases hcv
   simp only [inCV]
   have hz := hB2.size
   have hT := Lib.hid (h.below' hB2)
   have HB2 := Lib.hid hB2
   have HP2 := Lib.hid hP2
   clear hB2 hP2
   go_wp2_with fail
   have hB3 : Below W2.heap.size W2 (W2.alloc (.cells #[.int .i64 x0, .int .i64 x1, .int .i64 x2, .int .i64 (x3 + -1), .int .i64 x4, .slice pa ps.length pc] 85)) := by exact belC (Below.refl _ _)
   have hT3 := hT.out.below' hB3
   have hP3 : PcOk (W2.alloc (.cells #[.int .i64 x0, .int .i64 x1, .int .i64 x2, .int .i64 (x3 + -1), .int .i64 x4, .slice pa ps.length pc] 85)) (fun k => S k ∧ NotMut (W2.alloc (.cells #[.int .i64 x0, .int .i64 x1, .int .i64 x2, .int .i64 (x3 + -1), .int .i64 x4, .slice pa ps.length pc] 85)) b k) ⟨x0, x1, x2, (x3 + -1), x4, pa, pc, ps⟩ := ((HP2.out.like (y := ⟨x0, x1, x2, (x3 + -1), x4, pa, pc, ps⟩) rfl rfl rfl).below' hB3).sub fun k _ hk => ⟨hk.1, hk.2.1, fun e => hk.2.2 (by rw [← e]; exact ((HB2.out.trans (hB3.mono HB2.out.size)).cell (p := ⟨b, 0, none⟩) (h.lt b h.sb)).symm)⟩
   have hM3 : Mod S w (W2.alloc (.cells #[.int .i64 x0, .int .i64 x1, .int .i64 x2, .int .i64 (x3 + -1), .int .i64 x4, .slice pa ps.length pc] 85)) := Mod.of_below (by exact belC HB2.out)
   have HM3 := Lib.hid hM3
   have hkp3 := inoKeep_any _ b S s hT3 ⟨x0, x1, x2, (x3 + -1), x4, pa, pc, ps⟩ hP3 (decide ((-1 : Int) < 0)) l0 k3 k0 k1
   simp only [inCV, InC.val] at hkp3
   clear hT3 hM3 hB3 hP3
   refine hkp3.mono ?_
   clear hkp3
   rintro e W4 ⟨rfl, hT4, hM4⟩
   go_wp2_with fail
   go_ret
   exact ⟨rfl, hT4, HM3.out.trans hM4⟩
end Go.Proofs.YtajbooppoohplaaGreatDoor
