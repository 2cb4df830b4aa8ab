import Derived.Test.YtajbooppoohplaaGreatDoorMac
import Derived.Test.YtajbooppoohplaaGreatDoorPkOpA
import Derived.Test.YtajbooppoohplaaGreatDoorPkOpM
/- package op: Good -/
set_option maxRecDepth 100000
set_option maxHeartbeats 8000000
namespace Go.Proofs.YtajbooppoohplaaGreatDoor
open Go.RowKit Esch

theorem good_core (w : World) (x : OpS) (mv : List Mv) (hin : OpIn w x mv) (hf : FieldsAt w) (hw : 0 < w.heap.size) (h16 : mv.length ≤ 100000) (hk : knownB x.kind = true) (g : Nat) (r : Bool)
    (hidx : ∀ fb W, (Instr.index 222 (formsV fb) (.int .i64 x.kind)).run Tryz.prog W = .ok (opF g) W)
    (eg : ∀ args w, (callFunc g args).run Tryz.prog w = .ok (.enter g args) w)
    (hform : ∀ W, Below w.heap.size w W → Calls Tryz.prog g #[.agg x.cells.toArray] W (BoolB W r)) :
    Calls Tryz.prog 74 #[.agg x.cells.toArray] w (BoolB w (winB x.client 0 7 && winB x.seq 1 2147483647 && r && x.alike x.kept)) := by
 have hka : 0 ≤ x.kind ∧ x.kind < 15 := by simp [knownB] at hk; omega
 have hkept := fun W (hB : Below w.heap.size w W) => kept_any W x (hf.below hB hw) hka.1 hka.2 (Nat.lt_of_lt_of_le hw hB.size)
 have hml : x.kept.ml = 0 ∧ x.kept.mp = none ∨ x.kept.ml = x.ml ∧ x.kept.mp = x.mp := kept_moves x
 have hsame := fun W (hB : Below w.heap.size w W) => opSame_kept W x mv (hin.below' hB) h16
 have gk := fun W => known_any W x.kind
 rw [show (decide (0 < x.kind) && decide (x.kind < 15)) = true from hk] at gk
 have g1 := within_b x.client 0 7
 have g2 := within_b x.seq 1 2147483647
 obtain ⟨al, hal⟩ : ∃ al, al = x.alike x.kept := ⟨_, rfl⟩
 rw [← hal] at hsame ⊢
 obtain ⟨kc, hkc⟩ : ∃ kc, kc = Value.agg x.kept.cells.toArray := ⟨_, rfl⟩
 simp only [← hkc] at hkept hsame
 clear hal hkc hml hk hka hin hf
 obtain ⟨xc, xs, xk, p, q, xz, xh, xo, xt, xi, xn, mp, ml, mc⟩ := x
 simp only [OpS.cells] at *
 generalize winB xc 0 7 = r1 at g1 ⊢
 generalize winB xs 1 2147483647 = r2 at g2 ⊢
 obtain ⟨W1, hW1⟩ : ∃ W1, W1 = w.alloc (.cells #[.int .i64 xc, .int .i64 xs, .int .i64 xk, .string (bs p), .string (bs q), .int .i64 xz, .int .i64 xh, .int .i64 xo, .string xt, .int .i64 xi, .int .i64 xn, .slice mp ml mc] 31) := ⟨_, rfl⟩
 have hB1 : Below w.heap.size w W1 := by rw [hW1]; exact belC (Below.refl _ _)
 have c0 : W1.cell? ⟨w.heap.size, 0, none⟩ = some (.int .i64 xc) := by rw [hW1]; go_simp
 have c1 : W1.cell? ⟨w.heap.size, 1, none⟩ = some (.int .i64 xs) := by rw [hW1]; go_simp
 have c2 : W1.cell? ⟨w.heap.size, 2, none⟩ = some (.int .i64 xk) := by rw [hW1]; go_simp
 have c3 : W1.cell? ⟨w.heap.size, 3, none⟩ = some (.string (bs p)) := by rw [hW1]; go_simp
 have c4 : W1.cell? ⟨w.heap.size, 4, none⟩ = some (.string (bs q)) := by rw [hW1]; go_simp
 have c5 : W1.cell? ⟨w.heap.size, 5, none⟩ = some (.int .i64 xz) := by rw [hW1]; go_simp
 have c6 : W1.cell? ⟨w.heap.size, 6, none⟩ = some (.int .i64 xh) := by rw [hW1]; go_simp
 have c7 : W1.cell? ⟨w.heap.size, 7, none⟩ = some (.int .i64 xo) := by rw [hW1]; go_simp
 have c8 : W1.cell? ⟨w.heap.size, 8, none⟩ = some (.string xt) := by rw [hW1]; go_simp
 have c9 : W1.cell? ⟨w.heap.size, 9, none⟩ = some (.int .i64 xi) := by rw [hW1]; go_simp
 have c10 : W1.cell? ⟨w.heap.size, 10, none⟩ = some (.int .i64 xn) := by rw [hW1]; go_simp
 have c11 : W1.cell? ⟨w.heap.size, 11, none⟩ = some (.slice mp ml mc) := by rw [hW1]; go_simp
 have hbl := cell_lt c0
 have HW1 := Lib.hid hW1
 have HB1 := Lib.hid hB1
 clear hW1 hB1
 cases r1
 · exact mK58
 cases r2
 · exact mK57
 go_enter Tryz.func74, Tryz.ntmps74
 go_wp2_with fail
 rw [← HW1.out]
 refine (gk _).mono ?_
 rintro e w1 ⟨rfl, hq⟩
 obtain rfl := hq.symm
 go_wp2_with fail
 refine (g1 _).mono ?_
 rintro e w1 ⟨rfl, hq⟩
 obtain rfl := hq.symm
 go_wp2_with fail
 refine (g2 _).mono ?_
 rintro e w1 ⟨rfl, hq⟩
 obtain rfl := hq.symm
 go_wp2_with fail
 refine wp_region_held_drew (S := (fun W' => W'.cell? ⟨w.heap.size, 0, none⟩ = some (.int .i64 xc) ∧ W'.cell? ⟨w.heap.size, 1, none⟩ = some (.int .i64 xs) ∧ W'.cell? ⟨w.heap.size, 2, none⟩ = some (.int .i64 xk) ∧ W'.cell? ⟨w.heap.size, 3, none⟩ = some (.string (bs p)) ∧ W'.cell? ⟨w.heap.size, 4, none⟩ = some (.string (bs q)) ∧ W'.cell? ⟨w.heap.size, 5, none⟩ = some (.int .i64 xz) ∧ W'.cell? ⟨w.heap.size, 6, none⟩ = some (.int .i64 xh) ∧ W'.cell? ⟨w.heap.size, 7, none⟩ = some (.int .i64 xo) ∧ W'.cell? ⟨w.heap.size, 8, none⟩ = some (.string xt) ∧ W'.cell? ⟨w.heap.size, 9, none⟩ = some (.int .i64 xi) ∧ W'.cell? ⟨w.heap.size, 10, none⟩ = some (.int .i64 xn) ∧ W'.cell? ⟨w.heap.size, 11, none⟩ = some (.slice mp ml mc))) (by kernel_rfl) ⟨c0, c1, c2, c3, c4, c5, c6, c7, c8, c9, c10, c11⟩ (fun hHeld => ?_)
 refine takeL 1 ?_
 refine takeL 2 ?_
 refine wpAnyH_ready (rs := [0]) (by kernel_rfl) (by simp) ?_
 refine AllReadyH.cons (o := _) rfl (fun K hK => ?_) AllReadyH.nil
 go_simp
 refine (forms_any _).mono ?_
 rintro e w2 ⟨fb, rfl, -, hB2⟩
 have hB2' : Below W1.heap.size W1 w2 := ⟨hB2.os, hB2.tape, hB2.output, hB2.size, hB2.block⟩
 have c0 := below_at hB2' c0 hbl
 have c1 := below_at hB2' c1 hbl
 have c2 := below_at hB2' c2 hbl
 have c3 := below_at hB2' c3 hbl
 have c4 := below_at hB2' c4 hbl
 have c5 := below_at hB2' c5 hbl
 have c6 := below_at hB2' c6 hbl
 have c7 := below_at hB2' c7 hbl
 have c8 := below_at hB2' c8 hbl
 have c9 := below_at hB2' c9 hbl
 have c10 := below_at hB2' c10 hbl
 have c11 := below_at hB2' c11 hbl
 have hidx := hidx fb
 have HB2 := Lib.hid (HB1.out.trans (hB2'.mono HB1.out.size))
 have hbl := cell_lt c0
 clear hB2 hB2'
 try go_wp2_with fail
 refine hK.out _ _ ⟨c0, c1, c2, c3, c4, c5, c6, c7, c8, c9, c10, c11⟩ (fun hHeld => ?_)
 clear hK K
 try simp only [Act.put, List.setIfInBounds_toArray, List.set_cons_zero, List.set_cons_succ]
 refine takeL 3 ?_
 refine takeL 4 ?_
 refine wpAnyH_done (by kernel_rfl) ?_ _
 clear hHeld
 go_wp2_with fail
 refine wp_region_held_drew (S := (fun W' => W'.cell? ⟨w.heap.size, 0, none⟩ = some (.int .i64 xc) ∧ W'.cell? ⟨w.heap.size, 1, none⟩ = some (.int .i64 xs) ∧ W'.cell? ⟨w.heap.size, 2, none⟩ = some (.int .i64 xk) ∧ W'.cell? ⟨w.heap.size, 3, none⟩ = some (.string (bs p)) ∧ W'.cell? ⟨w.heap.size, 4, none⟩ = some (.string (bs q)) ∧ W'.cell? ⟨w.heap.size, 5, none⟩ = some (.int .i64 xz) ∧ W'.cell? ⟨w.heap.size, 6, none⟩ = some (.int .i64 xh) ∧ W'.cell? ⟨w.heap.size, 7, none⟩ = some (.int .i64 xo) ∧ W'.cell? ⟨w.heap.size, 8, none⟩ = some (.string xt) ∧ W'.cell? ⟨w.heap.size, 9, none⟩ = some (.int .i64 xi) ∧ W'.cell? ⟨w.heap.size, 10, none⟩ = some (.int .i64 xn) ∧ W'.cell? ⟨w.heap.size, 11, none⟩ = some (.slice mp ml mc))) (by kernel_rfl) ⟨c0, c1, c2, c3, c4, c5, c6, c7, c8, c9, c10, c11⟩ (fun hHeld => ?_)
 refine takeL 0 ?_
 refine takeL 1 ?_
 refine wpAnyH_ready (rs := [2]) (by kernel_rfl) (by simp) ?_
 refine AllReadyH.cons (o := _) rfl (fun K hK => ?_) AllReadyH.nil
 go_simp
 refine (hform _ (show Below w.heap.size w _ by exact belC HB2.out)).mono ?_
 exact mK55
theorem good_core7 (w : World) (x : OpS) (mv : List Mv) (hin : OpIn w x mv) (hf : FieldsAt w) (hw : 0 < w.heap.size) (h16 : mv.length ≤ 100000) (hk : knownB x.kind = true) (r : Bool)
    (hidx : ∀ fb W, (Instr.index 222 (formsV fb) (.int .i64 x.kind)).run Tryz.prog W = .ok (.func (.func 165) #[] #[.pointer (some ⟨fb, 0, none⟩)]) W)
    (hform : ∀ W fb, Below w.heap.size w W → W.cell? ⟨fb, 0, none⟩ = some (opF 161) → Calls Tryz.prog 165 #[.agg x.cells.toArray, .pointer (some ⟨fb, 0, none⟩)] W (BoolB W r)) :
    Calls Tryz.prog 74 #[.agg x.cells.toArray] w (BoolB w (winB x.client 0 7 && winB x.seq 1 2147483647 && r && x.alike x.kept)) := by
 have hka : 0 ≤ x.kind ∧ x.kind < 15 := by simp [knownB] at hk; omega
 have hkept := fun W (hB : Below w.heap.size w W) => kept_any W x (hf.below hB hw) hka.1 hka.2 (Nat.lt_of_lt_of_le hw hB.size)
 have hml : x.kept.ml = 0 ∧ x.kept.mp = none ∨ x.kept.ml = x.ml ∧ x.kept.mp = x.mp := kept_moves x
 have hsame := fun W (hB : Below w.heap.size w W) => opSame_kept W x mv (hin.below' hB) h16
 have gk := fun W => known_any W x.kind
 rw [show (decide (0 < x.kind) && decide (x.kind < 15)) = true from hk] at gk
 have g1 := within_b x.client 0 7
 have g2 := within_b x.seq 1 2147483647
 obtain ⟨al, hal⟩ : ∃ al, al = x.alike x.kept := ⟨_, rfl⟩
 rw [← hal] at hsame ⊢
 obtain ⟨kc, hkc⟩ : ∃ kc, kc = Value.agg x.kept.cells.toArray := ⟨_, rfl⟩
 simp only [← hkc] at hkept hsame
 clear hal hkc hml hk hka hin hf
 obtain ⟨xc, xs, xk, p, q, xz, xh, xo, xt, xi, xn, mp, ml, mc⟩ := x
 simp only [OpS.cells] at *
 generalize winB xc 0 7 = r1 at g1 ⊢
 generalize winB xs 1 2147483647 = r2 at g2 ⊢
 obtain ⟨W1, hW1⟩ : ∃ W1, W1 = w.alloc (.cells #[.int .i64 xc, .int .i64 xs, .int .i64 xk, .string (bs p), .string (bs q), .int .i64 xz, .int .i64 xh, .int .i64 xo, .string xt, .int .i64 xi, .int .i64 xn, .slice mp ml mc] 31) := ⟨_, rfl⟩
 have hB1 : Below w.heap.size w W1 := by rw [hW1]; exact belC (Below.refl _ _)
 have c0 : W1.cell? ⟨w.heap.size, 0, none⟩ = some (.int .i64 xc) := by rw [hW1]; go_simp
 have c1 : W1.cell? ⟨w.heap.size, 1, none⟩ = some (.int .i64 xs) := by rw [hW1]; go_simp
 have c2 : W1.cell? ⟨w.heap.size, 2, none⟩ = some (.int .i64 xk) := by rw [hW1]; go_simp
 have c3 : W1.cell? ⟨w.heap.size, 3, none⟩ = some (.string (bs p)) := by rw [hW1]; go_simp
 have c4 : W1.cell? ⟨w.heap.size, 4, none⟩ = some (.string (bs q)) := by rw [hW1]; go_simp
 have c5 : W1.cell? ⟨w.heap.size, 5, none⟩ = some (.int .i64 xz) := by rw [hW1]; go_simp
 have c6 : W1.cell? ⟨w.heap.size, 6, none⟩ = some (.int .i64 xh) := by rw [hW1]; go_simp
 have c7 : W1.cell? ⟨w.heap.size, 7, none⟩ = some (.int .i64 xo) := by rw [hW1]; go_simp
 have c8 : W1.cell? ⟨w.heap.size, 8, none⟩ = some (.string xt) := by rw [hW1]; go_simp
 have c9 : W1.cell? ⟨w.heap.size, 9, none⟩ = some (.int .i64 xi) := by rw [hW1]; go_simp
 have c10 : W1.cell? ⟨w.heap.size, 10, none⟩ = some (.int .i64 xn) := by rw [hW1]; go_simp
 have c11 : W1.cell? ⟨w.heap.size, 11, none⟩ = some (.slice mp ml mc) := by rw [hW1]; go_simp
 have hbl := cell_lt c0
 have HW1 := Lib.hid hW1
 have HB1 := Lib.hid hB1
 clear hW1 hB1
 cases r1
 · exact mK58
 cases r2
 · exact mK57
 go_enter Tryz.func74, Tryz.ntmps74
 go_wp2_with fail
 rw [← HW1.out]
 refine (gk _).mono ?_
 rintro e w1 ⟨rfl, hq⟩
 obtain rfl := hq.symm
 go_wp2_with fail
 refine (g1 _).mono ?_
 rintro e w1 ⟨rfl, hq⟩
 obtain rfl := hq.symm
 go_wp2_with fail
 refine (g2 _).mono ?_
 rintro e w1 ⟨rfl, hq⟩
 obtain rfl := hq.symm
 go_wp2_with fail
 refine wp_region_held_drew (S := (fun W' => W'.cell? ⟨w.heap.size, 0, none⟩ = some (.int .i64 xc) ∧ W'.cell? ⟨w.heap.size, 1, none⟩ = some (.int .i64 xs) ∧ W'.cell? ⟨w.heap.size, 2, none⟩ = some (.int .i64 xk) ∧ W'.cell? ⟨w.heap.size, 3, none⟩ = some (.string (bs p)) ∧ W'.cell? ⟨w.heap.size, 4, none⟩ = some (.string (bs q)) ∧ W'.cell? ⟨w.heap.size, 5, none⟩ = some (.int .i64 xz) ∧ W'.cell? ⟨w.heap.size, 6, none⟩ = some (.int .i64 xh) ∧ W'.cell? ⟨w.heap.size, 7, none⟩ = some (.int .i64 xo) ∧ W'.cell? ⟨w.heap.size, 8, none⟩ = some (.string xt) ∧ W'.cell? ⟨w.heap.size, 9, none⟩ = some (.int .i64 xi) ∧ W'.cell? ⟨w.heap.size, 10, none⟩ = some (.int .i64 xn) ∧ W'.cell? ⟨w.heap.size, 11, none⟩ = some (.slice mp ml mc))) (by kernel_rfl) ⟨c0, c1, c2, c3, c4, c5, c6, c7, c8, c9, c10, c11⟩ (fun hHeld => ?_)
 refine takeL 1 ?_
 refine takeL 2 ?_
 refine wpAnyH_ready (rs := [0]) (by kernel_rfl) (by simp) ?_
 refine AllReadyH.cons (o := _) rfl (fun K hK => ?_) AllReadyH.nil
 go_simp
 refine (forms_any _).mono ?_
 rintro e w2 ⟨fb, rfl, hfb, hB2⟩
 have hB2' : Below W1.heap.size W1 w2 := ⟨hB2.os, hB2.tape, hB2.output, hB2.size, hB2.block⟩
 have c0 := below_at hB2' c0 hbl
 have c1 := below_at hB2' c1 hbl
 have c2 := below_at hB2' c2 hbl
 have c3 := below_at hB2' c3 hbl
 have c4 := below_at hB2' c4 hbl
 have c5 := below_at hB2' c5 hbl
 have c6 := below_at hB2' c6 hbl
 have c7 := below_at hB2' c7 hbl
 have c8 := below_at hB2' c8 hbl
 have c9 := below_at hB2' c9 hbl
 have c10 := below_at hB2' c10 hbl
 have c11 := below_at hB2' c11 hbl
 have hidx := hidx fb
 have HB2 := Lib.hid (HB1.out.trans (hB2'.mono HB1.out.size))
 have hbl := cell_lt c0
 clear hB2 hB2'
 try go_wp2_with fail
 refine hK.out _ _ ⟨c0, c1, c2, c3, c4, c5, c6, c7, c8, c9, c10, c11⟩ (fun hHeld => ?_)
 clear hK K
 try simp only [Act.put, List.setIfInBounds_toArray, List.set_cons_zero, List.set_cons_succ]
 refine takeL 3 ?_
 refine takeL 4 ?_
 refine wpAnyH_done (by kernel_rfl) ?_ _
 clear hHeld
 go_wp2_with fail
 refine wp_region_held_drew (S := (fun W' => W'.cell? ⟨w.heap.size, 0, none⟩ = some (.int .i64 xc) ∧ W'.cell? ⟨w.heap.size, 1, none⟩ = some (.int .i64 xs) ∧ W'.cell? ⟨w.heap.size, 2, none⟩ = some (.int .i64 xk) ∧ W'.cell? ⟨w.heap.size, 3, none⟩ = some (.string (bs p)) ∧ W'.cell? ⟨w.heap.size, 4, none⟩ = some (.string (bs q)) ∧ W'.cell? ⟨w.heap.size, 5, none⟩ = some (.int .i64 xz) ∧ W'.cell? ⟨w.heap.size, 6, none⟩ = some (.int .i64 xh) ∧ W'.cell? ⟨w.heap.size, 7, none⟩ = some (.int .i64 xo) ∧ W'.cell? ⟨w.heap.size, 8, none⟩ = some (.string xt) ∧ W'.cell? ⟨w.heap.size, 9, none⟩ = some (.int .i64 xi) ∧ W'.cell? ⟨w.heap.size, 10, none⟩ = some (.int .i64 xn) ∧ W'.cell? ⟨w.heap.size, 11, none⟩ = some (.slice mp ml mc))) (by kernel_rfl) ⟨c0, c1, c2, c3, c4, c5, c6, c7, c8, c9, c10, c11⟩ (fun hHeld => ?_)
 refine takeL 0 ?_
 refine takeL 1 ?_
 refine wpAnyH_ready (rs := [2]) (by kernel_rfl) (by simp) ?_
 refine AllReadyH.cons (o := _) rfl (fun K hK => ?_) AllReadyH.nil
 go_simp
 refine (hform w2.drew fb (show Below w.heap.size w _ by exact belC HB2.out) hfb).mono ?_
 exact mK55
end Go.Proofs.YtajbooppoohplaaGreatDoor
/- package op: form 7, the moves -/
namespace Go.Proofs.YtajbooppoohplaaGreatDoor
open Go.RowKit Esch

theorem mvBad_any (w : World) (m : Mv) (ob : Nat) (d : ByteArray) (hd : w.cell? ⟨ob, 8, none⟩ = some (.string d)) (hsz : d.size ≤ 1024) :
    Calls Tryz.prog 170 #[.agg (mvC m).toArray, .pointer (some ⟨ob, 0, none⟩)] w (BoolB w (!goodMv d.size m)) := by
 obtain ⟨ma, mf, ml, mt⟩ := m
 have g1 := within_b ma 0 16383
 have g2 := within_b mf 0 1024
 have g3 := within_b ml 1 1024
 have hw : winB ml 1 1024 = true → IntKind.i64.wrap ((d.size : Int) - ml) = (d.size : Int) - ml := fun h1 => by
  simp [winB] at h1
  rw [IntKind.wrap_i64]; omega
 have hw2 : winB ml 1 1024 = true → wrap64 ((d.size : Int) - ml) = (d.size : Int) - ml := fun h1 => by
  simp [winB] at h1
  unfold wrap64; omega
 have hl := cell_lt hd
 unfold goodMv
 simp only [mvC]
 generalize winB ma 0 16383 = r1 at g1 ⊢
 generalize winB mf 0 1024 = r2 at g2 ⊢
 generalize winB ml 1 1024 = r3 at g3 hw hw2 ⊢
 cases r1
 · clear hw hw2 g2 g3
   go_enter Tryz.func170, Tryz.ntmps170
   exact mK22
 cases r2
 · clear hw hw2 g3
   go_enter Tryz.func170, Tryz.ntmps170
   exact mK21
 cases r3
 · clear hw hw2
   exact mK59
 have hw := hw rfl
 have hw2 := hw2 rfl
 simp only [Bool.true_and]
 by_cases h0 : mt < 0
 · rw [decide_eq_false (show ¬ (0 ≤ mt) by omega)]
   exact mK59
 · have h0' : decide (mt < 0) = false := decide_eq_false h0
   rw [decide_eq_true (show 0 ≤ mt by omega), Bool.true_and]
   have hx : (!decide (mt ≤ (d.size : Int) - ml)) = decide ((d.size : Int) - ml < mt) := by
    by_cases h : mt ≤ (d.size : Int) - ml
    · rw [decide_eq_true h, decide_eq_false (by omega)]; rfl
    · rw [decide_eq_false h, decide_eq_true (by omega)]; rfl
   rw [hx]
   clear h0 hx
   exact mK59
def IdxRel (w : World) (l : List Mv) (dl : Nat) (g : Nat) (v : Value) (wr : World) : Prop := ∃ i : Nat, g = l.length - i ∧ i ≤ l.length ∧ v = .int .i64 i ∧ (l.take i).all (goodMv dl) = true ∧ Below w.heap.size w wr
def IdxPost (w : World) (b : Bool) (e : Ending) (w' : World) : Prop := (∃ i : Int, e = .returned (.int .i64 i) ∧ decide (0 ≤ i) = !b) ∧ Below w.heap.size w w'
theorem all_take {α : Type} (p : α → Bool) (l : List α) (d : α) (i : Nat) (h : i < l.length) (ha : (l.take i).all p = true) (hp : p (l.getD i d) = true) : (l.take (i + 1)).all p = true := by
 rw [List.take_add_one, List.getElem?_eq_getElem h]
 rw [List.getD_eq_getElem?_getD, List.getElem?_eq_getElem h] at hp
 simp only [Option.getD_some] at hp
 rw [List.all_append, ha]
 simp [hp]
theorem all_bad {α : Type} (p : α → Bool) (l : List α) (d : α) (i : Nat) (h : i < l.length) (hp : p (l.getD i d) = false) : l.all p = false := by
 rw [List.getD_eq_getElem?_getD, List.getElem?_eq_getElem h] at hp
 simp only [Option.getD_some] at hp
 rw [List.all_eq_false]
 exact ⟨_, List.getElem_mem h, by simp [hp]⟩
theorem idxMv_any (w : World) (S : Nat → Prop) (a : Option Addr) (c : Nat) (l : List Mv) (h : MvsAt w S a l) (hl : l.length ≤ 100000) (ob : Nat) (d : ByteArray) (hd : w.cell? ⟨ob, 8, none⟩ = some (.string d)) (hsz : d.size ≤ 1024) :
    Calls Tryz.prog 211 #[.slice a l.length c, .func (.func 170) #[] #[.pointer (some ⟨ob, 0, none⟩)]] w (IdxPost w (l.all (goodMv d.size))) := by
 have hol := cell_lt hd
 have HX := Lib.hid h
 obtain ⟨n, hn⟩ : ∃ n, n = l.length := ⟨_, rfl⟩
 rw [← hn] at hl ⊢
 have HN := Lib.hid hn
 obtain ⟨gv, hgv⟩ : ∃ gv, gv = l.all (goodMv d.size) := ⟨_, rfl⟩
 rw [← hgv]
 have HGV := Lib.hid hgv
 clear h hn hgv
 go_enter Tryz.func211, Tryz.ntmps211
 go_wp2_with fail
 go_loopg [8] n (fun g s8 wr => IdxRel w l d.size g s8 wr)
 case atStart => exact ⟨0, by rw [← HN.out]; rfl, Nat.zero_le _, rfl, rfl, Below.refl _ _⟩
 case round =>
  obtain ⟨i, hg, hi, rfl, hok, hB⟩ := hrel
  rw [← HN.out] at hg hi
  subst hg
  have HOK := Lib.hid hok
  have HB := Lib.hid hB
  clear hok hB
  by_cases hlt : i < n
  · have hix : i < l.length := by have := HN.out; omega
    obtain ⟨xb, xo, rfl, -, hxl, hxc⟩ := HX.out.elem mvC_len default hix
    have HBAD := Lib.hid (all_bad (goodMv d.size) l default i hix)
    have HGD := Lib.hid (all_take (goodMv d.size) l default i hix HOK.out)
    generalize l.getD i default = m at *
    have hmv := fun W hd => mvBad_any W m ob d hd hsz
    obtain ⟨ma, mf, ml, mt⟩ := m
    have f0 : wr.cell? ⟨xb, xo + i * 4, none⟩ = some (.int .i64 ma) := below_at HB.out (hxc 0 (by decide)) hxl
    have f1 : wr.cell? ⟨xb, xo + i * 4 + 1, none⟩ = some (.int .i64 mf) := below_at HB.out (hxc 1 (by decide)) hxl
    have f2 : wr.cell? ⟨xb, xo + i * 4 + 2, none⟩ = some (.int .i64 ml) := below_at HB.out (hxc 2 (by decide)) hxl
    have f3 : wr.cell? ⟨xb, xo + i * 4 + 3, none⟩ = some (.int .i64 mt) := below_at HB.out (hxc 3 (by decide)) hxl
    have hxl' := cell_lt f0
    have hdr := below_at HB.out hd hol
    have hil2 : (0 : Int) ≤ i ∧ (i : Int) < n := by omega
    have hi1 : i + 1 ≤ n := hlt
    have hms : n - (i + 1) < n - i := by omega
    have hwr1 := Lib.hid (show wrap64 ((i : Int) + 1) = ((i + 1 : Nat) : Int) by unfold wrap64; omega)
    have eg : ∀ args w, (callFunc 170 args).run Tryz.prog w = .ok (.enter 170 args) w := enters_of Tryz.func170 (by kernel_rfl) rfl
    have hmv := hmv wr hdr
    simp only [mvC] at hmv
    clear hxc hd
    cases hgm : goodMv d.size (ma, mf, ml, mt)
    · have hgf : gv = false := by rw [HGV.out]; exact HBAD.out hgm
      rw [hgm] at hmv
      subst hgf
      clear hgm
      go_wp2_with fail
      refine hmv.mono ?_
      clear hmv
      rintro e w5 ⟨rfl, hB5⟩
      go_wp2_with fail
      go_ret
      exact ⟨⟨i, rfl, by simp⟩, HB.out.trans (hB5.mono HB.out.size)⟩
    · rw [hgm] at hmv
      have HOK2 := Lib.hid (HGD.out hgm)
      clear hgm
      go_wp2_with fail
      refine hmv.mono ?_
      clear hmv
      rintro e w5 ⟨rfl, hB5⟩
      go_wp2_with fail
      go_roundg (n - (i + 1))
      case measure => exact hms
      case rel => exact ⟨i + 1, by rw [← HN.out], by rw [← HN.out]; exact hi1, by first | rfl | rw [hwr1.out], HOK2.out, HB.out.trans (hB5.mono HB.out.size)⟩
  · have hgt : gv = true := by
     have h1 := HOK.out
     rw [List.take_of_length_le (by have := HN.out; omega)] at h1
     rw [HGV.out]; exact h1
    subst hgt
    have hge : ¬ (i : Int) < n := by omega
    clear hlt
    go_wp2_with fail
    go_ret
    exact ⟨⟨-1, rfl, rfl⟩, HB.out⟩
theorem conMv_any (w : World) (S : Nat → Prop) (a : Option Addr) (c : Nat) (l : List Mv) (h : MvsAt w S a l) (hl : l.length ≤ 100000) (ob : Nat) (d : ByteArray) (hd : w.cell? ⟨ob, 8, none⟩ = some (.string d)) (hsz : d.size ≤ 1024) :
    Calls Tryz.prog 169 #[.slice a l.length c, .func (.func 170) #[] #[.pointer (some ⟨ob, 0, none⟩)]] w (BoolB w (!l.all (goodMv d.size))) := by
 have hi := idxMv_any w S a c l h hl ob d hd hsz
 generalize l.all (goodMv d.size) = r at hi ⊢
 clear hd hsz h hl
 go_enter Tryz.func169, Tryz.ntmps169
 go_wp2_with fail
 refine hi.mono ?_
 clear hi
 rintro e w1 ⟨⟨i, rfl, h1⟩, hB⟩
 go_wp2_with fail
 go_ret
 refine ⟨?_, hB⟩
 rw [← h1]
 rfl
theorem form7_any (w : World) (x : OpS) (mv : List Mv) (h : OpIn w x mv) :
    Calls Tryz.prog 168 #[.agg x.cells.toArray] w (BoolB w (winB x.ino 1 2147483647 && winB mv.length 1 16 && decide (x.data.size ≤ 1024) && mv.all (goodMv x.data.size))) := by
 obtain ⟨xc, xs, xk, p, q, xz, xh, xo, xt, xi, xn, mp, ml, mc⟩ := x
 obtain ⟨hlen, hrow, -, -⟩ := h
 simp only at hlen hrow
 subst hlen
 have g1 := within_b xn 1 2147483647
 have g2 := within_b mv.length 1 16
 simp only [OpS.cells]
 obtain ⟨W1, hW1⟩ : ∃ W1, W1 = w.alloc (.cells #[.int .i64 xc, .int .i64 xs, .int .i64 xk, .string (bs p), .string (bs q), .int .i64 xz, .int .i64 xh, .int .i64 xo, .string xt, .int .i64 xi, .int .i64 xn, .slice mp mv.length mc] 31) := ⟨_, rfl⟩
 have hB1 : Below w.heap.size w W1 := by rw [hW1]; exact belC (Below.refl _ _)
 have c8 : W1.cell? ⟨w.heap.size, 8, none⟩ = some (.string xt) := by rw [hW1]; go_simp
 have hmf : ∀ (fn : Fn) (first cap : Array Value) (w : World), (Instr.makeFunc fn first cap).run Tryz.prog w = .ok (.func fn first cap) w := fun _ _ _ _ => rfl
 have hm16 : winB mv.length 1 16 = true → mv.length ≤ 100000 := fun h => by simp [winB] at h; omega
 generalize winB xn 1 2147483647 = r1 at g1 ⊢
 generalize winB mv.length 1 16 = r2 at g2 hm16 ⊢
 cases r1
 · clear g2 c8 hB1 hW1
   go_enter Tryz.func168, Tryz.ntmps168
   exact mK22
 cases r2
 · clear c8 hB1 hW1
   go_enter Tryz.func168, Tryz.ntmps168
   exact mK21
 by_cases hd : xt.size ≤ 1024
 · have hcm := conMv_any W1 _ mp mc mv (hrow.below' hB1) (hm16 rfl) w.heap.size xt c8 hd
   rw [decide_eq_true hd]
   have hd2 : decide ((xt.size : Int) ≤ 1024) = true := decide_eq_true (by omega)
   simp only [Bool.true_and]
   generalize mv.all (goodMv xt.size) = r at hcm ⊢
   clear hrow hm16 hd c8
   go_enter Tryz.func168, Tryz.ntmps168
   go_wp2_with fail
   refine (g1 _).mono ?_
   rintro e w1 ⟨rfl, rfl⟩
   go_wp2_with fail
   refine (g2 _).mono ?_
   rintro e w1 ⟨rfl, rfl⟩
   go_wp2_with fail
   rw [← hW1]
   refine hcm.mono ?_
   clear hcm
   rintro e w2 ⟨rfl, hB2⟩
   go_wp2_with fail
   go_ret
   refine ⟨by simp, hB1.trans (hB2.mono hB1.size)⟩
 · rw [decide_eq_false hd]
   have hd2 : decide ((xt.size : Int) ≤ 1024) = false := decide_eq_false (by omega)
   simp only [Bool.true_and, Bool.false_and]
   clear hrow hm16 hd c8 hB1 hW1
   go_enter Tryz.func168, Tryz.ntmps168
   exact mK21
end Go.Proofs.YtajbooppoohplaaGreatDoor
/- package op: Good, whole -/
namespace Go.Proofs.YtajbooppoohplaaGreatDoor
open Go.RowKit Esch

theorem opGood_no (w : World) (x : OpS) (mv : List Mv) (hk : knownB x.kind = false) : Calls Tryz.prog 74 #[.agg x.cells.toArray] w (BoolB w (x.good mv)) := by
 have gk := fun W => known_any W x.kind
 rw [show (decide (0 < x.kind) && decide (x.kind < 15)) = false from hk] at gk
 unfold OpS.good
 rw [hk]
 simp only [Bool.false_and]
 clear hk
 obtain ⟨xc, xs, xk, p, q, xz, xh, xo, xt, xi, xn, mp, ml, mc⟩ := x
 simp only [OpS.cells] at *
 go_enter Tryz.func74, Tryz.ntmps74
 go_wp2_with fail
 refine (gk _).mono ?_
 exact mK18
theorem opGood_any (w : World) (x : OpS) (mv : List Mv) (hin : OpIn w x mv) (hf : FieldsAt w) (hw : 0 < w.heap.size) (h16 : mv.length ≤ 100000) :
    Calls Tryz.prog 74 #[.agg x.cells.toArray] w (BoolB w (x.good mv)) := by
 cases hk : knownB x.kind
 · exact opGood_no w x mv hk
 have hk2 : 0 < x.kind ∧ x.kind < 15 := by simpa [knownB] using hk
 have hg : x.good mv = (winB x.client 0 7 && winB x.seq 1 2147483647 && x.form mv && x.alike x.kept) := by unfold OpS.good; rw [hk, Bool.true_and]
 rw [hg]
 have h14 : x.kind = 1 ∨ x.kind = 2 ∨ x.kind = 3 ∨ x.kind = 4 ∨ x.kind = 5 ∨ x.kind = 6 ∨ x.kind = 7 ∨ x.kind = 8 ∨ x.kind = 9 ∨ x.kind = 10 ∨ x.kind = 11 ∨ x.kind = 12 ∨ x.kind = 13 ∨ x.kind = 14 := by omega
 rcases h14 with h | h | h | h | h | h | h | h | h | h | h | h | h | h
 · rw [show x.form mv = (goodPath x.path) by simp [OpS.form, h]]
   exact good_core w x mv hin hf hw h16 hk 161 _ (fun fb W => by rw [h]; exact idxO1 _ _ _ _ _ _ _ _ _ _ _ _ _ _ _ W) (enters_of Tryz.func161 (by kernel_rfl) rfl) (fun W hB => form1_any W x)
 · rw [show x.form mv = (goodPath x.path) by simp [OpS.form, h]]
   exact good_core w x mv hin hf hw h16 hk 161 _ (fun fb W => by rw [h]; exact idxO2 _ _ _ _ _ _ _ _ _ _ _ _ _ _ _ W) (enters_of Tryz.func161 (by kernel_rfl) rfl) (fun W hB => form1_any W x)
 · rw [show x.form mv = (goodPath x.path) by simp [OpS.form, h]]
   exact good_core w x mv hin hf hw h16 hk 161 _ (fun fb W => by rw [h]; exact idxO3 _ _ _ _ _ _ _ _ _ _ _ _ _ _ _ W) (enters_of Tryz.func161 (by kernel_rfl) rfl) (fun W hB => form1_any W x)
 · rw [show x.form mv = (goodPath x.path && goodPath x.dest) by simp [OpS.form, h]]
   exact good_core w x mv hin hf hw h16 hk 163 _ (fun fb W => by rw [h]; exact idxO4 _ _ _ _ _ _ _ _ _ _ _ _ _ _ _ W) (enters_of Tryz.func163 (by kernel_rfl) rfl) (fun W hB => form2_any W x)
 · rw [show x.form mv = (goodPath x.path) by simp [OpS.form, h]]
   exact good_core w x mv hin hf hw h16 hk 161 _ (fun fb W => by rw [h]; exact idxO5 _ _ _ _ _ _ _ _ _ _ _ _ _ _ _ W) (enters_of Tryz.func161 (by kernel_rfl) rfl) (fun W hB => form1_any W x)
 · rw [show x.form mv = (goodPath x.path && goodPath x.dest) by simp [OpS.form, h]]
   exact good_core w x mv hin hf hw h16 hk 163 _ (fun fb W => by rw [h]; exact idxO6 _ _ _ _ _ _ _ _ _ _ _ _ _ _ _ W) (enters_of Tryz.func163 (by kernel_rfl) rfl) (fun W hB => form2_any W x)
 · rw [show x.form mv = (goodPath x.path && winB x.size 0 8192) by simp [OpS.form, h]]
   exact good_core7 w x mv hin hf hw h16 hk _ (fun fb W => by rw [h]; exact idxO7 _ _ _ _ _ _ _ _ _ _ _ _ _ _ _ W) (fun W fb hB hc => form4_any W x fb hc)
 · rw [show x.form mv = (goodPath x.path) by simp [OpS.form, h]]
   exact good_core w x mv hin hf hw h16 hk 161 _ (fun fb W => by rw [h]; exact idxO8 _ _ _ _ _ _ _ _ _ _ _ _ _ _ _ W) (enters_of Tryz.func161 (by kernel_rfl) rfl) (fun W hB => form1_any W x)
 · rw [show x.form mv = (winB x.hd 0 16383) by simp [OpS.form, h]]
   exact good_core w x mv hin hf hw h16 hk 166 _ (fun fb W => by rw [h]; exact idxO9 _ _ _ _ _ _ _ _ _ _ _ _ _ _ _ W) (enters_of Tryz.func166 (by kernel_rfl) rfl) (fun W hB => form5_any W x)
 · rw [show x.form mv = (winB x.hd 0 16383 && winB x.off 0 8192 && winB x.data.size 1 1024) by simp [OpS.form, h]]
   exact good_core w x mv hin hf hw h16 hk 167 _ (fun fb W => by rw [h]; exact idxO10 _ _ _ _ _ _ _ _ _ _ _ _ _ _ _ W) (enters_of Tryz.func167 (by kernel_rfl) rfl) (fun W hB => form6_any W x)
 · rw [show x.form mv = (winB x.tick 0 1099511627776) by simp [OpS.form, h]]
   exact good_core w x mv hin hf hw h16 hk 164 _ (fun fb W => by rw [h]; exact idxO11 _ _ _ _ _ _ _ _ _ _ _ _ _ _ _ W) (enters_of Tryz.func164 (by kernel_rfl) rfl) (fun W hB => form3_any W x)
 · rw [show x.form mv = (winB x.tick 0 1099511627776) by simp [OpS.form, h]]
   exact good_core w x mv hin hf hw h16 hk 164 _ (fun fb W => by rw [h]; exact idxO12 _ _ _ _ _ _ _ _ _ _ _ _ _ _ _ W) (enters_of Tryz.func164 (by kernel_rfl) rfl) (fun W hB => form3_any W x)
 · rw [show x.form mv = (winB x.ino 1 2147483647 && winB mv.length 1 16 && decide (x.data.size ≤ 1024) && mv.all (goodMv x.data.size)) by simp [OpS.form, h]]
   exact good_core w x mv hin hf hw h16 hk 168 _ (fun fb W => by rw [h]; exact idxO13 _ _ _ _ _ _ _ _ _ _ _ _ _ _ _ W) (enters_of Tryz.func168 (by kernel_rfl) rfl) (fun W hB => form7_any W x mv (hin.below' hB))
 · rw [show x.form mv = (winB x.data.size 1 1024 && winB x.size 1 65536 && winB x.off 0 (x.size - x.data.size)) by simp [OpS.form, h]]
   exact good_core w x mv hin hf hw h16 hk 171 _ (fun fb W => by rw [h]; exact idxO14 _ _ _ _ _ _ _ _ _ _ _ _ _ _ _ W) (enters_of Tryz.func171 (by kernel_rfl) rfl) (fun W hB => form8_any W x)
end Go.Proofs.YtajbooppoohplaaGreatDoor
