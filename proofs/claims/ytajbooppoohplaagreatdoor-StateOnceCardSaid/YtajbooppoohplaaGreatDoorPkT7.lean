import Derived.Test.YtajbooppoohplaaGreatDoorMac
import Derived.Test.YtajbooppoohplaaGreatDoorPkTrg
import Derived.Test.YtajbooppoohplaaGreatDoorPkPath
import Derived.Test.YtajbooppoohplaaGreatDoorPkDir
/- package tree: List -/
set_option maxRecDepth 100000
set_option maxHeartbeats 4000000
namespace Go.Proofs.YtajbooppoohplaaGreatDoor
open Go.RowKit Esch Go.Shelf

def lstOf (s : TrS) (r : Res Int) : Res Int := match r with
  | .ok i => if s.kind i ≠ 1 then .err 62 else .ok i
  | .err e => .err e
def LsOk (s : TrS) (r : Res Int) (l : List Nm) : Prop := match r with
  | .ok i => NamesOfD s.n.m i l
  | .err _ => l = []
def ListR (W1 : World) (b bx : Nat) (S : Nat → Prop) (s : TrS) (r : Res Int) (x : Int) (W : World) : Prop :=
  x = r.code ∧ TreeAt W b S s ∧ (∃ a c l, W.cell? ⟨bx, 0, none⟩ = some (.slice a l.length c) ∧ LsOk s r l ∧ NmsAt (From W1.heap.size) W a l ∧ CapN l.length c) ∧ Mod (· = bx) W1 W
theorem list1_any (W : World) (b tb pb bx : Nat) (S : Nat → Prop) (s : TrS) (h : TreeAt W b S s) (p : Nm) (hl : s.n.m.length ≤ 100000)
    (t0 : W.cell? ⟨tb, 0, none⟩ = some (.pointer (some ⟨b, 0, none⟩))) (p0 : W.cell? ⟨pb, 0, none⟩ = some (.string (bs p))) (x0 : W.cell? ⟨bx, 0, none⟩ = some (.slice none 0 0)) (f0 : W.frozen? ⟨bx, 0, none⟩ = false) (nx : ¬ S bx) :
    Calls Tryz.prog 63 #[.pointer (some ⟨tb, 0, none⟩), .pointer (some ⟨pb, 0, none⟩), .pointer (some ⟨bx, 0, none⟩)] W (DoPost (ListR W b bx S s (lstOf s (s.resolve p)))) := by
 have hno := stop_no
 have hys := stop_yes
 have hrs := trResolve_any W b S s h p
 have hkd := fun W hW d => trKind_any W b S s hW d
 have H := Lib.hid h
 clear h
 cases hr : s.resolve p with
 | err e =>
   rw [hr] at hrs
   clear hr
   go_enter Tryz.func63, Tryz.ntmps63
   go_wp2_with fail
   refine hrs.mono ?_
   rintro e W2 ⟨hB2, rfl⟩
   go_wp2_with fail
   exact ⟨rfl, Or.inr ⟨_, rfl, rfl, H.out.below' hB2, ⟨none, 0, [], below_at hB2 x0 (cell_lt x0), rfl, NmsAt.nil _ _ _, by simp, by omega⟩, Mod.of_below hB2⟩⟩
 | ok i =>
   rw [hr] at hrs
   clear hr
   have hkd2 := fun W hW => hkd W hW i
   by_cases hk : s.kind i = 1
   rotate_left 1
   · rw [show lstOf s (.ok i) = .err 62 from if_pos hk]
     have hk2 : (s.kind i != 1) = true := by simpa using hk
     generalize s.kind i = kk at hkd2 hk2
     clear hk hkd
     go_enter Tryz.func63, Tryz.ntmps63
     go_wp2_with fail
     refine hrs.mono ?_
     rintro e W2 ⟨hB2, rfl⟩
     have t2 := below_at hB2 t0 (cell_lt t0)
     have HB2 := Lib.hid hB2
     clear hB2
     go_wp2_with fail
     refine (hkd2 _ (H.out.below' HB2.out)).mono ?_
     rintro e W3 ⟨rfl, hB3⟩
     have HB3 := Lib.hid (HB2.out.trans (hB3.mono HB2.out.size))
     clear hB3
     go_wp2_with fail
     refine (hys _ _).mono ?_
     rintro e W4 ⟨rfl, rfl⟩
     go_wp2_with fail
     exact ⟨rfl, Or.inr ⟨_, rfl, rfl, H.out.below' HB3.out, ⟨none, 0, [], below_at HB3.out x0 (cell_lt x0), rfl, NmsAt.nil _ _ _, by simp, by omega⟩, Mod.of_below HB3.out⟩⟩
   · rw [show lstOf s (.ok i) = .ok i from if_neg (by simpa using hk)]
     rw [hk] at hkd2
     have hli := fun W nb S2 hW => dirList_any W nb S2 s.n hW i hl
     clear hk hkd
     go_enter Tryz.func63, Tryz.ntmps63
     go_wp2_with fail
     refine hrs.mono ?_
     rintro e W2 ⟨hB2, rfl⟩
     have t2 := below_at hB2 t0 (cell_lt t0)
     have HB2 := Lib.hid hB2
     clear hB2
     go_wp2_with fail
     refine (hkd2 _ (H.out.below' HB2.out)).mono ?_
     rintro e W3 ⟨rfl, hB3⟩
     have t3 := below_at hB3 t2 (cell_lt t2)
     have HB3 := Lib.hid (HB2.out.trans (hB3.mono HB2.out.size))
     clear hB3
     go_wp2_with fail
     refine (hno _ _).mono ?_
     rintro e W4 ⟨rfl, rfl⟩
     obtain ⟨sb, lt, ib, nb, S1, S2, c0, c1, ht, hn, s1, s2, dd, b1, b2⟩ := H.out.below' HB3.out
     have hli2 := hli _ nb S2 hn
     clear ht hn s1 s2 dd b1 b2 lt sb c0 hli
     go_wp2_with fail
     refine hli2.mono ?_
     clear hli2
     rintro e W5 ⟨a, c, l, rfl, hN, hA, hC, hB5⟩
     have hB := HB3.out.trans (hB5.mono HB3.out.size)
     have x5 := below_at hB x0 (cell_lt x0)
     have f5 := (hB.frozen (p := ⟨bx, 0, none⟩) (cell_lt x0)).trans f0
     have hlx := cell_lt x5
     have hlx0 := cell_lt x0
     have HN := Lib.hid hN
     have HA := Lib.hid hA
     have HC := Lib.hid hC
     have HB := Lib.hid hB
     clear hN hA hC hB hB5
     go_wp2_with fail
     go_end0
     have hM : Mod (· = bx) W5 (W5.setCell ⟨bx, 0, none⟩ (.slice a l.length c)) := (Mod.refl (· = bx) W5).setCellAt (fun _ => rfl) _
     refine Or.inl ⟨rfl, rfl, (H.out.below' HB.out).mod hM (fun k hk e => nx (by rw [← e]; exact hk)), ⟨a, c, l, by go_simp, HN.out, (HA.out.mod hM (fun k hk _ e => ?_)).sub (fun k _ hk => Nat.le_trans HB3.out.size hk), HC.out⟩, (Mod.of_below HB.out).trans hM⟩
     have h1 : W4.heap.size ≤ k := hk
     have h2 := HB3.out.size
     omega
def ListPost (w : World) (s : TrS) (r : Res Int) (e : Ending) (w' : World) : Prop :=
  ∃ a c l, e = .returned (.tuple #[.slice a l.length c, .int .i64 r.code]) ∧ LsOk s r l ∧ NmsAt (From w.heap.size) w' a l ∧ CapN l.length c ∧ Below w.heap.size w w'
theorem trList_any (w : World) (b : Nat) (S : Nat → Prop) (s : TrS) (h : TreeAt w b S s) (p : Nm) (hl : s.n.m.length ≤ 100000) :
    Calls Tryz.prog 24 #[.pointer (some ⟨b, 0, none⟩), .string (bs p)] w (ListPost w s (lstOf s (s.resolve p))) := by
 obtain ⟨W1, hW1⟩ : ∃ W1, W1 = ((w.alloc (.cells #[.pointer (some ⟨b, 0, none⟩)] 52)).alloc (.cells #[.string (bs p)] 9)).alloc (.cells #[.slice none 0 0] 66) := ⟨_, rfl⟩
 have hz1 : W1.heap.size = w.heap.size + 3 := by rw [hW1]; simp
 have hmf : ∀ (fn : Fn) (first cap : Array Value) (w : World), (Instr.makeFunc fn first cap).run Tryz.prog w = .ok (.func fn first cap) w := fun _ _ _ _ => rfl
 have hB1 : Below w.heap.size w W1 := by rw [hW1]; exact belC (Below.refl _ _)
 have hns : ∀ k, w.heap.size ≤ k → ¬ S k := fun k hk hs => by have := h.lt k hs; omega
 have hBe : Below w.heap.size w (W1.alloc (.cells #[.int .i64 0] 37)) := by exact belC hB1
 have hdo := list1_any (W1.alloc (.cells #[.int .i64 0] 37)) b w.heap.size (w.heap.size + 1) (w.heap.size + 2) S s (h.below' hBe) p hl (by rw [hW1]; go_simp) (by rw [hW1]; go_simp) (by rw [hW1]; go_simp) (by rw [hW1]; go_simp) (hns _ (by omega))
 have htr := tries_any W1 b 63 #[.pointer (some ⟨w.heap.size, 0, none⟩), .pointer (some ⟨w.heap.size + 1, 0, none⟩), .pointer (some ⟨w.heap.size + 2, 0, none⟩)] _ (enters_of Tryz.func63 (by kernel_rfl) rfl) hdo (fun x W hr => ⟨hr.2.2.2.at (by go_simp) (by omega), (hr.2.2.2.frozen (p := ⟨W1.heap.size, 0, none⟩) (by simp) (by show ¬ (W1.heap.size = w.heap.size + 2); omega)).trans (by go_simp)⟩)
 have HW1 := Lib.hid hW1
 have HB1 := Lib.hid hB1
 have HZ := Lib.hid hz1
 obtain ⟨r, hr⟩ : ∃ r, r = lstOf s (s.resolve p) := ⟨_, rfl⟩
 rw [← hr] at htr ⊢
 clear hr hB1 hW1 hBe hns hdo hz1 h
 go_enter Tryz.func24, Tryz.ntmps24
 go_wp2_with fail
 rw [← HW1.out]
 refine htr.mono ?_
 clear htr
 rintro e W2 ⟨x, W, rfl, ⟨rfl, hT, ⟨a, c, l, hc, hL, hA, hC⟩, hM⟩, hM2⟩
 have hne : ¬ w.heap.size + 2 = W1.heap.size := by have := HZ.out; omega
 have c2 := hM2.at hc hne
 have hB : Below w.heap.size w W := HB1.out.trans ((show Below W1.heap.size W1 (W1.alloc (.cells #[.int .i64 0] 37)) by exact belC (Below.refl _ _)).mono HB1.out.size) |>.trans (hM.below_at (by have := HZ.out; simp only [World.size_alloc]; omega) (fun k hk e => by have e : k = w.heap.size + 2 := e; omega))
 have hB2 : Below w.heap.size w W2 := hB.trans (hM2.below_at hB.size (fun k hk e => by have := HZ.out; have e : k = W1.heap.size := e; omega))
 have hA2 : NmsAt (From w.heap.size) W2 a l := (hA.mod hM2 (fun k hk _ e => by
   have hk : (W1.alloc (.cells #[.int .i64 0] 37)).heap.size ≤ k := hk
   rw [World.size_alloc] at hk
   have e : k = W1.heap.size := e
   omega)).sub (fun k _ hk => by
   have hk : (W1.alloc (.cells #[.int .i64 0] 37)).heap.size ≤ k := hk
   rw [World.size_alloc] at hk
   have := HZ.out
   show w.heap.size ≤ k
   omega)
 have HB2 := Lib.hid hB2
 have HA2 := Lib.hid hA2
 have HL := Lib.hid hL
 have HC := Lib.hid hC
 clear hT hc hM hM2 hB hB2 hA hA2 hL hC
 go_wp2_with fail
 go_ret2
 exact ⟨a, c, l, rfl, HL.out, HA2.out, HC.out, HB2.out⟩
end Go.Proofs.YtajbooppoohplaaGreatDoor
/- keep.Texts: are two lists of texts one? -/
namespace Go.Proofs.YtajbooppoohplaaGreatDoor
open Go.RowKit Esch

def TxRel (n : Nat) (x y : List Nm) (w : World) (g : Nat) (s5 : Value) (wr : World) : Prop := ∃ i : Nat, g = n - i ∧ i ≤ n ∧ s5 = .int .i64 i ∧ x.take i = y.take i ∧ Below w.heap.size w wr
theorem texts_any (w : World) (S T : Nat → Prop) (a b : Option Addr) (c d : Nat) (x y : List Nm) (hx : NmsAt S w a x) (hy : NmsAt T w b y) (h8 : x.length ≤ 100000) :
    Calls Tryz.prog 25 #[.slice a x.length c, .slice b y.length d] w fun e w' => e = .returned (.bool (decide (x = y))) ∧ Below w.heap.size w w' := by
 by_cases hl : x.length = y.length
 rotate_left 1
 · have hl2 : ((x.length : Int) != y.length) = true := by simp only [bne_iff_ne, ne_eq]; omega
   rw [decide_eq_false (fun e => hl (by rw [e]))]
   go_enter Tryz.func25, Tryz.ntmps25
   exact mK48
 · have hl2 : ((x.length : Int) != y.length) = false := by simp only [bne_eq_false_iff_eq]; omega
   have HX := Lib.hid hx
   have HY := Lib.hid hy
   have HL := Lib.hid hl
   obtain ⟨n, hn⟩ : ∃ n, n = x.length := ⟨_, rfl⟩
   rw [← hl, ← hn]
   obtain ⟨dv, hdv⟩ : ∃ dv, dv = decide (x = y) := ⟨_, rfl⟩
   rw [← hdv]
   have HDV := Lib.hid hdv
   clear hdv
   have Hn := Lib.hid hn
   have hn8 : n ≤ 100000 := by omega
   clear hx hy hl hl2 h8 hn
   go_enter Tryz.func25, Tryz.ntmps25
   go_wp2_with fail
   go_loopg [5] n (fun g s5 wr => TxRel n x y w g s5 wr)
   case atStart => exact ⟨0, rfl, Nat.zero_le _, rfl, rfl, Below.refl _ _⟩
   case round =>
    obtain ⟨i, rfl, hi, rfl, hte, hB⟩ := hrel
    have HT := Lib.hid hte
    have HB := Lib.hid hB
    clear hte hB
    by_cases hlt : i < n
    · have hix : i < x.length := by have := Hn.out; omega
      have hiy : i < y.length := by have := HL.out; omega
      obtain ⟨xb, xo, rfl, -, hxl, hxc⟩ := HX.out (by omega)
      obtain ⟨yb, yo, rfl, -, hyl, hyc⟩ := HY.out (by omega)
      have f0 := below_at HB.out (hxc i hix) hxl
      have f1 := below_at HB.out (hyc i hiy) hyl
      have htx : x.take (i + 1) = x.take i ++ [x.getD i []] := by rw [List.take_succ_eq_append_getElem hix, List.getD_eq_getElem?_getD, List.getElem?_eq_getElem hix]; rfl
      have hty : y.take (i + 1) = y.take i ++ [y.getD i []] := by rw [List.take_succ_eq_append_getElem hiy, List.getD_eq_getElem?_getD, List.getElem?_eq_getElem hiy]; rfl
      have HTX := Lib.hid htx
      have HTY := Lib.hid hty
      generalize x.getD i [] = u at *
      generalize y.getD i [] = v at *
      have hil2 : (0 : Int) ≤ i ∧ (i : Int) < n := by omega
      have hi1 : i + 1 ≤ n := hlt
      have hms : n - (i + 1) < n - i := by omega
      have hwr1 := Lib.hid (show wrap64 ((i : Int) + 1) = ((i + 1 : Nat) : Int) by unfold wrap64; omega)
      clear htx hty hxc hyc
      have hKd : wr.drew.cell? ⟨xb, xo + i, none⟩ = some (.string (bs u)) ∧ wr.drew.cell? ⟨yb, yo + i, none⟩ = some (.string (bs v)) := ⟨f0, f1⟩
      by_cases huv : u = v
      · subst huv
        go_wp2_with fail
        refine wp_region_held_drew (S := fun W' => W'.cell? ⟨xb, xo + i, none⟩ = some (.string (bs u)) ∧ W'.cell? ⟨yb, yo + i, none⟩ = some (.string (bs u))) (by kernel_rfl) hKd (fun hHeld => ?_)
        refine takeL 0 ?_
        refine takeL 1 ?_
        refine takeL 2 ?_
        refine takeL 3 ?_
        refine takeL 4 ?_
        refine takeL 5 ?_
        refine takeL 6 ?_
        refine takeL 7 ?_
        refine takeL 8 ?_
        refine wpAnyH_done (by kernel_rfl) ?_ _
        go_wp2_with fail
        go_roundg (n - (i + 1))
        case measure => exact hms
        case rel => exact ⟨i + 1, rfl, hi1, by first | rfl | rw [hwr1.out], by rw [HTX.out, HTY.out, HT.out], HB.out.drew⟩
      · have hne : ((bs u).toList == (bs v).toList) = false := by rw [toList_bs, toList_bs]; simpa using huv
        have hdv : dv = false := by
         rw [HDV.out]
         refine decide_eq_false (fun e => ?_)
         subst e
         have h1 := HTX.out
         rw [HTY.out] at h1
         exact huv (by simpa using (List.append_cancel_left h1).symm)
        subst hdv
        go_wp2_with fail
        refine wp_region_held_drew (S := fun W' => W'.cell? ⟨xb, xo + i, none⟩ = some (.string (bs u)) ∧ W'.cell? ⟨yb, yo + i, none⟩ = some (.string (bs v))) (by kernel_rfl) hKd (fun hHeld => ?_)
        refine takeL 0 ?_
        refine takeL 1 ?_
        refine takeL 2 ?_
        refine takeL 3 ?_
        refine takeL 4 ?_
        refine takeL 5 ?_
        refine takeL 6 ?_
        refine takeL 7 ?_
        refine takeL 8 ?_
        refine wpAnyH_done (by kernel_rfl) ?_ _
        go_wp2_with fail
        go_ret
        exact ⟨rfl, HB.out.drew⟩
    · obtain rfl : i = n := by omega
      have hxy : x = y := by
       exact mK44
      have hdv : dv = true := by rw [HDV.out]; exact decide_eq_true hxy
      subst hdv
      clear hxy
      exact mK42
end Go.Proofs.YtajbooppoohplaaGreatDoor
