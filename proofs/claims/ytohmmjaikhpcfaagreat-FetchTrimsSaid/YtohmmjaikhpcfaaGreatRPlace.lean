/- where an address lies: the document's -/
import Derived.Test.YtohmmjaikhpcfaaGreatPlace
import Derived.Test.YtohmmjaikhpcfaaGreatRefGood
namespace Go.Proofs.YtohmmjaikhpcfaaGreat
open Go.RowKit Esch

@[simp] def gotV (r : Int × Int × Bool) : Value := .agg #[.int .i64 r.1, .int .i64 r.2.1, .bool r.2.2]
def ROfPost (w : World) (r : Int × Int × Bool) (e : Ending) (w' : World) : Prop := e = .returned (gotV r) ∧ Below w.heap.size w w'
theorem got_boxes (w : World) (x0 x1 : Value) : ∃ W, W = (w.alloc (.cells #[x0, x1] 27)).alloc (.cells #[.int .i64 0, .int .i64 0, .bool false] 45) ∧ Below w.heap.size w W ∧ W.heap.size = w.heap.size + 2 ∧ W.cell? ⟨w.heap.size, 0, none⟩ = some x0 ∧ W.cell? ⟨w.heap.size, 1, none⟩ = some x1 ∧
    W.cell? ⟨w.heap.size + 1, 0, none⟩ = some (.int .i64 0) ∧ W.cell? ⟨w.heap.size + 1, 1, none⟩ = some (.int .i64 0) ∧ W.cell? ⟨w.heap.size + 1, 2, none⟩ = some (.bool false) ∧ W.frozen? ⟨w.heap.size + 1, 0, none⟩ = false ∧ W.frozen? ⟨w.heap.size + 1, 1, none⟩ = false ∧ W.frozen? ⟨w.heap.size + 1, 2, none⟩ = false :=
  ⟨_, rfl, by (repeat (first | with_reducible exact (Below.refl _ _) | with_reducible refine Below.drew ?_ | with_reducible refine Esch.below_drewN ?_ _ | with_reducible refine Below.setCell ?_ (by first | omega | (simp; done) | (simp; omega)) _ | with_reducible refine Below.alloc ?_ (by first | omega | (simp; done) | (simp; omega)) _)), by simp, by go_simp, by go_simp, by go_simp, by go_simp, by go_simp, by go_simp, by go_simp, by go_simp⟩
set_option maxHeartbeats 1000000 in
theorem rOf_any (S : Nat → Prop) (w : World) (p : Proj) (a : Option Addr) (c : Nat) (x : Int) (h : ListsAt S w a p.chains) :
    Calls Tryz.prog 17 #[.agg #[.int .i64 p.epoch, .slice a p.chains.length c], .int .i64 x] w (ROfPost w (ofP p x)) := by
  obtain ⟨W0, hW0, hB0, hz0, p0, p1, r0, r1, r2, g0, g1, g2⟩ := got_boxes w (.int .i64 p.epoch) (.slice a p.chains.length c)
  have hgd := rgood_any S W0 p.epoch a c p.chains (h.mod (F := none') (Mod.of_below hB0) (fun _ _ _ => id))
  have HW0 := Lib.hid hW0
  obtain ⟨g, hg⟩ : ∃ g, g = goodB ⟨p.epoch, p.chains⟩ := ⟨_, rfl⟩
  rw [← hg] at hgd
  have Hg := Lib.hid hg
  obtain ⟨r, hr⟩ : ∃ r, r = ofP p x := ⟨_, rfl⟩
  rw [← hr]
  have Hr := Lib.hid hr
  clear hW0 h hg hr
  go_enter Tryz.func17, Tryz.ntmps17
  go_wp2_with fail
  rw [← HW0.out]
  refine hgd.mono ?_
  clear hgd
  rintro e w1 ⟨rfl, hB1⟩
  have hz1 := hB1.size
  have l0 : w.heap.size < W0.heap.size := by omega
  have l1 : w.heap.size + 1 < W0.heap.size := by omega
  replace p0 := below_at hB1 p0 l0
  replace p1 := below_at hB1 p1 l0
  replace r0 := below_at hB1 r0 l1
  replace r1 := below_at hB1 r1 l1
  replace r2 := below_at hB1 r2 l1
  replace g0 := (hB1.frozen (p := ⟨w.heap.size + 1, 0, none⟩) l1).trans g0
  replace g1 := (hB1.frozen (p := ⟨w.heap.size + 1, 1, none⟩) l1).trans g1
  replace g2 := (hB1.frozen (p := ⟨w.heap.size + 1, 2, none⟩) l1).trans g2
  have HB1 := Lib.hid (hB0.trans (hB1.mono (by omega)))
  clear hB1 hB0
  have hno : ¬ (goodB p = true ∧ 0 ≤ x ∧ x < 16384) → r = (0, 0, false) := fun hn => by rw [Hr.out]; unfold ofP; rw [if_neg hn]
  have Hno := Lib.hid hno
  clear hno
  cases g
  · go_wp2_with fail
    refine bodyPost_ret (v := .agg #[.int .i64 0, .int .i64 0, .bool false]) (by simp only [results, Tryz.results17]; go_simp) rfl ?_
    rw [Hno.out (fun hh => absurd hh.1 (by simp [show goodB p = false from Hg.out.symm]))]
    exact ⟨rfl, by (repeat (first | with_reducible exact HB1.out | with_reducible refine Below.drew ?_ | with_reducible refine Esch.below_drewN ?_ _ | with_reducible refine Below.setCell ?_ (by first | omega | (simp; done) | (simp; omega)) _ | with_reducible refine Below.alloc ?_ (by first | omega | (simp; done) | (simp; omega)) _))⟩
  · by_cases hx0 : x < 0
    · go_wp2_with fail
      refine bodyPost_ret (v := .agg #[.int .i64 0, .int .i64 0, .bool false]) (by simp only [results, Tryz.results17]; go_simp) rfl ?_
      rw [Hno.out (fun hh => absurd hh.2.1 (by omega))]
      exact ⟨rfl, by (repeat (first | with_reducible exact HB1.out | with_reducible refine Below.drew ?_ | with_reducible refine Esch.below_drewN ?_ _ | with_reducible refine Below.setCell ?_ (by first | omega | (simp; done) | (simp; omega)) _ | with_reducible refine Below.alloc ?_ (by first | omega | (simp; done) | (simp; omega)) _))⟩
    · have hx0' : 0 ≤ x := by omega
      by_cases hx1 : x < 16384
      · clear hx0
        have hl := good_len (show goodB p = true from Hg.out.symm)
        have hok : r = (x % p.chains.length, x / p.chains.length, true) := by rw [Hr.out]; unfold ofP; rw [if_pos ⟨Hg.out.symm, hx0', hx1⟩]
        have n1 : (1 : Int) ≤ p.chains.length := by omega
        have n2 : (p.chains.length : Int) ≠ 0 := by omega
        have Hok := Lib.hid hok
        have Hl := Lib.hid hl
        clear hok hl
        go_wp2_with fail
        go_region
        all_goals
          go_wp2_with fail
          refine bodyPost_ret (v := .agg #[.int .i64 (x % p.chains.length), .int .i64 (x / p.chains.length), .bool true]) (by simp only [results, Tryz.results17]; go_simp) rfl ?_
          rw [Hok.out]
          exact ⟨rfl, by (repeat (first | with_reducible exact HB1.out | with_reducible refine Below.drew ?_ | with_reducible refine Esch.below_drewN ?_ _ | with_reducible refine Below.setCell ?_ (by first | omega | (simp; done) | (simp; omega)) _ | with_reducible refine Below.alloc ?_ (by first | omega | (simp; done) | (simp; omega)) _))⟩
      · have hx1' : 16384 ≤ x := by omega
        clear hx0
        go_wp2_with fail
        refine bodyPost_ret (v := .agg #[.int .i64 0, .int .i64 0, .bool false]) (by simp only [results, Tryz.results17]; go_simp) rfl ?_
        rw [Hno.out (fun hh => absurd hh.2.2 (by omega))]
        exact ⟨rfl, by (repeat (first | with_reducible exact HB1.out | with_reducible refine Below.drew ?_ | with_reducible refine Esch.below_drewN ?_ _ | with_reducible refine Below.setCell ?_ (by first | omega | (simp; done) | (simp; omega)) _ | with_reducible refine Below.alloc ?_ (by first | omega | (simp; done) | (simp; omega)) _))⟩
def RChainPost (w : World) (l : List Int) (e : Ending) (w' : World) : Prop := ∃ a c, e = .returned (.slice a l.length c) ∧ IntsAt (From w.heap.size) w' a l ∧ Below w.heap.size w w'
theorem got_box (w : World) (x0 x1 x2 : Value) : ∃ W, W = w.alloc (.cells #[x0, x1, x2] 45) ∧ Below w.heap.size w W ∧ W.heap.size = w.heap.size + 1 ∧ W.cell? ⟨w.heap.size, 0, none⟩ = some x0 ∧ W.cell? ⟨w.heap.size, 1, none⟩ = some x1 ∧ W.cell? ⟨w.heap.size, 2, none⟩ = some x2 :=
  ⟨_, rfl, by (repeat (first | with_reducible exact (Below.refl _ _) | with_reducible refine Below.drew ?_ | with_reducible refine Esch.below_drewN ?_ _ | with_reducible refine Below.setCell ?_ (by first | omega | (simp; done) | (simp; omega)) _ | with_reducible refine Below.alloc ?_ (by first | omega | (simp; done) | (simp; omega)) _)), by simp, by go_simp, by go_simp, by go_simp⟩
set_option maxHeartbeats 1000000 in
theorem rChain_any (S : Nat → Prop) (w : World) (p : Proj) (a : Option Addr) (c : Nat) (x : Int) (h : ListsAt S w a p.chains) :
    Calls Tryz.prog 18 #[.agg #[.int .i64 p.epoch, .slice a p.chains.length c], .int .i64 x] w (RChainPost w (chainP p x)) := by
  obtain ⟨W0, hW0, hB0, hz0, p0, p1⟩ := oneBox w 27 (.int .i64 p.epoch) (.slice a p.chains.length c)
  have hl0 := h.mod (F := none') (Mod.of_below hB0) (fun _ _ _ => id)
  have hof := rOf_any S W0 p a c x hl0
  have HW0 := Lib.hid hW0
  have HL0 := Lib.hid hl0
  obtain ⟨l, hl⟩ : ∃ l, l = chainP p x := ⟨_, rfl⟩
  rw [← hl]
  have Hl := Lib.hid hl
  obtain ⟨r, hr⟩ : ∃ r, r = ofP p x := ⟨_, rfl⟩
  rw [← hr] at hof
  have Hr := Lib.hid hr
  obtain ⟨r0, r1, rb⟩ := r
  unfold ROfPost at hof
  simp only [gotV] at hof
  clear hW0 h hl0 hl hr
  go_enter Tryz.func18, Tryz.ntmps18
  go_wp2_with fail
  rw [← HW0.out]
  refine hof.mono ?_
  clear hof
  rintro e w1 ⟨rfl, hB1⟩
  have hz1 := hB1.size
  have l0 : w.heap.size < W0.heap.size := by omega
  replace p0 := below_at hB1 p0 l0
  replace p1 := below_at hB1 p1 l0
  have HB1 := Lib.hid (hB0.trans (hB1.mono (by omega)))
  have HBW := Lib.hid hB1
  clear hB1 hB0
  have l1 : w.heap.size < w1.heap.size := by omega
  cases rb
  · go_wp2_with fail
    go_ret
    have hnil : l = [] := by rw [Hl.out]; unfold chainP; rw [← Hr.out]; rfl
    subst hnil
    have hz2 := HB1.out.size
    exact ⟨none, 0, rfl, IntsAt.nil _ _ _, by (repeat (first | with_reducible exact HB1.out | with_reducible refine Below.drew ?_ | with_reducible refine Esch.below_drewN ?_ _ | with_reducible refine Below.setCell ?_ (by first | omega | (simp; done) | (simp; omega)) _ | with_reducible refine Below.alloc ?_ (by first | omega | (simp; done) | (simp; omega)) _))⟩
  · have hok : (ofP p x).2.2 = true := by rw [← Hr.out]
    obtain ⟨k, hk, hkl⟩ := ofP_lt hok
    have hk' : r0 = k := by have := Hr.out; rw [← this] at hk; exact hk
    subst hk'
    have hlk : l = p.chains.getD k [] := by rw [Hl.out]; unfold chainP; rw [if_pos hok, ← Hr.out]; simp
    obtain ⟨b, off, rfl, -, hb, hc⟩ := HL0.out.2 (by omega)
    obtain ⟨ia, ic, c1, c2, c3⟩ := hc k hkl
    rw [← hlk] at c1 c2 c3
    have k0 : (0 : Int) ≤ k := by omega
    have k1 : (k : Int) < p.chains.length := by omega
    replace c1 := below_at HBW.out c1 hb
    have hb1 : b < w1.heap.size := by omega
    have hsm : l.length ≤ 1000 := by rw [hlk]; have := (good_small (of_decide_eq_true (show decide p.good = true from (ofP_ok hok).1))).2 k hkl; omega
    have Hsm := Lib.hid hsm
    have C2 := Lib.hid (c2.mod (F := none') (Mod.of_below HBW.out) (fun _ _ _ => id))
    have hw1 : w.heap.size ≤ w1.heap.size := by omega
    clear hok hk hkl hlk hc c2 c3 hsm hz1 hz0
    go_wp2_with (at_builtin; refine wpList_appendI (by rfl) (.tmp 12) (.tmp 19) (by rfl) S w.heap.size (.slice (some ⟨w1.heap.size + 1, 0, none⟩) 0 0) [] l ia l.length ic (by rfl) (by rfl) (by rfl) (OwnI.made' w1 _ hw1) ((C2.out.allocd _).allocd _) (by have := Hsm.out; simp only [List.length_nil]; omega) (by simp only [World.size_alloc]; omega) ?_; intro v4 w4 hO4 hb4 hg4)
    obtain ⟨va, vc, rfl, hI, -⟩ := own_ints hO4
    go_wp2_with fail
    go_ret
    exact ⟨va, vc, rfl, hI, ((HB1.out.alloc hw1 _).alloc (by simp only [World.size_alloc]; omega) _).trans (hb4.mono (by omega))⟩
end Go.Proofs.YtohmmjaikhpcfaaGreat
