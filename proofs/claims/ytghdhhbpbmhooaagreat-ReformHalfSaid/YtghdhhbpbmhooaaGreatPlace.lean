/- where an address lies: the program's -/
import Derived.Test.YtghdhhbpbmhooaaGreatGood
import Derived.Test.YtghdhhbpbmhooaaGreatNext
import Derived.Test.YtghdhhbpbmhooaaGreatPkLay
namespace Go.Proofs.YtghdhhbpbmhooaaGreat
open Go.RowKit Esch

def ofP (p : Proj) (a : Int) : Int × Int × Bool := if goodB p = true ∧ 0 ≤ a ∧ a < 16384 then (a % p.chains.length, a / p.chains.length, true) else (0, 0, false)
def OfPost (w : World) (r : Int × Int × Bool) (e : Ending) (w' : World) : Prop := e = .returned (.tuple #[.agg #[.int .i64 r.1, .int .i64 r.2.1], .bool r.2.2]) ∧ Below w.heap.size w w'
theorem pl_boxes (w : World) (T T' : TypeId) (x0 x1 : Value) : ∃ W, W = (w.alloc (.cells #[x0, x1] T)).alloc (.cells #[.int .i64 0, .int .i64 0] T') ∧ Below w.heap.size w W ∧ W.heap.size = w.heap.size + 2 ∧ W.cell? ⟨w.heap.size, 0, none⟩ = some x0 ∧ W.cell? ⟨w.heap.size, 1, none⟩ = some x1 ∧ W.cell? ⟨w.heap.size + 1, 0, none⟩ = some (.int .i64 0) ∧ W.cell? ⟨w.heap.size + 1, 1, none⟩ = some (.int .i64 0) ∧ W.frozen? ⟨w.heap.size + 1, 0, none⟩ = false ∧ W.frozen? ⟨w.heap.size + 1, 1, none⟩ = false :=
  ⟨_, rfl, by exact belC (Below.refl _ _), by simp, by go_simp, by go_simp, by go_simp, by go_simp, by go_simp, by go_simp⟩
theorem good_len {p : Proj} (h : goodB p = true) : 1 ≤ p.chains.length ∧ p.chains.length ≤ 4 := by
  have hg : p.good := of_decide_eq_true h
  obtain ⟨-, -, h0, h1, -⟩ := hg
  exact ⟨by omega, by omega⟩
set_option maxHeartbeats 1000000 in
theorem placeOf_any (S : Nat → Prop) (w : World) (p : Proj) (a : Option Addr) (c : Nat) (x : Int) (h : ListsAt S w a p.chains) :
    Calls Tryz.prog 64 #[.agg #[.int .i64 p.epoch, .slice a p.chains.length c], .int .i64 x] w (OfPost w (ofP p x)) := by
  obtain ⟨W0, hW0, hB0, hz0, p0, p1, r0, r1, g0, g1⟩ := pl_boxes w 24 127 (.int .i64 p.epoch) (.slice a p.chains.length c)
  have hgd := good_any S W0 p.epoch a c p.chains (h.mod (F := none') (Mod.of_below hB0) (fun _ _ _ => id))
  have HW0 := Lib.hid hW0
  obtain ⟨g, hg⟩ : ∃ g, g = goodB ⟨p.epoch, p.chains⟩ := ⟨_, rfl⟩
  rw [← hg] at hgd
  have Hg := Lib.hid hg
  obtain ⟨r, hr⟩ : ∃ r, r = ofP p x := ⟨_, rfl⟩
  rw [← hr]
  have Hr := Lib.hid hr
  clear hW0 h hg hr
  go_enter Tryz.func64, Tryz.ntmps64
  go_wp2_with fail
  rw [← HW0.out]
  refine hgd.mono ?_
  clear hgd
  rintro e w1 ⟨rfl, hB1⟩
  have hz1 := hB1.size
  have l0 : w.heap.size < W0.heap.size := by omega
  have l1 : w.heap.size + 1 < W0.heap.size := by omega
  replace p0 := below_at hB1 p0 l0
  replace p1 := below_at hB1 p1 l0
  replace r0 := below_at hB1 r0 l1
  replace r1 := below_at hB1 r1 l1
  replace g0 := (hB1.frozen (p := ⟨w.heap.size + 1, 0, none⟩) l1).trans g0
  replace g1 := (hB1.frozen (p := ⟨w.heap.size + 1, 1, none⟩) l1).trans g1
  have HB1 := Lib.hid (hB0.trans (hB1.mono (by omega)))
  clear hB1 hB0
  have hno : ¬ (goodB p = true ∧ 0 ≤ x ∧ x < 16384) → r = (0, 0, false) := fun hn => by rw [Hr.out]; unfold ofP; rw [if_neg hn]
  have Hno := Lib.hid hno
  clear hno
  cases g
  · go_wp2_with fail
    refine bodyPost_ret (v := .tuple #[.agg #[.int .i64 0, .int .i64 0], .bool false]) (by simp only [results, Tryz.results64]; go_simp) rfl ?_
    rw [Hno.out (fun hh => absurd hh.1 (by simp [show goodB p = false from Hg.out.symm]))]
    exact ⟨rfl, by exact belC HB1.out⟩
  · by_cases hx0 : x < 0
    · go_wp2_with fail
      refine bodyPost_ret (v := .tuple #[.agg #[.int .i64 0, .int .i64 0], .bool false]) (by simp only [results, Tryz.results64]; go_simp) rfl ?_
      rw [Hno.out (fun hh => absurd hh.2.1 (by omega))]
      exact ⟨rfl, by exact belC HB1.out⟩
    · have hx0' : 0 ≤ x := by omega
      by_cases hx1 : x < 16384
      · clear hx0
        have hl := good_len (show goodB p = true from Hg.out.symm)
        have hok : r = (x % p.chains.length, x / p.chains.length, true) := by rw [Hr.out]; unfold ofP; rw [if_pos ⟨Hg.out.symm, hx0', hx1⟩]
        have n1 : (1 : Int) ≤ p.chains.length := by omega
        have n2 : (p.chains.length : Int) ≠ 0 := by omega
        have Hok := Lib.hid hok
        have Hl := Lib.hid hl
        clear hok hl
        go_wp2_with fail
        go_region
        go_wp2_with fail
        refine bodyPost_ret (v := .tuple #[.agg #[.int .i64 (x % p.chains.length), .int .i64 (x / p.chains.length)], .bool true]) (by simp only [results, Tryz.results64]; go_simp) rfl ?_
        rw [Hok.out]
        exact ⟨rfl, by exact belC HB1.out⟩
      · have hx1' : 16384 ≤ x := by omega
        clear hx0
        go_wp2_with fail
        refine bodyPost_ret (v := .tuple #[.agg #[.int .i64 0, .int .i64 0], .bool false]) (by simp only [results, Tryz.results64]; go_simp) rfl ?_
        rw [Hno.out (fun hh => absurd hh.2.2 (by omega))]
        exact ⟨rfl, by exact belC HB1.out⟩
/-- the units of an address's chain -/
def chainP (p : Proj) (a : Int) : List Int := if (ofP p a).2.2 = true then p.chains.getD (ofP p a).1.toNat [] else []
theorem ofP_ok {p : Proj} {x : Int} (h : (ofP p x).2.2 = true) : goodB p = true ∧ 0 ≤ x ∧ x < 16384 ∧ ofP p x = (x % p.chains.length, x / p.chains.length, true) := by
  unfold ofP at h ⊢
  split
  · rename_i h'
    exact ⟨h'.1, h'.2.1, h'.2.2, rfl⟩
  · rename_i h'
    rw [if_neg h'] at h
    cases h
theorem ofP_lt {p : Proj} {x : Int} (h : (ofP p x).2.2 = true) : ∃ k : Nat, (ofP p x).1 = k ∧ k < p.chains.length := by
  obtain ⟨h1, h2, h3, h4⟩ := ofP_ok h
  have hl := good_len h1
  rw [h4]
  have e0 : 0 ≤ x % (p.chains.length : Int) := Int.emod_nonneg _ (by omega)
  have e1 : x % (p.chains.length : Int) < p.chains.length := Int.emod_lt_of_pos _ (by omega)
  exact ⟨(x % (p.chains.length : Int)).toNat, by simp only; omega, by omega⟩
set_option maxHeartbeats 1000000 in
theorem placeChain_any (S : Nat → Prop) (w : World) (p : Proj) (a : Option Addr) (c : Nat) (x : Int) (h : ListsAt S w a p.chains) :
    Calls Tryz.prog 65 #[.agg #[.int .i64 p.epoch, .slice a p.chains.length c], .int .i64 x] w (SlicePost w (chainP p x)) := by
  obtain ⟨W0, hW0, hB0, hz0, p0, p1⟩ := oneBox w 24 (.int .i64 p.epoch) (.slice a p.chains.length c)
  have hl0 := h.mod (F := none') (Mod.of_below hB0) (fun _ _ _ => id)
  have hof := placeOf_any S W0 p a c x hl0
  have HW0 := Lib.hid hW0
  have HL0 := Lib.hid hl0
  obtain ⟨l, hl⟩ : ∃ l, l = chainP p x := ⟨_, rfl⟩
  rw [← hl]
  have Hl := Lib.hid hl
  obtain ⟨r, hr⟩ : ∃ r, r = ofP p x := ⟨_, rfl⟩
  rw [← hr] at hof
  have Hr := Lib.hid hr
  obtain ⟨r0, r1, rb⟩ := r
  clear hW0 h hl0 hl hr
  go_enter Tryz.func65, Tryz.ntmps65
  go_wp2_with fail
  rw [← HW0.out]
  refine hof.mono ?_
  clear hof
  rintro e w1 ⟨rfl, hB1⟩
  have hz1 := hB1.size
  have l0 : w.heap.size < W0.heap.size := by omega
  replace p0 := below_at hB1 p0 l0
  replace p1 := below_at hB1 p1 l0
  have HB1 := Lib.hid (hB0.trans (hB1.mono (by omega)))
  have HBW := Lib.hid hB1
  clear hB1 hB0
  have l1 : w.heap.size < w1.heap.size := by omega
  cases rb
  · go_wp2_with fail
    go_ret
    have hnil : l = [] := by rw [Hl.out]; unfold chainP; rw [← Hr.out]; rfl
    subst hnil
    have hz2 := HB1.out.size
    exact ⟨none, 0, rfl, IntsAt.nil _ _ _, by exact belC HB1.out, by simp, by omega⟩
  · have hok : (ofP p x).2.2 = true := by rw [← Hr.out]
    obtain ⟨k, hk, hkl⟩ := ofP_lt hok
    have hk' : r0 = k := by have := Hr.out; rw [← this] at hk; exact hk
    subst hk'
    have hlk : l = p.chains.getD k [] := by rw [Hl.out]; unfold chainP; rw [if_pos hok, ← Hr.out]; simp
    obtain ⟨b, off, rfl, -, hb, hc⟩ := HL0.out.2 (by omega)
    obtain ⟨ia, ic, c1, c2, c3⟩ := hc k hkl
    rw [← hlk] at c1 c2 c3
    have k0 : (0 : Int) ≤ k := by omega
    have k1 : (k : Int) < p.chains.length := by omega
    replace c1 := below_at HBW.out c1 hb
    have hb1 : b < w1.heap.size := by omega
    have hcl := fun o => clone_any S (w1.alloc o) ia ic l (by rw [hlk]; have := (good_small (of_decide_eq_true (show decide p.good = true from (ofP_ok hok).1))).2 k hkl; omega) ((c2.mod (F := none') (Mod.of_below HBW.out) (fun _ _ _ => id)).mod (F := none') ((Mod.refl none' w1).alloc o) (fun _ _ _ => id))
    clear hok hk hkl hlk hc c2 c3
    go_wp2_with fail
    refine (hcl _).mono ?_
    clear hcl
    rintro e w2 ⟨a2, b2, rfl, hl2, hB2, hcap⟩
    go_wp2_with fail
    go_ret
    have hz2 := HB1.out.size
    have hza : w1.heap.size + 1 ≤ w2.heap.size := by have := hB2.size; rwa [World.size_alloc] at this
    exact ⟨a2, b2, rfl, hl2.sub (fun j _ hj => by have hj : (w1.alloc _).heap.size ≤ j := hj; rw [World.size_alloc] at hj; show w.heap.size ≤ j; omega), (HB1.out.alloc hz2 _).trans (hB2.mono (by rw [World.size_alloc]; omega)), hcap⟩
end Go.Proofs.YtghdhhbpbmhooaaGreat
