import Derived.Test.YtchidgpaejkaiaaLayout
/- the layout: the units that were used; what counts -/
namespace Go.Proofs.Ytchidgpaejkaiaa
open Go.RowKit Esch

theorem ranges_own_ne {w : World} {mb r B : Nat} {K V : Type} {κ : K → Value} {ν : V → Value} {m left : List (K × V)} {v : Value} {l : List Int} (hR : Ranges w mb r κ ν m left) (hO : OwnI w B v l) : v.ownBlock ≠ some mb ∧ v.ownBlock ≠ some r := by
  obtain ⟨es, clock, since, seen, c0, h⟩ := hR
  rcases hO.2 with ⟨rfl, -⟩ | ⟨g, cap, cur, rfl, -, hg, -⟩
  · exact ⟨by simp [Value.ownBlock], by simp [Value.ownBlock]⟩
  · refine ⟨fun e => ?_, fun e => ?_⟩
    · have e : g = mb := Option.some.inj e
      rw [e, h.map.block] at hg; cases hg
    · have e : g = r := Option.some.inj e
      rw [e, h.iter] at hg; cases hg
def UsedRel (w : World) (mb r : Nat) (m : List (Int × Int)) (g : Nat) (s3 : Value) (wr : World) : Prop :=
  ∃ (left : List (Int × Int)) (ss : List Int) (va : Option Addr) (vc : Nat), g = left.length ∧ s3 = .slice va ss.length vc ∧ OwnI wr w.heap.size (.slice va ss.length vc) ss ∧ Ranges wr mb r κs1 κint m left ∧
    (ss ++ left.map (·.1)).Perm (m.map (·.1)) ∧ ss.length + left.length = m.length ∧ Below w.heap.size w wr

set_option maxRecDepth 100000 in
set_option maxHeartbeats 2000000 in
theorem layUsed_any (S : Nat → Prop) (w : World) (b mb T : Nat) (s : LayS) (hs : s.ok) (h : LayAt S w b mb T s) :
    Calls Try.prog 23 #[.pointer (some ⟨b, 0, none⟩)] w (SlicePost w (unitsOf s.used)) := by
  have hmap := h.map
  have h2 := h.c2
  have hl := h.lt
  obtain ⟨m, es, clock, hm1, hg⟩ := hmap
  have Hg := Lib.hid hg
  have Happ := Lib.hid hm1.apart
  clear hg
  have hmem : ∀ x, x ∈ m.map (·.1) ↔ x ∈ s.used := by
    intro x
    rw [← (Hg.out x).2]
    constructor
    · intro h
      obtain ⟨p, hp, rfl⟩ := List.mem_map.1 h
      rw [(mem_iff_get Happ.out p.1 p.2).1 hp]; rfl
    · intro h
      obtain ⟨n, hn⟩ := Option.isSome_iff_exists.1 h
      exact List.mem_map.2 ⟨(x, n), (mem_iff_get Happ.out x n).2 hn, rfl⟩
  have hlen : m.length ≤ 16 := by
    have h1 := (length_unitsOf_iff (m.map (·.1))).2 Happ.out
    rw [unitsOf_congr hmem, List.length_map] at h1
    have := units_len hs.used
    omega
  have hne : 0 < m.length := by
    rcases Nat.eq_zero_or_pos m.length with e | hp
    · exfalso
      have e := List.length_eq_zero_iff.1 e
      subst e
      apply good_units hs.good
      rw [List.eq_nil_iff_forall_not_mem]
      intro x hx
      have := (hmem x).2 (hs.has x hx)
      simp at this
    · exact hp
  have Hmem := Lib.hid hmem
  clear hmem
  go_enter Try.func23, Try.ntmps23
  go_wp2_with (at_range; refine wpList_range_map rfl _ _ rfl _ _ Try.underlying63 rfl hm1 ?_; intro w2 hR2 e2)
  go_frame
  have hB2 : Below w.heap.size w w2 := by rw [e2]; exact (Below.refl _ _).alloc (Nat.le_refl _) _
  clear e2 hm1 h hl h2
  obtain ⟨r, hr⟩ : ∃ r, r = w.heap.size := ⟨_, rfl⟩
  rw [← hr] at hR2 ⊢
  have hrw : w.heap.size ≤ r := by omega
  clear hr
  go_loopg [3] m.length (fun g s3 wr => UsedRel w mb r m g s3 wr)
  case atStart => exact ⟨m, [], none, 0, rfl, rfl, OwnI.nil _ _, hR2, by simp, by simp, hB2⟩
  case round =>
    clear hR2 hB2
    obtain ⟨left, ss, va, vc, rfl, rfl, hO, hR, hC, hcs, hB⟩ := hrel
    obtain ⟨hon1, hon⟩ := ranges_own_ne hR hO
    have HC := Lib.hid hC
    have Hcs := Lib.hid hcs
    have hsl : ss.length ≤ 16 := by omega
    clear hC hcs
    go_wp2_with (at_next; refine wpList_next_map rfl _ rfl rfl hR ?_ ?_)
    · intro hl0
      have HL := Lib.hid hl0
      have hpm : ss.Perm (m.map (·.1)) := by have := HC.out; rw [hl0] at this; simpa using this
      have hss : 0 < ss.length := by have := hpm.length_eq; simp at this; omega
      clear hl0
      obtain ⟨va', vc', hv, hI, hcp1, hcp2, -, hgg⟩ := hO.ints
      injection hv with e1 _ e3
      subst e1 e3
      obtain ⟨g, off, e, hgB, hgb, -⟩ := hI.2 hss
      obtain ⟨g2, hgx⟩ := hgg _ e
      have ho : off = 0 := by cases hgx; rfl
      subst ho
      subst e
      clear hgx hgg
      have hso := sort_any wr w.heap.size g vc ss hO (by omega) hss
      have HS := Lib.hid (sorted_units (us := s.used) (hpm.nodup_iff.2 Happ.out) (fun x => by rw [hpm.mem_iff, Hmem.out]))
      have hgB' : w.heap.size ≤ g := hgB
      go_wp2_with fail
      refine hso.mono ?_
      clear hso
      rintro e w3 ⟨rfl, hM, hcell⟩
      have Hcell := Lib.hid hcell
      clear hcell
      go_wp2_with fail
      go_ret
      have hlu : ss.length = (unitsOf s.used).length := by rw [← HS.out, List.length_mergeSort]
      refine ⟨some ⟨g, 0, none⟩, vc, by rw [← hlu]; rfl, ⟨by rw [← hlu]; exact hI.1, fun _ => ⟨g, 0, rfl, hgB', Nat.lt_of_lt_of_le hgb hM.size, fun i hi => ?_⟩⟩, hB.trans (hM.below_at hB.size (fun k hk e => by omega)), by rw [← hlu]; exact hcp1, hcp2⟩
      rw [← hlu] at hi
      have := Hcell.out i hi
      rwa [HS.out] at this
    · intro pre u n post w3 hl hR3 hg3 hs3 hen
      have HL := Lib.hid hl
      have hB3 : Below w.heap.size w w3 := hB.grown hg3 hB.size (fun k e => by cases e; exact hrw)
      have hO3 : OwnI w3 w.heap.size (.slice va ss.length vc) ss := World.ownsRow.kept hO hg3 (Or.inr hon)
      have hz3 := hB3.size
      have hr3 := hR3.lt.2
      have hsz3 := hB3.size
      clear hl hg3 hs3 hR hB hO
      simp only [κs1, κint] at hen ⊢
      go_wp2_with (at_builtin; refine wpList_appendI (by rfl) (.tmp 16) (.tmp 19) (by rfl) (fun k => k = w3.heap.size + 1) w.heap.size (.slice va ss.length vc) ss [u] _ 1 1 (by rfl) (by rfl) (by rfl) ((hO3.alloc _).alloc _) (by have := IntsAt.new (w3.alloc (.cells #[.int .i64 u] 68)) u 3; rwa [World.size_alloc] at this) (by simp only [List.length_cons, List.length_nil]; omega) (by simp only [World.size_alloc]; omega) ?_; intro v4 w4 hO4 hb4 hg4)
      obtain ⟨va4, vc4, rfl, hI4, -⟩ := hO4.ints
      have hB4 : Below w.heap.size w w4 := Below.trans (by (repeat (first | with_reducible exact hB3 | with_reducible refine Below.drew ?_ | with_reducible refine Esch.below_drewN ?_ _ | with_reducible refine Below.setCell ?_ (by first | omega | (simp; done) | (simp; omega)) _ | with_reducible refine Below.alloc ?_ (by first | omega | (simp; done) | (simp; omega)) _))) hb4
      have hmb3 := hR3.lt.1
      go_roundg (pre ++ post).length
      case measure => rw [HL.out]; simp
      case rel =>
        refine ⟨pre ++ post, ss ++ [u], va4, vc4, rfl, by go_num, hO4, ?_, ?_, ?_, hB4⟩
        · refine hR3.of_blocks ?_ ?_
          · rw [hg4.block mb (by simp only [World.size_alloc]; omega) (fun e => hon1 e.symm), Below.heap_alloc _ _ _ (by simp only [World.size_alloc]; omega), Below.heap_alloc _ _ _ hmb3]
          · rw [hg4.block r (by simp only [World.size_alloc]; omega) (fun e => hon e.symm), Below.heap_alloc _ _ _ (by simp only [World.size_alloc]; omega), Below.heap_alloc _ _ _ hr3]
        · refine List.Perm.trans ?_ HC.out
          rw [HL.out]
          simp only [List.map_append, List.map_cons, List.append_assoc, List.singleton_append]
          exact List.Perm.append_left ss List.perm_middle.symm
        · have := Hcs.out; rw [HL.out] at this; simp at this ⊢; omega
end Go.Proofs.Ytchidgpaejkaiaa
