/- the document's units of a projection -/
import Derived.Test.YtghdhhbpbmhooaaGreatCopyK
import Derived.Deep.RegionLaw
namespace Go.Proofs.YtghdhhbpbmhooaaGreat
open Go.RowKit Esch

def HasRel (w0 : World) (l : List Int) (x : Int) (g : Nat) (s5 : Value) (wr : World) : Prop :=
  ∃ k : Nat, g = l.length - k ∧ k ≤ l.length ∧ s5 = .int .i64 k ∧ (∀ j, j < k → l.getD j 0 ≠ x) ∧ wr = w0
theorem mem_at {l : List Int} {x : Int} {k : Nat} (hk : k < l.length) (h : l.getD k 0 = x) : decide (x ∈ l) = true := by
  rw [decide_eq_true_eq, ← h, List.getD_eq_getElem?_getD, List.getElem?_eq_getElem hk, Option.getD_some]
  exact List.getElem_mem hk
theorem mem_out {l : List Int} {x : Int} (h : ∀ j, j < l.length → l.getD j 0 ≠ x) : decide (x ∈ l) = false := by
  rw [decide_eq_false_iff_not]
  intro hm
  obtain ⟨i, hi, rfl⟩ := List.mem_iff_getElem.1 hm
  exact h i hi (by rw [List.getD_eq_getElem?_getD, List.getElem?_eq_getElem hi, Option.getD_some])
set_option maxHeartbeats 1000000 in
theorem has_any (S : Nat → Prop) (w : World) (a : Option Addr) (c : Nat) (l : List Int) (x : Int) (h : IntsAt S w a l) :
    Calls Tryz.prog 41 #[.slice a l.length c, .int .i64 x] w fun e w' => e = .returned (.bool (decide (x ∈ l))) ∧ w = w' := by
  obtain ⟨hm, h⟩ := h
  have H := Lib.hid h
  clear h
  go_enter Tryz.func41, Tryz.ntmps41
  go_wp2_with fail
  go_loopg [5] l.length (fun g s5 wr => HasRel w l x g s5 wr)
  case atStart => exact ⟨0, rfl, Nat.zero_le _, rfl, fun j hj => absurd hj (by omega), rfl⟩
  case round =>
    obtain ⟨k, rfl, hk, rfl, hj, rfl⟩ := hrel
    have Hj := Lib.hid hj
    clear hj
    by_cases hlt : k < l.length
    · obtain ⟨b, off, rfl, -, hb, hc⟩ := H.out (by omega)
      have hc1 := hc k hlt
      clear hc
      generalize hv : l.getD k 0 = v at hc1
      have Hv := Lib.hid hv
      clear hv
      have hk1 : (0 : Int) ≤ k := by omega
      have hk2 : (k : Int) < l.length := by omega
      by_cases hx : v = x
      · have hx' : (v == x) = true := by simp [hx]
        have HG := Lib.hid (mem_at hlt (Hv.out.trans hx))
        clear hx
        go_wp2_with fail
        go_ret
        rw [HG.out]
        exact ⟨rfl, rfl⟩
      · have hx' : (v == x) = false := by simp [hx]
        have Hx := Lib.hid hx
        clear hx
        go_wp2_with fail
        go_roundg (l.length - (k + 1))
        case measure => omega
        case rel =>
          refine ⟨k + 1, rfl, by omega, by go_num, fun j hj => ?_, rfl⟩
          by_cases e : j = k
          · subst e; rw [Hv.out]; exact Hx.out
          · exact Hj.out j (by omega)
    · have hk3 : k = l.length := by omega
      have HG := Lib.hid (mem_out (by rw [← hk3]; exact Hj.out))
      go_wp2_with fail
      go_ret
      rw [HG.out]
      exact ⟨rfl, rfl⟩

def UnitsR (W0 : World) (us : List Int) (s3 : Value) (wr : World) : Prop :=
  ∃ va vc, s3 = .slice va (unitsOf us).length vc ∧ OwnI wr W0.heap.size (.slice va (unitsOf us).length vc) (unitsOf us) ∧ Below W0.heap.size W0 wr
def UnitsRel1 (W0 : World) (ls : List (List Int)) (g : Nat) (s3 s4 : Value) (wr : World) : Prop :=
  ∃ k : Nat, g = ls.length - k ∧ k ≤ ls.length ∧ s4 = .int .i64 k ∧ UnitsR W0 (ls.take k).flatten s3 wr
def UnitsRel2 (W0 : World) (pre l : List Int) (g : Nat) (s3 s5 : Value) (wr : World) : Prop :=
  ∃ k : Nat, g = l.length - k ∧ k ≤ l.length ∧ s5 = .int .i64 k ∧ UnitsR W0 (pre ++ l.take k) s3 wr
def UnitsRel3 (wo : World) (l : List Int) (u : Int) (g : Nat) (s7 : Value) (wr : World) : Prop :=
  ∃ k : Nat, g = l.length - k ∧ k ≤ l.length ∧ s7 = .int .i64 k ∧ (∀ i, i < k → l.getD i 0 < u) ∧ wr = wo

/-- at most 50 lists of at most 4000 numbers each -/
def SmallB (ls : List (List Int)) : Prop := ls.length ≤ 50 ∧ ∀ i, i < ls.length → (ls.getD i []).length ≤ 4000
set_option maxRecDepth 100000 in
theorem smallB_flat {ls : List (List Int)} (h : SmallB ls) (k : Nat) : (ls.take k).flatten.length ≤ 50 * 4000 := by
  obtain ⟨h1, h2⟩ := h
  have key : ∀ k, k ≤ ls.length → (ls.take k).flatten.length ≤ k * 4000 := by
    intro k
    induction k with
    | zero => simp
    | succ k ih =>
      intro hk
      rw [take_getD' (by omega), List.flatten_append, List.length_append]
      have := ih (by omega)
      have := h2 k (by omega)
      simp only [List.flatten_cons, List.flatten_nil, List.append_nil]
      omega
  rcases Nat.lt_or_ge ls.length k with hk | hk
  · rw [List.take_of_length_le (by omega)]
    have := key ls.length (Nat.le_refl _)
    rw [List.take_of_length_le (by omega)] at this
    omega
  · have := key k hk
    omega
set_option maxRecDepth 100000 in
set_option maxHeartbeats 4000000 in
theorem runits_big (S : Nat → Prop) (w : World) (ep : Int) (a : Option Addr) (c : Nat) (ls : List (List Int)) (hs : SmallB ls) (h : ListsAt S w a ls) :
    Calls Tryz.prog 40 #[.agg #[.int .i64 ep, .slice a ls.length c]] w (SlicePost w (unitsOf ls.flatten)) := by
  have Hs := Lib.hid hs
  have hn := hs.1
  clear hs
  obtain ⟨hm, h⟩ := h
  have H := Lib.hid h
  clear h
  go_enter Tryz.func40, Tryz.ntmps40
  go_wp2_with fail
  have hB0 : Below w.heap.size w (w.alloc (.cells #[.int .i64 ep, .slice a ls.length c] 24)) := by exact belC (Below.refl _ _)
  have q1 : (w.alloc (.cells #[.int .i64 ep, .slice a ls.length c] 24)).cell? ⟨w.heap.size, 1, none⟩ = some (.slice a ls.length c) := by go_simp
  have hsz : w.heap.size < (w.alloc (.cells #[.int .i64 ep, .slice a ls.length c] 24)).heap.size := by simp
  generalize w.alloc (.cells #[.int .i64 ep, .slice a ls.length c] 24) = W0 at *
  obtain ⟨qb, hqb⟩ : ∃ qb, qb = w.heap.size := ⟨_, rfl⟩
  rw [← hqb] at q1 ⊢
  have hq0 : qb < W0.heap.size := by omega
  have hq1 : w.heap.size ≤ qb := by omega
  have hq2 : qb ≤ w.heap.size := by omega
  clear hqb
  go_loopg [3, 4] ls.length (fun g s3 s4 wr => UnitsRel1 W0 ls g s3 s4 wr)
  case atStart => exact ⟨0, rfl, Nat.zero_le _, rfl, none, 0, rfl, OwnI.nil _ _, Below.refl _ _⟩
  case round =>
    obtain ⟨k, rfl, hk, rfl, va, vc, rfl, hO, hB⟩ := hrel
    have t1 := below_at hB q1 hq0
    by_cases hlt : k < ls.length
    · obtain ⟨b, off, rfl, -, hb, hc⟩ := H.out (by omega)
      obtain ⟨ia, ic, hc1, hi1, -⟩ := hc k hlt
      clear hc
      have hl50 := Hs.out.2 k hlt
      have hfl := smallB_flat Hs.out k
      have HT := Lib.hid (flat_take hlt)
      replace hc1 := below_at hB0 hc1 hb
      have hbW : b < W0.heap.size := by omega
      have hi2 := hi1.mod (Mod.of_below (F := none') hB0) (fun _ _ _ => id)
      have hIB : IntsAt (fun j => j < W0.heap.size) W0 ia (ls.getD k []) := hi2.sub fun j hj _ => hj
      obtain ⟨hi0, hi3⟩ := hIB
      have HI := Lib.hid hi3
      clear hi1 hi2 hi3
      have hk1 : (0 : Int) ≤ k := by omega
      have hk2 : (k : Int) < ls.length := by omega
      generalize ls.getD k [] = l at *
      generalize (ls.take k).flatten = pre at *
      have t2 := below_at hB hc1 hbW
      go_wp2_with fail
      obtain ⟨wo, rfl⟩ : ∃ wo : World, wo = wr := ⟨_, rfl⟩
      go_loopg [3, 5] l.length (fun g s3 s5 wr => UnitsRel2 W0 pre l g s3 s5 wr)
      case atStart => exact ⟨0, rfl, Nat.zero_le _, rfl, va, vc, by simp, by simpa using hO, hB⟩
      case round =>
        clear hO hB t1 t2
        obtain ⟨j, rfl, hj, rfl, va, vc, rfl, hO, hB⟩ := hrel
        have t1 := below_at hB q1 hq0
        have t2 := below_at hB hc1 hbW
        by_cases hlt2 : j < l.length
        · obtain ⟨b2, off2, rfl, -, hb2, hcj⟩ := HI.out (by omega)
          have t3 := below_at hB (hcj j hlt2) (by omega)
          clear hcj
          have HX := Lib.hid (take_getD hlt2)
          have HU := Lib.hid (unitsOf_snoc (pre ++ l.take j) (l.getD j 0))
          have hlen : (unitsOf (pre ++ l.take j)).length ≤ 50 * 4000 + 4000 := length_unitsOf_le (by simp; omega)
          have HUS : Hid (unitsOf (pre ++ l.take (j + 1)) = insU (l.getD j 0) (unitsOf (pre ++ l.take j))) := Lib.hid (by rw [HX.out, ← List.append_assoc, HU.out])
          clear HX HU
          generalize l.getD j 0 = u at *
          have hj1 : (0 : Int) ≤ j := by omega
          have hj2 : (j : Int) < l.length := by omega
          generalize hus : unitsOf (pre ++ l.take j) = us at *
          have Hus := Lib.hid hus
          clear hus
          obtain ⟨va', vc', hv, hI, hcap, hcm, hnil, hsome⟩ := hO.ints
          obtain ⟨hva, -, hvc⟩ : va = va' ∧ True ∧ vc = vc' := by injection hv with h1 _ h3; exact ⟨h1, trivial, h3⟩
          subst hva hvc
          clear hv
          have HI0 := Lib.hid hI
          obtain ⟨hI0, hI1⟩ := hI
          have HII := Lib.hid hI1
          have Hnil := Lib.hid hnil
          have Hsome := Lib.hid hsome
          clear hI1 hnil hsome
          go_wp2_with fail
          obtain ⟨wi, rfl⟩ : ∃ wi : World, wi = wr := ⟨_, rfl⟩
          go_loopg [7] us.length (fun g s7 wr => UnitsRel3 wi us u g s7 wr)
          case atStart => exact ⟨0, rfl, Nat.zero_le _, rfl, fun i hi => absurd hi (by omega), rfl⟩
          case round =>
            obtain ⟨m, rfl, hm3, rfl, hlo, rfl⟩ := hrel
            have Hlo := Lib.hid hlo
            clear hlo
            by_cases hlt3 : m < us.length
            · obtain ⟨b3, off3, rfl, -, hb3, hcm3⟩ := HII.out (by omega)
              have t4 := hcm3 m hlt3
              clear hcm3
              have hm1 : (0 : Int) ≤ m := by omega
              have hm2 : (m : Int) < us.length := by omega
              generalize hx : us.getD m 0 = x at t4
              have Hx := Lib.hid hx
              clear hx
              by_cases hxu : x < u
              · go_wp2_with fail
                go_roundg (us.length - (m + 1))
                case measure => omega
                case rel =>
                  refine ⟨m + 1, rfl, by omega, by go_num, fun i hi => ?_, rfl⟩
                  by_cases e : i = m
                  · subst e; rw [Hx.out]; exact hxu
                  · exact Hlo.out i (by omega)
              · by_cases hxe : x = u
                · have hxe' : (x != u) = false := by simp [hxe]
                  have HG := Lib.hid (insU_hit hlt3 Hlo.out (Hx.out.trans hxe))
                  clear hxe
                  have hxu' : u ≤ x := by omega
                  clear hxu
                  go_wp2_with fail
                  go_roundg (l.length - (j + 1))
                  case measure => omega
                  case rel =>
                    refine ⟨j + 1, rfl, by omega, by go_num, ?_⟩
                    unfold UnitsR
                    rw [HUS.out, HG.out]
                    exact ⟨_, vc, rfl, hO, hB⟩
                · have hxe' : (x != u) = true := by simp [hxe]
                  have hxu' : u < x := by omega
                  have HG := Lib.hid (insU_mid hlt3 Hlo.out (by rw [Hx.out]; exact hxu'))
                  have hmc1 : (0 : Int) ≤ m := by omega
                  have hmc2 : (m : Int) ≤ vc := by omega
                  have hmc3 : ¬ vc = m := by omega
                  have HDR := Lib.hid (HI0.out.drop m)
                  clear hxe hxu
                  go_wp2_with fail
                  have hIm := HI0.out
                  go_region_law
                    (first
                      | (refine step_appendI (by rfl) (.tmp 59) (.tmp 62) (by rfl) (From W0.heap.size) wr.heap.size _ [] (us.take m) _ m _ (by rfl) (by rfl) (by rw [List.length_take]; omega) (by first | exact OwnI.made wr.drew (Nat.le_refl _) | exact (OwnI.made wr.drew (Nat.le_refl _)).alloc _ | exact OwnI.made' wr.drew _ (Nat.le_refl _)) ((hIm.take m).mod (Mod.of_below (by exact belC (Below.refl _ wr))) (fun _ _ _ => id)) (by simp only [List.length_nil, List.length_take]; omega) (by simp only [World.size_alloc, drew_heap]; omega) ?_
                         intro v1 w1 hO1 hb1 hg1
                         have hB1 : Below wr.heap.size wr w1 := Below.trans (by exact belC (Below.refl _ wr)) hb1
                         have hz1 := hB1.size
                         try have hs : IntsAt (fun j => j = wr.heap.size + 1) w1 (some ⟨wr.heap.size + 1, 0, none⟩) [u] := IntsAt.grown (by have := IntsAt.new (wr.drew.alloc (.cells #[] 3)) u 3; rwa [World.size_alloc] at this) hg1 (fun k hk e => by have e := Option.some.inj e; simp only at e; omega)
                         try have hs : IntsAt (fun j => j = wr.heap.size) w1 (some ⟨wr.heap.size, 0, none⟩) [u] := IntsAt.grown ((IntsAt.new wr.drew u 3).allocd _) hg1 (fun k hk e => by have e := Option.some.inj e; simp only at e; omega)
                         clear hb1 hg1)
                      | (refine step_appendI (by rfl) (.tmp 63) (.tmp 65) (by rfl) _ wr.heap.size v1 ([] ++ us.take m) [u] _ 1 1 (by rfl) (by rfl) (by rfl) (by first | exact hO1 | exact hO1.alloc _) (by first | exact hs | exact IntsAt.new w1 u 3) (by simp only [List.length_append, List.length_nil, List.length_take, List.length_cons]; omega) (by first | exact hz1 | (simp only [World.size_alloc]; omega)) ?_
                         intro v2 w2 hO2 hb2 hg2
                         have hB2 : Below wr.heap.size wr w2 := Below.trans (by exact belC hB1) hb2
                         have hz2 := hB2.size
                         clear hb2 hg2)
                      | (refine step_appendI (by rfl) (.tmp 66) (.tmp 69) (by rfl) (From W0.heap.size) wr.heap.size v2 ([] ++ us.take m ++ [u]) (us.drop m) _ _ _ (by rfl) (by rfl) (by have := List.length_drop (i := m) (l := us); omega) hO2 (by first | exact IntsAt.mod HDR.out (Mod.of_below (F := none') hB2) (fun _ _ _ => id) | exact HDN.out _ _) (by simp only [List.length_append, List.length_nil, List.length_take, List.length_cons, List.length_drop]; omega) hz2 ?_
                         intro v3 w3 hO3 hb3 hg3
                         have hB3 : Below wr.heap.size wr w3 := hB2.trans hb3
                         clear hb3 hg3))
                  all_goals go_wp2_with fail
                  all_goals go_roundg (l.length - (j + 1))
                  all_goals first
                    | (show _ < _; omega)
                    | (refine ⟨j + 1, rfl, by omega, by go_num, ?_⟩
                       unfold UnitsR
                       rw [HUS.out, HG.out]
                       obtain ⟨va3, vc3, rfl, -⟩ := hO3.ints
                       rw [List.nil_append] at hO3
                       exact ⟨va3, vc3, by rw [List.nil_append], OwnI.mono hO3 hB.size, hB.trans (hB3.mono hB.size)⟩)
            · have hm4 : m = us.length := by omega
              have HG := Lib.hid (insU_end hm4 Hlo.out)
              have hmc1 : (0 : Int) ≤ m := by omega
              have hmc2 : (m : Int) ≤ vc := by omega
              have hbe : ((m : Int) == (us.length : Int)) = true := by simp [hm4]
              have HDN : Hid (∀ (a : Option Addr) (w : World), IntsAt (From W0.heap.size) w a (us.drop m)) := Lib.hid (fun a w => by rw [hm4, List.drop_length]; exact IntsAt.nil _ _ _)
              have hm5 : us.length ≤ m := by omega
              have hm6 : (us.length : Int) ≤ m := by omega
              clear hm4 hlt3
              cases va with
              | none =>
                have hvc := Hnil.out rfl
                have hus0 : us = [] := List.length_eq_zero_iff.1 (by omega)
                have hm00 : m = 0 := by omega
                subst hvc hus0 hm00
                go_wp2_with fail
                have hIm := HI0.out
                go_region_law
                  (first
                    | (refine step_appendI (by rfl) (.tmp 59) (.tmp 62) (by rfl) (From W0.heap.size) wr.heap.size _ [] (([] : List Int).take 0) _ 0 _ (by rfl) (by rfl) (by rw [List.length_take]; omega) (by first | exact OwnI.made wr.drew (Nat.le_refl _) | exact (OwnI.made wr.drew (Nat.le_refl _)).alloc _ | exact OwnI.made' wr.drew _ (Nat.le_refl _)) ((hIm.take 0).mod (Mod.of_below (by exact belC (Below.refl _ wr))) (fun _ _ _ => id)) (by simp only [List.length_nil, List.length_take]; omega) (by simp only [World.size_alloc, drew_heap]; omega) ?_
                       intro v1 w1 hO1 hb1 hg1
                       have hB1 : Below wr.heap.size wr w1 := Below.trans (by exact belC (Below.refl _ wr)) hb1
                       have hz1 := hB1.size
                       try have hs : IntsAt (fun j => j = wr.heap.size + 1) w1 (some ⟨wr.heap.size + 1, 0, none⟩) [u] := IntsAt.grown (by have := IntsAt.new (wr.drew.alloc (.cells #[] 3)) u 3; rwa [World.size_alloc] at this) hg1 (fun k hk e => by have e := Option.some.inj e; simp only at e; omega)
                       try have hs : IntsAt (fun j => j = wr.heap.size) w1 (some ⟨wr.heap.size, 0, none⟩) [u] := IntsAt.grown ((IntsAt.new wr.drew u 3).allocd _) hg1 (fun k hk e => by have e := Option.some.inj e; simp only at e; omega)
                       clear hb1 hg1)
                    | (refine step_appendI (by rfl) (.tmp 63) (.tmp 65) (by rfl) _ wr.heap.size v1 ([] ++ ([] : List Int).take 0) [u] _ 1 1 (by rfl) (by rfl) (by rfl) (by first | exact hO1 | exact hO1.alloc _) (by first | exact hs | exact IntsAt.new w1 u 3) (by simp only [List.length_append, List.length_nil, List.length_take, List.length_cons]; omega) (by first | exact hz1 | (simp only [World.size_alloc]; omega)) ?_
                       intro v2 w2 hO2 hb2 hg2
                       have hB2 : Below wr.heap.size wr w2 := Below.trans (by exact belC hB1) hb2
                       have hz2 := hB2.size
                       clear hb2 hg2)
                    | (refine step_appendI (by rfl) (.tmp 66) (.tmp 69) (by rfl) (From W0.heap.size) wr.heap.size v2 ([] ++ ([] : List Int).take 0 ++ [u]) (([] : List Int).drop 0) _ _ _ (by rfl) (by rfl) (by have := List.length_drop (i := 0) (l := ([] : List Int)); omega) hO2 (by first | exact IntsAt.mod HDR.out (Mod.of_below (F := none') hB2) (fun _ _ _ => id) | exact HDN.out _ _) (by simp only [List.length_append, List.length_nil, List.length_take, List.length_cons, List.length_drop]; omega) hz2 ?_
                       intro v3 w3 hO3 hb3 hg3
                       have hB3 : Below wr.heap.size wr w3 := hB2.trans hb3
                       clear hb3 hg3))
                all_goals go_wp2_with fail
                all_goals go_roundg (l.length - (j + 1))
                all_goals first
                  | (show _ < _; omega)
                  | (refine ⟨j + 1, rfl, by omega, by go_num, ?_⟩
                     unfold UnitsR
                     rw [HUS.out, HG.out]
                     obtain ⟨va3, vc3, rfl, -⟩ := hO3.ints
                     rw [List.nil_append] at hO3
                     exact ⟨va3, vc3, by rw [List.nil_append], OwnI.mono hO3 hB.size, hB.trans (hB3.mono hB.size)⟩)
              | some x =>
                obtain ⟨g, rfl⟩ := Hsome.out x rfl
                by_cases hmc3 : vc = m
                · have hmc4 := hmc3.symm
                  subst hmc4
                  go_wp2_with fail
                  have hIm := HI0.out
                  go_region_law
                    (first
                      | (refine step_appendI (by rfl) (.tmp 59) (.tmp 62) (by rfl) (From W0.heap.size) wr.heap.size _ [] (us.take m) _ m _ (by rfl) (by rfl) (by rw [List.length_take]; omega) (by first | exact OwnI.made wr.drew (Nat.le_refl _) | exact (OwnI.made wr.drew (Nat.le_refl _)).alloc _ | exact OwnI.made' wr.drew _ (Nat.le_refl _)) ((hIm.take m).mod (Mod.of_below (by exact belC (Below.refl _ wr))) (fun _ _ _ => id)) (by simp only [List.length_nil, List.length_take]; omega) (by simp only [World.size_alloc, drew_heap]; omega) ?_
                         intro v1 w1 hO1 hb1 hg1
                         have hB1 : Below wr.heap.size wr w1 := Below.trans (by exact belC (Below.refl _ wr)) hb1
                         have hz1 := hB1.size
                         try have hs : IntsAt (fun j => j = wr.heap.size + 1) w1 (some ⟨wr.heap.size + 1, 0, none⟩) [u] := IntsAt.grown (by have := IntsAt.new (wr.drew.alloc (.cells #[] 3)) u 3; rwa [World.size_alloc] at this) hg1 (fun k hk e => by have e := Option.some.inj e; simp only at e; omega)
                         try have hs : IntsAt (fun j => j = wr.heap.size) w1 (some ⟨wr.heap.size, 0, none⟩) [u] := IntsAt.grown ((IntsAt.new wr.drew u 3).allocd _) hg1 (fun k hk e => by have e := Option.some.inj e; simp only at e; omega)
                         clear hb1 hg1)
                      | (refine step_appendI (by rfl) (.tmp 63) (.tmp 65) (by rfl) _ wr.heap.size v1 ([] ++ us.take m) [u] _ 1 1 (by rfl) (by rfl) (by rfl) (by first | exact hO1 | exact hO1.alloc _) (by first | exact hs | exact IntsAt.new w1 u 3) (by simp only [List.length_append, List.length_nil, List.length_take, List.length_cons]; omega) (by first | exact hz1 | (simp only [World.size_alloc]; omega)) ?_
                         intro v2 w2 hO2 hb2 hg2
                         have hB2 : Below wr.heap.size wr w2 := Below.trans (by exact belC hB1) hb2
                         have hz2 := hB2.size
                         clear hb2 hg2)
                      | (refine step_appendI (by rfl) (.tmp 66) (.tmp 69) (by rfl) (From W0.heap.size) wr.heap.size v2 ([] ++ us.take m ++ [u]) (us.drop m) _ _ _ (by rfl) (by rfl) (by have := List.length_drop (i := m) (l := us); omega) hO2 (by first | exact IntsAt.mod HDR.out (Mod.of_below (F := none') hB2) (fun _ _ _ => id) | exact HDN.out _ _) (by simp only [List.length_append, List.length_nil, List.length_take, List.length_cons, List.length_drop]; omega) hz2 ?_
                         intro v3 w3 hO3 hb3 hg3
                         have hB3 : Below wr.heap.size wr w3 := hB2.trans hb3
                         clear hb3 hg3))
                  all_goals go_wp2_with fail
                  all_goals go_roundg (l.length - (j + 1))
                  all_goals first
                    | (show _ < _; omega)
                    | (refine ⟨j + 1, rfl, by omega, by go_num, ?_⟩
                       unfold UnitsR
                       rw [HUS.out, HG.out]
                       obtain ⟨va3, vc3, rfl, -⟩ := hO3.ints
                       rw [List.nil_append] at hO3
                       exact ⟨va3, vc3, by rw [List.nil_append], OwnI.mono hO3 hB.size, hB.trans (hB3.mono hB.size)⟩)
                · go_wp2_with fail
                  have hIm := HI0.out
                  go_region_law
                    (first
                      | (refine step_appendI (by rfl) (.tmp 59) (.tmp 62) (by rfl) (From W0.heap.size) wr.heap.size _ [] (us.take m) _ m _ (by rfl) (by rfl) (by rw [List.length_take]; omega) (by first | exact OwnI.made wr.drew (Nat.le_refl _) | exact (OwnI.made wr.drew (Nat.le_refl _)).alloc _ | exact OwnI.made' wr.drew _ (Nat.le_refl _)) ((hIm.take m).mod (Mod.of_below (by exact belC (Below.refl _ wr))) (fun _ _ _ => id)) (by simp only [List.length_nil, List.length_take]; omega) (by simp only [World.size_alloc, drew_heap]; omega) ?_
                         intro v1 w1 hO1 hb1 hg1
                         have hB1 : Below wr.heap.size wr w1 := Below.trans (by exact belC (Below.refl _ wr)) hb1
                         have hz1 := hB1.size
                         try have hs : IntsAt (fun j => j = wr.heap.size + 1) w1 (some ⟨wr.heap.size + 1, 0, none⟩) [u] := IntsAt.grown (by have := IntsAt.new (wr.drew.alloc (.cells #[] 3)) u 3; rwa [World.size_alloc] at this) hg1 (fun k hk e => by have e := Option.some.inj e; simp only at e; omega)
                         try have hs : IntsAt (fun j => j = wr.heap.size) w1 (some ⟨wr.heap.size, 0, none⟩) [u] := IntsAt.grown ((IntsAt.new wr.drew u 3).allocd _) hg1 (fun k hk e => by have e := Option.some.inj e; simp only at e; omega)
                         clear hb1 hg1)
                      | (refine step_appendI (by rfl) (.tmp 63) (.tmp 65) (by rfl) _ wr.heap.size v1 ([] ++ us.take m) [u] _ 1 1 (by rfl) (by rfl) (by rfl) (by first | exact hO1 | exact hO1.alloc _) (by first | exact hs | exact IntsAt.new w1 u 3) (by simp only [List.length_append, List.length_nil, List.length_take, List.length_cons]; omega) (by first | exact hz1 | (simp only [World.size_alloc]; omega)) ?_
                         intro v2 w2 hO2 hb2 hg2
                         have hB2 : Below wr.heap.size wr w2 := Below.trans (by exact belC hB1) hb2
                         have hz2 := hB2.size
                         clear hb2 hg2)
                      | (refine step_appendI (by rfl) (.tmp 66) (.tmp 69) (by rfl) (From W0.heap.size) wr.heap.size v2 ([] ++ us.take m ++ [u]) (us.drop m) _ _ _ (by rfl) (by rfl) (by have := List.length_drop (i := m) (l := us); omega) hO2 (by first | exact IntsAt.mod HDR.out (Mod.of_below (F := none') hB2) (fun _ _ _ => id) | exact HDN.out _ _) (by simp only [List.length_append, List.length_nil, List.length_take, List.length_cons, List.length_drop]; omega) hz2 ?_
                         intro v3 w3 hO3 hb3 hg3
                         have hB3 : Below wr.heap.size wr w3 := hB2.trans hb3
                         clear hb3 hg3))
                  all_goals go_wp2_with fail
                  all_goals go_roundg (l.length - (j + 1))
                  all_goals first
                    | (show _ < _; omega)
                    | (refine ⟨j + 1, rfl, by omega, by go_num, ?_⟩
                       unfold UnitsR
                       rw [HUS.out, HG.out]
                       obtain ⟨va3, vc3, rfl, -⟩ := hO3.ints
                       rw [List.nil_append] at hO3
                       exact ⟨va3, vc3, by rw [List.nil_append], OwnI.mono hO3 hB.size, hB.trans (hB3.mono hB.size)⟩)
        · have hj3 : j = l.length := by omega
          go_wp2_with fail
          go_roundg (ls.length - (k + 1))
          case measure => omega
          case rel => exact ⟨k + 1, rfl, by omega, by go_num, va, vc, by rw [HT.out, hj3, List.take_length], by rw [HT.out]; rwa [hj3, List.take_length] at hO, hB⟩
    · have hk3 : k = ls.length := by omega
      subst hk3
      rw [List.take_length] at hO
      go_wp2_with fail
      go_ret
      obtain ⟨va', vc', hv, hI, hcp1, hcp2, -⟩ := hO.ints
      injection hv with h1 _ h3
      subst h1 h3
      refine ⟨va, vc, (by show Ending.returned (Value.slice va (unitsOf (List.take ls.length ls).flatten).length vc) = _; rw [List.take_length]), hI.sub (fun j _ hj => by show w.heap.size ≤ j; have : W0.heap.size ≤ j := hj; omega), hB0.trans (hB.mono (by omega)), hcp1, hcp2⟩
theorem runits_any (S : Nat → Prop) (w : World) (ep : Int) (a : Option Addr) (c : Nat) (ls : List (List Int)) (hs : Small ls) (h : ListsAt S w a ls) :
    Calls Tryz.prog 40 #[.agg #[.int .i64 ep, .slice a ls.length c]] w (SlicePost w (unitsOf ls.flatten)) :=
  runits_big S w ep a c ls ⟨hs.1, fun i hi => Nat.le_trans (hs.2 i hi) (by decide)⟩ h
end Go.Proofs.YtghdhhbpbmhooaaGreat
