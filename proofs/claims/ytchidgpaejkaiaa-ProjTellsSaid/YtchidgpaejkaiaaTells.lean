import Derived.Test.YtchidgpaejkaiaaNexts
import Derived.Test.YtchidgpaejkaiaaCopyS
import Derived.Test.YtchidgpaejkaiaaUnitsE
/- ProjTells: the walk -/
namespace Go.Proofs.Ytchidgpaejkaiaa
open Go.RowKit Esch

theorem projSame0 (w : World) (S S' : Nat → Prop) (e : Int) (a a' : Option Addr) (c c' : Nat) (l : List (List Int)) (h : ListsAt S w a l) (h' : ListsAt S' w a' l) :
    Calls Try.prog 20 #[.agg #[.int .i64 e, .slice a l.length c], .agg #[.int .i64 e, .slice a' l.length c']] w (BoolBelow w true) := by
  have := projection_any (fun _ => True) w e e a a' c c' l l (h.sub (fun _ _ _ => trivial)) (h'.sub (fun _ _ _ => trivial))
  rwa [decide_eq_true ⟨rfl, rfl⟩] at this
/-- what a copy's memory is, with its row named -/
def SepOut (B cb : Nat) (w : World) (a : Option Addr) (ls : List (List Int)) (g : Nat) (blk : Nat → Nat) : Prop := (0 < ls.length → a = some ⟨g, 0, none⟩) ∧ ∀ i, i < ls.length → B ≤ g ∧ g < cb ∧ ∃ ia ic, w.cell? ⟨g, i, none⟩ = some (.slice ia (ls.getD i []).length ic) ∧
  (0 < (ls.getD i []).length → ia = some ⟨blk i, 0, none⟩ ∧ blk i ≠ g ∧ B ≤ blk i ∧ blk i < cb ∧ (∀ o, w.frozen? ⟨blk i, o, none⟩ = false) ∧ (∀ k, k < (ls.getD i []).length → w.cell? ⟨blk i, k, none⟩ = some (.int .i64 ((ls.getD i []).getD k 0))) ∧ ∀ j, j < ls.length → j ≠ i → 0 < (ls.getD j []).length → blk j ≠ blk i)
theorem SepAt.out {B : Nat} {w w' : World} {a : Option Addr} {ls : List (List Int)} (h : SepAt B w a ls) (hB : Below w.heap.size w w') : ∃ g blk, SepOut B w.heap.size w' a ls g blk := by
  rcases h with rfl | ⟨g, blk, rfl, hg, hgl, h⟩
  · exact ⟨0, fun _ => 0, fun h => absurd h (by simp), fun i hi => absurd hi (by simp)⟩
  · refine ⟨g, blk, fun _ => rfl, fun i hi => ?_⟩
    obtain ⟨ia, ic, h1, h2⟩ := h i hi
    refine ⟨hg, hgl, ia, ic, below_at hB h1 hgl, fun h0 => ?_⟩
    obtain ⟨h3, h4, h5, h6, h7, h8, h9⟩ := h2 h0
    refine ⟨h3, h4, h5, h6, fun o => (hB.frozen (p := ⟨blk i, o, none⟩) h6).trans (h7 o), fun k hk => below_at hB (h8 k hk) h6, fun j hj hne hj0 => ?_⟩
    rcases Nat.lt_or_gt_of_ne hne with hlt | hgt
    · exact h9 j hlt hj0
    · obtain ⟨ja, jc, -, j2⟩ := h j hj
      exact fun e => (j2 hj0).2.2.2.2.2.2 i hgt h0 e.symm
/-- the copy's memory, where the cells from (i, k) on are as they were -/
structure TellAt (W3 : World) (blk : Nat → Nat) (ls : List (List Int)) (i k : Nat) (w : World) : Prop where
  mod : Mod (fun b => ∃ j, j < ls.length ∧ 0 < (ls.getD j []).length ∧ b = blk j) W3 w
  cells : ∀ j m, j < ls.length → m < (ls.getD j []).length → i < j ∨ (j = i ∧ k ≤ m) → w.cell? ⟨blk j, m, none⟩ = some (.int .i64 ((ls.getD j []).getD m 0))
  free : ∀ j, j < ls.length → 0 < (ls.getD j []).length → ∀ o, w.frozen? ⟨blk j, o, none⟩ = false
theorem TellAt.later {W3 w : World} {blk : Nat → Nat} {ls : List (List Int)} {i k i' k' : Nat} (h : TellAt W3 blk ls i k w) (hi : ∀ j m, i' < j ∨ (j = i' ∧ k' ≤ m) → i < j ∨ (j = i ∧ k ≤ m)) : TellAt W3 blk ls i' k' w :=
  ⟨h.mod, fun j m hj hm h' => h.cells j m hj hm (hi j m h'), h.free⟩
theorem TellAt.drew {W3 w : World} {blk : Nat → Nat} {ls : List (List Int)} {i k : Nat} (h : TellAt W3 blk ls i k w) : TellAt W3 blk ls i k w.drew := ⟨h.mod.drew, h.cells, h.free⟩
theorem TellAt.drewN {W3 w : World} {blk : Nat → Nat} {ls : List (List Int)} {i k : Nat} (h : TellAt W3 blk ls i k w) (n : Nat) : TellAt W3 blk ls i k (w.drewN n) := ⟨h.mod.drewN n, h.cells, h.free⟩
theorem TellAt.step {W3 w : World} {blk : Nat → Nat} {ls : List (List Int)} {i k : Nat} (h : TellAt W3 blk ls i k w) (hi : i < ls.length) (hk : k < (ls.getD i []).length) (hs : ∀ j, j < ls.length → j ≠ i → 0 < (ls.getD j []).length → blk j ≠ blk i) (v : Value) :
    TellAt W3 blk ls i (k + 1) (w.setCell ⟨blk i, k, none⟩ v) := by
  refine ⟨h.mod.setCellAt (fun _ => ⟨i, hi, by omega, rfl⟩) v, fun j m hj hm h' => ?_, fun j hj h0 o => ?_⟩
  · rw [World.cell?_setCell_other]
    · exact h.cells j m hj hm (by omega)
    · intro e
      injection e with e1 e2
      by_cases hji : j = i
      · subst hji; omega
      · exact hs j hj hji (by omega) e1.symm
  · have := h.free j hj h0 o
    simpa using this
def TellRel (W3 : World) (blk : Nat → Nat) (ls : List (List Int)) (g : Nat) (s : Value) (wr : World) : Prop := ∃ i : Nat, g = ls.length - i ∧ i ≤ ls.length ∧ s = .int .i64 i ∧ TellAt W3 blk ls i 0 wr
def TellIn (W3 : World) (blk : Nat → Nat) (ls : List (List Int)) (i : Nat) (l : List Int) (g : Nat) (s : Value) (wr : World) : Prop := ∃ k : Nat, g = l.length - k ∧ k ≤ l.length ∧ s = .int .i64 k ∧ TellAt W3 blk ls i k wr
set_option maxRecDepth 100000 in
set_option maxHeartbeats 2000000 in
theorem tells_walk (pe : Int) (pa : Option Addr) (pc : Nat) (ls : List (List Int)) (w : World) (hp : ListsAt (Old w) w pa ls) :
    Calls Try.prog 10 #[.agg #[.int .i64 pe, .slice pa ls.length pc]] w fun e w' => e = .returned (.bool true) ∧ Below w.heap.size w w' := by
  obtain ⟨W0, hW0, hB0, hz0, p0, p1⟩ := oneBox w 24 (.int .i64 pe) (.slice pa ls.length pc)
  have HW0 := Lib.hid hW0
  have Hp := Lib.hid hp
  have hl1 := largeProj_any _ W0 pe pa pc ls (old_below hp hB0)
  clear hW0 hp
  go_enter Try.func10, Try.ntmps10
  go_wp2_with fail
  rw [← HW0.out]
  refine hl1.mono ?_
  clear hl1
  rintro r w1 ⟨rfl, hB1⟩
  have Hsm : Hid (largeProj ls = false → Small ls) := Lib.hid small_ofL
  generalize largeProj ls = lg at Hsm ⊢
  have hz1 := hB1.size
  have hBw1 := hB0.trans (hB1.mono (by omega))
  replace p0 := below_at hB1 p0 (by omega)
  replace p1 := below_at hB1 p1 (by omega)
  cases lg
  · have HS := Lib.hid (Hsm.out rfl)
    clear Hsm hB1
    have hcp := copyK_any _ w1 pe pa pc ls HS.out (old_below Hp.out hBw1)
    go_wp2_with fail
    refine hcp.mono ?_
    clear hcp
    rintro r w2 ⟨a2, c2, rfl, hl2, hB2⟩
    have hz2 := hB2.size
    have hBw2 := hBw1.trans (hB2.mono (by omega))
    replace p0 := below_at hB2 p0 (by omega)
    replace p1 := below_at hB2 p1 (by omega)
    clear hB2
    obtain ⟨W2, hW2, hB2a, hz2a, n0, n1⟩ := oneBox w2 24 (.int .i64 pe) (.slice a2 ls.length c2)
    have HW2 := Lib.hid hW2
    have hcs := copyS_any _ W2 pe a2 c2 ls HS.out (hl2.mod (F := none') (Mod.of_below hB2a) (fun _ _ _ => id))
    rw [hW2] at hcs
    obtain ⟨nb, hnb⟩ : ∃ nb, nb = w2.heap.size := ⟨_, rfl⟩
    rw [← hnb] at n0 n1
    have hnbl : nb < W2.heap.size := by omega
    have Hnb := Lib.hid hnb
    clear hW2 hnb
    go_wp2_with fail
    rw [← Hnb.out]
    refine hcs.mono ?_
    clear hcs
    rintro r w3 ⟨a3, c3, rfl, -, hB3, hsep⟩
    rw [← HW2.out] at hB3 hsep
    have hz3 := hB3.size
    obtain ⟨W3, hW3, hB3a, hz3a, x0, x1⟩ := oneBox w3 24 (.int .i64 pe) (.slice a3 ls.length c3)
    have HW3 := Lib.hid hW3
    obtain ⟨cb, hcb⟩ : ∃ cb, cb = w3.heap.size := ⟨_, rfl⟩
    rw [← hcb] at x0 x1
    have hcbl : cb < W3.heap.size := by omega
    have hcb2 : W2.heap.size ≤ cb := by omega
    have Hcb := Lib.hid hcb
    have hB23 : Below W2.heap.size W2 W3 := hB3.trans (hB3a.mono (by omega))
    have hBW2 := hBw2.trans (hB2a.mono hBw2.size)
    have hBW3 := hBW2.trans (hB23.mono hBW2.size)
    have q0 := below_at hB23 (below_at hB2a p0 (by omega)) (by omega)
    have q1 := below_at hB23 (below_at hB2a p1 (by omega)) (by omega)
    have m0 := below_at hB23 n0 (by omega)
    have m1 := below_at hB23 n1 (by omega)
    have Hl2 := Lib.hid (((hl2.sub (T := fun k => k < w2.heap.size) (fun k hk _ => hk)).mod (F := none') (Mod.of_below hB2a) (fun _ _ _ => id)).mod (F := none') (Mod.of_below hB23) (fun _ _ _ => id))
    obtain ⟨g, blk, hsep⟩ := hsep.out hB3a
    rw [← hcb] at hsep
    have Hsep := Lib.hid hsep
    clear hW3 hcb hl2 hsep hB3 hB3a p0 p1 n0 n1
    go_wp2_with fail
    rw [← HW3.out, ← Hcb.out]
    have hT0 : TellAt W3 blk ls 0 0 W3 := ⟨Mod.refl _ _, fun j m hj hm _ => ((Hsep.out.2 j hj).2.2.choose_spec.choose_spec.2 (by omega)).2.2.2.2.2.1 m hm, fun j hj h0 => ((Hsep.out.2 j hj).2.2.choose_spec.choose_spec.2 h0).2.2.2.2.1⟩
    have hF : ∀ b, (∃ j, j < ls.length ∧ 0 < (ls.getD j []).length ∧ b = blk j) → W2.heap.size ≤ b ∧ b < cb ∧ b ≠ g := by
      rintro b ⟨j, hj, h0, rfl⟩
      have := (Hsep.out.2 j hj).2.2.choose_spec.choose_spec.2 h0
      exact ⟨this.2.2.1, this.2.2.2.1, this.2.1⟩
    have HF := Lib.hid hF
    have hls : ls.length ≤ 50 := HS.out.1
    clear hF
    go_loopg [5] ls.length (fun g s wr => TellRel W3 blk ls g s wr)
    case atStart => exact ⟨0, rfl, Nat.zero_le _, rfl, hT0⟩
    case round =>
      clear hT0
      obtain ⟨i, rfl, hi, rfl, hT⟩ := hrel
      have x1r := hT.mod.at x1 (fun h => by have := HF.out _ h; omega)
      have HT := Lib.hid hT
      by_cases hlt : i < ls.length
      · obtain ⟨sg1, sg2, ja, jc, sh, se⟩ := Hsep.out.2 i hlt
        have ha3 := Hsep.out.1 (by omega)
        subst ha3
        have hhr := hT.mod.at sh (fun h => (HF.out _ h).2.2 rfl)
        have hl50 := HS.out.2 i hlt
        obtain ⟨l, hl⟩ : ∃ l, l = ls.getD i [] := ⟨_, rfl⟩
        rw [← hl] at sh se hhr hl50
        have Hl := Lib.hid hl
        have Hse := Lib.hid se
        clear hT hl se
        go_wp2_with fail
        go_loopg [6] l.length (fun g s wr => TellIn W3 blk ls i l g s wr)
        case atStart => exact ⟨0, rfl, Nat.zero_le _, rfl, HT.out⟩
        case round =>
          clear x1r hhr HT
          obtain ⟨k, rfl, hk, rfl, hT⟩ := hrel
          have x1r := hT.mod.at x1 (fun h => by have := HF.out _ h; omega)
          have hhr := hT.mod.at sh (fun h => (HF.out _ h).2.2 rfl)
          by_cases hlt2 : k < l.length
          · obtain ⟨rfl, s1, s2, s3, s4, s5, s6⟩ := Hse.out (by omega)
            have hce := hT.cells i k hlt (by rw [← Hl.out]; exact hlt2) (Or.inr ⟨rfl, Nat.le_refl _⟩)
            have hfr := hT.free i hlt (by rw [← Hl.out]; omega)
            have q1r := hT.mod.at q1 (fun h => by have := HF.out _ h; omega)
            have hBr : Below w.heap.size w wr := hBW3.trans (hT.mod.below_at hBW3.size (fun b hb h => by have := HF.out _ h; omega))
            obtain ⟨lb, lo, rfl, -, hlb, hlc⟩ := (old_below Hp.out hBr).2 (by omega)
            obtain ⟨la, lc, l1, l2, -⟩ := hlc i hlt
            rw [← Hl.out] at hce l1 l2
            obtain ⟨yb, yo, rfl, -, hyb, hyc⟩ := l2.2 (by omega)
            have y0 := hyc k hlt2
            generalize l.getD k 0 = xv at hce y0
            have HT := Lib.hid hT
            have hi1 : (0 : Int) ≤ i := by omega
            have hi2 : (i : Int) < ls.length := by omega
            have hk1 : (0 : Int) ≤ k := by omega
            have hk2 : (k : Int) < l.length := by omega
            have hfk := hfr k
            clear hT hlc hyc l2 hfr
            go_wp2_with fail
            go_quiet (fail)
            go_wp2_with fail
            go_roundg (l.length - (k + 1))
            case measure => omega
            case rel => exact ⟨k + 1, rfl, by omega, by go_num, (HT.out.drewN _).step hlt (by rw [← Hl.out]; exact hlt2) s6 _⟩
          · obtain rfl : k = l.length := by omega
            have HTn := Lib.hid (hT.later (i' := i + 1) (k' := 0) (fun j m h => Or.inl (by omega)))
            clear hT
            go_wp2_with fail
            go_roundg (ls.length - (i + 1))
            case measure => omega
            case rel => exact ⟨i + 1, rfl, by omega, by go_num, HTn.out⟩
      · have q0r := hT.mod.at q0 (fun h => by have := HF.out _ h; omega)
        have q1r := hT.mod.at q1 (fun h => by have := HF.out _ h; omega)
        have m0r := hT.mod.at m0 (fun h => by have := HF.out _ h; omega)
        have m1r := hT.mod.at m1 (fun h => by have := HF.out _ h; omega)
        have x0r := hT.mod.at x0 (fun h => by have := HF.out _ h; omega)
        have hzr := hT.mod.size
        have hBr : Below w.heap.size w wr := hBW3.trans (hT.mod.below_at hBW3.size (fun b hb h => by have := HF.out _ h; omega))
        have Hlr := Lib.hid (Hl2.out.mod hT.mod (fun b hb hb2 h => by have := HF.out _ h; have hb' : b < w2.heap.size := hb; omega))
        have KEEP : ∀ W', Below wr.heap.size wr W' → W'.cell? ⟨w.heap.size, 0, none⟩ = some (.int .i64 pe) ∧ W'.cell? ⟨w.heap.size, 1, none⟩ = some (.slice pa ls.length pc) ∧ W'.cell? ⟨nb, 0, none⟩ = some (.int .i64 pe) ∧ W'.cell? ⟨nb, 1, none⟩ = some (.slice a2 ls.length c2) ∧ W'.cell? ⟨cb, 0, none⟩ = some (.int .i64 pe) ∧ W'.cell? ⟨cb, 1, none⟩ = some (.slice a3 ls.length c3) := fun W' h => ⟨below_at h q0r (by omega), below_at h q1r (by omega), below_at h m0r (by omega), below_at h m1r (by omega), below_at h x0r (by omega), below_at h x1r (by omega)⟩
        have HBr := Lib.hid hBr
        have hD : Below wr.heap.size wr wr.drew := (Below.refl _ _).drew
        have hK := KEEP _ hD
        have hg1 := good_any _ wr.drew pe a2 c2 ls (Hlr.out.mod (F := none') (Mod.of_below hD) (fun _ _ _ => id))
        clear hT
        go_wp2_with fail
        go_region_held3 (fun W' => W'.cell? ⟨w.heap.size, 0, none⟩ = some (.int .i64 pe) ∧ W'.cell? ⟨w.heap.size, 1, none⟩ = some (.slice pa ls.length pc) ∧ W'.cell? ⟨nb, 0, none⟩ = some (.int .i64 pe) ∧ W'.cell? ⟨nb, 1, none⟩ = some (.slice a2 ls.length c2) ∧ W'.cell? ⟨cb, 0, none⟩ = some (.int .i64 pe) ∧ W'.cell? ⟨cb, 1, none⟩ = some (.slice a3 ls.length c3))
          (first
            | with_reducible exact hK
            | with_reducible exact hK1
            | with_reducible exact hK2
            | with_reducible exact hK3
            | with_reducible exact hK4
            | with_reducible exact hK5
            | with_reducible exact hK6
            | with_reducible exact hK7)
          (first
            | (go_at_call 37; (with_reducible refine hg1.mono ?_); rintro e v1 ⟨rfl, hB1'⟩
               have hB1 : Below wr.heap.size wr v1 := hD.trans hB1'
               have hK1 := KEEP _ hB1
               have hy1 := hB1.size
               have hg2 := rgood_any _ v1 pe pa pc ls (old_below Hp.out (HBr.out.trans (hB1.mono HBr.out.size)))
               clear hg1 hB1')
            | (go_at_call 25; (with_reducible refine hg2.mono ?_); rintro e v2 ⟨rfl, hB2'⟩
               have hB2 : Below wr.heap.size wr v2 := hB1.trans (hB2'.mono hy1)
               have hK2 := KEEP _ hB2
               have hy2 := hB2.size
               have hu1 := units_all _ v2 pe a2 c2 ls HS.out (Hlr.out.mod (F := none') (Mod.of_below hB2) (fun _ _ _ => id))
               clear hg2 hB2')
            | (go_at_call 38; (with_reducible refine hu1.mono ?_); rintro e v3 ⟨ua, uc, rfl, hi3, hB3', -⟩
               have hB3 : Below wr.heap.size wr v3 := hB2.trans (hB3'.mono hy2)
               have hK3 := KEEP _ hB3
               have hy3 := hB3.size
               have hu2 := runits_any _ v3 pe pa pc ls HS.out (old_below Hp.out (HBr.out.trans (hB3.mono HBr.out.size)))
               have Hi3 := Lib.hid hi3
               clear hu1 hB3' hi3)
            | (go_at_call 27; (with_reducible refine hu2.mono ?_); rintro e v4 ⟨ra, rc, rfl, hi4, hB4', -⟩
               have hB4 : Below wr.heap.size wr v4 := hB3.trans (hB4'.mono hy3)
               have hK4 := KEEP _ hB4
               have hy4 := hB4.size
               have hin := ints_any (fun _ => True) v4 ua ra (unitsOf ls.flatten) (unitsOf ls.flatten) uc rc ((Hi3.out.mod (F := none') (Mod.of_below hB4') (fun _ _ _ => id)).sub (fun _ _ _ => trivial)) (hi4.sub (fun _ _ _ => trivial))
               rw [decide_eq_true rfl] at hin
               clear hu2 hB4' hi4 Hi3)
            | (go_at_call 22; (with_reducible refine hin.mono ?_); rintro e v5 hd5
               have hB5 : Below wr.heap.size wr v5 := hB4.trans ((hd5.mod (F := none')).below.mono hy4)
               have hK5 := KEEP _ hB5
               have hy5 := hB5.size
               have hpj := projSame0 v5 _ _ pe a2 pa c2 pc ls (Hlr.out.mod (F := none') (Mod.of_below hB5) (fun _ _ _ => id)) (old_below Hp.out (HBr.out.trans (hB5.mono HBr.out.size)))
               obtain ⟨rfl, -⟩ := hd5
               clear hin)
            | (go_at_call 20; (with_reducible refine hpj.mono ?_); rintro e v6 ⟨rfl, hB6'⟩
               have hB6 : Below wr.heap.size wr v6 := hB5.trans (hB6'.mono hy5)
               have hK6 := KEEP _ hB6
               have hy6 := hB6.size
               have hwk := wakes7_any v6
               clear hpj hB6')
            | (go_at_call 30; (with_reducible refine hwk.mono ?_); rintro e v7 ⟨rfl, hB7'⟩
               have hB7 : Below wr.heap.size wr v7 := hB6.trans (hB7'.mono hy6)
               have hK7 := KEEP _ hB7
               clear hwk hB7'))
        go_wp2_with fail
        go_ret
        exact ⟨rfl, HBr.out.trans (hB7.mono HBr.out.size)⟩
  · go_wp2_with fail
    refine (wakes7_any _).mono ?_
    rintro r w3 ⟨rfl, hB3⟩
    go_wp2_with fail
    go_ret
    exact ⟨rfl, hBw1.trans (hB3.mono (by omega))⟩
end Go.Proofs.Ytchidgpaejkaiaa
