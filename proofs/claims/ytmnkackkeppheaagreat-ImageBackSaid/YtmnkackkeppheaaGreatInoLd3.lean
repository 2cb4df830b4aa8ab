/- inode.Table.Load of any inodes -/
import Derived.Test.YtmnkackkeppheaaGreatInoLd2
import Derived.Test.YtmnkackkeppheaaGreatInoDmp
namespace Esch
open Go Go.RowKit
def headP (l : List InS) (nx : Int) : Bool := decide (1 ≤ l.length) && (decide (l.length ≤ 64) && (decide ((l.getD 0 in0).ino = 1) && (decide ((l.getD 0 in0).kind = 1) && (decide ((l.getD 0 in0).links = 1) && (decide (2 ≤ nx) && decide (nx ≤ 2147483647))))))
/-- may the i-th row stand there? -/
def rowP (l : List InS) (nx : Int) (i : Nat) : Bool := goodI (l.getD i in0) && (decide ((l.getD i in0).ino < nx) && (decide (i = 0) || decide ((l.getD (i - 1) in0).ino < (l.getD i in0).ino)))
def rowsP (l : List InS) (nx : Int) : Nat → Bool
  | 0 => true
  | n + 1 => rowsP l nx n && rowP l nx n
def loadP (l : List InS) (nx : Int) : Int := if headP l nx = true ∧ rowsP l nx l.length = true then 0 else 11
def tabOf (l : List InS) (nx : Int) : TabS := ⟨l.map fun x => (x.ino, x), nx⟩
theorem rowsP_all {l : List InS} {nx : Int} : ∀ {n : Nat}, rowsP l nx n = true → ∀ i, i < n → rowP l nx i = true
  | 0, _, i, hi => absurd hi (Nat.not_lt_zero i)
  | n + 1, h, i, hi => by
    rw [rowsP, Bool.and_eq_true] at h
    rcases Nat.lt_succ_iff_lt_or_eq.1 hi with h1 | rfl
    · exact rowsP_all h.1 i h1
    · exact h.2
theorem rowsP_rise {l : List InS} {nx : Int} : ∀ {n : Nat}, rowsP l nx n = true → ∀ i j, i < j → j < n → (l.getD i in0).ino < (l.getD j in0).ino
  | 0, _, i, j, _, hj => absurd hj (Nat.not_lt_zero j)
  | n + 1, h, i, j, hij, hj => by
    have hr := rowsP_all h j hj
    rw [rowsP, Bool.and_eq_true] at h
    rw [rowP, Bool.and_eq_true, Bool.and_eq_true, Bool.or_eq_true, decide_eq_true_eq, decide_eq_true_eq] at hr
    have hp : (l.getD (j - 1) in0).ino < (l.getD j in0).ino := by
      rcases hr.2.2 with h0 | h1
      · omega
      · exact of_decide_eq_true (by simpa using h1)
    by_cases he : i = j - 1
    · rw [he]; exact hp
    · exact Int.lt_trans (rowsP_rise h.1 i (j - 1) (by omega) (by omega)) hp
theorem rowsP_bad {l : List InS} {nx : Int} {n i : Nat} (hi : i < n) (h : rowP l nx i = false) : rowsP l nx n = false := by
  cases hr : rowsP l nx n
  · rfl
  · rw [rowsP_all hr i hi] at h; cases h
theorem loadP_bad {l : List InS} {nx : Int} {i : Nat} (hi : i < l.length) (h : rowP l nx i = false) : loadP l nx = 11 := by
  unfold loadP; rw [rowsP_bad hi h]; simp
theorem loadP_head {l : List InS} {nx : Int} (h : headP l nx = false) : loadP l nx = 11 := by unfold loadP; rw [h]; simp
theorem loadP_ok {l : List InS} {nx : Int} (h : headP l nx = true) (h2 : rowsP l nx l.length = true) : loadP l nx = 0 := by unfold loadP; rw [if_pos ⟨h, h2⟩]
theorem goodI_len {x : InS} (h : goodI x = true) : x.ps.length ≤ 64 := by
  unfold goodI at h
  split at h
  · cases h
  · split at h
    · simp only [Bool.and_eq_true, decide_eq_true_eq] at h; omega
    · split at h
      · simp only [Bool.and_eq_true, decide_eq_true_eq] at h; exact goodP_len h.2.2.1
      · cases h
theorem getD_map0 {α β : Type} (f : α → β) (l : List α) (i : Nat) (d : α) (e : β) (hi : i < l.length) : (l.map f).getD i e = f (l.getD i d) := by
  rw [List.getD_eq_getElem?_getD, List.getD_eq_getElem?_getD, List.getElem?_map, List.getElem?_eq_getElem hi]; rfl
theorem set_far {K V : Type} [DecidableEq K] : ∀ (m : List (K × V)) (k : K) (v : V), (∀ p ∈ m, p.1 ≠ k) → Esch.set m k v = m ++ [(k, v)]
  | [], _, _, _ => rfl
  | p :: m, k, v, h => by
    rw [Esch.set, if_neg (h p (List.mem_cons_self ..)), set_far m k v (fun q hq => h q (List.mem_cons_of_mem _ hq)), List.cons_append]
theorem map_take {α β : Type} (f : α → β) (l : List α) (n : Nat) (d : α) (hn : n < l.length) : (l.take (n + 1)).map f = (l.take n).map f ++ [f (l.getD n d)] := by
  rw [List.take_add_one, List.getElem?_eq_getElem hn, List.map_append, List.getD_eq_getElem?_getD, List.getElem?_eq_getElem hn]; rfl
theorem ld_succ {i : Nat} (h : i ≤ 64) : wrap64 ((i : Int) + 1) = (i : Int) + 1 := by unfold wrap64; omega
theorem ld_pred {i : Nat} (h : 0 < i) (h2 : i ≤ 64) : wrap64 ((i : Int) - 1) = ((i - 1 : Nat) : Int) := by unfold wrap64; omega
end Esch
namespace Go.Proofs.YtmnkackkeppheaaGreat
open Go.RowKit Esch Go.Shelf

set_option linter.unusedSimpArgs false
set_option linter.unusedVariables false
def LdR (w : World) (mb : Nat) (l : List InC) (nx : Int) (g : Nat) (v : Value) (wr : World) : Prop :=
  ∃ (i : Nat) (m : List (Int × InC)), g = l.length - i ∧ i ≤ l.length ∧ v = .int .i64 i ∧ MpAt wr mb iV inCV m ∧ (m.map fun p => (p.1, p.2.val)) = (l.take i).map (fun x => (x.ino, x.val)) ∧ (∀ p ∈ m, PcOk wr (fun k => w.heap.size ≤ k ∧ k ≠ mb) p.2) ∧ rowsP (l.map InC.val) nx i = true ∧ Below w.heap.size w wr
def LdPost (w : World) (b : Nat) (S : Nat → Prop) (l : List InS) (nx : Int) (e : Ending) (w' : World) : Prop := e = .returned (.int .i64 (loadP l nx)) ∧ Mod (· = b) w w' ∧ (loadP l nx = 0 → TabAt w' b (growI S w w') (tabOf l nx))
theorem pts_none {w : World} {S : Nat → Prop} {l : List PtS} (h : PtsAt w S none l) : l.length = 0 := by
  cases l with
  | nil => rfl
  | cons x l =>
    obtain ⟨b, o, e, -⟩ := h.at' (by simp)
    cases e
set_option maxRecDepth 100000 in
set_option maxHeartbeats 16000000 in
theorem inoLoad_any (w : World) (b : Nat) (S : Nat → Prop) (s : TabS) (h : TabAt w b S s) (T : Nat → Prop) (ia : Option Addr) (ic : Nat) (l : List InC) (hx : InosAt w T ia l) (nx : Int) :
    Calls Tryz.prog 90 #[.pointer (some ⟨b, 0, none⟩), .slice ia l.length ic, .int .i64 nx] w (LdPost w b S (l.map InC.val) nx) := by
  have hmm := @run_makeMap Tryz.prog
  obtain ⟨sb, lt, mb, m, c0, c1, f1, hm, sm, n1, hmv, hp⟩ := h
  have hbl := cell_lt c0
  have F1 := Lib.hid f1
  have f0 := F1.out 0
  have f1 := F1.out 1
  clear hm sm n1 hmv hp
  have HX := Lib.hid hx
  have HLT := Lib.hid lt
  have HSB := Lib.hid sb
  clear hx lt sb
  unfold LdPost
  obtain ⟨r, hr⟩ : ∃ r, r = loadP (l.map InC.val) nx := ⟨_, rfl⟩
  rw [← hr]
  have HQ := Lib.hid hr
  clear hr
  by_cases l0 : l.length < 1
  · have l0' : decide ((l.length : Int) < 1) = true := decide_eq_true (by omega)
    have k0 : decide (1 ≤ (l.map InC.val).length) = false := decide_eq_false (by rw [List.length_map]; omega)
    clear l0
    have hr11 := HQ.out.trans (loadP_head (by simp only [headP, k0, Bool.false_and]))
    clear HQ
    subst hr11
    go_enter Tryz.func90, Tryz.ntmps90
    go_wp2_with fail
    go_ret
    exact ⟨rfl, by first | exact Mod.of_below (by exact belC (Below.refl _ _)) | exact ⟨Mod.of_below (by exact belC (Below.refl _ _)), fun h => absurd h (by decide)⟩⟩
  have n0 : decide ((l.length : Int) < 1) = false := decide_eq_false (by omega)
  have hpos : 0 < l.length := by omega
  have hposi : (0 : Int) < (l.length : Int) := by omega
  by_cases l1 : 64 < l.length
  · have l1' : decide ((64 : Int) < (l.length : Int)) = true := decide_eq_true (by omega)
    have k0 : decide ((l.map InC.val).length ≤ 64) = false := decide_eq_false (by rw [List.length_map]; omega)
    clear l1 l0
    have hr11 := HQ.out.trans (loadP_head (by simp only [headP, k0, Bool.false_and, Bool.and_false]))
    clear HQ
    subst hr11
    go_enter Tryz.func90, Tryz.ntmps90
    go_wp2_with fail
    go_ret
    exact ⟨rfl, by first | exact Mod.of_below (by exact belC (Below.refl _ _)) | exact ⟨Mod.of_below (by exact belC (Below.refl _ _)), fun h => absurd h (by decide)⟩⟩
  have n1 : decide ((64 : Int) < (l.length : Int)) = false := decide_eq_false (by omega)
  obtain ⟨xb, xo, hxa, -, hxl, hxc⟩ := HX.out.row.elem InC.cells_len default hpos
  subst hxa
  have h00 : w.cell? ⟨xb, xo, none⟩ = some (.int .i64 (l.getD 0 default).ino) := by
    have := hxc 0 (by decide)
    simp only [Nat.zero_mul, Nat.add_zero] at this
    exact this
  have h01 : w.cell? ⟨xb, xo + 1, none⟩ = some (.int .i64 (l.getD 0 default).kind) := by
    have := hxc 1 (by decide)
    simp only [Nat.zero_mul, Nat.add_zero] at this
    exact this
  have h02 : w.cell? ⟨xb, xo + 2, none⟩ = some (.int .i64 (l.getD 0 default).links) := by
    have := hxc 2 (by decide)
    simp only [Nat.zero_mul, Nat.add_zero] at this
    exact this
  have hg0 : (l.map InC.val).getD 0 in0 = (l.getD 0 default).val := getD_map0 _ _ _ _ _ hpos
  have hi0 : ((l.map InC.val).getD 0 in0).ino = (l.getD 0 default).ino := by rw [hg0]; rfl
  have hk0 : ((l.map InC.val).getD 0 in0).kind = (l.getD 0 default).kind := by rw [hg0]; rfl
  have hn0 : ((l.map InC.val).getD 0 in0).links = (l.getD 0 default).links := by rw [hg0]; rfl
  have hll : (l.map InC.val).length = l.length := List.length_map ..
  have HXC := Lib.hid hxc
  have HXL := Lib.hid hxl
  have HL0 := Lib.hid l0
  have HL1 := Lib.hid l1
  have HHP : Hid (headP (l.map InC.val) nx = (decide ((l.getD 0 default).ino = 1) && (decide ((l.getD 0 default).kind = 1) && (decide ((l.getD 0 default).links = 1) && (decide (2 ≤ nx) && decide (nx ≤ 2147483647)))))) := Lib.hid (by
    unfold headP
    rw [hll, decide_eq_true (by omega : 1 ≤ l.length), decide_eq_true (by omega : l.length ≤ 64), hi0, hk0, hn0, Bool.true_and, Bool.true_and])
  clear hxc hg0 hi0 hk0 hn0 hll hxl l0 l1
  generalize (l.getD 0 default).ino = a0 at h00 HHP
  generalize (l.getD 0 default).kind = a1 at h01 HHP
  generalize (l.getD 0 default).links = a2 at h02 HHP
  by_cases a0e : a0 = 1
  rotate_left 1
  · have e1 : (a0 == 1) = false := by simpa using a0e
    have e2 : (a0 != 1) = true := by simpa using a0e
    have hr11 := HQ.out.trans (loadP_head (by rw [HHP.out, decide_eq_false a0e]; rfl))
    clear HQ a0e
    subst hr11
    go_enter Tryz.func90, Tryz.ntmps90
    go_wp2_with fail
    go_ret
    exact ⟨rfl, by first | exact Mod.of_below (by exact belC (Below.refl _ _)) | exact ⟨Mod.of_below (by exact belC (Below.refl _ _)), fun h => absurd h (by decide)⟩⟩
  subst a0e
  by_cases a1e : a1 = 1
  rotate_left 1
  · have e1 : (a1 == 1) = false := by simpa using a1e
    have e2 : (a1 != 1) = true := by simpa using a1e
    have hr11 := HQ.out.trans (loadP_head (by rw [HHP.out, decide_eq_false a1e]; rfl))
    clear HQ a1e
    subst hr11
    go_enter Tryz.func90, Tryz.ntmps90
    go_wp2_with fail
    go_ret
    exact ⟨rfl, by first | exact Mod.of_below (by exact belC (Below.refl _ _)) | exact ⟨Mod.of_below (by exact belC (Below.refl _ _)), fun h => absurd h (by decide)⟩⟩
  subst a1e
  by_cases a2e : a2 = 1
  rotate_left 1
  · have e1 : (a2 == 1) = false := by simpa using a2e
    have e2 : (a2 != 1) = true := by simpa using a2e
    have hr11 := HQ.out.trans (loadP_head (by rw [HHP.out, decide_eq_false a2e]; rfl))
    clear HQ a2e
    subst hr11
    go_enter Tryz.func90, Tryz.ntmps90
    go_wp2_with fail
    go_ret
    exact ⟨rfl, by first | exact Mod.of_below (by exact belC (Below.refl _ _)) | exact ⟨Mod.of_below (by exact belC (Below.refl _ _)), fun h => absurd h (by decide)⟩⟩
  subst a2e
  by_cases x0 : nx < 2
  · have x0' : decide (nx < 2) = true := decide_eq_true x0
    have hr11 := HQ.out.trans (loadP_head (by rw [HHP.out, decide_eq_false (by omega : ¬ 2 ≤ nx)]; rfl))
    clear HQ x0
    subst hr11
    go_enter Tryz.func90, Tryz.ntmps90
    go_wp2_with fail
    go_ret
    exact ⟨rfl, by first | exact Mod.of_below (by exact belC (Below.refl _ _)) | exact ⟨Mod.of_below (by exact belC (Below.refl _ _)), fun h => absurd h (by decide)⟩⟩
  have x0' : decide (nx < 2) = false := decide_eq_false x0
  by_cases x1 : 2147483647 < nx
  · have x1' : decide (2147483647 < nx) = true := decide_eq_true x1
    have hr11 := HQ.out.trans (loadP_head (by rw [HHP.out, decide_eq_false (by omega : ¬ nx ≤ 2147483647), Bool.and_false]; rfl))
    clear HQ x1 x0
    subst hr11
    go_enter Tryz.func90, Tryz.ntmps90
    go_wp2_with fail
    go_ret
    exact ⟨rfl, by first | exact Mod.of_below (by exact belC (Below.refl _ _)) | exact ⟨Mod.of_below (by exact belC (Below.refl _ _)), fun h => absurd h (by decide)⟩⟩
  have x1' : decide (2147483647 < nx) = false := decide_eq_false x1
  have HHT : Hid (headP (l.map InC.val) nx = true) := Lib.hid (by rw [HHP.out, decide_eq_true (by omega : 2 ≤ nx), decide_eq_true (by omega : nx ≤ 2147483647)]; rfl)
  obtain ⟨Wm, hWm⟩ : ∃ Wm, Wm = w.alloc (.map #[] 0) := ⟨_, rfl⟩
  have hBm : Below w.heap.size w Wm := by rw [hWm]; exact belC (Below.refl _ _)
  have hmp : MpAt Wm w.heap.size iV inCV ([] : List (Int × InC)) := by rw [hWm]; exact ⟨#[], 0, alloc_new _ _, rfl, List.nodup_nil, List.Pairwise.nil, fun e h => by simp at h⟩
  have HBm := Lib.hid hBm
  have HMP := Lib.hid hmp
  have HWm := Lib.hid hWm
  have H00 := Lib.hid h00
  clear hWm hBm hmp x0 x1 HHP
  go_enter Tryz.func90, Tryz.ntmps90
  go_wp2_with fail
  rw [← HWm.out]
  clear h00 h01 h02
  go_loopg [52] l.length (fun g s52 wr => LdR w w.heap.size l nx g s52 wr)
  case atStart => exact ⟨0, [], rfl, Nat.zero_le _, rfl, HMP.out, rfl, fun p hp => by simp at hp, rfl, HBm.out⟩
  case round =>
    obtain ⟨i, m, rfl, hi, rfl, hmp, hmv, hmc, hrw, hB⟩ := hrel
    by_cases hlt : i < l.length
    · have hli : (i : Int) < (l.length : Int) := by omega
      obtain ⟨xb2, xo2, hxa2, -, hxl2, hxc2⟩ := HX.out.row.elem InC.cells_len default hlt
      obtain ⟨rfl, rfl⟩ : xb = xb2 ∧ xo = xo2 := by
        have := hxa2; simp only [Option.some.injEq, Addr.mk.injEq] at this; exact ⟨this.1, this.2.1⟩
      have hpt := HX.out.pts _ (getDmem l default hlt)
      have g0 := below_at hB (hxc2 0 (by decide)) HXL.out
      have g1 := below_at hB (hxc2 1 (by decide)) HXL.out
      have g2 := below_at hB (hxc2 2 (by decide)) HXL.out
      have g3 := below_at hB (hxc2 3 (by decide)) HXL.out
      have g4 := below_at hB (hxc2 4 (by decide)) HXL.out
      have g5 := below_at hB (hxc2 5 (by decide)) HXL.out
      have hrow : rowP (l.map InC.val) nx i = (goodI (l.getD i default).val && (decide ((l.getD i default).ino < nx) && (decide (i = 0) || decide ((l.getD (i - 1) default).ino < (l.getD i default).ino)))) := by
        unfold rowP
        rw [getD_map0 InC.val l i default in0 hlt, getD_map0 InC.val l (i - 1) default in0 (by omega)]; rfl
      have hip : i - 1 < l.length := by omega
      have hfar : rowsP (l.map InC.val) nx (i + 1) = true → ∀ p ∈ m, p.1 ≠ (l.getD i default).ino := by
        intro hr p hp e
        have h1 : (p.1, p.2.val) ∈ (l.take i).map (fun x => (x.ino, x.val)) := by rw [← hmv]; exact List.mem_map_of_mem hp
        obtain ⟨x, hx1, hx2⟩ := List.mem_map.1 h1
        obtain ⟨j, hj, hjx⟩ := List.mem_take_iff_getElem.1 hx1
        have h3 := rowsP_rise hr j i (by omega) (Nat.lt_succ_self i)
        rw [getD_map0 InC.val l i default in0 hlt, getD_map0 InC.val l j default in0 (by omega)] at h3
        rw [List.getD_eq_getElem?_getD, List.getElem?_eq_getElem (by omega), Option.getD_some, hjx] at h3
        have h4 : x.ino = p.1 := (Prod.mk.injEq ..).mp hx2 |>.1
        have h5 : x.val.ino = x.ino := rfl
        have h6 : (l.getD i default).val.ino = (l.getD i default).ino := rfl
        omega
      have htk := map_take (fun x : InC => (x.ino, x.val)) l i default hlt
      have gp : wr.cell? ⟨xb, xo + (i - 1) * 6, none⟩ = some (.int .i64 (l.getD (i - 1) default).ino) := by
        obtain ⟨xb3, xo3, hxa3, -, hxl3, hxc3⟩ := HX.out.row.elem InC.cells_len default hip
        obtain ⟨rfl, rfl⟩ : xb = xb3 ∧ xo = xo3 := by
          have := hxa3; simp only [Option.some.injEq, Addr.mk.injEq] at this; exact ⟨this.1, this.2.1⟩
        exact below_at hB (hxc3 0 (by decide)) HXL.out
      generalize (l.getD (i - 1) default).ino = pv at gp hrow
      clear hxc2 hxa2 hxl2
      generalize l.getD i default = y at *
      obtain ⟨y0, y1, y2, y3, y4, pa, pc, ps⟩ := y
      simp only [InC.cells, List.getElem?_cons_zero, List.getElem?_cons_succ, Nat.add_zero, InC.val] at g0 g1 g2 g3 g4 g5 hrow hfar
      obtain ⟨W1, hW1⟩ : ∃ W1, W1 = wr.alloc (.cells #[.int .i64 y0, .int .i64 y1, .int .i64 y2, .int .i64 y3, .int .i64 y4, .slice pa ps.length pc] 102) := ⟨_, rfl⟩
      have hBW : Below wr.heap.size wr W1 := by rw [hW1]; exact belC (Below.refl _ _)
      have e0 : W1.cell? ⟨wr.heap.size, 0, none⟩ = some (.int .i64 y0) := by rw [hW1]; go_simp
      have e1 : W1.cell? ⟨wr.heap.size, 1, none⟩ = some (.int .i64 y1) := by rw [hW1]; go_simp
      have e2 : W1.cell? ⟨wr.heap.size, 2, none⟩ = some (.int .i64 y2) := by rw [hW1]; go_simp
      have e3 : W1.cell? ⟨wr.heap.size, 3, none⟩ = some (.int .i64 y3) := by rw [hW1]; go_simp
      have e4 : W1.cell? ⟨wr.heap.size, 4, none⟩ = some (.int .i64 y4) := by rw [hW1]; go_simp
      have e5 : W1.cell? ⟨wr.heap.size, 5, none⟩ = some (.slice pa ps.length pc) := by rw [hW1]; go_simp
      have k5 : W1.frozen? ⟨wr.heap.size, 5, none⟩ = false := by rw [hW1]; go_simp
      have ep : W1.cell? ⟨xb, xo + (i - 1) * 6, none⟩ = some (.int .i64 pv) := below_at hBW gp (cell_lt gp)
      have hwl := cell_lt e0
      have HK : Hid (∀ W, Below W1.heap.size W1 W → W.cell? ⟨wr.heap.size, 0, none⟩ = some (.int .i64 y0) ∧ W.cell? ⟨wr.heap.size, 1, none⟩ = some (.int .i64 y1) ∧ W.cell? ⟨wr.heap.size, 2, none⟩ = some (.int .i64 y2) ∧ W.cell? ⟨wr.heap.size, 3, none⟩ = some (.int .i64 y3) ∧ W.cell? ⟨wr.heap.size, 4, none⟩ = some (.int .i64 y4) ∧ W.cell? ⟨wr.heap.size, 5, none⟩ = some (.slice pa ps.length pc) ∧ W.cell? ⟨xb, xo + (i - 1) * 6, none⟩ = some (.int .i64 pv)) := Lib.hid (fun W hb => ⟨below_at hb e0 hwl, below_at hb e1 hwl, below_at hb e2 hwl, below_at hb e3 hwl, below_at hb e4 hwl, below_at hb e5 hwl, below_at hb ep (cell_lt ep)⟩)
      have HPT := Lib.hid hpt
      have HGD : Hid (∀ W, Below W1.heap.size W1 W → Calls Tryz.prog 121 #[.agg #[.int .i64 y0, .int .i64 y1, .int .i64 y2, .int .i64 y3, .int .i64 y4, .slice pa ps.length pc]] W fun e w' => e = .returned (.bool (goodI ⟨y0, y1, y2, y3, y4, ps⟩)) ∧ Below W.heap.size W w') := Lib.hid (fun W hb => inoGood_any W T ⟨y0, y1, y2, y3, y4, pa, pc, ps⟩ (HPT.out.below' (hB.trans ((hBW.trans (hb.mono hBW.size)).mono hB.size))).row)
      have HALL : Hid (∀ W, Below W1.heap.size W1 W → Below w.heap.size w W) := Lib.hid (fun W hb => hB.trans ((hBW.trans (hb.mono hBW.size)).mono hB.size))
      have HBD : Hid (Below W1.heap.size W1 W1.drew) := Lib.hid (Below.refl _ _).drew
      have HK5 := Lib.hid k5
      have HWL := Lib.hid hwl
      have HBr := Lib.hid hB
      have HBW := Lib.hid hBW
      have HMr := Lib.hid hmp
      have HW1 := Lib.hid hW1
      have HRW := Lib.hid hrw
      have HFR := Lib.hid hfar
      have HTK := Lib.hid htk
      have HMV := Lib.hid hmv
      have HMC := Lib.hid hmc
      have hw0 : wrap64 ((i : Int) + 1) = (i : Int) + 1 := ld_succ (by have := HL1.out; omega)
      clear hpt hW1 hBW e0 e1 e2 e3 e4 e5 k5 hwl hmp hB hi hrw hfar htk hmv hmc gp ep
      cases hg : goodI ⟨y0, y1, y2, y3, y4, ps⟩
      · rw [hg] at HGD hrow
        have HRB := Lib.hid hrow
        clear hrow hg
        go_wp2_with fail
        rw [← HW1.out]
        have hr11 := HQ.out.trans (loadP_bad (i := i) (by rw [List.length_map]; exact hlt) HRB.out)
        clear HQ
        subst hr11
        refine region_kwalk (S := fun W => (W.cell? ⟨wr.heap.size, 0, none⟩ = some (.int .i64 y0) ∧ W.cell? ⟨wr.heap.size, 1, none⟩ = some (.int .i64 y1) ∧ W.cell? ⟨wr.heap.size, 2, none⟩ = some (.int .i64 y2) ∧ W.cell? ⟨wr.heap.size, 3, none⟩ = some (.int .i64 y3) ∧ W.cell? ⟨wr.heap.size, 4, none⟩ = some (.int .i64 y4) ∧ W.cell? ⟨wr.heap.size, 5, none⟩ = some (.slice pa ps.length pc) ∧ W.cell? ⟨xb, xo + (i - 1) * 6, none⟩ = some (.int .i64 pv)) ∧ Below W1.heap.size W1 W) (by kernel_rfl) (by kernel_rfl) (by kernel_rfl) ⟨HK.out _ HBD.out, HBD.out⟩ ?_
        clear HBD
        refine kwL ?_
        refine kw_call (v := .bool false) (f := 121) (args := #[.agg #[.int .i64 y0, .int .i64 y1, .int .i64 y2, .int .i64 y3, .int .i64 y4, .slice pa ps.length pc]]) (by rfl) (by intro W hSw; go_simp; try with_reducible rfl) (fun W hS => (HGD.out W hS.2).mono (fun e W2 h => ⟨h.1, HK.out W2 (hS.2.trans (h.2.mono hS.2.size)), hS.2.trans (h.2.mono hS.2.size)⟩)) (by simp only [Act.put, List.setIfInBounds_toArray, List.set_cons_zero, List.set_cons_succ]; rfl) ?_
        repeat (first | refine kwL ?_ | refine kwU ?_)
        refine kw_nil (fun W hW => ?_)
        obtain ⟨hWk, hBw⟩ := hW
        have HBw := Lib.hid hBw
        have HWK := Lib.hid hWk
        clear hWk hBw
        go_wp2_with fail
        go_ret
        exact ⟨rfl, by first | exact Mod.of_below (by exact belC (HALL.out W HBw.out)) | exact ⟨Mod.of_below (by exact belC (HALL.out W HBw.out)), fun h => absurd h (by decide)⟩⟩
      rw [hg] at HGD hrow
      have HGI := Lib.hid hg
      clear hg
      by_cases hq : y0 < nx
      rotate_left 1
      · have q1 : decide (nx ≤ y0) = true := decide_eq_true (by omega)
        have HRB : Hid (rowP (l.map InC.val) nx i = false) := Lib.hid (by rw [hrow, decide_eq_false hq]; rfl)
        clear hrow hq
        go_wp2_with fail
        rw [← HW1.out]
        have hr11 := HQ.out.trans (loadP_bad (i := i) (by rw [List.length_map]; exact hlt) HRB.out)
        clear HQ
        subst hr11
        refine region_kwalk (S := fun W => (W.cell? ⟨wr.heap.size, 0, none⟩ = some (.int .i64 y0) ∧ W.cell? ⟨wr.heap.size, 1, none⟩ = some (.int .i64 y1) ∧ W.cell? ⟨wr.heap.size, 2, none⟩ = some (.int .i64 y2) ∧ W.cell? ⟨wr.heap.size, 3, none⟩ = some (.int .i64 y3) ∧ W.cell? ⟨wr.heap.size, 4, none⟩ = some (.int .i64 y4) ∧ W.cell? ⟨wr.heap.size, 5, none⟩ = some (.slice pa ps.length pc) ∧ W.cell? ⟨xb, xo + (i - 1) * 6, none⟩ = some (.int .i64 pv)) ∧ Below W1.heap.size W1 W) (by kernel_rfl) (by kernel_rfl) (by kernel_rfl) ⟨HK.out _ HBD.out, HBD.out⟩ ?_
        clear HBD
        refine kwL ?_
        refine kw_call (v := .bool true) (f := 121) (args := #[.agg #[.int .i64 y0, .int .i64 y1, .int .i64 y2, .int .i64 y3, .int .i64 y4, .slice pa ps.length pc]]) (by rfl) (by intro W hSw; go_simp; try with_reducible rfl) (fun W hS => (HGD.out W hS.2).mono (fun e W2 h => ⟨h.1, HK.out W2 (hS.2.trans (h.2.mono hS.2.size)), hS.2.trans (h.2.mono hS.2.size)⟩)) (by simp only [Act.put, List.setIfInBounds_toArray, List.set_cons_zero, List.set_cons_succ]; rfl) ?_
        repeat (first | refine kwL ?_ | refine kwU ?_)
        refine kw_nil (fun W hW => ?_)
        obtain ⟨hWk, hBw⟩ := hW
        have HBw := Lib.hid hBw
        have HWK := Lib.hid hWk
        clear hWk hBw
        go_wp2_with fail
        go_ret
        exact ⟨rfl, by first | exact Mod.of_below (by exact belC (HALL.out W HBw.out)) | exact ⟨Mod.of_below (by exact belC (HALL.out W HBw.out)), fun h => absurd h (by decide)⟩⟩
      have q1 : decide (nx ≤ y0) = false := decide_eq_false (by omega)
      rw [decide_eq_true hq] at hrow
      clear hq
      by_cases hz : 0 < i
      · have hz' : decide ((0 : Int) < (i : Int)) = true := decide_eq_true (by omega)
        have hw1 : wrap64 ((i : Int) - 1) = ((i - 1 : Nat) : Int) := ld_pred hz (by have := HL1.out; omega)
        obtain ⟨n, hn⟩ : ∃ n, n = i - 1 := ⟨_, rfl⟩
        rw [← hn] at hw1 hip HK
        have hpi : (n : Int) < (l.length : Int) := by omega
        have hw2 : IntKind.i64.wrap ((i : Int) - 1) = (n : Int) := by rw [IntKind.wrap_i64]; have h := hw1; unfold wrap64 at h; exact h
        have HNI := Lib.hid hn
        have HZI := Lib.hid hz
        rw [decide_eq_false (by omega : ¬ i = 0)] at hrow
        by_cases hv : pv < y0
        rotate_left 1
        · have q2 : decide (y0 ≤ pv) = true := decide_eq_true (by omega)
          have HRB : Hid (rowP (l.map InC.val) nx i = false) := Lib.hid (by rw [hrow, decide_eq_false hv]; rfl)
          clear hrow hv hn
          go_wp2_with fail
          rw [← HW1.out]
          have hr11 := HQ.out.trans (loadP_bad (i := i) (by rw [List.length_map]; exact hlt) HRB.out)
          clear HQ
          subst hr11
          refine region_kwalk (S := fun W => (W.cell? ⟨wr.heap.size, 0, none⟩ = some (.int .i64 y0) ∧ W.cell? ⟨wr.heap.size, 1, none⟩ = some (.int .i64 y1) ∧ W.cell? ⟨wr.heap.size, 2, none⟩ = some (.int .i64 y2) ∧ W.cell? ⟨wr.heap.size, 3, none⟩ = some (.int .i64 y3) ∧ W.cell? ⟨wr.heap.size, 4, none⟩ = some (.int .i64 y4) ∧ W.cell? ⟨wr.heap.size, 5, none⟩ = some (.slice pa ps.length pc) ∧ W.cell? ⟨xb, xo + n * 6, none⟩ = some (.int .i64 pv)) ∧ Below W1.heap.size W1 W) (by kernel_rfl) (by kernel_rfl) (by kernel_rfl) ⟨HK.out _ HBD.out, HBD.out⟩ ?_
          clear HBD
          refine kwL ?_
          refine kw_call (v := .bool true) (f := 121) (args := #[.agg #[.int .i64 y0, .int .i64 y1, .int .i64 y2, .int .i64 y3, .int .i64 y4, .slice pa ps.length pc]]) (by rfl) (by intro W hSw; go_simp; try with_reducible rfl) (fun W hS => (HGD.out W hS.2).mono (fun e W2 h => ⟨h.1, HK.out W2 (hS.2.trans (h.2.mono hS.2.size)), hS.2.trans (h.2.mono hS.2.size)⟩)) (by simp only [Act.put, List.setIfInBounds_toArray, List.set_cons_zero, List.set_cons_succ]; rfl) ?_
          repeat (first | refine kwL ?_ | refine kwU ?_)
          refine kw_nil (fun W hW => ?_)
          obtain ⟨hWk, hBw⟩ := hW
          have HBw := Lib.hid hBw
          have HWK := Lib.hid hWk
          clear hWk hBw
          go_wp2_with fail
          go_ret
          exact ⟨rfl, by first | exact Mod.of_below (by exact belC (HALL.out W HBw.out)) | exact ⟨Mod.of_below (by exact belC (HALL.out W HBw.out)), fun h => absurd h (by decide)⟩⟩
        have q2 : decide (y0 ≤ pv) = false := decide_eq_false (by omega)
        rw [decide_eq_true hv] at hrow
        have HRT : Hid (rowP (l.map InC.val) nx i = true) := Lib.hid hrow
        clear hrow hv hn
        go_wp2_with fail
        rw [← HW1.out]
        refine region_kwalk (S := fun W => (W.cell? ⟨wr.heap.size, 0, none⟩ = some (.int .i64 y0) ∧ W.cell? ⟨wr.heap.size, 1, none⟩ = some (.int .i64 y1) ∧ W.cell? ⟨wr.heap.size, 2, none⟩ = some (.int .i64 y2) ∧ W.cell? ⟨wr.heap.size, 3, none⟩ = some (.int .i64 y3) ∧ W.cell? ⟨wr.heap.size, 4, none⟩ = some (.int .i64 y4) ∧ W.cell? ⟨wr.heap.size, 5, none⟩ = some (.slice pa ps.length pc) ∧ W.cell? ⟨xb, xo + n * 6, none⟩ = some (.int .i64 pv)) ∧ Below W1.heap.size W1 W) (by kernel_rfl) (by kernel_rfl) (by kernel_rfl) ⟨HK.out _ HBD.out, HBD.out⟩ ?_
        clear HBD
        refine kwL ?_
        refine kw_call (v := .bool true) (f := 121) (args := #[.agg #[.int .i64 y0, .int .i64 y1, .int .i64 y2, .int .i64 y3, .int .i64 y4, .slice pa ps.length pc]]) (by rfl) (by intro W hSw; go_simp; try with_reducible rfl) (fun W hS => (HGD.out W hS.2).mono (fun e W2 h => ⟨h.1, HK.out W2 (hS.2.trans (h.2.mono hS.2.size)), hS.2.trans (h.2.mono hS.2.size)⟩)) (by simp only [Act.put, List.setIfInBounds_toArray, List.set_cons_zero, List.set_cons_succ]; rfl) ?_
        repeat (first | refine kwL ?_ | refine kwU ?_)
        refine kw_nil (fun W hW => ?_)
        obtain ⟨hWk, hBw⟩ := hW
        have HBw := Lib.hid hBw
        have HWK := Lib.hid hWk
        clear hWk hBw
        obtain ⟨e0, e1, e2, e3, e4, e5, -⟩ := HWK.out
        have hBw := HBw.out
        have k5 : W.frozen? ⟨wr.heap.size, 5, none⟩ = false := ((Mod.of_below (F := none') hBw).frozen (p := ⟨wr.heap.size, 5, none⟩) HWL.out id).trans HK5.out
        have hpw := HPT.out.below' (HBr.out.trans ((HBW.out.trans (hBw.mono HBW.out.size)).mono HBr.out.size))
        have hcl := ptClone_any W T pa pc ps hpw.row (fun _ e => hpw.nil e) hpw.few
        have HFW := Lib.hid hpw.few
        clear hBw hpw HWK
        go_wp2_with fail
        refine hcl.mono ?_
        clear hcl
        rintro e W5 ⟨a3, c3, rfl, hr3, hc1, hc2, hc3, hB5⟩
        have hwl5 : wr.heap.size < W.heap.size := cell_lt e0
        have q0 := below_at hB5 e0 hwl5
        have q1 := below_at hB5 e1 hwl5
        have q2 := below_at hB5 e2 hwl5
        have q3 := below_at hB5 e3 hwl5
        have q4 := below_at hB5 e4 hwl5
        have q5 := below_at hB5 e5 hwl5
        have j5 : W5.frozen? ⟨wr.heap.size, 5, none⟩ = false := ((Mod.of_below (F := none') hB5).frozen (p := ⟨wr.heap.size, 5, none⟩) hwl5 id).trans k5
        have hBr5 : Below wr.heap.size wr W5 := (HBW.out.trans (HBw.out.mono HBW.out.size)).trans (hB5.mono (Nat.le_trans HBW.out.size HBw.out.size))
        have hwm : w.heap.size < wr.heap.size := by obtain ⟨es, ck, hh⟩ := HMr.out; exact block_lt hh.block
        obtain ⟨W6, hW6⟩ : ∃ W6, W6 = W5.setCell ⟨wr.heap.size, 5, none⟩ (.slice a3 ps.length c3) := ⟨_, rfl⟩
        have hM56 : Mod (· = wr.heap.size) W5 W6 := by rw [hW6]; exact Mod.setCellAt (F := (· = wr.heap.size)) (Mod.refl _ _) (fun _ => rfl) _
        have hM6 : Mod (· = wr.heap.size) wr W6 := (Mod.of_below hBr5).trans hM56
        obtain ⟨W7, hu, hm7, hM7, hz7⟩ := MapAt.upz (HMr.out.mod hM6 (fun e => by omega)) keyInt Tryz.underlying176 y0 ⟨y0, y1, y2, y3, y4, a3, c3, ps⟩
        simp only [iV, inCV] at hu
        have hB6 : Below w.heap.size w W6 := by rw [hW6]; exact belC (HBr.out.trans (hBr5.mono HBr.out.size))
        have HB7 := Lib.hid (hB6.trans (hM7.below_at hB6.size (fun k hk e => by omega)))
        have HM7 := Lib.hid hm7
        have HCN : Hid (PcOk W7 (fun k => w.heap.size ≤ k ∧ k ≠ w.heap.size) (⟨y0, y1, y2, y3, y4, a3, c3, ps⟩ : InC)) := Lib.hid (by
          have h5 : PcOk W5 (fun k => W.heap.size ≤ k ∧ k < W5.heap.size) (⟨y0, y1, y2, y3, y4, a3, c3, ps⟩ : InC) := ⟨hr3, fun e => hc3 (pts_none (by rw [← e]; exact hr3)) e, ⟨hc1, hc2⟩, HFW.out⟩
          exact ((h5.mod hM56 (fun k hk _ e => by omega)).mod hM7 (fun k hk _ e => by omega)).sub (fun k _ hk => ⟨by omega, by omega⟩))
        have HCO : Hid (∀ p ∈ m, PcOk W7 (fun k => w.heap.size ≤ k ∧ k ≠ w.heap.size) p.2) := Lib.hid (fun p hp => ((HMC.out p hp).mod hM6 (fun k hk h2 e => by omega)).mod hM7 (fun k hk h2 e => hk.2 e))
        rw [hW6] at hu
        clear hW6 hM56 hM6 hM7 hz7 hB6 hm7 hr3 hc1 hc2 hc3 hB5 e0 e1 e2 e3 e4 e5 k5 hBr5
        go_wp2_with fail
        go_roundg (l.length - (i + 1))
        case measure => omega
        case rel =>
          have hr1 : rowsP (l.map InC.val) nx (i + 1) = true := by rw [rowsP, HRW.out, HRT.out]; rfl
          have hset := set_far m y0 (⟨y0, y1, y2, y3, y4, a3, c3, ps⟩ : InC) (HFR.out hr1)
          have hm8 := HM7.out
          rw [hset] at hm8
          refine ⟨i + 1, _, rfl, by omega, (by first | rfl | (rw [hw0]; rfl)), hm8, by rw [List.map_append, HMV.out, HTK.out]; rfl, fun p hp => ?_, hr1, HB7.out⟩
          rcases List.mem_append.1 hp with h | h
          · exact HCO.out p h
          · rw [List.mem_singleton.1 h]; exact HCN.out
      · have hz' : decide ((0 : Int) < (i : Int)) = false := decide_eq_false (by omega)
        rw [decide_eq_true (by omega : i = 0)] at hrow
        have HRT : Hid (rowP (l.map InC.val) nx i = true) := Lib.hid hrow
        clear hrow
        go_wp2_with fail
        rw [← HW1.out]
        refine region_kwalk (S := fun W => (W.cell? ⟨wr.heap.size, 0, none⟩ = some (.int .i64 y0) ∧ W.cell? ⟨wr.heap.size, 1, none⟩ = some (.int .i64 y1) ∧ W.cell? ⟨wr.heap.size, 2, none⟩ = some (.int .i64 y2) ∧ W.cell? ⟨wr.heap.size, 3, none⟩ = some (.int .i64 y3) ∧ W.cell? ⟨wr.heap.size, 4, none⟩ = some (.int .i64 y4) ∧ W.cell? ⟨wr.heap.size, 5, none⟩ = some (.slice pa ps.length pc) ∧ W.cell? ⟨xb, xo + (i - 1) * 6, none⟩ = some (.int .i64 pv)) ∧ Below W1.heap.size W1 W) (by kernel_rfl) (by kernel_rfl) (by kernel_rfl) ⟨HK.out _ HBD.out, HBD.out⟩ ?_
        clear HBD
        refine kwL ?_
        refine kw_call (v := .bool true) (f := 121) (args := #[.agg #[.int .i64 y0, .int .i64 y1, .int .i64 y2, .int .i64 y3, .int .i64 y4, .slice pa ps.length pc]]) (by rfl) (by intro W hSw; go_simp; try with_reducible rfl) (fun W hS => (HGD.out W hS.2).mono (fun e W2 h => ⟨h.1, HK.out W2 (hS.2.trans (h.2.mono hS.2.size)), hS.2.trans (h.2.mono hS.2.size)⟩)) (by simp only [Act.put, List.setIfInBounds_toArray, List.set_cons_zero, List.set_cons_succ]; rfl) ?_
        repeat (first | refine kwL ?_ | refine kwU ?_)
        refine kw_nil (fun W hW => ?_)
        obtain ⟨hWk, hBw⟩ := hW
        have HBw := Lib.hid hBw
        have HWK := Lib.hid hWk
        clear hWk hBw
        obtain ⟨e0, e1, e2, e3, e4, e5, -⟩ := HWK.out
        have hBw := HBw.out
        have k5 : W.frozen? ⟨wr.heap.size, 5, none⟩ = false := ((Mod.of_below (F := none') hBw).frozen (p := ⟨wr.heap.size, 5, none⟩) HWL.out id).trans HK5.out
        have hpw := HPT.out.below' (HBr.out.trans ((HBW.out.trans (hBw.mono HBW.out.size)).mono HBr.out.size))
        have hcl := ptClone_any W T pa pc ps hpw.row (fun _ e => hpw.nil e) hpw.few
        have HFW := Lib.hid hpw.few
        clear hBw hpw HWK
        go_wp2_with fail
        refine hcl.mono ?_
        clear hcl
        rintro e W5 ⟨a3, c3, rfl, hr3, hc1, hc2, hc3, hB5⟩
        have hwl5 : wr.heap.size < W.heap.size := cell_lt e0
        have q0 := below_at hB5 e0 hwl5
        have q1 := below_at hB5 e1 hwl5
        have q2 := below_at hB5 e2 hwl5
        have q3 := below_at hB5 e3 hwl5
        have q4 := below_at hB5 e4 hwl5
        have q5 := below_at hB5 e5 hwl5
        have j5 : W5.frozen? ⟨wr.heap.size, 5, none⟩ = false := ((Mod.of_below (F := none') hB5).frozen (p := ⟨wr.heap.size, 5, none⟩) hwl5 id).trans k5
        have hBr5 : Below wr.heap.size wr W5 := (HBW.out.trans (HBw.out.mono HBW.out.size)).trans (hB5.mono (Nat.le_trans HBW.out.size HBw.out.size))
        have hwm : w.heap.size < wr.heap.size := by obtain ⟨es, ck, hh⟩ := HMr.out; exact block_lt hh.block
        obtain ⟨W6, hW6⟩ : ∃ W6, W6 = W5.setCell ⟨wr.heap.size, 5, none⟩ (.slice a3 ps.length c3) := ⟨_, rfl⟩
        have hM56 : Mod (· = wr.heap.size) W5 W6 := by rw [hW6]; exact Mod.setCellAt (F := (· = wr.heap.size)) (Mod.refl _ _) (fun _ => rfl) _
        have hM6 : Mod (· = wr.heap.size) wr W6 := (Mod.of_below hBr5).trans hM56
        obtain ⟨W7, hu, hm7, hM7, hz7⟩ := MapAt.upz (HMr.out.mod hM6 (fun e => by omega)) keyInt Tryz.underlying176 y0 ⟨y0, y1, y2, y3, y4, a3, c3, ps⟩
        simp only [iV, inCV] at hu
        have hB6 : Below w.heap.size w W6 := by rw [hW6]; exact belC (HBr.out.trans (hBr5.mono HBr.out.size))
        have HB7 := Lib.hid (hB6.trans (hM7.below_at hB6.size (fun k hk e => by omega)))
        have HM7 := Lib.hid hm7
        have HCN : Hid (PcOk W7 (fun k => w.heap.size ≤ k ∧ k ≠ w.heap.size) (⟨y0, y1, y2, y3, y4, a3, c3, ps⟩ : InC)) := Lib.hid (by
          have h5 : PcOk W5 (fun k => W.heap.size ≤ k ∧ k < W5.heap.size) (⟨y0, y1, y2, y3, y4, a3, c3, ps⟩ : InC) := ⟨hr3, fun e => hc3 (pts_none (by rw [← e]; exact hr3)) e, ⟨hc1, hc2⟩, HFW.out⟩
          exact ((h5.mod hM56 (fun k hk _ e => by omega)).mod hM7 (fun k hk _ e => by omega)).sub (fun k _ hk => ⟨by omega, by omega⟩))
        have HCO : Hid (∀ p ∈ m, PcOk W7 (fun k => w.heap.size ≤ k ∧ k ≠ w.heap.size) p.2) := Lib.hid (fun p hp => ((HMC.out p hp).mod hM6 (fun k hk h2 e => by omega)).mod hM7 (fun k hk h2 e => hk.2 e))
        rw [hW6] at hu
        clear hW6 hM56 hM6 hM7 hz7 hB6 hm7 hr3 hc1 hc2 hc3 hB5 e0 e1 e2 e3 e4 e5 k5 hBr5
        go_wp2_with fail
        go_roundg (l.length - (i + 1))
        case measure => omega
        case rel =>
          have hr1 : rowsP (l.map InC.val) nx (i + 1) = true := by rw [rowsP, HRW.out, HRT.out]; rfl
          have hset := set_far m y0 (⟨y0, y1, y2, y3, y4, a3, c3, ps⟩ : InC) (HFR.out hr1)
          have hm8 := HM7.out
          rw [hset] at hm8
          refine ⟨i + 1, _, rfl, by omega, (by first | rfl | (rw [hw0]; rfl)), hm8, by rw [List.map_append, HMV.out, HTK.out]; rfl, fun p hp => ?_, hr1, HB7.out⟩
          rcases List.mem_append.1 hp with h | h
          · exact HCO.out p h
          · rw [List.mem_singleton.1 h]; exact HCN.out
    · obtain rfl : i = l.length := by omega
      have d0 := below_at hB c0 hbl
      have d1 := below_at hB c1 hbl
      have u0 := ((Mod.of_below (F := none') hB).frozen (p := ⟨b, 0, none⟩) hbl id).trans f0
      have u1 := ((Mod.of_below (F := none') hB).frozen (p := ⟨b, 1, none⟩) hbl id).trans f1
      have hwm : w.heap.size < wr.heap.size := by obtain ⟨es, ck, hh⟩ := hmp; exact block_lt hh.block
      have hM : Mod (· = b) wr ((wr.setCell ⟨b, 0, none⟩ (.map (some w.heap.size))).setCell ⟨b, 1, none⟩ (.int .i64 nx)) := Mod.setCellAt (F := (· = b)) (Mod.setCellAt (F := (· = b)) (Mod.refl _ _) (fun _ => rfl) _) (fun _ => rfl) _
      have HMP2 := Lib.hid (hmp.mod hM (fun e => by omega))
      have HCP2 : Hid (∀ p ∈ m, PcOk _ (fun k => w.heap.size ≤ k ∧ k ≠ w.heap.size) p.2) := Lib.hid (fun p hp => (hmc p hp).mod hM (fun k hk h2 e => by omega))
      have hr11 := HQ.out.trans (loadP_ok HHT.out (by rw [List.length_map]; exact hrw))
      clear HQ
      subst hr11
      have HB := Lib.hid hB
      have HM := Lib.hid hM
      have HMV := Lib.hid hmv
      clear hmp hmc hB hM hmv hrw hi
      go_wp2_with fail
      go_ret
      have hbr : b < wr.heap.size := cell_lt d0
      refine ⟨rfl, (Mod.of_below HB.out).trans HM.out, ⟨Or.inl HSB.out, fun k hk => ?_, w.heap.size, _, by go_simp, (by show _ = some (Value.int .i64 nx); go_simp), fun j => ?_, HMP2.out, Or.inr ⟨Nat.le_refl _, by simp; omega⟩, fun e => by omega, by rw [HMV.out, List.take_length, tabOf, List.map_map]; rfl, fun p hp => ?_⟩⟩
      · rcases hk with hk | hk
        · have := HLT.out k hk; have := HB.out.size; simp; omega
        · exact hk.2
      · exact (World.frozen?_setCell _ _ _ _).trans ((World.frozen?_setCell _ _ _ _).trans (((Mod.of_below (F := none') HB.out).frozen (p := ⟨b, j, none⟩) hbl id).trans (F1.out j)))
      · exact (HCP2.out p hp).sub fun k hk h => ⟨Or.inr ⟨h.1, hk⟩, fun e => by omega, h.2⟩
end Go.Proofs.YtmnkackkeppheaaGreat
