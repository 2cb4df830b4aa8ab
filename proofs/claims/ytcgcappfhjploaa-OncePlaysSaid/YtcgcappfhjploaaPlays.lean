/-
  PROVED: the law OncePlays answers true at every input, and changes nothing that was there. No condition.
-/
import Derived.Test.YtcgcappfhjploaaRef
import Derived.Test.YtcgcappfhjploaaRead
import Derived.Lib.Hide
import Derived.Deep.LoopGhost
import Derived.Deep.CutRange
import Derived.Deep.DeepCutAuto
namespace Go.Proofs.Ytcgcappfhjploaa
open Go.RowKit Esch Go.ChangeShapes Go.WideShapes Go.ChangeAt Go.Deep

/-- the two hold the same -/
def Link (m : OM) (f : Int → Int × Int × Int) : Prop := ∀ c, thereB c = true → last m c = f c
theorem Link.seen {m : OM} {f : Int → Int × Int × Int} (h : Link m f) (c s : Int) : rseen f c s = oseen m c s := by
  unfold rseen oseen
  cases hc : thereB c
  · rfl
  · rw [h c hc]
theorem Link.note1 {m : OM} {f : Int → Int × Int × Int} (h : Link m f) (c s : Int) (r : Int × Int) : (rnote f c s r).1 = (onote m c s r).1 := by
  unfold rnote onote
  rw [h.seen]
  split
  · rfl
  · split <;> rfl
theorem Link.note {m : OM} {f : Int → Int × Int × Int} (h : Link m f) (c s : Int) (r : Int × Int) : Link (onote m c s r).2 (rnote f c s r).2 := by
  unfold rnote onote
  rw [h.seen]
  split
  · exact h
  · split
    · exact h
    · intro d hd
      by_cases e : c = d
      · subst e; simp [Ytcgcappfhjploaa.last, get_set]
      · have := h d hd
        simp only [Ytcgcappfhjploaa.last, get_set, if_neg e] at this ⊢
        rw [this, if_neg (fun x : d = c => e x.symm)]
theorem Link.last {m : OM} {f : Int → Int × Int × Int} (h : Link m f) (c : Int) : rlast f c = olast m c := by
  unfold rlast olast
  split
  · rename_i hc; exact (h c hc).symm
  · rfl

theorem rnote_link {m : OM} {f : Int → Int × Int × Int} (h : Link m f) (c s x y : Int) (w : World) (b : Nat) (hR : RefAt w b f) :
    Calls Try.prog 13 #[.pointer (some ⟨b, 0, none⟩), .int .i64 c, .int .i64 s, .agg #[.int .i64 x, .int .i64 y]] w (RNotePost w b ((onote m c s (x, y)).1, (rnote f c s (x, y)).2)) := by
  have := rnote_any c s x y w b f hR
  rw [show rnote f c s (x, y) = ((onote m c s (x, y)).1, (rnote f c s (x, y)).2) by rw [← h.note1]] at this
  exact this

def PlaysRel (w : World) (b mb qb n g : Nat) (s5 : Value) (wr : World) : Prop :=
  ∃ (k : Nat) (m : OM) (f : Int → Int × Int × Int), g = n - k ∧ k ≤ n ∧ s5 = .int .i64 k ∧ OnceAt wr b mb m ∧ RefAt wr qb f ∧ Link m f ∧ Below w.heap.size w wr

theorem ref_new (w : World) (t : TypeId) : RefAt (w.alloc (.cells (Array.replicate 24 (.int .i64 0)) t)) w.heap.size (fun _ => (0, 0, 0)) := by
  have h : ∀ k, k < 24 → (w.alloc (.cells (Array.replicate 24 (.int .i64 0)) t)).cell? ⟨w.heap.size, k, none⟩ = some (.int .i64 0) := fun k hk => by
    rw [World.cell?_alloc_new]; simp [hk]
  exact ⟨fun k hk => ⟨h k (by omega), by simp⟩, fun k hk => ⟨h _ (by omega), by simp⟩, fun k hk => ⟨h _ (by omega), by simp⟩⟩

set_option maxRecDepth 100000 in
set_option maxHeartbeats 2000000 in
theorem plays_walk (oa : Option Addr) (n cap : Nat) (ys : Nat → Int × Int × Int × Int × Int) (hn : n ≤ 9223372036854775807) (w : World)
    (hoa : 0 < n → ∃ b off, oa = some ⟨b, off, none⟩ ∧ b < w.heap.size ∧ ∀ i, i < n → w.cell? ⟨b, off + i * 5, none⟩ = some (.int .i64 (ys i).1) ∧ w.cell? ⟨b, off + i * 5 + 1, none⟩ = some (.int .i64 (ys i).2.1) ∧ w.cell? ⟨b, off + i * 5 + 2, none⟩ = some (.int .i64 (ys i).2.2.1) ∧
      w.cell? ⟨b, off + i * 5 + 3, none⟩ = some (.int .i64 (ys i).2.2.2.1) ∧ w.cell? ⟨b, off + i * 5 + 4, none⟩ = some (.int .i64 (ys i).2.2.2.2)) :
    Calls Try.prog 3 #[.slice oa n cap] w fun e w' => e = .returned (.bool true) ∧ Below w.heap.size w w' := by
  have Hoa := Lib.hid hoa
  clear hoa
  go_enter Try.func3, Try.ntmps3
  go_wp2_with fail
  refine (new_any _).mono ?_
  rintro e w1 ⟨b, mb, rfl, h1, hb, hmb, hne, hB⟩
  go_wp2_with fail
  have hq : RefAt (w1.alloc (.cells #[.int .i64 0, .int .i64 0, .int .i64 0, .int .i64 0, .int .i64 0, .int .i64 0, .int .i64 0, .int .i64 0, .int .i64 0, .int .i64 0, .int .i64 0, .int .i64 0, .int .i64 0, .int .i64 0, .int .i64 0, .int .i64 0, .int .i64 0, .int .i64 0, .int .i64 0, .int .i64 0, .int .i64 0, .int .i64 0, .int .i64 0, .int .i64 0] 31)) w1.heap.size (fun _ => (0, 0, 0)) := ref_new w1 31
  have hmbl := h1.lt
  have hbl := cell_lt h1.1
  have hqw : w.heap.size ≤ w1.heap.size := hB.size
  generalize hqb : w1.heap.size = qb at hq hmbl hbl hqw ⊢
  have hqm : qb ≠ mb := by omega
  have hbq : ¬ b = qb := by omega
  clear hqb
  go_loopg [5] n (fun g s5 wr => PlaysRel w b mb qb n g s5 wr)
  case atStart => exact ⟨0, [], _, rfl, Nat.zero_le _, rfl, h1.mod ((Mod.refl none' _).alloc _) id id, hq, fun c _ => rfl, hB.alloc hB.size _⟩
  case round =>
    clear hq h1 hmbl hbl hB
    obtain ⟨k, m, f, rfl, hk, rfl, hO, hR, hLk, hBr⟩ := hrel
    by_cases hlt : k < n ∧ k < 300
    · obtain ⟨hlt1, hlt2⟩ := hlt
      obtain ⟨bo, offo, rfl, hbo, hco⟩ := Hoa.out (by omega)
      obtain ⟨hc0, hc1, hc2, hc3, hc4⟩ := hco k hlt1
      rw [← hBr.cell (p := ⟨bo, _, none⟩) hbo] at hc0 hc1 hc2 hc3 hc4
      clear hco
      obtain ⟨⟨y0, y1, y2, y3, y4⟩, hy⟩ : ∃ y, y = ys k := ⟨_, rfl⟩
      rw [← hy] at hc0 hc1 hc2 hc3 hc4
      clear hy
      simp only at hc0 hc1 hc2 hc3 hc4
      have hOl := cell_lt hO.1
      have hRl := hR.lt
      obtain ⟨wx, hwx⟩ : ∃ wx, wx = wr.alloc (.cells #[.int .i64 y0, .int .i64 y1, .int .i64 y2, .int .i64 y3, .int .i64 y4] 33) := ⟨_, rfl⟩
      have hMx : Mod none' wr wx := by rw [hwx]; exact (Mod.refl _ _).alloc _
      have hxs : wr.heap.size < wx.heap.size := by rw [hwx]; simp
      have x0 : wx.cell? ⟨wr.heap.size, 0, none⟩ = some (.int .i64 y0) := by rw [hwx, World.cell?_alloc_new]; rfl
      have x1 : wx.cell? ⟨wr.heap.size, 1, none⟩ = some (.int .i64 y1) := by rw [hwx, World.cell?_alloc_new]; rfl
      have x2 : wx.cell? ⟨wr.heap.size, 2, none⟩ = some (.int .i64 y2) := by rw [hwx, World.cell?_alloc_new]; rfl
      have x3 : wx.cell? ⟨wr.heap.size, 3, none⟩ = some (.int .i64 y3) := by rw [hwx, World.cell?_alloc_new]; rfl
      have x4 : wx.cell? ⟨wr.heap.size, 4, none⟩ = some (.int .i64 y4) := by rw [hwx, World.cell?_alloc_new]; rfl
      have hOx := hO.mod hMx.drew id id
      have hRx := hR.mod hMx.drew id
      have s1 := seen_any y1 y2 wx.drew b mb m hOx
      have s2 := rseen_any y1 y2 wx.drew qb f hRx
      rw [hLk.seen] at s2
      have Hwx := Lib.hid hwx
      clear hwx
      by_cases hy0 : y0 = 0
      · have hy0' : (y0 == 0) = true := by simp [hy0]
        clear hy0
        go_wp2_with fail
        rw [← Hwx.out]
        clear hc0 hc1 hc2 hc3 hc4 hR
        go_region_held3 (fun w' => w' = wx.drew) (first | rfl | assumption)
          (first
            | (go_at_call 10; (with_reducible refine s1.mono ?_); rintro e w' ⟨rfl, rfl⟩)
            | (go_at_call 11; (with_reducible refine s2.mono ?_); rintro e w' ⟨rfl, rfl⟩))
        clear s1 s2
        have n1 := note_any y1 y2 y3 y4 wx.drew.drew b mb m (hOx.mod (Mod.refl none' _).drew id id) hne
        have hRx2 := hRx.mod ((Mod.refl none' _).drew) id
        have hxm : ¬ wr.heap.size = mb := by have := hO.lt; omega
        have hxq : ¬ wr.heap.size = qb := by omega
        go_wp2_with fail
        go_region_held3 (fun w' => w'.cell? ⟨wr.heap.size, 0, none⟩ = some (.int .i64 y0) ∧ w'.cell? ⟨wr.heap.size, 1, none⟩ = some (.int .i64 y1) ∧ w'.cell? ⟨wr.heap.size, 2, none⟩ = some (.int .i64 y2) ∧ w'.cell? ⟨wr.heap.size, 3, none⟩ = some (.int .i64 y3) ∧ w'.cell? ⟨wr.heap.size, 4, none⟩ = some (.int .i64 y4))
          (first
            | exact ⟨x0, x1, x2, x3, x4⟩
            | exact ⟨((hM3.cell (p := ⟨_, 0, none⟩) hx2 hxq).trans (hM2.cell (p := ⟨_, 0, none⟩) hxs hxm)).trans x0, ((hM3.cell (p := ⟨_, 1, none⟩) hx2 hxq).trans (hM2.cell (p := ⟨_, 1, none⟩) hxs hxm)).trans x1, ((hM3.cell (p := ⟨_, 2, none⟩) hx2 hxq).trans (hM2.cell (p := ⟨_, 2, none⟩) hxs hxm)).trans x2, ((hM3.cell (p := ⟨_, 3, none⟩) hx2 hxq).trans (hM2.cell (p := ⟨_, 3, none⟩) hxs hxm)).trans x3, ((hM3.cell (p := ⟨_, 4, none⟩) hx2 hxq).trans (hM2.cell (p := ⟨_, 4, none⟩) hxs hxm)).trans x4⟩
            | exact ⟨(hM2.cell (p := ⟨_, 0, none⟩) hxs hxm).trans x0, (hM2.cell (p := ⟨_, 1, none⟩) hxs hxm).trans x1, (hM2.cell (p := ⟨_, 2, none⟩) hxs hxm).trans x2, (hM2.cell (p := ⟨_, 3, none⟩) hxs hxm).trans x3, (hM2.cell (p := ⟨_, 4, none⟩) hxs hxm).trans x4⟩)
          (first
            | (go_at_call 12; (with_reducible refine n1.mono ?_); rintro e w2 ⟨rfl, hO2, hM2⟩; have hx2 : wr.heap.size < w2.heap.size := Nat.lt_of_lt_of_le hxs hM2.size; have n2 := rnote_link hLk y1 y2 y3 y4 w2 qb (hRx2.mod hM2 hqm))
            | (go_at_call 13; (with_reducible refine n2.mono ?_); rintro e w3 ⟨rfl, hR3, hM3⟩))
        go_wp2_with fail
        have hO3 := hO2.mod hM3 hbq (fun e => hqm e.symm)
        have hL3 := hLk.note y1 y2 (y3, y4)
        have z3 := ((hM3.cell (p := ⟨_, 1, none⟩) hx2 hxq).trans (hM2.cell (p := ⟨_, 1, none⟩) hxs hxm)).trans x1
        have hx3 : wr.heap.size < w3.heap.size := Nat.lt_of_lt_of_le hx2 hM3.size
        have hBw2 : Below w.heap.size w w2 := ((hBr.trans (hMx.below.mono hBr.size)).drew.drew).trans (hM2.below_at (Nat.le_trans hBr.size hMx.size) fun j hj e => by omega)
        have hBw3 : Below w.heap.size w w3 := hBw2.trans (hM3.below_at hBw2.size fun j hj e => by omega)
        clear hO2 hM3 hM2 n1 hRx2 hO hOx hRx hBr hBw2
        replace hR3 : RefAt w3 qb (rnote f y1 y2 (y3, y4)).2 := hR3
        generalize (onote m y1 y2 (y3, y4)).2 = m3 at hO3 hL3
        generalize (rnote f y1 y2 (y3, y4)).2 = f3 at hR3 hL3
        have l3 := last_any y1 w3 b mb m3 hO3
        go_wp2_with fail
        refine l3.mono ?_
        clear l3
        rintro e w4 ⟨rfl, hB4⟩
        have z4 := (hB4.cell (p := ⟨wr.heap.size, 1, none⟩) hx3).trans z3
        have hx4 : wr.heap.size < w4.heap.size := Nat.lt_of_lt_of_le hx3 hB4.size
        have hO4 := hO3.mod (F := none') (Mod.of_below hB4) id id
        have hR4 := hR3.mod (F := none') (Mod.of_below hB4) id
        have hBw4 := hBw3.trans (hB4.mono hBw3.size)
        clear hO3 hR3 z3 hB4 hBw3
        go_wp2_with fail
        refine (rlast_any y1 _ qb f3 (hR4.mod ((Mod.refl none' _).alloc _) id)).mono ?_
        rintro e w5 ⟨rfl, hB5⟩
        rw [hL3.last]
        have hO5 := (hO4.mod ((Mod.refl none' _).alloc _) id id).mod (F := none') (Mod.of_below hB5) id id
        have hR5 := (hR4.mod ((Mod.refl none' _).alloc _) id).mod (F := none') (Mod.of_below hB5) id
        have hBw5 := (hBw4.alloc hBw4.size _).trans (hB5.mono (hBw4.alloc hBw4.size _).size)
        clear hO4 hR4 hBw4
        simp only [World.size_alloc] at hB5
        obtain ⟨hc5, -⟩ := bcell hB5
        have hz5 : w4.heap.size < w5.heap.size := by have := hB5.size; simp at this; omega
        go_wp2_with fail
        go_roundg (n - (k + 1))
        case measure => omega
        case rel => exact ⟨k + 1, m3, f3, rfl, by omega, by go_num, hO5.mod ((Mod.refl none' _).alloc _) id id, hR5.mod ((Mod.refl none' _).alloc _) id, hL3, hBw5.alloc hBw5.size _⟩
      · have hy0' : (y0 == 0) = false := by simp [hy0]
        clear hy0
        go_wp2_with fail
        rw [← Hwx.out]
        clear hc0 hc1 hc2 hc3 hc4
        go_region_held3 (fun w' => w' = wx.drew) (first | rfl | assumption)
          (first
            | (go_at_call 10; (with_reducible refine s1.mono ?_); rintro e w' ⟨rfl, rfl⟩)
            | (go_at_call 11; (with_reducible refine s2.mono ?_); rintro e w' ⟨rfl, rfl⟩))
        clear s1 s2
        go_wp2_with fail
        go_quiet (fail)
        generalize hw3 : World.drewN wx.drew nq = w3
        have hM3' : Mod none' wx w3 := by rw [← hw3]; exact (Mod.refl _ _).drew.drewN _
        have hM3 : Mod none' wr w3 := hMx.trans hM3'
        have hO3 := hO.mod hM3 id id
        have hR3 := hR.mod hM3 id
        have z3 := hM3'.at x1 id
        have hx3 : wr.heap.size < w3.heap.size := Nat.lt_of_lt_of_le hxs hM3'.size
        have hBw3 : Below w.heap.size w w3 := hBr.trans (hM3.below.mono hBr.size)
        have hL3 := hLk
        obtain ⟨m3, rfl⟩ : ∃ m3, m3 = m := ⟨_, rfl⟩
        obtain ⟨f3, rfl⟩ : ∃ f3, f3 = f := ⟨_, rfl⟩
        clear hO hOx hRx hBr hM3 hM3' hw3 hLk hR
        have l3 := last_any y1 w3 b mb m3 hO3
        go_wp2_with fail
        refine l3.mono ?_
        clear l3
        rintro e w4 ⟨rfl, hB4⟩
        have z4 := (hB4.cell (p := ⟨wr.heap.size, 1, none⟩) hx3).trans z3
        have hx4 : wr.heap.size < w4.heap.size := Nat.lt_of_lt_of_le hx3 hB4.size
        have hO4 := hO3.mod (F := none') (Mod.of_below hB4) id id
        have hR4 := hR3.mod (F := none') (Mod.of_below hB4) id
        have hBw4 := hBw3.trans (hB4.mono hBw3.size)
        clear hO3 hR3 z3 hB4 hBw3
        go_wp2_with fail
        refine (rlast_any y1 _ qb f3 (hR4.mod ((Mod.refl none' _).alloc _) id)).mono ?_
        rintro e w5 ⟨rfl, hB5⟩
        rw [hL3.last]
        have hO5 := (hO4.mod ((Mod.refl none' _).alloc _) id id).mod (F := none') (Mod.of_below hB5) id id
        have hR5 := (hR4.mod ((Mod.refl none' _).alloc _) id).mod (F := none') (Mod.of_below hB5) id
        have hBw5 := (hBw4.alloc hBw4.size _).trans (hB5.mono (hBw4.alloc hBw4.size _).size)
        clear hO4 hR4 hBw4
        simp only [World.size_alloc] at hB5
        obtain ⟨hc5, -⟩ := bcell hB5
        have hz5 : w4.heap.size < w5.heap.size := by have := hB5.size; simp at this; omega
        go_wp2_with fail
        go_roundg (n - (k + 1))
        case measure => omega
        case rel => exact ⟨k + 1, m3, f3, rfl, by omega, by go_num, hO5.mod ((Mod.refl none' _).alloc _) id id, hR5.mod ((Mod.refl none' _).alloc _) id, hL3, hBw5.alloc hBw5.size _⟩
    · have hge : n ≤ k ∨ 300 ≤ k := by omega
      clear hlt
      rcases hge with hge | hge
      all_goals go_wp2_with fail
      all_goals
        refine (wakes_any _).mono ?_
        rintro e w9 ⟨rfl, hB9⟩
        go_wp2_with fail
        go_ret
        exact ⟨rfl, hBr.trans (hB9.mono hBr.size)⟩

theorem Try.own : ownKnob Try.prog.godebug = none := by kernel_rfl
theorem Try.laidOut : laidOutB Try.prog = true := by kernel_rfl

def tyStep : Ty := .struct [.int .i64, .int .i64, .int .i64, .struct [.int .i64, .int .i64]]
theorem rd_step {w : World} {cs : List Value} {x : D} (h : Rd w tyStep cs x) : ∃ y : Int × Int × Int × Int × Int, cs = [.int .i64 y.1, .int .i64 y.2.1, .int .i64 y.2.2.1, .int .i64 y.2.2.2.1, .int .i64 y.2.2.2.2] := by
  simp only [tyStep, rd_struct, rds_cons, rds_nil, rd_int] at h
  obtain ⟨ds, rfl, c0, r0, d0, s0, rfl, rfl, -, ⟨k, rfl, rfl, -⟩, c1, r1, d1, s1, rfl, rfl, -, ⟨c, rfl, rfl, -⟩, c2, r2, d2, s2, rfl, rfl, -, ⟨q, rfl, rfl, -⟩, c3, r3, d3, s3, rfl, rfl, -, ⟨es, rfl, c4, r4, d4, s4, rfl, rfl, -, ⟨a, rfl, rfl, -⟩, c5, r5, d5, s5, rfl, rfl, -, ⟨b, rfl, rfl, -⟩, rfl, rfl⟩, rfl, rfl⟩ := h
  exact ⟨(k, c, q, a, b), rfl⟩

/-- the steps of a slice, each a row of five numbers -/
theorem rd_steps {w : World} {cs : List Value} {d : D} (h : Rd w (.slice tyStep) cs d) : ∃ (a0 : Option Addr) (n cap : Nat) (ys : Nat → Int × Int × Int × Int × Int), cs.headD undef = .slice a0 n cap ∧ n ≤ 9223372036854775807 ∧
    (0 < n → ∃ b off, a0 = some ⟨b, off, none⟩ ∧ b < w.heap.size ∧ ∀ i, i < n → ∀ j, j < 5 → w.cell? ⟨b, off + i * 5 + j, none⟩ = [Value.int .i64 (ys i).1, .int .i64 (ys i).2.1, .int .i64 (ys i).2.2.1, .int .i64 (ys i).2.2.2.1, .int .i64 (ys i).2.2.2.2][j]?) := by
  obtain ⟨l, f, rfl, ⟨a0, cap, hv, -, hn, hc⟩, hl⟩ := rd_sliceAt h
  have key : ∀ i, ∃ y : Int × Int × Int × Int × Int, i < l.length → f i = [.int .i64 y.1, .int .i64 y.2.1, .int .i64 y.2.2.1, .int .i64 y.2.2.2.1, .int .i64 y.2.2.2.2] := by
    intro i
    by_cases hi : i < l.length
    · obtain ⟨y, hy⟩ := rd_step (hl i hi); exact ⟨y, fun _ => hy⟩
    · exact ⟨(0, 0, 0, 0, 0), fun h => absurd h hi⟩
  refine ⟨a0, l.length, cap, fun i => Classical.choose (key i), hv, hn, fun h0 => ?_⟩
  obtain ⟨b, off, rfl, hb, hcell⟩ := hc h0 (by decide)
  exact ⟨b, off, rfl, hb, fun i hi j hj => by rw [← Classical.choose_spec (key i) hi]; exact hcell i hi j hj⟩


set_option maxRecDepth 100000 in
theorem plays_lifted (os : Os) (started : os.Started) (H : Type) (enc : TypeId × Value → H) :
    ReturnsInHanded {} Try.checked os 3 .any (Rows.oncePlaysSpec.pre6 enc Try.prog Try.f3 Rows.oncePlaysRow.domain false) (Rows.oncePlaysSpec.post enc Try.prog Try.f3 false true false false) := by
  refine returnsInHanded_of_change (C := Try.checked) Try.own started (by kernel_rfl) Try.func3
    (ChangeSpec.witness6 (enc := enc) (C := Try.checked) false ⟨#[], #[.slice none 0 0], []⟩ 8 (by kernel_rfl) (by kernel_rfl) (by kernel_rfl) (by kernel_rfl)) ?_
  intro W base args ds gs before hval0 hW hcnd _
  have hval : ∀ (j : Nat) t v, Try.f3.params[j]? = some t → args[j]? = some v → Value.okWide Try.prog W .any base t v := hval0
  have hW' := hW
  obtain ⟨p, q, hA0, hV, rfl, hfz, hnd⟩ := hW
  have hA : DataW.TrodAll enc Try.prog W 0 (fun _ => true) true Try.f3.params.toList args.toList ds p := hA0
  rw [Try.params3] at hA hval
  obtain ⟨v0, vs0, d0, ds0, p0, q0, hargs, rfl, rfl, h0, r0⟩ := trodAll_cons hA
  obtain ⟨rfl, rfl, rfl⟩ := trodAll_nil r0
  obtain rfl : args = #[v0] := by cases args; simp_all
  obtain ⟨rfl, rfl⟩ := trodVars_none hV
  obtain ⟨cs0, x0, hv0, hr0⟩ := open_arg (n := 5) (T := .slice tyStep) (by kernel_rfl) (hval 0 22 v0 rfl rfl) h0
  simp only [Ty.isStruct, Bool.false_eq_true, if_false] at hv0
  obtain ⟨oa, m, cap, ys, e0, hm, hoa⟩ := rd_steps hr0
  rw [e0] at hv0
  subst hv0
  clear hA0 hval0
  refine (plays_walk oa m cap ys hm W fun h0 => ?_).mono fun e W' ⟨he, hb⟩ => ?_
  · obtain ⟨b, off, rfl, hb, hcell⟩ := hoa h0
    exact ⟨b, off, rfl, hb, fun i hi => ⟨hcell i hi 0 (by decide), hcell i hi 1 (by decide), hcell i hi 2 (by decide), hcell i hi 3 (by decide), hcell i hi 4 (by decide)⟩⟩
  subst he
  exact ⟨_, rfl, law_post Try.laidOut (by kernel_rfl) rfl Try.underlying4 hW' rfl rfl rfl rfl hb⟩

theorem oncePlays_holds : Rows.OncePlaysSaid :=
  OpenClaim.holds_of_wide 3 Try.f3 rfl rfl rfl rfl rfl rfl rfl ⟨rfl, rfl, rfl, rfl, rfl⟩ rfl rfl rfl rfl rfl (by kernel_rfl) Try.func3 (by kernel_rfl)
    (of_decide_eq_true (by kernel_rfl)) (by unfold Func.isWrapper; first | (rw [if_pos (by decide +kernel)]; kernel_rfl) | (rw [if_neg (by decide +kernel)]; exact ⟨rfl, rfl⟩))
    (fun os started H enc _ => plays_lifted os started H enc)
end Go.Proofs.Ytcgcappfhjploaa
