/-
  PROVED: the law OnceAlone answers true at every input, and changes nothing that was there. No condition.
-/
import Derived.Test.YtcgcappfhjploaaOnce
import Derived.Test.YtcgcappfhjploaaRead
import Derived.Lib.Hide
import Derived.Deep.LoopGhost
import Derived.Deep.CutRange
import Derived.Deep.DeepCutAuto
namespace Go.Proofs.Ytcgcappfhjploaa
open Go.RowKit Esch Go.ChangeShapes Go.WideShapes Go.ChangeAt Go.Deep

theorem last_set_same (m : OM) (c : Int) (x : Int × Int × Int) : last (set m c x) c = x := by
  simp [last, get_set]
theorem last_set_other (m : OM) (c d : Int) (x : Int × Int × Int) (h : d ≠ c) : last (set m d x) c = last m c := by
  simp [last, get_set, h]
theorem last_note_other (m : OM) (c d s : Int) (r : Int × Int) (h : d ≠ c) : last (onote m d s r).2 c = last m c := by
  unfold onote; split
  · rfl
  · split
    · rfl
    · exact last_set_other m c d _ h

theorem note_own (mm : OM) (c x L : Int) (hc : thereB c = true) (hl : last mm c = (L, 0, L)) : ∃ code m1, onote mm c x (0, x) = (code, m1) ∧ (code == 0) = decide (L < x) ∧ last m1 c = ((if L < x then x else L), 0, (if L < x then x else L)) := by
  unfold onote oseen
  simp only [hc, hl, Bool.true_eq_false, if_false, Bool.not_true, Bool.false_or, decide_eq_true_eq]
  split
  · rename_i h
    refine ⟨61, mm, rfl, ?_, by rw [hl, if_neg (by omega)]⟩
    have : ¬ L < x := by omega
    simp [this]
  · rename_i h
    refine ⟨0, _, rfl, ?_, by rw [last_set_same, if_pos (by omega)]⟩
    have : L < x := by omega
    simp [this]

/-- what the loop holds -/
def AloneRel (w : World) (b mb : Nat) (c : Int) (n : Nat) (g : Nat) (s9 s10 : Value) (wr : World) : Prop :=
  ∃ (k : Nat) (L : Int) (m : OM), g = n - k ∧ k ≤ n ∧ s10 = .int .i64 k ∧ s9 = .int .i64 L ∧ 0 ≤ L ∧ L ≤ 255 ∧ OnceAt wr b mb m ∧ last m c = (L, 0, L) ∧ Below w.heap.size w wr

set_option maxRecDepth 100000 in
set_option maxHeartbeats 2000000 in
theorem alone_walk (cl : Int) (hcl : 0 ≤ cl ∧ cl ≤ 255) (sa : Option Addr) (n cap1 : Nat) (xs : Nat → Int) (hxs : ∀ i, i < n → 0 ≤ xs i ∧ xs i ≤ 255) (hn : n ≤ 9223372036854775807)
    (oa : Option Addr) (m cap2 : Nat) (ys : Nat → Int × Int × Int × Int × Int) (hm : m ≤ 9223372036854775807) (w : World)
    (hsa : 0 < n → ∃ b off, sa = some ⟨b, off, none⟩ ∧ b < w.heap.size ∧ ∀ i, i < n → w.cell? ⟨b, off + i, none⟩ = some (.int .u8 (xs i)))
    (hoa : 0 < m → ∃ b off, oa = some ⟨b, off, none⟩ ∧ b < w.heap.size ∧ ∀ i, i < m → w.cell? ⟨b, off + i * 5 + 1, none⟩ = some (.int .i64 (ys i).2.1) ∧ w.cell? ⟨b, off + i * 5 + 2, none⟩ = some (.int .i64 (ys i).2.2.1) ∧
      w.cell? ⟨b, off + i * 5 + 3, none⟩ = some (.int .i64 (ys i).2.2.2.1) ∧ w.cell? ⟨b, off + i * 5 + 4, none⟩ = some (.int .i64 (ys i).2.2.2.2)) :
    Calls Try.prog 4 #[.int .u8 cl, .slice sa n cap1, .slice oa m cap2] w fun e w' => e = .returned (.bool true) ∧ Below w.heap.size w w' := by
  obtain ⟨hcl1, hcl2⟩ := hcl
  have Hsa := Lib.hid hsa
  have Hoa := Lib.hid hoa
  have Hxs := Lib.hid hxs
  clear hsa hoa hxs
  have hth : thereB (cl % 8) = true := by simp [thereB]; omega
  have Hth := Lib.hid hth
  clear hth
  go_enter Try.func4, Try.ntmps4
  go_wp2_with fail
  refine (new_any _).mono ?_
  rintro e w1 ⟨b, mb, rfl, h1, hb, hmb, hne, hB⟩
  go_wp2_with fail
  go_loopg [9, 10] n (fun g s9 s10 wr => AloneRel w b mb (cl % 8) n g s9 s10 wr)
  case atStart => exact ⟨0, 0, [], rfl, Nat.zero_le _, rfl, rfl, by omega, by omega, h1, rfl, hB⟩
  case round =>
    obtain ⟨k, L, mm, rfl, hk, rfl, rfl, hL1, hL2, hO, hlast, hBr⟩ := hrel
    have hbr := cell_lt hO.1
    by_cases hlt : k < n ∧ k < 100
    · obtain ⟨hlt1, hlt2⟩ := hlt
      obtain ⟨ba, offa, rfl, hba, hca⟩ := Hsa.out (by omega)
      have hx := Hxs.out k hlt1
      have hck : wr.cell? ⟨ba, offa + k, none⟩ = some (.int .u8 (xs k)) := (hBr.cell (p := ⟨ba, offa + k, none⟩) hba).trans (hca k hlt1)
      clear hca
      obtain ⟨hx1, hx2⟩ := hx
      have Hlast := Lib.hid hlast
      clear hlast
      obtain ⟨code, m1, hon, hcode, hl1⟩ := note_own mm (cl % 8) (xs k) L Hth.out Hlast.out
      have n1 := note_any (cl % 8) (xs k) 0 (xs k) wr b mb mm hO hne
      rw [hon] at n1
      clear hon
      have Hl1 := Lib.hid hl1
      clear hl1
      go_wp2_with fail
      refine n1.mono ?_
      clear n1
      rintro e w2 ⟨rfl, hO2, hM2⟩
      have hB2 : Below w.heap.size w w2 := hBr.trans (hM2.below_at hBr.size fun j hj e => by omega)
      have hz2 := hB2.size
      clear hO hBr hck hbr hM2
      obtain ⟨L', hLL⟩ : ∃ L', L' = if L < xs k then xs k else L := ⟨_, rfl⟩
      have hL1' : 0 ≤ L' := by subst hLL; split <;> omega
      have hL2' : L' ≤ 255 := by subst hLL; split <;> omega
      have HLL := Lib.hid hLL
      clear hLL
      by_cases hkm : k < m
      · obtain ⟨bo, offo, rfl, hbo, hco⟩ := Hoa.out (by omega)
        obtain ⟨hc1, hc2, hc3, hc4⟩ := hco k hkm
        rw [← hB2.cell (p := ⟨bo, _, none⟩) hbo] at hc1 hc2 hc3 hc4
        clear hco
        by_cases hy : (ys k).2.1 = cl % 8
        · have hyb : ((ys k).2.1 == cl % 8) = true := by simp [hy]
          clear hy
          go_upto_if 63 with fail
          rw [← HLL.out]
          have Hl3 := Hl1.out
          rw [← HLL.out] at Hl3
          replace Hl3 := Lib.hid Hl3
          clear hcode Hl1
          obtain ⟨w3, rfl⟩ : ∃ w3, w3 = w2 := ⟨_, rfl⟩
          obtain ⟨m3, rfl⟩ : ∃ m3, m3 = m1 := ⟨_, rfl⟩
          have hO3 := hO2
          have hB3 := hB2
          clear hO2
          have n3 := last_any (cl % 8) w3 b mb m3 hO3
          rw [show olast m3 (cl % 8) = (L', 0, L') by simp only [olast, Hth.out, if_true]; exact Hl3.out] at n3
          have seenc : ∀ s W, OnceAt W b mb m3 → Calls Try.prog 10 #[.pointer (some ⟨b, 0, none⟩), .int .i64 (cl % 8), .int .i64 s] W fun e w' => e = .returned (.bool (decide (s ≤ L'))) ∧ W = w' := by
            intro s W h
            have := seen_any (cl % 8) s W b mb m3 h
            rw [show oseen m3 (cl % 8) s = decide (s ≤ L') by simp only [oseen, Hth.out, Hl3.out, Bool.not_true, Bool.false_or]] at this
            exact this
          go_wp2_with fail
          refine n3.mono ?_
          clear n3
          rintro e w4 ⟨rfl, hB4⟩
          have hO4 := hO3.mod (F := none') (Mod.of_below hB4) id id
          clear hO3
          have hd1 : decide (L' ≤ L') = true := by simp
          have hd2 : decide (L' + 1 ≤ L') = false := by simp; omega
          have hd3 : decide (L' - 1 ≤ L') = true := by simp; omega
          go_wp2_with (go_at_call 10; refine (seenc _ _ (hO4.mod ((Mod.refl none' _).alloc _) id id)).mono ?_; rintro e w' ⟨rfl, rfl⟩)
          all_goals
            go_roundg (n - (k + 1))
            case measure => omega
            case rel => exact ⟨k + 1, L', m3, rfl, by omega, by go_num, rfl, by omega, by omega, hO4.mod ((Mod.refl none' _).alloc _) id id, Hl3.out, (hB3.trans (hB4.mono hB3.size)).alloc (by have := hB3.size; have := hB4.size; omega) _⟩
        · have hyb : ((ys k).2.1 == cl % 8) = false := by simp [hy]
          have n2 := note_any (ys k).2.1 (ys k).2.2.1 (ys k).2.2.2.1 (ys k).2.2.2.2 w2.drew b mb m1 (hO2.mod ((Mod.refl none' _).drew) id id) hne
          obtain ⟨code2, m3, hon2⟩ : ∃ code2 m3, onote m1 (ys k).2.1 (ys k).2.2.1 ((ys k).2.2.2.1, (ys k).2.2.2.2) = (code2, m3) := ⟨_, _, rfl⟩
          have Hl3 := last_note_other m1 (cl % 8) (ys k).2.1 (ys k).2.2.1 ((ys k).2.2.2.1, (ys k).2.2.2.2) hy
          rw [hon2] at n2 Hl3
          rw [Hl1.out, ← HLL.out] at Hl3
          replace Hl3 := Lib.hid Hl3
          clear hy hon2
          go_upto_if 63 with fail
          rw [← HLL.out]
          clear hcode Hl1
          go_wp2_with fail
          refine region_tail 16 (by kernel_rfl) (by kernel_rfl) (fun T hT K hK => ?_)
          simp only [List.take_succ_cons, List.take_zero]
          repeat still_step
          refine wpStill_nil (hK _ ?_)
          clear hK
          simp only [List.drop_succ_cons, List.drop_zero] at hT
          subst hT
          go_wp2_with fail
          refine n2.mono ?_
          clear n2
          rintro e w3 ⟨rfl, hO3, hM3⟩
          have hB3 : Below w.heap.size w w3 := hB2.drew.trans (hM3.below_at hB2.drew.size fun j hj e => by omega)
          clear hM3 hO2 hc1 hc2 hc3 hc4
          have n3 := last_any (cl % 8) w3 b mb m3 hO3
          rw [show olast m3 (cl % 8) = (L', 0, L') by simp only [olast, Hth.out, if_true]; exact Hl3.out] at n3
          have seenc : ∀ s W, OnceAt W b mb m3 → Calls Try.prog 10 #[.pointer (some ⟨b, 0, none⟩), .int .i64 (cl % 8), .int .i64 s] W fun e w' => e = .returned (.bool (decide (s ≤ L'))) ∧ W = w' := by
            intro s W h
            have := seen_any (cl % 8) s W b mb m3 h
            rw [show oseen m3 (cl % 8) s = decide (s ≤ L') by simp only [oseen, Hth.out, Hl3.out, Bool.not_true, Bool.false_or]] at this
            exact this
          go_wp2_with fail
          refine n3.mono ?_
          clear n3
          rintro e w4 ⟨rfl, hB4⟩
          have hO4 := hO3.mod (F := none') (Mod.of_below hB4) id id
          clear hO3
          have hd1 : decide (L' ≤ L') = true := by simp
          have hd2 : decide (L' + 1 ≤ L') = false := by simp; omega
          have hd3 : decide (L' - 1 ≤ L') = true := by simp; omega
          go_wp2_with (go_at_call 10; refine (seenc _ _ (hO4.mod ((Mod.refl none' _).alloc _) id id)).mono ?_; rintro e w' ⟨rfl, rfl⟩)
          all_goals
            go_roundg (n - (k + 1))
            case measure => omega
            case rel => exact ⟨k + 1, L', m3, rfl, by omega, by go_num, rfl, by omega, by omega, hO4.mod ((Mod.refl none' _).alloc _) id id, Hl3.out, (hB3.trans (hB4.mono hB3.size)).alloc (by have := hB3.size; have := hB4.size; omega) _⟩
      · go_upto_if 63 with fail
        rw [← HLL.out]
        have Hl3 := Hl1.out
        rw [← HLL.out] at Hl3
        replace Hl3 := Lib.hid Hl3
        clear hcode Hl1
        obtain ⟨w3, rfl⟩ : ∃ w3, w3 = w2 := ⟨_, rfl⟩
        obtain ⟨m3, rfl⟩ : ∃ m3, m3 = m1 := ⟨_, rfl⟩
        have hO3 := hO2
        have hB3 := hB2
        clear hO2
        have n3 := last_any (cl % 8) w3 b mb m3 hO3
        rw [show olast m3 (cl % 8) = (L', 0, L') by simp only [olast, Hth.out, if_true]; exact Hl3.out] at n3
        have seenc : ∀ s W, OnceAt W b mb m3 → Calls Try.prog 10 #[.pointer (some ⟨b, 0, none⟩), .int .i64 (cl % 8), .int .i64 s] W fun e w' => e = .returned (.bool (decide (s ≤ L'))) ∧ W = w' := by
          intro s W h
          have := seen_any (cl % 8) s W b mb m3 h
          rw [show oseen m3 (cl % 8) s = decide (s ≤ L') by simp only [oseen, Hth.out, Hl3.out, Bool.not_true, Bool.false_or]] at this
          exact this
        go_wp2_with fail
        refine n3.mono ?_
        clear n3
        rintro e w4 ⟨rfl, hB4⟩
        have hO4 := hO3.mod (F := none') (Mod.of_below hB4) id id
        clear hO3
        have hd1 : decide (L' ≤ L') = true := by simp
        have hd2 : decide (L' + 1 ≤ L') = false := by simp; omega
        have hd3 : decide (L' - 1 ≤ L') = true := by simp; omega
        go_wp2_with (go_at_call 10; refine (seenc _ _ (hO4.mod ((Mod.refl none' _).alloc _) id id)).mono ?_; rintro e w' ⟨rfl, rfl⟩)
        all_goals
          go_roundg (n - (k + 1))
          case measure => omega
          case rel => exact ⟨k + 1, L', m3, rfl, by omega, by go_num, rfl, by omega, by omega, hO4.mod ((Mod.refl none' _).alloc _) id id, Hl3.out, (hB3.trans (hB4.mono hB3.size)).alloc (by have := hB3.size; have := hB4.size; omega) _⟩
    · have hge : n ≤ k ∨ 100 ≤ k := by omega
      clear hlt
      rcases hge with hge | hge
      all_goals go_wp2_with fail
      all_goals
        refine (wakes_any _).mono ?_
        rintro e w9 ⟨rfl, hB9⟩
        go_wp2_with fail
        go_ret
        exact ⟨rfl, hBr.trans (hB9.mono hBr.size)⟩

theorem Try.own : ownKnob Try.prog.godebug = none := by kernel_rfl
theorem Try.laidOut : laidOutB Try.prog = true := by kernel_rfl

def tyStep : Ty := .struct [.int .i64, .int .i64, .int .i64, .struct [.int .i64, .int .i64]]
theorem rd_step {w : World} {cs : List Value} {x : D} (h : Rd w tyStep cs x) : ∃ y : Int × Int × Int × Int × Int, cs = [.int .i64 y.1, .int .i64 y.2.1, .int .i64 y.2.2.1, .int .i64 y.2.2.2.1, .int .i64 y.2.2.2.2] := by
  simp only [tyStep, rd_struct, rds_cons, rds_nil, rd_int] at h
  obtain ⟨ds, rfl, c0, r0, d0, s0, rfl, rfl, -, ⟨k, rfl, rfl, -⟩, c1, r1, d1, s1, rfl, rfl, -, ⟨c, rfl, rfl, -⟩, c2, r2, d2, s2, rfl, rfl, -, ⟨q, rfl, rfl, -⟩, c3, r3, d3, s3, rfl, rfl, -, ⟨es, rfl, c4, r4, d4, s4, rfl, rfl, -, ⟨a, rfl, rfl, -⟩, c5, r5, d5, s5, rfl, rfl, -, ⟨b, rfl, rfl, -⟩, rfl, rfl⟩, rfl, rfl⟩ := h
  exact ⟨(k, c, q, a, b), rfl⟩

/-- the steps of a slice, each a row of five numbers -/
theorem rd_steps {w : World} {cs : List Value} {d : D} (h : Rd w (.slice tyStep) cs d) : ∃ (a0 : Option Addr) (n cap : Nat) (ys : Nat → Int × Int × Int × Int × Int), cs.headD undef = .slice a0 n cap ∧ n ≤ 9223372036854775807 ∧
    (0 < n → ∃ b off, a0 = some ⟨b, off, none⟩ ∧ b < w.heap.size ∧ ∀ i, i < n → ∀ j, j < 5 → w.cell? ⟨b, off + i * 5 + j, none⟩ = [Value.int .i64 (ys i).1, .int .i64 (ys i).2.1, .int .i64 (ys i).2.2.1, .int .i64 (ys i).2.2.2.1, .int .i64 (ys i).2.2.2.2][j]?) := by
  obtain ⟨l, f, rfl, ⟨a0, cap, hv, -, hn, hc⟩, hl⟩ := rd_sliceAt h
  have key : ∀ i, ∃ y : Int × Int × Int × Int × Int, i < l.length → f i = [.int .i64 y.1, .int .i64 y.2.1, .int .i64 y.2.2.1, .int .i64 y.2.2.2.1, .int .i64 y.2.2.2.2] := by
    intro i
    by_cases hi : i < l.length
    · obtain ⟨y, hy⟩ := rd_step (hl i hi); exact ⟨y, fun _ => hy⟩
    · exact ⟨(0, 0, 0, 0, 0), fun h => absurd h hi⟩
  refine ⟨a0, l.length, cap, fun i => Classical.choose (key i), hv, hn, fun h0 => ?_⟩
  obtain ⟨b, off, rfl, hb, hcell⟩ := hc h0 (by decide)
  exact ⟨b, off, rfl, hb, fun i hi j hj => by rw [← Classical.choose_spec (key i) hi]; exact hcell i hi j hj⟩

theorem rd_bytes {w : World} {cs : List Value} {d : D} (h : Rd w (.slice (.int .u8)) cs d) : ∃ (a0 : Option Addr) (n cap : Nat) (xs : Nat → Int), cs.headD undef = .slice a0 n cap ∧ n ≤ 9223372036854775807 ∧ (∀ i, i < n → 0 ≤ xs i ∧ xs i ≤ 255) ∧
    (0 < n → ∃ b off, a0 = some ⟨b, off, none⟩ ∧ b < w.heap.size ∧ ∀ i, i < n → w.cell? ⟨b, off + i, none⟩ = some (.int .u8 (xs i))) := by
  obtain ⟨l, f, rfl, ⟨a0, cap, hv, -, hn, hc⟩, hl⟩ := rd_sliceAt h
  have key : ∀ i, ∃ y : Int, i < l.length → f i = [.int .u8 y] ∧ 0 ≤ y ∧ y ≤ 255 := by
    intro i
    by_cases hi : i < l.length
    · obtain ⟨y, hy, -, h1, h2⟩ := rd_int.1 (hl i hi); exact ⟨y, fun _ => ⟨hy, h1, h2⟩⟩
    · exact ⟨0, fun h => absurd h hi⟩
  refine ⟨a0, l.length, cap, fun i => Classical.choose (key i), hv, hn, fun i hi => (Classical.choose_spec (key i) hi).2, fun h0 => ?_⟩
  obtain ⟨b, off, rfl, hb, hcell⟩ := hc h0 (by decide)
  refine ⟨b, off, rfl, hb, fun i hi => ?_⟩
  have := hcell i hi 0 (by decide)
  rw [(Classical.choose_spec (key i) hi).1] at this
  simpa [Ty.cells] using this

set_option maxRecDepth 100000 in
theorem alone_lifted (os : Os) (started : os.Started) (H : Type) (enc : TypeId × Value → H) :
    ReturnsInHanded {} Try.checked os 4 .any (Rows.onceAloneSpec.pre6 enc Try.prog Try.f4 Rows.onceAloneRow.domain false) (Rows.onceAloneSpec.post enc Try.prog Try.f4 false true false false) := by
  refine returnsInHanded_of_change (C := Try.checked) Try.own started (by kernel_rfl) Try.func4
    (ChangeSpec.witness6 (enc := enc) (C := Try.checked) false ⟨#[], #[.int .u8 0, .slice none 0 0, .slice none 0 0], []⟩ 8 (by kernel_rfl) (by kernel_rfl) (by kernel_rfl) (by kernel_rfl)) ?_
  intro W base args ds gs before hval0 hW hcnd _
  have hval : ∀ (j : Nat) t v, Try.f4.params[j]? = some t → args[j]? = some v → Value.okWide Try.prog W .any base t v := hval0
  have hW' := hW
  obtain ⟨p, q, hA0, hV, rfl, hfz, hnd⟩ := hW
  have hA : DataW.TrodAll enc Try.prog W 0 (fun _ => true) true Try.f4.params.toList args.toList ds p := hA0
  rw [Try.params4] at hA hval
  obtain ⟨v0, vs0, d0, ds0, p0, q0, hargs, rfl, rfl, h0, r0⟩ := trodAll_cons hA
  obtain ⟨v1, vs1, d1, ds1, p1, q1, rfl, rfl, rfl, h1, r1⟩ := trodAll_cons r0
  obtain ⟨v2, vs2, d2, ds2, p2, q2, rfl, rfl, rfl, h2, r2⟩ := trodAll_cons r1
  obtain ⟨rfl, rfl, rfl⟩ := trodAll_nil r2
  obtain rfl : args = #[v0, v1, v2] := by cases args; simp_all
  obtain ⟨rfl, rfl⟩ := trodVars_none hV
  obtain ⟨cs0, x0, hv0, hr0⟩ := open_arg (n := 5) (T := .int .u8) (by kernel_rfl) (hval 0 5 v0 rfl rfl) h0
  obtain ⟨cs1, x1, hv1, hr1⟩ := open_arg (n := 5) (T := .slice (.int .u8)) (by kernel_rfl) (hval 1 45 v1 rfl rfl) h1
  obtain ⟨cs2, x2, hv2, hr2⟩ := open_arg (n := 5) (T := .slice tyStep) (by kernel_rfl) (hval 2 22 v2 rfl rfl) h2
  simp only [Ty.isStruct, Bool.false_eq_true, if_false] at hv0 hv1 hv2
  obtain ⟨cl, rfl, -, hc⟩ := rd_int.1 hr0
  obtain ⟨sa, n, cap1, xs, e1, hn, hxs, hsa⟩ := rd_bytes hr1
  obtain ⟨oa, m, cap2, ys, e2, hm, hoa⟩ := rd_steps hr2
  rw [e1] at hv1
  rw [e2] at hv2
  simp only [List.headD_cons] at hv0
  subst hv0 hv1 hv2
  clear hA0 hval0
  refine (alone_walk cl ⟨hc.1, hc.2⟩ sa n cap1 xs hxs hn oa m cap2 ys hm W hsa fun h0 => ?_).mono fun e W' ⟨he, hb⟩ => ?_
  · obtain ⟨b, off, rfl, hb, hcell⟩ := hoa h0
    exact ⟨b, off, rfl, hb, fun i hi => ⟨hcell i hi 1 (by decide), hcell i hi 2 (by decide), hcell i hi 3 (by decide), hcell i hi 4 (by decide)⟩⟩
  subst he
  exact ⟨_, rfl, law_post Try.laidOut (by kernel_rfl) rfl Try.underlying4 hW' rfl rfl rfl rfl hb⟩

theorem onceAlone_holds : Rows.OnceAloneSaid :=
  OpenClaim.holds_of_wide 4 Try.f4 rfl rfl rfl rfl rfl rfl rfl ⟨rfl, rfl, rfl, rfl, rfl⟩ rfl rfl rfl rfl rfl (by kernel_rfl) Try.func4 (by kernel_rfl)
    (of_decide_eq_true (by kernel_rfl)) (by unfold Func.isWrapper; first | (rw [if_pos (by decide +kernel)]; kernel_rfl) | (rw [if_neg (by decide +kernel)]; exact ⟨rfl, rfl⟩))
    (fun os started H enc _ => alone_lifted os started H enc)
end Go.Proofs.Ytcgcappfhjploaa
