/- for the walk of ReformHalf: rounds of an append over a hand, two arrays that stay, an array argument -/
import Derived.OpenShut
import Derived.Test.YtghdhhbpbmhooaaGreatApHand
import Derived.Test.YtghdhhbpbmhooaaGreatPkHalf
namespace Esch
open Go Go.RowKit Go.ChangeShapes Go.WideShapes Go.Deep

theorem open_arr2 {H : Type} {enc : TypeId × Value → H} {P : Program} {w : World} {base : Nat} {spare : Nat → Bool} {held : Bool} {r : Reach} {b0 : Nat} {t e : TypeId} {v : Value} {d : DataW H} {ps : List MemPlace}
    (hu : P.underlying t = some (.array 2 e)) (hce : P.cellsOf e = 1) (hct : P.cellsOf t = 2) (he : P.underlying e = some (.int .u8)) (hv : Value.okWide P w r b0 t v) (h : DataW.Trod enc P w base spare held t v d ps) :
    ∃ a b : Int, v = .agg #[.int .u8 a, .int .u8 b] ∧ 0 ≤ a ∧ a ≤ 255 := by
  simp only [Value.okWide, hu] at hv
  obtain ⟨⟨l⟩, rfl, hc, -⟩ := hv
  obtain ⟨fuel, hf⟩ := h
  have hf : DataW.trod enc P w base spare held fuel t l = some (d, ps) := hf
  obtain ⟨xs, m, -, -, -, hxl, hi⟩ := DataW.trod_array hu hf
  have hl : l.length = 2 := by rw [hct] at hc; exact hc
  match l, hl, xs, hxl with
  | [x, y], _, [p, q], _ =>
    have h0 := hi 0 (by omega)
    have h1 := hi 1 (by omega)
    rw [hce] at h0 h1
    have k0 : DataW.trod enc P w base spare held m e [x] = some p := h0
    have k1 : DataW.trod enc P w base spare held m e [y] = some q := h1
    obtain ⟨a, ha, -, hw⟩ := DataW.trod_int he k0
    obtain ⟨b, hb, -, -⟩ := DataW.trod_int he k1
    simp only [List.cons.injEq, and_true] at ha hb
    subst ha hb
    simp only [Lit.wf, Bool.and_eq_true, decide_eq_true_eq] at hw
    exact ⟨a, b, rfl, hw.1, hw.2⟩
end Esch
namespace Go.Proofs.YtghdhhbpbmhooaaGreat
open Go.RowKit Esch

theorem ApS.ask_is5 (s : ApS) : s.ask.2 = decide (s.at ≠ 5) := by
  unfold ApS.ask
  by_cases h : s.at = 5
  · rw [if_pos h]; simp [h]
  · rw [if_neg h]
    have : decide (s.at ≠ 5) = true := by simpa using h
    rw [this]
    repeat' split
    all_goals rfl
theorem ahIt_it (hd : HdS) (s : ApS) : ∀ k, ahIt (hd, s) k = ({ hd with nd := (it apN k (hd.nd, s)).1 }, (it apN k (hd.nd, s)).2)
  | 0 => rfl
  | k + 1 => by
    show ahTurn (ahIt (hd, s) k) = _
    rw [ahIt_it hd s k, it_succ]
    obtain ⟨⟨n, s'⟩, hns⟩ : ∃ r, r = it apN k (hd.nd, s) := ⟨_, rfl⟩
    rw [← hns]
    unfold ahTurn apN apTurn
    simp only
    by_cases h6 : s'.at = 5
    · rw [if_pos h6, if_pos h6]
    · rw [if_neg h6, if_neg h6, hd_ask0']
theorem ahIt_txt (s : HdS × ApS) : ∀ k, (ahIt s k).2.txt = s.2.txt
  | 0 => rfl
  | k + 1 => by
    show (ahTurn (ahIt s k)).2.txt = _
    unfold ahTurn
    by_cases e : (ahIt s k).2.at = 5
    · rw [if_pos e]; exact ahIt_txt s k
    · rw [if_neg e]; exact (ApS.hear_txt _ _ _).trans (ahIt_txt s k)
theorem hs_run {d : ByteArray} (hd : d.size ≤ 4096) : ∀ j, j ≤ 4 → ∃ M, Hs j (it apN j (hdO.nd, ap0 qOld d)).1 (it apN j (hdO.nd, ap0 qOld d)).2 M d
  | 0, _ => ⟨_, hs_start hd⟩
  | j + 1, hj => by
    obtain ⟨M, h⟩ := hs_run hd j (by omega)
    rw [it_succ]
    exact hs_step h (by omega) hd
/-- two arrays' first cells, out of all others' blocks -/
structure Two (kb : Nat) (kv tv : Value) (V S : Nat → Prop) (w : World) : Prop where
  c1 : w.cell? ⟨kb, 0, none⟩ = some kv
  c2 : w.cell? ⟨kb + 1, 0, none⟩ = some tv
  f1 : w.frozen? ⟨kb, 0, none⟩ = false
  f2 : w.frozen? ⟨kb + 1, 0, none⟩ = false
  n1 : ¬ V kb
  n2 : ¬ V (kb + 1)
  m1 : ¬ S kb
  m2 : ¬ S (kb + 1)
section
variable {kb ab : Nat} {kv tv : Value} {V S : Nat → Prop} {w w' : World}
theorem Two.hand (h : Two kb kv tv V S w) (hM : Mod V w w') : Two kb kv tv (grow V w w') S w' := by
  have l1 := cell_lt h.c1
  have l2 := cell_lt h.c2
  refine ⟨hM.at h.c1 h.n1, hM.at h.c2 h.n2, (hM.frozen (p := ⟨kb, 0, none⟩) l1 h.n1).trans h.f1, (hM.frozen (p := ⟨kb + 1, 0, none⟩) l2 h.n2).trans h.f2, fun e => ?_, fun e => ?_, h.m1, h.m2⟩
  · rcases e with e | e
    · exact h.n1 e
    · omega
  · rcases e with e | e
    · exact h.n2 e
    · omega
theorem Two.chg (h : Two kb kv tv V S w) (ha : S ab) (hM : Mod (· = ab) w w') : Two kb kv tv V (fun k => S k ∨ (w.heap.size ≤ k ∧ k < w'.heap.size)) w' := by
  have l1 := cell_lt h.c1
  have l2 := cell_lt h.c2
  have e1 : ¬ kb = ab := fun e => h.m1 (by rw [e]; exact ha)
  have e2 : ¬ kb + 1 = ab := fun e => h.m2 (by rw [e]; exact ha)
  refine ⟨hM.at h.c1 e1, hM.at h.c2 e2, (hM.frozen (p := ⟨kb, 0, none⟩) l1 e1).trans h.f1, (hM.frozen (p := ⟨kb + 1, 0, none⟩) l2 e2).trans h.f2, h.n1, h.n2, fun e => ?_, fun e => ?_⟩
  · rcases e with e | e
    · exact h.m1 e
    · omega
  · rcases e with e | e
    · exact h.m2 e
    · omega
theorem Two.below' (h : Two kb kv tv V S w) (hB : Below w.heap.size w w') : Two kb kv tv V S w' := by
  have hM : Mod none' w w' := Mod.of_below hB
  exact ⟨hM.at h.c1 id, hM.at h.c2 id, (hM.frozen (p := ⟨kb, 0, none⟩) (cell_lt h.c1) id).trans h.f1, (hM.frozen (p := ⟨kb + 1, 0, none⟩) (cell_lt h.c2) id).trans h.f2, h.n1, h.n2, h.m1, h.m2⟩
theorem kt_set (h : Two kb kv tv V S w) (x y : Value) : ∃ W, W = (w.setCell ⟨kb, 0, none⟩ x).setCell ⟨kb + 1, 0, none⟩ y ∧ Mod (fun k => k = kb ∨ k = kb + 1) w W ∧ Two kb x y V S W := by
  have c1 := h.c1
  have c2 := h.c2
  have f1 := h.f1
  have f2 := h.f2
  refine ⟨_, rfl, by exact modC (Mod.refl _ _), ?_, ?_, ?_, ?_, h.n1, h.n2, h.m1, h.m2⟩
  all_goals go_simp
theorem kt_box (w : World) : ∃ W, W = (w.alloc (.cells #[.int .i64 0, .int .i64 0, .int .i64 0, .int .i64 0, .int .i64 0, .int .i64 0, .int .i64 0, .int .i64 0] 74)).alloc (.cells #[.string ⟨#[]⟩, .string ⟨#[]⟩, .string ⟨#[]⟩, .string ⟨#[]⟩, .string ⟨#[]⟩, .string ⟨#[]⟩, .string ⟨#[]⟩, .string ⟨#[]⟩] 75) ∧ Below w.heap.size w W ∧ ∀ V S : Nat → Prop, (∀ k, V k → k < w.heap.size) → (∀ k, S k → k < w.heap.size) → Two w.heap.size (.int .i64 0) (.string ⟨#[]⟩) V S W :=
  ⟨_, rfl, by exact belC (Below.refl _ _), fun V S hV hS => ⟨by go_simp, by go_simp, by go_simp, by go_simp, fun e => by have := hV _ e; omega, fun e => by have := hV _ e; omega, fun e => by have := hS _ e; omega, fun e => by have := hS _ e; omega⟩⟩
end
/-- what stays through the steps of a hand and an append -/
structure Clo (ab : Nat) (X : (Nat → Prop) → (Nat → Prop) → World → Prop) : Prop where
  hand : ∀ {V S : Nat → Prop} {w w' : World}, X V S w → Mod V w w' → X (grow V w w') S w'
  chg : ∀ {V S : Nat → Prop} {w w' : World}, X V S w → S ab → Mod (· = ab) w w' → X V (fun k => S k ∨ (w.heap.size ≤ k ∧ k < w'.heap.size)) w'
  below : ∀ {V S : Nat → Prop} {w w' : World}, X V S w → Below w.heap.size w w' → X V S w'
theorem clo_true (ab : Nat) : Clo ab (fun _ _ _ => True) := ⟨fun _ _ => trivial, fun _ _ _ => trivial, fun _ _ => trivial⟩
theorem clo_two (ab kb : Nat) (kv tv : Value) : Clo ab (Two kb kv tv) := ⟨fun h hM => h.hand hM, fun h ha hM => h.chg ha hM, fun h hB => h.below' hB⟩
def HlRel (w0 : World) (hb ab c : Nat) (s0 : HdS × ApS) (X : (Nat → Prop) → (Nat → Prop) → World → Prop) (N g : Nat) (s : Value) (wr : World) : Prop :=
  ∃ (i : Nat) (V S : Nat → Prop), g = N - i ∧ i ≤ N ∧ s = .int .i64 i ∧ Ah1 w0 (c + i) hb ab V S (ahIt s0 i) wr ∧ X V S wr
theorem rh_boxes (w : World) (x0 x1 y0 y1 : Value) : ∃ W, W = (w.alloc (.cells #[x0, x1] 71)).alloc (.cells #[y0, y1] 24) ∧ Below w.heap.size w W ∧ W.heap.size = w.heap.size + 2 ∧
    W.cell? ⟨w.heap.size, 0, none⟩ = some x0 ∧ W.cell? ⟨w.heap.size, 1, none⟩ = some x1 ∧ W.cell? ⟨w.heap.size + 1, 0, none⟩ = some y0 ∧ W.cell? ⟨w.heap.size + 1, 1, none⟩ = some y1 :=
  ⟨_, rfl, by exact belC (Below.refl _ _), by simp, by go_simp, by go_simp, by go_simp, by go_simp⟩
end Go.Proofs.YtghdhhbpbmhooaaGreat
