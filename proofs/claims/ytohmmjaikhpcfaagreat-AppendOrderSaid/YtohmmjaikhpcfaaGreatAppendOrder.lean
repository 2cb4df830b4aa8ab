/-
  The law AppendOrder: appends that go on between each other end at addresses of their own; each reads as its record.
  Conditions: none.
-/
import Derived.Test.YtohmmjaikhpcfaaGreatApPre
import Derived.Test.YtohmmjaikhpcfaaGreatRPlace
import Derived.Test.YtohmmjaikhpcfaaGreatRow
import Derived.Test.YtohmmjaikhpcfaaGreatReadApi
import Derived.Test.YtohmmjaikhpcfaaGreatBytes8
namespace Go.Proofs.YtohmmjaikhpcfaaGreat
open Go.RowKit Esch Go.ChangeShapes Go.WideShapes Go.ChangeAt

theorem litO (w : World) : ∃ W, W = (((w.alloc (.cells #[.int .i64 0, .int .i64 1] 3)).alloc (.cells #[.int .i64 2, .int .i64 3] 3)).alloc (.cells #[.slice (some ⟨w.heap.size, 0, none⟩) 2 2, .slice (some ⟨w.heap.size + 1, 0, none⟩) 2 2] 24)).alloc (.cells #[.int .i64 0, .slice (some ⟨w.heap.size + 1 + 1, 0, none⟩) 2 2] 27) ∧
    Below w.heap.size w W ∧ W.heap.size = w.heap.size + 4 ∧ W.cell? ⟨w.heap.size + 1 + 1 + 1, 0, none⟩ = some (.int .i64 0) ∧ W.cell? ⟨w.heap.size + 1 + 1 + 1, 1, none⟩ = some (.slice (some ⟨w.heap.size + 1 + 1, 0, none⟩) 2 2) ∧ ListsAt (From w.heap.size) W (some ⟨w.heap.size + 1 + 1, 0, none⟩) qO.chains := by
  refine ⟨_, rfl, by (repeat (first | with_reducible exact (Below.refl _ _) | with_reducible refine Below.drew ?_ | with_reducible refine Esch.below_drewN ?_ _ | with_reducible refine Below.setCell ?_ (by first | omega | (simp; done) | (simp; omega)) _ | with_reducible refine Below.alloc ?_ (by first | omega | (simp; done) | (simp; omega)) _)), by simp, by go_simp, by go_simp, ⟨by simp, fun _ => ⟨w.heap.size + 1 + 1, 0, rfl, by show w.heap.size ≤ _; omega, by simp, fun i hi => ?_⟩⟩⟩
  simp only [List.length_cons, List.length_nil] at hi
  have : i = 0 ∨ i = 1 := by omega
  rcases this with rfl | rfl
  · refine ⟨some ⟨w.heap.size, 0, none⟩, 2, by go_simp, ⟨by simp, fun _ => ⟨w.heap.size, 0, rfl, Nat.le_refl _, by simp only [World.size_alloc]; omega, fun j hj => ?_⟩⟩, by simp, by omega⟩
    simp only [List.getD_cons_zero, List.length_cons, List.length_nil] at hj
    have : j = 0 ∨ j = 1 := by omega
    rcases this with rfl | rfl
    · go_simp
    · go_simp
  · refine ⟨some ⟨w.heap.size + 1, 0, none⟩, 2, by go_simp, ⟨by simp, fun _ => ⟨w.heap.size + 1, 0, rfl, by show w.heap.size ≤ _; omega, by simp only [World.size_alloc]; omega, fun j hj => ?_⟩⟩, by simp, by omega⟩
    simp only [List.getD_cons_succ, List.getD_cons_zero, List.length_cons, List.length_nil] at hj
    have : j = 0 ∨ j = 1 := by omega
    rcases this with rfl | rfl
    · go_simp
    · go_simp
/-- the slice of the appends, and what lies ahead -/
structure ApsAt (w0 : World) (c hb n : Nat) (recs : List ByteArray) (abs : Nat → Nat) (V : Nat → Prop) (la : Option Addr) (hd : HdS) (f : Nat → ApS) (w : World) : Prop where
  ap : ApF w0 c hb n abs V hd f w
  oi : OI n (recO recs) hd.nd f
  ptr : PtrsAt w la n abs
  out : ∀ b off, la = some ⟨b, off, none⟩ → 0 < n → ¬ V b
theorem PtrsAt.below' {w w' : World} {a : Option Addr} {n : Nat} {abs : Nat → Nat} (h : PtrsAt w a n abs) (hB : Below w.heap.size w w') : PtrsAt w' a n abs := fun h0 => by
  obtain ⟨b, off, e, hc⟩ := h h0
  exact ⟨b, off, e, fun i hi => below_at hB (hc i hi) (cell_lt (hc i hi))⟩
theorem ApsAt.add {w0 wr W1 w3 w4 : World} {c hb k ab lb : Nat} {recs : List ByteArray} {rc : ByteArray} {abs : Nat → Nat} {V : Nat → Prop} {la : Option Addr} {hd : HdS} {f : Nat → ApS} (h : ApsAt w0 c hb k recs abs V la hd f wr) (hB3 : Below wr.heap.size wr w3) (hB4 : Below w3.heap.size w3 w4) (hB1 : Below wr.heap.size wr W1)
    (hA : ApAt w3 ab (From W1.heap.size) (ap0 qO (strOfNums [(k : Int)] ++ rc))) (hrc : rc = recs.getD k ⟨#[]⟩) (hs : rc.size ≤ 500) (hlb : w3.heap.size ≤ lb) (hP : PtrsAt w4 (some ⟨lb, 0, none⟩) (k + 1) (fun i => if i = k then ab else abs i)) :
    ApsAt w0 c hb (k + 1) recs (fun i => if i = k then ab else abs i) (grow V wr w3) (some ⟨lb, 0, none⟩) hd (upA f k (ap0 qO (recO recs k))) w4 := by
  subst hrc
  have hz1 := hB1.size
  have ha := h.ap.add hB3 (hA.sub (fun j _ hj => Nat.le_trans hz1 hj)) (ap0_ok qO (recO recs k))
  refine ⟨ha.below' hB4, h.oi.add (by have := recO_size hs; omega), hP, fun b off e _ hV => ?_⟩
  cases e
  rcases hV with hV | hV
  · have := h.ap.lt lb hV
    have := hB3.size
    omega
  · omega
def OrdRel1 (w0 : World) (hb : Nat) (recs : List ByteArray) (g : Nat) (s9 s10 : Value) (wr : World) : Prop := ∃ (k : Nat) (abs : Nat → Nat) (V : Nat → Prop) (la : Option Addr) (lc : Nat) (f : Nat → ApS),
  g = recs.length - k ∧ k ≤ recs.length ∧ s10 = .int .i64 k ∧ s9 = .slice la k lc ∧ ApsAt w0 0 hb k recs abs V la ⟨nd0 qO 300, []⟩ f wr ∧ ∀ i, i < k → (recs.getD i ⟨#[]⟩).size ≤ 500
theorem OI.tn {n : Nat} {recs : Nat → ByteArray} {hd : HdS} {f : Nat → ApS} (h : OI n recs hd.nd f) (hn : n ≤ 12) (hs : ∀ i, i < n → (recs i).size ≤ 4096) {j : Nat} (hj : j < n) : OI n recs (tnO (hd, f j)).1.nd (upA f j (tnO (hd, f j)).2) := by
  unfold tnO
  by_cases h5 : (f j).at = 5
  · rw [if_pos h5, upA_same rfl]; exact h
  · rw [if_neg h5]; exact (h.turn hn hs hj h5).1
theorem ApsAt.turn {w0 w w' : World} {c hb n j : Nat} {recs : List ByteArray} {abs : Nat → Nat} {V : Nat → Prop} {la : Option Addr} {hd : HdS} {f : Nat → ApS} {e : Ending} (h : ApsAt w0 c hb n recs abs V la hd f w) (hn : n ≤ 12) (hs : ∀ i, i < n → (recs.getD i ⟨#[]⟩).size ≤ 500) (hj : j < n) (hT : TurnPost w0 c hb n abs V hd f j w e w') :
    ApsAt w0 (c + 1) hb n recs abs (grow V w w') la (tnO (hd, f j)).1 (upA f j (tnO (hd, f j)).2) w' ∧ Mod V w w' := by
  obtain ⟨-, h1, hM⟩ := hT
  refine ⟨⟨h1, h.oi.tn hn (fun i hi => by have := recO_size (hs i hi); omega) hj, fun h0 => ?_, fun b off e h0 hV => ?_⟩, hM⟩
  · obtain ⟨b, off, e, hc⟩ := h.ptr h0
    exact ⟨b, off, e, fun i hi => hM.at (hc i hi) (h.out b off e h0)⟩
  · rcases hV with hV | hV
    · exact h.out b off e h0 hV
    · obtain ⟨b', off', e', hc⟩ := h.ptr h0
      rw [e] at e'; cases e'
      have := cell_lt (hc 0 h0)
      omega
theorem ApsAt.mod {w0 w w' : World} {c hb n : Nat} {recs : List ByteArray} {abs : Nat → Nat} {V F : Nat → Prop} {la : Option Addr} {hd : HdS} {f : Nat → ApS} (h : ApsAt w0 c hb n recs abs V la hd f w) (hM : Mod F w w') (hF : ∀ k, V k → ¬ F k) (hw : ∀ k, k < w0.heap.size → ¬ F k) (hl : ∀ b off, la = some ⟨b, off, none⟩ → 0 < n → ¬ F b) : ApsAt w0 c hb n recs abs V la hd f w' :=
  ⟨h.ap.mod hM hF hw, h.oi, fun h0 => by
    obtain ⟨b, off, e, hc⟩ := h.ptr h0
    exact ⟨b, off, e, fun i hi => hM.at (hc i hi) (hl b off e h0)⟩, h.out⟩
theorem ApsAt.below' {w0 w w' : World} {c hb n : Nat} {recs : List ByteArray} {abs : Nat → Nat} {V : Nat → Prop} {la : Option Addr} {hd : HdS} {f : Nat → ApS} (h : ApsAt w0 c hb n recs abs V la hd f w) (hB : Below w.heap.size w w') : ApsAt w0 c hb n recs abs V la hd f w' := h.mod (F := none') (Mod.of_below hB) (fun _ _ => id) (fun _ _ => id) (fun _ _ _ _ => id)
/-- which addresses were met -/
def metB (f : Nat → ApS) : Nat → Nat → Bool
  | 0, _ => false
  | i + 1, a => metB f i a || decide ((f i).addr = (a : Int))
theorem metB_false {f : Nat → ApS} {a : Nat} : ∀ i, (∀ j, j < i → (f j).addr ≠ (a : Int)) → metB f i a = false
  | 0, _ => rfl
  | i + 1, h => by
    show (metB f i a || decide ((f i).addr = (a : Int))) = false
    rw [metB_false i (fun j hj => h j (by omega)), decide_eq_false (h i (by omega))]
    rfl
theorem metB_congr {f g : Nat → ApS} {a : Nat} : ∀ i, (∀ j, j < i → f j = g j) → metB f i a = metB g i a
  | 0, _ => rfl
  | i + 1, h => by
    show (metB f i a || decide ((f i).addr = (a : Int))) = (metB g i a || decide ((g i).addr = (a : Int)))
    rw [metB_congr i (fun j hj => h j (by omega)), h i (by omega)]
theorem metB_succ {f : Nat → ApS} {i x : Nat} (hx : (f i).addr = (x : Int)) (a : Nat) : metB f (i + 1) a = if a = x then true else metB f i a := by
  show (metB f i a || decide ((f i).addr = (a : Int))) = _
  by_cases e : a = x
  · subst e; rw [if_pos rfl, decide_eq_true hx, Bool.or_true]
  · rw [if_neg e, decide_eq_false (by omega), Bool.or_false]
def OrdRel2 (w0 : World) (hb n tn : Nat) (recs : List ByteArray) (abs : Nat → Nat) (la : Option Addr) (g : Nat) (s11 : Value) (wr : World) : Prop := ∃ (k c : Nat) (V : Nat → Prop) (hd : HdS) (f : Nat → ApS), g = tn - k ∧ k ≤ tn ∧ s11 = .int .i64 k ∧ c ≤ k ∧ ApsAt w0 c hb n recs abs V la hd f wr
def OrdRel3 (w0 : World) (hb n mb : Nat) (recs : List ByteArray) (abs : Nat → Nat) (la : Option Addr) (g : Nat) (s13 : Value) (wr : World) : Prop := ∃ (i c : Nat) (V : Nat → Prop) (hd : HdS) (f : Nat → ApS), g = n - i ∧ i ≤ n ∧ s13 = .int .i64 i ∧ c ≤ 100 + 20 * i ∧ ApsAt w0 c hb n recs abs V la hd f wr ∧ (∀ j, j < i → (f j).at = 5) ∧
  wr.rowIs mb 38 64 (fun a => .bool (metB f i a)) ∧ ¬ V mb
def OrdRel4 (w0 : World) (hb n mb c0 i : Nat) (recs : List ByteArray) (abs : Nat → Nat) (la : Option Addr) (f0 : Nat → ApS) (g : Nat) (s14 : Value) (wr : World) : Prop := ∃ (k c : Nat) (V : Nat → Prop) (hd : HdS) (f : Nat → ApS), g = 20 - k ∧ s14 = .int .i64 k ∧ c ≤ c0 + k ∧ ApsAt w0 c hb n recs abs V la hd f wr ∧ (∀ j, j < i → f j = f0 j) ∧
  wr.rowIs mb 38 64 (fun a => .bool (metB f0 i a)) ∧ ¬ V mb ∧ k ≤ 3 ∧ ((f i).at = 5 ∨ muO (f i) + k ≤ 3)
def OrdRel5 (w9 : World) (n g : Nat) (s20 : Value) (wr : World) : Prop := ∃ k : Nat, g = n - k ∧ k ≤ n ∧ s20 = .int .i64 k ∧ Mod none' w9 wr
theorem met_box (w : World) : ∃ W, W = w.alloc (.cells (List.toArray (Value.bool false :: Value.bool false :: Value.bool false :: Value.bool false :: Value.bool false :: Value.bool false :: Value.bool false :: Value.bool false :: Value.bool false :: Value.bool false :: Value.bool false :: Value.bool false :: Value.bool false :: Value.bool false :: Value.bool false :: Value.bool false :: Value.bool false :: Value.bool false :: Value.bool false :: Value.bool false :: Value.bool false :: Value.bool false :: Value.bool false :: Value.bool false :: Value.bool false :: Value.bool false :: Value.bool false :: Value.bool false :: Value.bool false :: Value.bool false :: Value.bool false :: Value.bool false :: Value.bool false :: Value.bool false :: Value.bool false :: Value.bool false :: Value.bool false :: Value.bool false :: Value.bool false :: Value.bool false :: Value.bool false :: Value.bool false :: Value.bool false :: Value.bool false :: Value.bool false :: Value.bool false :: Value.bool false :: Value.bool false :: Value.bool false :: Value.bool false :: Value.bool false :: Value.bool false :: Value.bool false :: Value.bool false :: Value.bool false :: Value.bool false :: Value.bool false :: Value.bool false :: Value.bool false :: Value.bool false :: Value.bool false :: Value.bool false :: Value.bool false :: Value.bool false :: [])) 38) ∧ Below w.heap.size w W ∧ W.rowIs w.heap.size 38 64 (fun _ => .bool false) := by
  refine ⟨_, rfl, by (repeat (first | with_reducible exact (Below.refl _ _) | with_reducible refine Below.drew ?_ | with_reducible refine Esch.below_drewN ?_ _ | with_reducible refine Below.setCell ?_ (by first | omega | (simp; done) | (simp; omega)) _ | with_reducible refine Below.alloc ?_ (by first | omega | (simp; done) | (simp; omega)) _)), ?_⟩
  refine World.rowIs_alloc w (Array.replicate 64 (.bool false)) 38 (fun _ => .bool false) (fun i hi => ?_)
  rw [Array.getElem?_replicate, if_pos (by simpa using hi)]
set_option linter.unusedSimpArgs false in
set_option maxRecDepth 100000 in
set_option maxHeartbeats 16000000 in
theorem appendOrder_walk (ra : Option Addr) (recs : List ByteArray) (rc : Nat) (ta : Option Addr) (turns : List Int) (tc : Nat) (w : World) (hra : StrsAt w ra recs) (hta : BytesAt w ta turns) (hrl : recs.length ≤ 9223372036854775807) (htl : turns.length ≤ 9223372036854775807) :
    Calls Tryz.prog 3 #[.slice ra recs.length rc, .slice ta turns.length tc] w fun r w' => r = .returned (.bool true) ∧ Below w.heap.size w w' := by
  have HRS := Lib.hid hra
  have HTS := Lib.hid hta
  clear hra hta
  go_enter Tryz.func3, Tryz.ntmps3
  go_wp2_with fail
  obtain ⟨WE, hWE, hBE, hzE, p0, p1, hlE⟩ := litO w
  rw [← hWE]
  have HBW := Lib.hid hBE
  have HLE := Lib.hid hlE
  have hpl : w.heap.size + 1 + 1 + 1 < WE.heap.size := by omega
  have hmk : Calls Tryz.prog 11 #[.agg #[.int .i64 0, .slice (some ⟨w.heap.size + 1 + 1, 0, none⟩) 2 2], .int .i64 300] _ _ := made_any _ WE qO _ 2 300 (by decide) hlE (by decide) (by decide)
  clear hWE hBE hzE hlE
  go_wp2_with fail
  refine hmk.mono ?_
  clear hmk
  rintro e w2 ⟨hb, rb, nb, rfl, hH2, -, hB2⟩
  have HH2 := Lib.hid hH2
  have HB2 := Lib.hid hB2
  have HBX := Lib.hid (HBW.out.trans (hB2.mono HBW.out.size))
  clear hH2 hB2
  by_cases hn : 12 < recs.length
  · have hn' : (12 : Int) < recs.length := by omega
    clear hn
    go_wp2_with fail
    refine (wakes15_any _).mono ?_
    rintro e wz ⟨rfl, hBz⟩
    go_wp2_with fail
    go_ret
    exact ⟨rfl, HBX.out.trans (hBz.mono HBX.out.size)⟩
  have hn' : (recs.length : Int) ≤ 12 := by omega
  have Hn := Lib.hid (show recs.length ≤ 12 by omega)
  clear hn hrl
  by_cases ht : 100 < turns.length
  · have ht' : (100 : Int) < turns.length := by omega
    clear ht
    go_wp2_with fail
    refine (wakes15_any _).mono ?_
    rintro e wz ⟨rfl, hBz⟩
    go_wp2_with fail
    go_ret
    exact ⟨rfl, HBX.out.trans (hBz.mono HBX.out.size)⟩
  have ht' : (turns.length : Int) ≤ 100 := by omega
  have Ht := Lib.hid (show turns.length ≤ 100 by omega)
  clear ht htl HBX
  go_wp2_with fail
  go_loopg [9, 10] recs.length (fun g s9 s10 wr => OrdRel1 WE hb recs g s9 s10 wr)
  case atStart => exact ⟨0, fun _ => 0, grow none' WE w2, none, 0, fun _ => ap0 qO ⟨#[]⟩, rfl, Nat.zero_le _, rfl, rfl, ⟨⟨⟨_, fun _ _ => False, 16, HH2.out, by omega, fun k hk => hk, fun i hi => absurd hi (by omega), fun i j hi => absurd hi (by omega)⟩, fun i hi => absurd hi (by omega), fun k hk => HH2.out.lt k hk, fun k hk => by rcases hk with hk | hk; exact hk.elim; exact hk.1, HB2.out⟩, oi_new _ _, fun h => absurd h (by omega), fun _ _ h => by cases h⟩, fun i hi => absurd hi (by omega)⟩
  case round =>
    obtain ⟨k, abs, V, la, lc, f, rfl, hk, rfl, rfl, hO, hsz⟩ := hrel
    have Hsz := Lib.hid hsz
    clear hsz
    by_cases hkn : k < recs.length
    · skip
      obtain ⟨sb, soff, rfl, hsb, hsc, -⟩ := HRS.out.get (HBW.out) (i := k) hkn
      obtain ⟨rc, hrc⟩ : ∃ rc, rc = recs.getD k ⟨#[]⟩ := ⟨_, rfl⟩
      rw [← hrc] at hsc
      have Hrc := Lib.hid hrc
      have hsl : sb < WE.heap.size := Nat.lt_of_lt_of_le hsb HBW.out.size
      have HO := Lib.hid hO
      have hBr := hO.ap.below
      have k0 := below_at hBr hsc hsl
      have q0 := below_at hBr p0 hpl
      have q1 := below_at hBr p1 hpl
      have n0 : (0 : Int) ≤ k := by omega
      have n1 : (k : Int) < recs.length := by omega
      have HBr := Lib.hid hBr
      clear hO hBr hsc hrc
      by_cases hbig : 500 < rc.size
      · have hbig' : (500 : Int) < rc.size := by omega
        have HBX := Lib.hid (HBW.out.trans (HBr.out.mono HBW.out.size))
        clear hbig
        go_wp2_with fail
        refine (wakes15_any _).mono ?_
        rintro e wz ⟨rfl, hBz⟩
        go_wp2_with fail
        go_ret
        exact ⟨rfl, HBX.out.trans (hBz.mono HBX.out.size)⟩
      have hbig' : (rc.size : Int) ≤ 500 := by omega
      have Hbig := Lib.hid (show rc.size ≤ 500 by omega)
      have hu8 : IntKind.u8.wrap (k : Int) = k := u8_small (by have := Hn.out; omega)
      clear hbig
      go_wp2_with fail
      have hnw : ∀ W, Mod none' wr W → Calls Tryz.prog 14 #[.agg #[.int .i64 0, .slice (some ⟨w.heap.size + 1 + 1, 0, none⟩) 2 2], .string (strOfNums [(k : Int)] ++ rc)] W fun e w' => ∃ ab, e = .returned (.pointer (some ⟨ab, 0, none⟩)) ∧ ApAt w' ab (From W.heap.size) (ap0 qO (strOfNums [(k : Int)] ++ rc)) ∧ Below W.heap.size W w' :=
        fun W hW => apNew_any _ W qO _ _ 2 ⟨by decide, by decide⟩ ((HLE.out.mod (F := none') (Mod.of_below HBr.out) (fun _ _ _ => id)).mod hW (fun _ _ _ => id))
      have hadd : ∀ W, (Op.stringOp .add (strOfNums [(k : Int)]) rc).run Tryz.prog W = .ok (.string (strOfNums [(k : Int)] ++ rc)) W := fun W => run_string_add_sum _ _ _ (by have := Hbig.out; rw [strOfNums_size]; simp only [List.length_cons, List.length_nil]; omega)
      obtain ⟨W1, hW1⟩ : ∃ W, W = (wr.alloc (.cells #[.int .u8 (k : Int)] 5)).drew := ⟨_, rfl⟩
      have hBW1 : Below wr.heap.size wr W1 := by rw [hW1]; (repeat (first | with_reducible exact (Below.refl _ _) | with_reducible refine Below.drew ?_ | with_reducible refine Esch.below_drewN ?_ _ | with_reducible refine Below.setCell ?_ (by first | omega | (simp; done) | (simp; omega)) _ | with_reducible refine Below.alloc ?_ (by first | omega | (simp; done) | (simp; omega)) _))
      have e0 := below_at hBW1 k0 (cell_lt k0)
      have e1 := below_at hBW1 q0 (cell_lt q0)
      have e2 := below_at hBW1 q1 (cell_lt q1)
      have e3 : W1.cell? ⟨wr.heap.size, 0, none⟩ = some (.int .u8 (k : Int)) := by rw [hW1]; go_simp
      have hcv := fun W => conv_one W wr.heap.size (k : Int)
      have HW1 := Lib.hid hW1
      have HBW1 := Lib.hid hBW1
      clear hW1 hBW1
      refine wp_region_held_drew (S := fun w' => w'.cell? ⟨sb, soff + k, none⟩ = some (.string rc) ∧ w'.cell? ⟨w.heap.size + 1 + 1 + 1, 0, none⟩ = some (.int .i64 0) ∧ w'.cell? ⟨w.heap.size + 1 + 1 + 1, 1, none⟩ = some (.slice (some ⟨w.heap.size + 1 + 1, 0, none⟩) 2 2)) (by kernel_rfl) ⟨k0, q0, q1⟩ (fun hHeld => ?_)
      refine wpAnyH_take (i := 0) (oi := _) (v := ?_) rfl (by kernel_rfl) (by kernel_rfl) (by kernel_rfl) (fun _ _ _ h => h) (Or.inl ⟨by rfl, ?_⟩) (by assumption) ?_
      rotate_left 1
      · intro w hSw
        try dsimp only at hSw
        go_simp
        try with_reducible rfl
      try simp only [Act.put, List.setIfInBounds_toArray, List.set_cons_zero, List.set_cons_succ]
      refine wpAnyH_take (i := 1) (oi := _) (v := ?_) rfl (by kernel_rfl) (by kernel_rfl) (by kernel_rfl) (fun _ _ _ h => h) (Or.inl ⟨by rfl, ?_⟩) (by assumption) ?_
      rotate_left 1
      · intro w hSw
        try dsimp only at hSw
        go_simp
        try with_reducible rfl
      try simp only [Act.put, List.setIfInBounds_toArray, List.set_cons_zero, List.set_cons_succ]
      refine wpAnyH_take (i := 2) (oi := _) (v := ?_) rfl (by kernel_rfl) (by kernel_rfl) (by kernel_rfl) (fun _ _ _ h => h) (Or.inl ⟨by rfl, ?_⟩) (by assumption) ?_
      rotate_left 1
      · intro w hSw
        try dsimp only at hSw
        go_simp
        try with_reducible rfl
      try simp only [Act.put, List.setIfInBounds_toArray, List.set_cons_zero, List.set_cons_succ]
      refine wpAnyH_take (i := 3) (oi := _) (v := ?_) rfl (by kernel_rfl) (by kernel_rfl) (by kernel_rfl) (fun _ _ _ h => h) (Or.inl ⟨by rfl, ?_⟩) (by assumption) ?_
      rotate_left 1
      · intro w hSw
        try dsimp only at hSw
        go_simp
        try with_reducible rfl
      try simp only [Act.put, List.setIfInBounds_toArray, List.set_cons_zero, List.set_cons_succ]
      refine wpAnyH_take (i := 6) (oi := _) (v := ?_) rfl (by kernel_rfl) (by kernel_rfl) (by kernel_rfl) (fun _ _ _ h => h) (Or.inl ⟨by rfl, ?_⟩) (by assumption) ?_
      rotate_left 1
      · intro w hSw
        try dsimp only at hSw
        go_simp
        try with_reducible rfl
      try simp only [Act.put, List.setIfInBounds_toArray, List.set_cons_zero, List.set_cons_succ]
      refine wpAnyH_take (i := 7) (oi := _) (v := ?_) rfl (by kernel_rfl) (by kernel_rfl) (by kernel_rfl) (fun _ _ _ h => h) (Or.inl ⟨by rfl, ?_⟩) (by assumption) ?_
      rotate_left 1
      · intro w hSw
        try dsimp only at hSw
        go_simp
        try with_reducible rfl
      try simp only [Act.put, List.setIfInBounds_toArray, List.set_cons_zero, List.set_cons_succ]
      refine wpAnyH_take (i := 8) (oi := _) (v := ?_) rfl (by kernel_rfl) (by kernel_rfl) (by kernel_rfl) (fun _ _ _ h => h) (Or.inl ⟨by rfl, ?_⟩) (by assumption) ?_
      rotate_left 1
      · intro w hSw
        try dsimp only at hSw
        go_simp
        try with_reducible rfl
      try simp only [Act.put, List.setIfInBounds_toArray, List.set_cons_zero, List.set_cons_succ]
      refine wpAnyH_take (i := 9) (oi := _) (v := ?_) rfl (by kernel_rfl) (by kernel_rfl) (by kernel_rfl) (fun _ _ _ h => h) (Or.inl ⟨by rfl, ?_⟩) (by assumption) ?_
      rotate_left 1
      · intro w hSw
        try dsimp only at hSw
        go_simp
        try with_reducible rfl
      try simp only [Act.put, List.setIfInBounds_toArray, List.set_cons_zero, List.set_cons_succ]
      refine wpAnyH_ready (rs := [4]) (by kernel_rfl) (by simp) ?_
      refine AllReadyH.cons (o := _) rfl (fun K hK => ?_) AllReadyH.nil
      go_simp
      rw [← HW1.out]
      try go_wp2_with fail
      refine hK.out _ _ ⟨e0, e1, e2⟩ (fun hHeld => ?_)
      clear hK K
      try simp only [Act.put, List.setIfInBounds_toArray, List.set_cons_zero, List.set_cons_succ]
      refine wpAnyH_mono2 (S2 := fun w' => (w'.cell? ⟨sb, soff + k, none⟩ = some (.string rc) ∧ w'.cell? ⟨w.heap.size + 1 + 1 + 1, 0, none⟩ = some (.int .i64 0) ∧ w'.cell? ⟨w.heap.size + 1 + 1 + 1, 1, none⟩ = some (.slice (some ⟨w.heap.size + 1 + 1, 0, none⟩) 2 2)) ∧ w'.cell? ⟨wr.heap.size, 0, none⟩ = some (.int .u8 (k : Int))) (fun _ h => h.1) ?_
      replace hHeld := And.intro hHeld e3
      refine wpAnyH_take (i := 5) (oi := _) (v := ?_) rfl (by kernel_rfl) (by kernel_rfl) (by kernel_rfl) (fun _ _ _ h => h) (Or.inl ⟨by rfl, ?_⟩) (by assumption) ?_
      rotate_left 1
      · intro w hSw
        try dsimp only at hSw
        go_simp
        try with_reducible rfl
      try simp only [Act.put, List.setIfInBounds_toArray, List.set_cons_zero, List.set_cons_succ]
      refine wpAnyH_take (i := 10) (oi := _) (v := ?_) rfl (by kernel_rfl) (by kernel_rfl) (by kernel_rfl) (fun _ _ _ h => h) (Or.inl ⟨by rfl, ?_⟩) (by assumption) ?_
      rotate_left 1
      · intro w hSw
        try dsimp only at hSw
        go_simp
        try with_reducible rfl
      try simp only [Act.put, List.setIfInBounds_toArray, List.set_cons_zero, List.set_cons_succ]
      refine wpAnyH_ready (rs := [11]) (by kernel_rfl) (by simp) ?_
      refine AllReadyH.cons (o := _) rfl (fun K hK => ?_) AllReadyH.nil
      go_simp
      go_at_call 14
      with_reducible refine (hnw W1 (Mod.of_below HBW1.out)).mono ?_
      rintro e w3 ⟨ab, rfl, hA3, hB3⟩
      have f0 := below_at hB3 e0 (cell_lt e0)
      have f1 := below_at hB3 e1 (cell_lt e1)
      have f2 := below_at hB3 e2 (cell_lt e2)
      have f3 := below_at hB3 e3 (cell_lt e3)
      have HA3 := Lib.hid hA3
      have HB3 := Lib.hid (HBW1.out.trans (hB3.mono HBW1.out.size))
      clear hA3 hB3
      try go_wp2_with fail
      refine hK.out _ _ ⟨⟨f0, f1, f2⟩, f3⟩ (fun hHeld => ?_)
      clear hK K
      try simp only [Act.put, List.setIfInBounds_toArray, List.set_cons_zero, List.set_cons_succ]
      have had := addTo_any w3 la k lc abs ab (by have := Hn.out; omega) (HO.out.ptr.below' HB3.out)
      refine wpAnyH_ready (rs := [12]) (by kernel_rfl) (by simp) ?_
      refine AllReadyH.cons (o := _) rfl (fun K hK => ?_) AllReadyH.nil
      go_simp
      go_at_call 13
      with_reducible refine had.mono ?_
      clear had
      rintro e w4 ⟨lb', rfl, hlb, hP4, hB4⟩
      have g0 := below_at hB4 f0 (cell_lt f0)
      have g1 := below_at hB4 f1 (cell_lt f1)
      have g2 := below_at hB4 f2 (cell_lt f2)
      have g3 := below_at hB4 f3 (cell_lt f3)
      have HP4 := Lib.hid hP4
      have HB4 := Lib.hid hB4
      clear hP4 hB4
      try go_wp2_with fail
      refine hK.out _ _ ⟨⟨g0, g1, g2⟩, g3⟩ (fun hHeld => ?_)
      clear hK K
      try simp only [Act.put, List.setIfInBounds_toArray, List.set_cons_zero, List.set_cons_succ]
      refine wpAnyH_take (i := 13) (oi := _) (v := ?_) rfl (by kernel_rfl) (by kernel_rfl) (by kernel_rfl) (fun _ _ _ h => h) (Or.inl ⟨by rfl, ?_⟩) (by assumption) ?_
      rotate_left 1
      · intro w hSw
        try dsimp only at hSw
        go_simp
        try with_reducible rfl
      try simp only [Act.put, List.setIfInBounds_toArray, List.set_cons_zero, List.set_cons_succ]
      refine wpAnyH_done (by kernel_rfl) ?_ _
      clear hHeld g0 g1 g2 g3 f0 f1 f2 f3 e0 e1 e2 e3 hcv hadd hnw k0 q0 q1
      go_wp2_with fail
      go_roundg (recs.length - (k + 1))
      case measure => omega
      case rel => exact ⟨k + 1, _, _, some ⟨lb', 0, none⟩, k + 1, _, rfl, by omega, by go_num, rfl, HO.out.add HB3.out HB4.out HBW1.out HA3.out Hrc.out Hbig.out hlb HP4.out, fun i hi => by
        by_cases e : i = k
        · subst e; rw [← Hrc.out]; exact Hbig.out
        · exact Hsz.out i (by omega)⟩
    · obtain rfl : k = recs.length := by omega
      have HO := Lib.hid hO
      clear hO hk hkn
      go_wp2_with fail
      go_loopg [11] turns.length (fun g s11 wr => OrdRel2 WE hb recs.length turns.length recs abs la g s11 wr)
      case atStart => exact ⟨0, 0, _, _, _, rfl, Nat.zero_le _, rfl, Nat.le_refl _, HO.out⟩
      case round =>
        clear HO
        obtain ⟨k, c, V, hd, f, rfl, hk, rfl, hck, hO⟩ := hrel
        by_cases hkt : k < turns.length ∧ 0 < recs.length
        · obtain ⟨hkt, hn0⟩ := hkt
          skip
          obtain ⟨tb, toff, tv, rfl, htv, ht0, ht1⟩ := HTS.out.get (HBW.out.trans (hO.ap.below.mono HBW.out.size)) (i := k) hkt
          obtain ⟨m, hm, hmn⟩ : ∃ m : Nat, Int.tmod tv recs.length = m ∧ m < recs.length := ⟨(Int.tmod tv recs.length).toNat, (Int.toNat_of_nonneg (by rw [Int.tmod_eq_emod_of_nonneg ht0]; exact Int.emod_nonneg _ (by omega))).symm, by have h1 := Int.emod_lt_of_pos tv (show (0 : Int) < recs.length by omega); have h2 := Int.emod_nonneg tv (show (recs.length : Int) ≠ 0 by omega); rw [Int.tmod_eq_emod_of_nonneg ht0]; omega⟩
          obtain ⟨lb, loff, rfl, hptr⟩ := hO.ptr hn0
          have hpm := hptr m hmn
          have htn := turn15_any hO.ap hmn (by have := Ht.out; omega) (by have h1 := (hO.oi.txt hmn); have h2 := recO_size (Hsz.out m hmn); rw [h1]; omega)
          have HO := Lib.hid hO
          have n0 : (0 : Int) ≤ k := by omega
          have n1 : (k : Int) < turns.length := by omega
          have n2 : (0 : Int) < recs.length := by omega
          have n3 : (m : Int) < recs.length := by omega
          have n4 : (0 : Int) ≤ m := by omega
          have n5 : ¬ (recs.length : Int) = 0 := by omega
          have Hmn := Lib.hid hmn
          clear hO hptr hmn
          go_wp2_with fail
          refine htn.mono ?_
          clear htn
          rintro e w5 hT
          obtain ⟨hO5, -⟩ := HO.out.turn Hn.out Hsz.out Hmn.out hT
          obtain ⟨rfl, -, -⟩ := hT
          have HO5 := Lib.hid hO5
          clear hO5 hpm htv
          go_wp2_with fail
          go_roundg (turns.length - (k + 1))
          case measure => omega
          case rel => exact ⟨k + 1, _, _, _, _, rfl, by omega, by go_num, by omega, HO5.out⟩
        · have HO := Lib.hid hO
          have Hck := Lib.hid (show c ≤ 100 by have := Ht.out; omega)
          clear hO hck
          by_cases hkt2 : k < turns.length
          · have hn1 : (recs.length : Int) ≤ 0 := by omega
            have hk1 : (k : Int) < turns.length := by omega
            clear hkt hk hkt2
            go_wp2_with fail
            obtain ⟨WM, hWM, hBM, hRM⟩ := met_box wr
            rw [← hWM]
            obtain ⟨mb, hmb⟩ : ∃ mb, mb = wr.heap.size := ⟨_, rfl⟩
            rw [← hmb] at hRM ⊢
            have hzb := HO.out.ap.below.size
            have Hmb := Lib.hid (show WE.heap.size ≤ mb by omega)
            have Hmp := Lib.hid (show ¬ (w.heap.size + 1 + 1 + 1 = mb) by omega)
            have hMl : ∀ loff lb, la = some ⟨lb, loff, none⟩ → 0 < recs.length → lb ≠ mb := fun loff lb e h0 => by
              obtain ⟨b, off, e', hc⟩ := HO.out.ptr h0
              rw [e] at e'; cases e'
              have := cell_lt (hc 0 h0)
              omega
            have HMl := Lib.hid hMl
            have HRM := Lib.hid hRM
            have HOM := Lib.hid (HO.out.below' hBM)
            have HVM := Lib.hid (show ¬ V mb from fun h => by have := HO.out.ap.lt _ h; omega)
            clear hWM hBM hRM hmb hzb hMl HO
            go_loopg [13] recs.length (fun g s13 wr => OrdRel3 WE hb recs.length mb recs abs la g s13 wr)
            case atStart => exact ⟨0, c, V, hd, f, rfl, Nat.zero_le _, rfl, by have := Hck.out; omega, HOM.out, fun j hj => absurd hj (by omega), HRM.out, HVM.out⟩
            case round =>
              clear HOM HRM HVM
              obtain ⟨i, c1, V1, hd1, f1, rfl, hi, rfl, hc1, hO1, h5, hR1, hV1⟩ := hrel
              by_cases hin : i < recs.length
              · exact absurd hin (by omega)
              · obtain rfl : i = recs.length := by omega
                have HBX := Lib.hid (HBW.out.trans (hO1.ap.below.mono HBW.out.size))
                clear hO1 h5 hR1 hV1 hi hin
                go_wp2_with fail
                refine (wakes15_any _).mono ?_
                rintro e wz ⟨rfl, hBz⟩
                go_wp2_with fail
                go_ret
                exact ⟨rfl, HBX.out.trans (hBz.mono HBX.out.size)⟩
          · have hk1 : (turns.length : Int) ≤ k := by omega
            clear hkt hk hkt2
            go_wp2_with fail
            obtain ⟨WM, hWM, hBM, hRM⟩ := met_box wr
            rw [← hWM]
            obtain ⟨mb, hmb⟩ : ∃ mb, mb = wr.heap.size := ⟨_, rfl⟩
            rw [← hmb] at hRM ⊢
            have hzb := HO.out.ap.below.size
            have Hmb := Lib.hid (show WE.heap.size ≤ mb by omega)
            have Hmp := Lib.hid (show ¬ (w.heap.size + 1 + 1 + 1 = mb) by omega)
            have hMl : ∀ loff lb, la = some ⟨lb, loff, none⟩ → 0 < recs.length → lb ≠ mb := fun loff lb e h0 => by
              obtain ⟨b, off, e', hc⟩ := HO.out.ptr h0
              rw [e] at e'; cases e'
              have := cell_lt (hc 0 h0)
              omega
            have HMl := Lib.hid hMl
            have HRM := Lib.hid hRM
            have HOM := Lib.hid (HO.out.below' hBM)
            have HVM := Lib.hid (show ¬ V mb from fun h => by have := HO.out.ap.lt _ h; omega)
            clear hWM hBM hRM hmb hzb hMl HO
            go_loopg [13] recs.length (fun g s13 wr => OrdRel3 WE hb recs.length mb recs abs la g s13 wr)
            case atStart => exact ⟨0, c, V, hd, f, rfl, Nat.zero_le _, rfl, by have := Hck.out; omega, HOM.out, fun j hj => absurd hj (by omega), HRM.out, HVM.out⟩
            case round =>
              clear HOM HRM HVM
              obtain ⟨i, c1, V1, hd1, f1, rfl, hi, rfl, hc1, hO1, h5, hR1, hV1⟩ := hrel
              by_cases hin : i < recs.length
              · skip
                obtain ⟨lb, loff, rfl, hptr0⟩ := hO1.ptr (by omega)
                have Hml := Lib.hid (HMl.out loff lb rfl (by omega))
                obtain ⟨sb, soff, rfl, hsb, hsc, -⟩ := HRS.out.get (HBW.out) (i := i) hin
                obtain ⟨rc, hrc⟩ : ∃ rc, rc = recs.getD i ⟨#[]⟩ := ⟨_, rfl⟩
                rw [← hrc] at hsc
                have Hrc := Lib.hid hrc
                have hsl : sb < WE.heap.size := Nat.lt_of_lt_of_le hsb HBW.out.size
                have HO1 := Lib.hid hO1
                have H5 := Lib.hid h5
                have HR1 := Lib.hid hR1
                have HV1 := Lib.hid hV1
                have i0 : (0 : Int) ≤ i := by omega
                have i1 : (i : Int) < recs.length := by omega
                have hu8 : IntKind.u8.wrap (i : Int) = i := u8_small (by have := Hn.out; omega)
                have hadd : ∀ W, (Op.stringOp .add (strOfNums [(i : Int)]) rc).run Tryz.prog W = .ok (.string (strOfNums [(i : Int)] ++ rc)) W := fun W => run_string_add_sum _ _ _ (by have := Hsz.out i hin; rw [Hrc.out, strOfNums_size]; simp only [List.length_cons, List.length_nil]; omega)
                clear hO1 h5 hR1 hV1 hptr0 hrc
                go_wp2_with fail
                go_loopg [8, 14] 20 (fun g _ s14 wr => OrdRel4 WE hb recs.length mb c1 i recs abs (some ⟨lb, loff, none⟩) f1 g s14 wr)
                case atStart => exact ⟨0, c1, V1, hd1, f1, rfl, rfl, by omega, HO1.out, fun _ _ => rfl, HR1.out, HV1.out, by omega, Or.inr (by have := muO_le (f1 i); omega)⟩
                case round =>
                  clear HO1 HR1 HV1
                  obtain ⟨k, c2, V2, hd2, f2, rfl, rfl, hc2, hO2, hf2, hR2, hV2, hk3, hmu⟩ := hrel
                  have Hf2 := Lib.hid hf2
                  have Hc2 := Lib.hid (show c2 + 1 ≤ 100 + 20 * (i + 1) by omega)
                  obtain ⟨lb', loff', e', hptr⟩ := hO2.ptr (by omega)
                  cases e'
                  have hpi := hptr i hin
                  have htn := turn15_any hO2.ap hin (by have := Hn.out; omega) (by have h1 := (hO2.oi.txt hin); have h2 := recO_size (Hsz.out i hin); rw [h1]; omega)
                  have k0 : (0 : Int) ≤ k := by omega
                  have k1 : (k : Int) < 20 := by omega
                  have HO2 := Lib.hid hO2
                  have HR2 := Lib.hid hR2
                  have HV2 := Lib.hid hV2
                  clear hO2 hR2 hV2 hptr hf2
                  go_wp2_with fail
                  refine htn.mono ?_
                  clear htn
                  rintro e w5 hT
                  obtain ⟨hO5, hM5⟩ := HO2.out.turn Hn.out Hsz.out hin hT
                  have hr := hT.1
                  have hR5 := HR2.out.of_block (hM5.block mb HR2.out.lt HV2.out)
                  have hV5 : ¬ grow V2 wr w5 mb := fun h => by
                    rcases h with h | h
                    · exact HV2.out h
                    · have := HR2.out.lt; omega
                  clear hT hpi hM5
                  by_cases h5 : (f2 i).at = 5
                  · rw [decide_eq_false (by simpa using h5)] at hr
                    subst hr
                    rw [show tnO (hd2, f2 i) = (hd2, f2 i) from if_pos h5] at hO5
                    simp only at hO5
                    rw [upA_same rfl] at hO5
                    clear hmu hk3 k0 k1
                    obtain ⟨he0, hx0, hx1, hrd⟩ := hO5.oi.fin Hn.out hin h5
                    obtain ⟨x, hx⟩ : ∃ x : Nat, (f2 i).addr = x := ⟨(f2 i).addr.toNat, (Int.toNat_of_nonneg hx0).symm⟩
                    have Hx := Lib.hid hx
                    rw [hx] at hx0 hx1 hrd
                    have hov := hO5.ap.over hin
                    rw [show OverV (f2 i) = .tuple #[.int .i64 x, .int .i64 0, .bool true] from by unfold OverV; rw [if_pos h5, hx, he0]] at hov
                    have hmf : metB f1 i x = false := metB_false i (fun j hj => by
                      have hj5 : (f2 j).at = 5 := by rw [Hf2.out j hj]; exact H5.out j hj
                      rw [← Hf2.out j hj, ← hx]
                      exact hO5.oi.apart j i (by omega) hin (by omega) (by omega) (by omega))
                    have hmc : w5.cell? ⟨mb, x, none⟩ = some (.bool false) := by
                      have := hR5.cell (i := x) (by omega)
                      rw [this]
                      show some (Value.bool (metB f1 i x)) = _
                      rw [hmf]
                    have hmz : w5.frozen? ⟨mb, x, none⟩ = false := hR5.frozen x
                    have hml := hR5.lt
                    have hB5 := hO5.ap.below
                    have q0 := below_at hB5 p0 hpl
                    have q1 := below_at hB5 p1 hpl
                    have s5 := below_at hB5 hsc hsl
                    obtain ⟨lb5, loff5, e5, hc5⟩ := hO5.ptr (by omega)
                    cases e5
                    have l5 := hc5 i hin
                    have HO5 := Lib.hid hO5
                    have HR5 := Lib.hid hR5
                    have HV5 := Lib.hid hV5
                    have Hrd0 := Lib.hid hrd
                    have At5 := Lib.hid h5
                    have x0 : (0 : Int) ≤ x := by omega
                    have x1 : (x : Int) < 64 := by omega
                    clear hO5 hR5 hV5 hrd hmf he0 hx0 hx1 hc5 hx h5 hB5
                    go_wp2_with fail
                    refine hov.mono ?_
                    clear hov
                    rintro e w6 ⟨rfl, hM6⟩
                    have hz6 := hM6.size
                    have hmc6 := hM6.at hmc id
                    have hmz6 := (hM6.frozen (p := ⟨mb, x, none⟩) hml id).trans hmz
                    have q06 := hM6.at q0 id
                    have q16 := hM6.at q1 id
                    have s6 := hM6.at s5 id
                    have HM6 := Lib.hid hM6
                    have hmp := Hmp.out
                    clear q0 q1 s5 hmc hmz l5 hM6
                    go_wp2_with fail
                    clear hmp
                    obtain ⟨W7, hW7⟩ : ∃ W, W = w6.setCell ⟨mb, x, none⟩ (.bool true) := ⟨_, rfl⟩
                    have hM7 : Mod (· = mb) w6 W7 := by rw [hW7]; (repeat' (first | (with_reducible exact (Mod.refl _ _)) | (with_reducible apply Mod.drew) | (with_reducible apply Mod.drewN) | (with_reducible apply Mod.alloc) | (with_reducible apply Mod.setCellAt) | (intro _; first | rfl | exact Or.inl rfl | exact Or.inr rfl) | (intro h; exfalso; omega)))
                    have HR7 := Lib.hid (show W7.rowIs mb 38 64 (fun a => .bool (metB f2 (i + 1) a)) from by
                      rw [hW7]
                      refine ((HR5.out.of_block (HM6.out.block mb hml id)).set x (.bool true)).congr (fun a _ => ?_)
                      rw [metB_succ Hx.out, metB_congr i Hf2.out]
                      by_cases e : a = x
                      · rw [if_pos e, if_pos e]
                      · rw [if_neg e, if_neg e])
                    rw [← hW7]
                    have q0 := hM7.at q06 Hmp.out
                    have q1 := hM7.at q16 Hmp.out
                    have s7 := hM7.at s6 (by have := Hmb.out; omega)
                    have hO6 := HO5.out.mod HM6.out (fun _ _ => id) (fun _ _ => id) (fun _ _ _ _ => id)
                    have HO7 := Lib.hid (hO6.mod hM7 (fun k hk e => HV5.out (by subst e; exact hk)) (fun k hk e => by have := Hmb.out; omega) (fun b off e h0 eb => by cases e; exact Hml.out eb))
                    have hB7 := HO7.out.ap.below
                    have HB7 := Lib.hid hB7
                    clear q06 q16 hmc6 hmz6 s6 hM7 hW7 hO6 hB7
                    have hof := rOf_any _ W7 qO _ 2 (x : Int) (HLE.out.mod (F := none') (Mod.of_below HB7.out) (fun _ _ _ => id))
                    rw [ofP_qO (by omega) (by omega)] at hof
                    unfold ROfPost at hof
                    simp only [gotV] at hof
                    obtain ⟨r0, hr0⟩ : ∃ r : Int, r = (x : Int) % 2 := ⟨_, rfl⟩
                    obtain ⟨r1, hr1⟩ : ∃ r : Int, r = (x : Int) / 2 := ⟨_, rfl⟩
                    rw [← hr0, ← hr1] at hof
                    rw [← hr1] at Hrd0
                    clear hr0 hr1
                    go_wp2_with fail
                    refine hof.mono ?_
                    clear hof
                    rintro e w8 ⟨rfl, hB8⟩
                    have q08 := below_at hB8 q0 (cell_lt q0)
                    have q18 := below_at hB8 q1 (cell_lt q1)
                    have s8 := below_at hB8 s7 (cell_lt s7)
                    have HM8 := Lib.hid (Mod.of_below (F := none') hB8)
                    have hz8 := hB8.size
                    have hl8 : w.heap.size + 1 + 1 + 1 < w8.heap.size := cell_lt q08
                    clear hB8 q0 q1 s7
                    go_wp2_with fail
                    obtain ⟨wg, hwg, hBg, hzg, -, g1, -⟩ := got_box w8 (.int .i64 r0) (.int .i64 r1) (.bool true)
                    rw [← hwg]
                    obtain ⟨gb, hgb⟩ : ∃ gb, gb = w8.heap.size := ⟨_, rfl⟩
                    rw [← hgb] at g1 ⊢
                    have q0 := below_at hBg q08 hl8
                    have q1 := below_at hBg q18 hl8
                    have sg := below_at hBg s8 (cell_lt s8)
                    have HMg := Lib.hid (HM8.out.trans (Mod.of_below (F := none') hBg))
                    have hlg : gb < wg.heap.size := by omega
                    have hch := rChain_any _ wg qO _ 2 (x : Int) ((HLE.out.mod (F := none') (Mod.of_below HB7.out) (fun _ _ _ => id)).mod HMg.out (fun _ _ _ => id))
                    have hlc2 := chain_len (x := (x : Int)) (by omega) (by omega)
                    have Hrd := Lib.hid (show ∀ m, m < (chainP qO (x : Int)).length → ∃ u : Nat, u < 16 ∧ (chainP qO (x : Int)).getD m 0 = (u : Int) ∧ (hd2.nd.units u).pg.read r1 = (strOfNums [(i : Int)] ++ rc, 0) from fun m hm => ⟨uO (x : Int) m, by have := uO_lt (x : Int) (j := m) (by omega); omega, chain_uO (by omega) (by omega) (by omega), by rw [Hrd0.out m (by omega)]; unfold recO; rw [← Hrc.out]⟩)
                    obtain ⟨lc, hlc⟩ : ∃ lc, lc = chainP qO (x : Int) := ⟨_, rfl⟩
                    rw [← hlc] at hch Hrd hlc2
                    clear hwg hBg hzg hgb q08 q18 s8 hz8 hl8 hlc
                    go_wp2_with fail
                    refine hch.mono ?_
                    clear hch
                    rintro e w9 ⟨ca, cc, rfl, hci, hB9⟩
                    have g1 := below_at hB9 g1 hlg
                    have s9 := below_at hB9 sg (cell_lt sg)
                    have HCI9 := Lib.hid hci
                    have HM9 := Lib.hid (HMg.out.trans (Mod.of_below (F := none') hB9))
                    obtain ⟨nb', hn, hu⟩ := HO7.out.ap.nodes
                    have Hn' := Lib.hid hn
                    have Hu := Lib.hid hu
                    have Hl2 := Lib.hid hlc2
                    have hl3 : (lc.length : Int) ≤ 2 := by omega
                    clear hci hB9 sg hlg q0 q1 hn hu hlc2 HMg HM8
                    go_wp2_with fail
                    go_loopg [20] lc.length (fun g s20 wr => OrdRel5 w9 lc.length g s20 wr)
                    case atStart => exact ⟨0, rfl, Nat.zero_le _, rfl, Mod.refl _ _⟩
                    case round =>
                      obtain ⟨m, rfl, hm, rfl, hMr⟩ := hrel
                      by_cases hkl : m < lc.length
                      · skip
                        obtain ⟨u, hu16, hcu, hread⟩ := Hrd.out m hkl
                        obtain ⟨cb, coff, rfl, -, hcb, hcc⟩ := HCI9.out.2 (by omega)
                        have hck := hcc m hkl
                        rw [hcu] at hck
                        have hMrd : Mod none' w9 wr.drew := hMr.drew
                        have k0 : wr.drew.cell? ⟨cb, coff + m, none⟩ = some (.int .i64 u) := hMrd.at hck id
                        have k1 : wr.drew.cell? ⟨gb, 1, none⟩ = some (.int .i64 r1) := hMrd.at g1 id
                        have k2 : wr.drew.cell? ⟨sb, soff + i, none⟩ = some (.string rc) := hMrd.at s9 id
                        have hMr0 := HM9.out.trans hMrd
                        have hcn := Hn'.out wr.drew hMr0
                        obtain ⟨⟨ub, pb, r1', r2', r3'⟩, gk⟩ := Hu.out u hu16
                        have hcu1 := r1' wr.drew hMr0
                        have R2 := Lib.hid r2'
                        have R3 := Lib.hid r3'
                        have HMr := Lib.hid hMr
                        have HMr0 := Lib.hid hMr0
                        have HMrd := Lib.hid hMrd
                        have Hread := Lib.hid hread
                        have n6 : (0 : Int) ≤ m := by omega
                        have n7 : (m : Int) < lc.length := by omega
                        clear hck hcc r1' r2' r3' hMr hMr0 hMrd hread hcu
                        go_wp2_with fail
                        go_region_held3 (fun w' => w'.cell? ⟨cb, coff + m, none⟩ = some (.int .i64 u) ∧ w'.cell? ⟨gb, 1, none⟩ = some (.int .i64 r1))
                          (first
                            | with_reducible exact ⟨k0, k1⟩
                            | with_reducible exact ⟨z0, z1⟩
                            | with_reducible exact ⟨y0, y1⟩)
                          (first
                            | (go_at_call 19; (with_reducible refine hcn.mono ?_); rintro e w10 ⟨rfl, rfl⟩)
                            | (go_at_call 20; (with_reducible refine hcu1.mono ?_); rintro e w11 ⟨rfl, hM11⟩
                               have z0 := hM11.at k0 id
                               have z1 := hM11.at k1 id
                               have hcp1 := R2.out w11 (HMr0.out.trans hM11)
                               obtain ⟨pmb, hP⟩ := R3.out w11 (HMr0.out.trans hM11)
                               have hcr := pread_any w11 pb pmb _ gk hP r1
                               rw [Hread.out] at hcr
                               unfold RdPost at hcr
                               simp only at hcr
                               have HM11 := Lib.hid hM11
                               clear hM11 hP)
                            | (go_at_call 21; (with_reducible refine hcp1.mono ?_); rintro e w12 ⟨rfl, rfl⟩)
                            | (go_at_call 22; (with_reducible refine hcr.mono ?_); rintro e w13 ⟨rfl, hM13⟩
                               have y0 := hM13.at z0 id
                               have y1 := hM13.at z1 id
                               have HM13 := Lib.hid hM13
                               clear hM13))
                        have hMe := HMrd.out.trans (HM11.out.trans HM13.out)
                        have s13 : w13.cell? ⟨sb, soff + i, none⟩ = some (.string rc) := HM13.out.at (HM11.out.at k2 id) id
                        clear k0 k1 k2 z0 z1 y0 y1 hcn hcu1 hcp1 hcr HM11 HM13
                        have HMe := Lib.hid hMe
                        clear hMe
                        go_wp2_with fail
                        obtain ⟨W1, hW1⟩ : ∃ W, W = (w13.alloc (.cells #[.int .u8 (i : Int)] 5)).drew := ⟨_, rfl⟩
                        have hBW1 : Below w13.heap.size w13 W1 := by rw [hW1]; (repeat (first | with_reducible exact (Below.refl _ _) | with_reducible refine Below.drew ?_ | with_reducible refine Esch.below_drewN ?_ _ | with_reducible refine Below.setCell ?_ (by first | omega | (simp; done) | (simp; omega)) _ | with_reducible refine Below.alloc ?_ (by first | omega | (simp; done) | (simp; omega)) _))
                        have e0 := below_at hBW1 s13 (cell_lt s13)
                        have e3 : W1.cell? ⟨w13.heap.size, 0, none⟩ = some (.int .u8 (i : Int)) := by rw [hW1]; go_simp
                        have hcv := fun W => conv_one W w13.heap.size (i : Int)
                        have HW1 := Lib.hid hW1
                        have HBW1 := Lib.hid hBW1
                        clear hW1 hBW1
                        refine wp_region_held_drew (S := fun w' => w'.cell? ⟨sb, soff + i, none⟩ = some (.string rc)) (by kernel_rfl) s13 (fun hHeld => ?_)
                        refine wpAnyH_take (i := 0) (oi := ?_) (v := ?_) ?_ (by kernel_rfl) (by kernel_rfl) (by kernel_rfl) ?_ ?_ (by assumption) ?_
                        rotate_left 2
                        · simp only [List.getElem?_toArray, List.getElem?_cons_succ, List.getElem?_cons_zero]; rfl
                        · exact fun _ _ _ h => h
                        · refine Or.inl ⟨by rfl, ?_⟩
                          intro w hSw
                          try dsimp only at hSw
                          go_simp
                          try with_reducible rfl
                        try simp only [Act.put, List.setIfInBounds_toArray, List.set_cons_zero, List.set_cons_succ]
                        refine wpAnyH_take (i := 1) (oi := ?_) (v := ?_) ?_ (by kernel_rfl) (by kernel_rfl) (by kernel_rfl) ?_ ?_ (by assumption) ?_
                        rotate_left 2
                        · simp only [List.getElem?_toArray, List.getElem?_cons_succ, List.getElem?_cons_zero]; rfl
                        · exact fun _ _ _ h => h
                        · refine Or.inl ⟨by rfl, ?_⟩
                          intro w hSw
                          try dsimp only at hSw
                          go_simp
                          try with_reducible rfl
                        try simp only [Act.put, List.setIfInBounds_toArray, List.set_cons_zero, List.set_cons_succ]
                        refine wpAnyH_take (i := 2) (oi := ?_) (v := ?_) ?_ (by kernel_rfl) (by kernel_rfl) (by kernel_rfl) ?_ ?_ (by assumption) ?_
                        rotate_left 2
                        · simp only [List.getElem?_toArray, List.getElem?_cons_succ, List.getElem?_cons_zero]; rfl
                        · exact fun _ _ _ h => h
                        · refine Or.inl ⟨by rfl, ?_⟩
                          intro w hSw
                          try dsimp only at hSw
                          go_simp
                          try with_reducible rfl
                        try simp only [Act.put, List.setIfInBounds_toArray, List.set_cons_zero, List.set_cons_succ]
                        refine wpAnyH_take (i := 3) (oi := ?_) (v := ?_) ?_ (by kernel_rfl) (by kernel_rfl) (by kernel_rfl) ?_ ?_ (by assumption) ?_
                        rotate_left 2
                        · simp only [List.getElem?_toArray, List.getElem?_cons_succ, List.getElem?_cons_zero]; rfl
                        · exact fun _ _ _ h => h
                        · refine Or.inl ⟨by rfl, ?_⟩
                          intro w hSw
                          try dsimp only at hSw
                          go_simp
                          try with_reducible rfl
                        try simp only [Act.put, List.setIfInBounds_toArray, List.set_cons_zero, List.set_cons_succ]
                        refine wpAnyH_take (i := 4) (oi := ?_) (v := ?_) ?_ (by kernel_rfl) (by kernel_rfl) (by kernel_rfl) ?_ ?_ (by assumption) ?_
                        rotate_left 2
                        · simp only [List.getElem?_toArray, List.getElem?_cons_succ, List.getElem?_cons_zero]; rfl
                        · exact fun _ _ _ h => h
                        · refine Or.inl ⟨by rfl, ?_⟩
                          intro w hSw
                          try dsimp only at hSw
                          go_simp
                          try with_reducible rfl
                        try simp only [Act.put, List.setIfInBounds_toArray, List.set_cons_zero, List.set_cons_succ]
                        refine wpAnyH_take (i := 5) (oi := ?_) (v := ?_) ?_ (by kernel_rfl) (by kernel_rfl) (by kernel_rfl) ?_ ?_ (by assumption) ?_
                        rotate_left 2
                        · simp only [List.getElem?_toArray, List.getElem?_cons_succ, List.getElem?_cons_zero]; rfl
                        · exact fun _ _ _ h => h
                        · refine Or.inl ⟨by rfl, ?_⟩
                          intro w hSw
                          try dsimp only at hSw
                          go_simp
                          try with_reducible rfl
                        try simp only [Act.put, List.setIfInBounds_toArray, List.set_cons_zero, List.set_cons_succ]
                        refine wpAnyH_take (i := 8) (oi := ?_) (v := ?_) ?_ (by kernel_rfl) (by kernel_rfl) (by kernel_rfl) ?_ ?_ (by assumption) ?_
                        rotate_left 2
                        · simp only [List.getElem?_toArray, List.getElem?_cons_succ, List.getElem?_cons_zero]; rfl
                        · exact fun _ _ _ h => h
                        · refine Or.inl ⟨by rfl, ?_⟩
                          intro w hSw
                          try dsimp only at hSw
                          go_simp
                          try with_reducible rfl
                        try simp only [Act.put, List.setIfInBounds_toArray, List.set_cons_zero, List.set_cons_succ]
                        refine wpAnyH_take (i := 9) (oi := ?_) (v := ?_) ?_ (by kernel_rfl) (by kernel_rfl) (by kernel_rfl) ?_ ?_ (by assumption) ?_
                        rotate_left 2
                        · simp only [List.getElem?_toArray, List.getElem?_cons_succ, List.getElem?_cons_zero]; rfl
                        · exact fun _ _ _ h => h
                        · refine Or.inl ⟨by rfl, ?_⟩
                          intro w hSw
                          try dsimp only at hSw
                          go_simp
                          try with_reducible rfl
                        try simp only [Act.put, List.setIfInBounds_toArray, List.set_cons_zero, List.set_cons_succ]
                        refine wpAnyH_take (i := 10) (oi := ?_) (v := ?_) ?_ (by kernel_rfl) (by kernel_rfl) (by kernel_rfl) ?_ ?_ (by assumption) ?_
                        rotate_left 2
                        · simp only [List.getElem?_toArray, List.getElem?_cons_succ, List.getElem?_cons_zero]; rfl
                        · exact fun _ _ _ h => h
                        · refine Or.inl ⟨by rfl, ?_⟩
                          intro w hSw
                          try dsimp only at hSw
                          go_simp
                          try with_reducible rfl
                        try simp only [Act.put, List.setIfInBounds_toArray, List.set_cons_zero, List.set_cons_succ]
                        refine wpAnyH_take (i := 11) (oi := ?_) (v := ?_) ?_ (by kernel_rfl) (by kernel_rfl) (by kernel_rfl) ?_ ?_ (by assumption) ?_
                        rotate_left 2
                        · simp only [List.getElem?_toArray, List.getElem?_cons_succ, List.getElem?_cons_zero]; rfl
                        · exact fun _ _ _ h => h
                        · refine Or.inl ⟨by rfl, ?_⟩
                          intro w hSw
                          try dsimp only at hSw
                          go_simp
                          try with_reducible rfl
                        try simp only [Act.put, List.setIfInBounds_toArray, List.set_cons_zero, List.set_cons_succ]
                        refine wpAnyH_ready (rs := [6]) (by kernel_rfl) (by simp) ?_
                        refine AllReadyH.cons (o := _) rfl (fun K hK => ?_) AllReadyH.nil
                        go_simp
                        rw [← HW1.out]
                        try go_wp2_with fail
                        refine hK.out _ _ e0 (fun hHeld => ?_)
                        clear hK K
                        try simp only [Act.put, List.setIfInBounds_toArray, List.set_cons_zero, List.set_cons_succ]
                        refine wpAnyH_mono2 (S2 := fun w' => w'.cell? ⟨sb, soff + i, none⟩ = some (.string rc) ∧ w'.cell? ⟨w13.heap.size, 0, none⟩ = some (.int .u8 (i : Int))) (fun _ h => h.1) ?_
                        replace hHeld := And.intro hHeld e3
                        refine wpAnyH_take (i := 7) (oi := ?_) (v := ?_) ?_ (by kernel_rfl) (by kernel_rfl) (by kernel_rfl) ?_ ?_ (by assumption) ?_
                        rotate_left 2
                        · simp only [List.getElem?_toArray, List.getElem?_cons_succ, List.getElem?_cons_zero]; rfl
                        · exact fun _ _ _ h => h
                        · refine Or.inl ⟨by rfl, ?_⟩
                          intro w hSw
                          try dsimp only at hSw
                          go_simp
                          try with_reducible rfl
                        try simp only [Act.put, List.setIfInBounds_toArray, List.set_cons_zero, List.set_cons_succ]
                        refine wpAnyH_take (i := 12) (oi := ?_) (v := ?_) ?_ (by kernel_rfl) (by kernel_rfl) (by kernel_rfl) ?_ ?_ (by assumption) ?_
                        rotate_left 2
                        · simp only [List.getElem?_toArray, List.getElem?_cons_succ, List.getElem?_cons_zero]; rfl
                        · exact fun _ _ _ h => h
                        · refine Or.inl ⟨by rfl, ?_⟩
                          intro w hSw
                          try dsimp only at hSw
                          go_simp
                          try with_reducible rfl
                        try simp only [Act.put, List.setIfInBounds_toArray, List.set_cons_zero, List.set_cons_succ]
                        refine wpAnyH_take (i := 13) (oi := ?_) (v := ?_) ?_ (by kernel_rfl) (by kernel_rfl) (by kernel_rfl) ?_ ?_ (by assumption) ?_
                        rotate_left 2
                        · simp only [List.getElem?_toArray, List.getElem?_cons_succ, List.getElem?_cons_zero]; rfl
                        · exact fun _ _ _ h => h
                        · refine Or.inl ⟨by rfl, ?_⟩
                          intro w hSw
                          try dsimp only at hSw
                          go_simp
                          try with_reducible rfl
                        try simp only [Act.put, List.setIfInBounds_toArray, List.set_cons_zero, List.set_cons_succ]
                        refine wpAnyH_take (i := 14) (oi := ?_) (v := ?_) ?_ (by kernel_rfl) (by kernel_rfl) (by kernel_rfl) ?_ ?_ (by assumption) ?_
                        rotate_left 2
                        · simp only [List.getElem?_toArray, List.getElem?_cons_succ, List.getElem?_cons_zero]; rfl
                        · exact fun _ _ _ h => h
                        · refine Or.inl ⟨by rfl, ?_⟩
                          intro w hSw
                          try dsimp only at hSw
                          go_simp
                          try with_reducible rfl
                        try simp only [Act.put, List.setIfInBounds_toArray, List.set_cons_zero, List.set_cons_succ]
                        refine wpAnyH_done (by kernel_rfl) ?_ _
                        clear hHeld e0 e3 hcv s13
                        go_wp2_with fail
                        go_roundg (lc.length - (m + 1))
                        case measure => omega
                        case rel => exact ⟨m + 1, rfl, by omega, by go_num, HMe.out.trans (Mod.of_below HBW1.out)⟩
                      · obtain rfl : m = lc.length := by omega
                        have HMr := Lib.hid (HM9.out.trans hMr)
                        clear hMr hkl hm
                        go_wp2_with fail
                        go_roundg (recs.length - (i + 1))
                        case measure => omega
                        case rel => exact ⟨i + 1, _, _, _, f2, rfl, by omega, by go_num, by have := Hc2.out; omega, HO7.out.mod HMr.out (fun _ _ => id) (fun _ _ => id) (fun _ _ _ _ => id), fun j hj => by
                          by_cases e : j = i
                          · subst e; exact At5.out
                          · rw [Hf2.out j (by omega)]; exact H5.out j (by omega), HR7.out.of_block (HMr.out.block mb HR7.out.lt id), HV5.out⟩
                  · rw [decide_eq_true (by simpa using h5)] at hr
                    subst hr
                    have hmu2 : muO (tnO (hd2, f2 i)).2 < muO (f2 i) := by
                      rw [show tnO (hd2, f2 i) = apTurn (hd2, f2 i) 0 from if_neg h5]
                      exact (HO2.out.oi.turn Hn.out (fun i hi => by have := recO_size (Hsz.out i hi); omega) hin h5).2
                    have HO5 := Lib.hid hO5
                    have HR5 := Lib.hid hR5
                    have HV5 := Lib.hid hV5
                    have HMU := Lib.hid (show k + 1 ≤ 3 ∧ muO (tnO (hd2, f2 i)).2 + (k + 1) ≤ 3 by omega)
                    clear hO5 hR5 hV5 hmu hmu2
                    go_wp2_with fail
                    go_roundg (20 - (k + 1))
                    case measure => omega
                    case rel => exact ⟨k + 1, c2 + 1, _, _, _, rfl, by go_num, by omega, HO5.out, fun j hj => by
                      rw [upA_ne _ _ (by omega)]; exact Hf2.out j hj, HR5.out, HV5.out, HMU.out.1, Or.inr (by rw [upA_at]; exact HMU.out.2)⟩
              · obtain rfl : i = recs.length := by omega
                have HBX := Lib.hid (HBW.out.trans (hO1.ap.below.mono HBW.out.size))
                clear hO1 h5 hR1 hV1 hi hin
                go_wp2_with fail
                refine (wakes15_any _).mono ?_
                rintro e wz ⟨rfl, hBz⟩
                go_wp2_with fail
                go_ret
                exact ⟨rfl, HBX.out.trans (hBz.mono HBX.out.size)⟩
set_option maxRecDepth 100000 in
set_option maxHeartbeats 2000000 in
theorem appendOrder_lifted (os : Os) (started : os.Started) (H : Type) (enc : TypeId × Value → H) :
    ReturnsInHanded {} Tryz.checked os 3 .any (Rows.appendOrderSpec.pre6 enc Tryz.prog Tryz.f3 Rows.appendOrderRow.domain false) (Rows.appendOrderSpec.post enc Tryz.prog Tryz.f3 false true false false) := by
  refine returnsInHanded_of_change (C := Tryz.checked) Tryz.ownP started (by kernel_rfl) Tryz.func3
    (ChangeSpec.witness6 (enc := enc) (C := Tryz.checked) false ⟨#[], #[.slice none 0 0, .slice none 0 0], []⟩ 8 (by kernel_rfl) (by kernel_rfl) (by kernel_rfl) (by kernel_rfl)) ?_
  intro W base args ds gs before hval0 hW hcnd _
  have hval : ∀ (j : Nat) t v, Tryz.f3.params[j]? = some t → args[j]? = some v → Value.okWide Tryz.prog W .any base t v := hval0
  have hW' := hW
  obtain ⟨p, q, hA0, hV, rfl, hfz, hnd⟩ := hW
  have hA : DataW.TrodAll enc Tryz.prog W 0 (fun _ => true) true Tryz.f3.params.toList args.toList ds p := hA0
  rw [Tryz.params3] at hA hval
  obtain ⟨v0, vs0, d0, ds0, p0, q0, hargs, rfl, rfl, h0, r0⟩ := trodAll_cons hA
  obtain ⟨v1, vs1, d1, ds1, p1, q1, rfl, rfl, rfl, h1, r1⟩ := trodAll_cons r0
  obtain ⟨rfl, rfl, rfl⟩ := trodAll_nil r1
  obtain rfl : args = #[v0, v1] := by cases args; simp_all
  obtain ⟨rfl, rfl⟩ := trodVars_none hV
  obtain ⟨cs0, x0, hv0, hr0⟩ := open_arg (n := 9) (T := .slice .str) (by kernel_rfl) (hval 0 22 v0 rfl rfl) h0
  obtain ⟨cs1, x1, hv1, hr1⟩ := open_arg (n := 9) (T := .slice (.int .u8)) (by kernel_rfl) (hval 1 23 v1 rfl rfl) h1
  obtain ⟨a1, l1, k1, e1, hb1, hn1⟩ := rd_strs hr0
  obtain ⟨a2, l2, k2, e2, hb2, hn2⟩ := rd_u8s hr1
  simp only [Ty.isStruct, Bool.false_eq_true, if_false] at hv0 hv1
  rw [e1] at hv0
  rw [e2] at hv1
  subst hv0
  subst hv1
  clear hA0 hval0
  refine (appendOrder_walk a1 l1 k1 a2 l2 k2 W hb1 hb2 hn1 hn2).mono fun e W' ⟨he, hb⟩ => ?_
  subst he
  exact ⟨_, rfl, law_post Tryz.laidOutP (by kernel_rfl) rfl Tryz.underlying4 hW' rfl rfl rfl rfl hb⟩

theorem appendOrder_holds : Rows.AppendOrderSaid :=
  OpenClaim.holds_of_wide 3 Tryz.f3 rfl rfl rfl rfl rfl rfl rfl ⟨rfl, rfl, rfl, rfl, rfl⟩ rfl rfl rfl rfl rfl (by kernel_rfl) Tryz.func3 (by kernel_rfl)
    (of_decide_eq_true (by kernel_rfl)) (by unfold Func.isWrapper; first | (rw [if_pos (by decide +kernel)]; kernel_rfl) | (rw [if_neg (by decide +kernel)]; exact ⟨rfl, rfl⟩))
    (fun os started H enc _ => appendOrder_lifted os started H enc)
end Go.Proofs.YtohmmjaikhpcfaaGreat
