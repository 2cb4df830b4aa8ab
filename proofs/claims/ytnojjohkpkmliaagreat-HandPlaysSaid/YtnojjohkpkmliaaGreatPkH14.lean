import Derived.Test.YtnojjohkpkmliaaGreatPkHand
import Derived.Test.YtnojjohkpkmliaaGreatPkKeep
import Derived.Test.YtnojjohkpkmliaaGreatAsks
/- the hand: Drop -/
namespace Go.Proofs.YtnojjohkpkmliaaGreat
open Go.RowKit Esch

section
variable {w : World} {hb T : Nat} {U : Nat → Prop} {s : HdS}
theorem _root_.Esch.Mod.dropPost {w1 w2 : World} {v : HdS} (hM : Mod U w w1) (h : HandAt w1 hb (Go.Proofs.YtnojjohkpkmliaaGreat.grow U w w1) (T + 16) v) (hB : Below w1.heap.size w1 w2) : HandPostB w hb U T (true, v) (.returned (.bool true)) w2 := by
  have hz := hM.size
  have hz2 := hB.size
  refine ⟨rfl, (h.below hB).sub (fun j hj => ?_) (fun j hj => ?_), hM.trans (Mod.of_below hB)⟩
  · rcases hj with hj | hj
    · exact Or.inl hj
    · exact Or.inr ⟨hj.1, by omega⟩
  · rcases hj with hj | hj
    · have := h.lt j (Or.inl hj); omega
    · exact hj.2
set_option maxRecDepth 100000 in
set_option maxHeartbeats 2000000 in
theorem handDrop_in (h : HandAt w hb U T s) (k : Nat) (q : QS) (hq : s.held[k]? = some q) :
    Calls Tryz.prog 22 #[.pointer (some ⟨hb, 0, none⟩), .int .i64 (k : Nat)] w (HandPostB w hb U T (true, ⟨s.nd, s.held.eraseIdx k⟩)) := by
  have hlU := h.lt
  obtain ⟨⟨nb, Un, V, C, ao, cap, es, hI, h1, h2, h3⟩, -⟩ := h
  rw [← hI.held, List.getElem?_map] at hq
  obtain ⟨x, hx, hxq⟩ := Option.map_eq_some_iff.1 hq
  have ht := handTake_in hI x hx
  have HI := Lib.hid hI
  clear hI hq hxq hx
  go_enter Tryz.func22, Tryz.ntmps22
  go_wp2_with fail
  refine ht.mono ?_
  clear ht
  rintro e w1 ⟨rfl, ⟨V', C', ao', cap', hI1, hV', hC'⟩, hM1⟩
  have hz1 := hM1.size
  have HI1 := Lib.hid hI1
  have HM1 := Lib.hid hM1
  have HV := Lib.hid hV'
  have HC := Lib.hid hC'
  clear hI1 hM1 hV' hC'
  have HA1 := Lib.hid (show HandAt w1 hb (Go.Proofs.YtnojjohkpkmliaaGreat.grow U w w1) (T + 16) ⟨s.nd, s.held.eraseIdx k⟩ from by
    refine (HandAt.mono (T := T) ⟨⟨nb, Un, V', C', ao', cap', _, HI1.out, fun j hj => Or.inl (h1 j hj), fun j hj hv => ?_, Or.inl h3⟩, fun j hj => ?_⟩ (by omega))
    · rcases hv with hv | hv
      · obtain ⟨hv, hvl⟩ := HV.out j hv
        by_cases e : j < w.heap.size
        · rcases hv with hv | hv
          · exact Or.inl (h2 j e (Or.inl hv))
          · omega
        · exact Or.inr ⟨by omega, hj⟩
      · obtain ⟨hv, hvl⟩ := HC.out j hv
        exact Or.inl (h2 j hvl (Or.inr hv))
    · rcases hj with hj | hj
      · have := hlU j hj; omega
      · exact hj.2)
  have HU1 := Lib.hid (show Mod U w w1 from HM1.out.mono (fun j hj e => by
    rcases e with e | e
    · exact h2 j hj (Or.inl e)
    · subst e; exact h3))
  simp only [qV]
  go_wp2_with fail
  go_ret
  exact HU1.out.dropPost HA1.out (by (repeat (first | with_reducible exact (Below.refl _ _) | with_reducible refine Below.drew ?_ | with_reducible refine Esch.below_drewN ?_ _ | with_reducible refine Below.setCell ?_ (by first | omega | (simp; done) | (simp; omega)) _ | with_reducible refine Below.alloc ?_ (by first | omega | (simp; done) | (simp; omega)) _)))
theorem handDrop_any (h : HandAt w hb U T s) (k : Int) : Calls Tryz.prog 22 #[.pointer (some ⟨hb, 0, none⟩), .int .i64 k] w (HandPostB w hb U T (s.drop k)) := by
  have out : (k < 0 ∨ (s.held.length : Int) ≤ k) → s.drop k = (false, s) → Calls Tryz.prog 22 #[.pointer (some ⟨hb, 0, none⟩), .int .i64 k] w (HandPostB w hb U T (s.drop k)) := fun hk e => by
    rw [e]
    exact (handDrop_false _ k (handTake_out h k hk)).mono fun e w' ⟨he, hB⟩ => ⟨he, ((h.below hB).mono (by omega)).grow, Mod.of_below hB⟩
  by_cases h0 : k < 0
  · exact out (Or.inl h0) (by unfold HdS.drop; rw [if_pos h0])
  · obtain ⟨n, rfl⟩ : ∃ n : Nat, k = n := ⟨k.toNat, by omega⟩
    cases hq : s.held[n]? with
    | none => exact out (Or.inr (by have := List.getElem?_eq_none_iff.1 hq; omega)) (by unfold HdS.drop; rw [if_neg h0, Int.toNat_natCast, hq])
    | some q =>
      have e : s.drop (n : Int) = (true, ⟨s.nd, s.held.eraseIdx n⟩) := by unfold HdS.drop; rw [if_neg h0, Int.toNat_natCast, hq]
      rw [e]
      exact handDrop_in h n q hq
theorem HandAt.node (h : HandAt w hb U T s) : ∃ nb Un, (∀ W, Mod none' w W → Calls Tryz.prog 26 #[.pointer (some ⟨hb, 0, none⟩)] W fun e w' => e = .returned (.pointer (some ⟨nb, 0, none⟩)) ∧ w' = W) ∧ Nd w nb Un T s.nd := by
  obtain ⟨⟨nb, Un, V, C, ao, cap, es, hI, -⟩, -⟩ := h
  exact ⟨nb, Un, fun W hM => handNodes_at (hM.at hI.c0 id), hI.nd⟩
end
end Go.Proofs.YtnojjohkpkmliaaGreat
/- two questions that are alike -/
namespace Go.Proofs.YtnojjohkpkmliaaGreat
open Go.RowKit Esch

set_option maxHeartbeats 1000000 in
theorem ask_eq (S : Nat → Prop) (k u e p z n : Int) (d : ByteArray) (pe : Int) (a a' : Option Addr) (cc cc' : Nat) (ls : List (List Int)) (w : World) (h : ListsAt S w a ls) (h' : ListsAt S w a' ls) :
    Calls Tryz.prog 25 #[.agg #[.int .i64 k, .int .i64 u, .int .i64 e, .int .i64 p, .int .i64 z, .int .i64 n, .string d, .int .i64 pe, .slice a ls.length cc], .agg #[.int .i64 k, .int .i64 u, .int .i64 e, .int .i64 p, .int .i64 z, .int .i64 n, .string d, .int .i64 pe, .slice a' ls.length cc']] w
      fun r w' => r = .returned (.bool true) ∧ Below w.heap.size w w' := by
  generalize hW : (w.alloc (.cells #[.int .i64 k, .int .i64 u, .int .i64 e, .int .i64 p, .int .i64 z, .int .i64 n, .string d, .int .i64 pe, .slice a ls.length cc] 42)).alloc (.cells #[.int .i64 k, .int .i64 u, .int .i64 e, .int .i64 p, .int .i64 z, .int .i64 n, .string d, .int .i64 pe, .slice a' ls.length cc'] 42) = W
  have hM : Mod none' w W := by rw [← hW]; exact (Mod.refl _ _).alloc _ |>.alloc _
  have hcon := projection_any S W pe pe a a' cc cc' ls ls (h.mod hM (fun _ _ _ => id)) (h'.mod hM (fun _ _ _ => id))
  rw [decide_eq_true ⟨rfl, rfl⟩, ← hW] at hcon
  clear hM hW
  go_enter Tryz.func25, Tryz.ntmps25
  go_wp2_with fail
  refine hcon.mono ?_
  rintro r w1 ⟨rfl, hB⟩
  simp only [World.size_alloc] at hB
  obtain ⟨hc, hf⟩ := bcell hB
  go_wp2_with fail
  go_ret
  exact ⟨rfl, (((Below.refl _ _).alloc (Nat.le_refl _) _).alloc (by simp) _).trans (hB.mono (by omega))⟩
end Go.Proofs.YtnojjohkpkmliaaGreat
/- steps of a hand: how they are read; are they fair? -/
namespace Go.Proofs.YtnojjohkpkmliaaGreat
open Go.RowKit Esch

structure StepC where
  what : Int
  num : Int
  a : AskC
instance : Inhabited StepC := ⟨⟨0, 0, default⟩⟩
def StepC.cells (p : StepC) : List Value := .int .i64 p.what :: .int .i64 p.num :: p.a.cells
theorem StepC.cells_len (p : StepC) : p.cells.length = 11 := rfl
def tyStep : Ty := .struct [.int .i64, .int .i64, tyAsk]
theorem rd_step {w : World} {cs : List Value} {d : D} (h : Rd w tyStep cs d) : ∃ p : StepC, cs = p.cells ∧ p.a.ok w := by
  unfold tyStep at h
  simp only [rd_struct, rds_cons, rds_nil, rd_int] at h
  obtain ⟨ds, rfl, c0, r0, d0, s0, rfl, rfl, -, ⟨k, rfl, rfl, -⟩, c1, r1, d1, s1, rfl, rfl, -, ⟨u, rfl, rfl, -⟩, c2, r2, d2, s2, rfl, rfl, -, h2, rfl, rfl⟩ := h
  obtain ⟨q, rfl, hq⟩ := rd_ask h2
  exact ⟨⟨k, u, q⟩, by simp [StepC.cells], hq⟩
def StepsAt (w : World) (oa : Option Addr) (n : Nat) (ps : Nat → StepC) : Prop :=
  0 < n → ∃ b off, oa = some ⟨b, off, none⟩ ∧ b < w.heap.size ∧ ∀ i, i < n → (ps i).a.ok w ∧ ∀ j v, (ps i).cells[j]? = some v → w.cell? ⟨b, off + i * 11 + j, none⟩ = some v
theorem rd_steps {w : World} {cs : List Value} {d : D} (h : Rd w (.slice tyStep) cs d) : ∃ (oa : Option Addr) (n cap : Nat) (ps : Nat → StepC), cs.headD undef = .slice oa n cap ∧ n ≤ 9223372036854775807 ∧ StepsAt w oa n ps := by
  obtain ⟨l, f, rfl, ⟨a0, cap, hv, -, hn, hc⟩, hl⟩ := rd_sliceAt h
  obtain ⟨xs, hxl, hx⟩ := choose_list l.length (fun i (x : StepC) => f i = x.cells ∧ x.a.ok w) (fun i hi => rd_step (hl i hi))
  refine ⟨a0, l.length, cap, fun i => xs.getD i default, hv, hn, fun h0 => ?_⟩
  obtain ⟨b, off, rfl, hb, hcell⟩ := hc h0 (by decide)
  refine ⟨b, off, rfl, hb, fun i hi => ?_⟩
  obtain ⟨h1, h2⟩ := hx i hi
  refine ⟨h2, fun j v hj => ?_⟩
  have hj9 : j < 11 := by
    have := (List.getElem?_eq_some_iff.1 hj).1
    rw [StepC.cells_len] at this
    exact this
  have := hcell i hi j (by show j < 11; omega)
  rw [h1, hj] at this
  rw [← this]
  rfl
theorem StepsAt.get {w : World} {oa : Option Addr} {n k : Nat} {ps : Nat → StepC} (h : StepsAt w oa n ps) (hk : k < n) : ∃ b off, oa = some ⟨b, off, none⟩ ∧ b < w.heap.size ∧ (ps k).a.data.size ≤ 9223372036854775807 ∧ ListsAt (Old w) w (ps k).a.ca (ps k).a.ls ∧
    w.cell? ⟨b, off + k * 11, none⟩ = some (.int .i64 (ps k).what) ∧ w.cell? ⟨b, off + k * 11 + 1, none⟩ = some (.int .i64 (ps k).num) ∧
    w.cell? ⟨b, off + k * 11 + 2, none⟩ = some (.int .i64 (ps k).a.kind) ∧ w.cell? ⟨b, off + k * 11 + 3, none⟩ = some (.int .i64 (ps k).a.unit) ∧ w.cell? ⟨b, off + k * 11 + 4, none⟩ = some (.int .i64 (ps k).a.epoch) ∧
    w.cell? ⟨b, off + k * 11 + 5, none⟩ = some (.int .i64 (ps k).a.page) ∧ w.cell? ⟨b, off + k * 11 + 6, none⟩ = some (.int .i64 (ps k).a.size) ∧ w.cell? ⟨b, off + k * 11 + 7, none⟩ = some (.int .i64 (ps k).a.n) ∧
    w.cell? ⟨b, off + k * 11 + 8, none⟩ = some (.string (ps k).a.data) ∧ w.cell? ⟨b, off + k * 11 + 9, none⟩ = some (.int .i64 (ps k).a.pe) ∧ w.cell? ⟨b, off + k * 11 + 10, none⟩ = some (.slice (ps k).a.ca (ps k).a.ls.length (ps k).a.cc) := by
  obtain ⟨b, off, e, hb, hc⟩ := h (by omega)
  obtain ⟨⟨h1, h2⟩, h3⟩ := hc k hk
  exact ⟨b, off, e, hb, h1, h2, h3 0 _ rfl, h3 1 _ rfl, h3 2 _ rfl, h3 3 _ rfl, h3 4 _ rfl, h3 5 _ rfl, h3 6 _ rfl, h3 7 _ rfl, h3 8 _ rfl, h3 9 _ rfl, h3 10 _ rfl⟩
def Fair14Rel (w : World) (ps : Nat → StepC) (n g : Nat) (s3 : Value) (wr : World) : Prop :=
  ∃ k : Nat, g = n - k ∧ k ≤ n ∧ s3 = .int .i64 k ∧ (∀ i, i < k → askLarge (ps i).a = false) ∧ Below w.heap.size w wr
set_option maxHeartbeats 1000000 in
theorem fair14_any (w0 : World) (oa : Option Addr) (n cap : Nat) (ps : Nat → StepC) (hn : n ≤ 9223372036854775807) (h : StepsAt w0 oa n ps) (w : World) (hw : Below w0.heap.size w0 w) :
    Calls Tryz.prog 15 #[.slice oa n cap] w fun e w' => ∃ f, e = .returned (.bool f) ∧ (f = true → n ≤ 150 ∧ ∀ i, i < n → askLarge (ps i).a = false) ∧ Below w.heap.size w w' := by
  have Hw := Lib.hid hw
  have H := Lib.hid h
  clear hw h
  go_enter Tryz.func15, Tryz.ntmps15
  go_wp2_with fail
  go_loopg [3] n (fun g s3 wr => Fair14Rel w ps n g s3 wr)
  case atStart => exact ⟨0, rfl, Nat.zero_le _, rfl, fun i hi => absurd hi (by omega), Below.refl _ _⟩
  case round =>
    obtain ⟨k, rfl, hk, rfl, hfa, hBr⟩ := hrel
    have Hfa := Lib.hid hfa
    clear hfa
    have hB0 := Hw.out.trans (hBr.mono Hw.out.size)
    by_cases hlt : k < n
    · obtain ⟨b, off, rfl, hb, hd, hl, -, -, c0, c1, c2, c3, c4, c5, c6, c7, c8⟩ := H.out.get hlt
      obtain ⟨q, hq⟩ : ∃ q, q = (ps k).a := ⟨_, rfl⟩
      rw [← hq] at hd hl c0 c1 c2 c3 c4 c5 c6 c7 c8
      have Hq := Lib.hid hq
      clear hq
      obtain ⟨qk, qu, qe, qp, qz, qn, qd, qpe, qca, qls, qcc⟩ := q
      simp only at hd hl c0 c1 c2 c3 c4 c5 c6 c7 c8
      replace c0 := below_at hB0 c0 hb
      replace c1 := below_at hB0 c1 hb
      replace c2 := below_at hB0 c2 hb
      replace c3 := below_at hB0 c3 hb
      replace c4 := below_at hB0 c4 hb
      replace c5 := below_at hB0 c5 hb
      replace c6 := below_at hB0 c6 hb
      replace c7 := below_at hB0 c7 hb
      replace c8 := below_at hB0 c8 hb
      have hla := largeAsk_any _ qk qu qe qp qz qn qd hd qpe qca qcc qls wr (old_below hl hB0)
      have k0 : (0 : Int) ≤ k := by omega
      have k1 : (k : Int) < n := by omega
      clear hB0 hl
      go_wp2_with fail
      refine hla.mono ?_
      clear hla
      rintro r w3 ⟨rfl, hB3⟩
      obtain ⟨lg, hlg⟩ : ∃ lg, lg = (decide (6000 < qd.size) || largeProj qls) := ⟨_, rfl⟩
      rw [← hlg]
      have Hlg := Lib.hid (show askLarge (ps k).a = lg by rw [← Hq.out, hlg]; rfl)
      have HB3 := Lib.hid (hBr.trans (hB3.mono hBr.size))
      clear hlg hB3 hBr c0 c1 c2 c3 c4 c5 c6 c7 c8
      cases lg
      · go_wp2_with fail
        go_roundg (n - (k + 1))
        case measure => omega
        case rel => exact ⟨k + 1, rfl, by omega, by go_num, fun i hi => by
          by_cases e : i = k
          · subst e; exact Hlg.out
          · exact Hfa.out i (by omega), HB3.out⟩
      · go_wp2_with fail
        go_ret
        exact ⟨false, rfl, (fun h => by cases h), HB3.out⟩
    · obtain rfl : k = n := by omega
      clear hlt hk hB0
      go_wp2_with fail
      go_ret
      refine ⟨decide ((k : Int) ≤ 150), rfl, fun h => ⟨?_, Hfa.out⟩, hBr⟩
      have := of_decide_eq_true h
      omega
end Go.Proofs.YtnojjohkpkmliaaGreat
