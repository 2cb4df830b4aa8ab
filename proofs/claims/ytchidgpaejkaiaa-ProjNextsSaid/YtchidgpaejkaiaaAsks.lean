import Derived.Test.YtchidgpaejkaiaaKeepAsk
import Derived.Test.YtchidgpaejkaiaaReadApi
import Derived.Deep.LoopGhost
import Derived.Deep.CutRange
import Derived.Deep.DeepCutAuto
/- lists of questions: how they are read, and whether they are fair (law 12) -/
namespace Go.Proofs.Ytchidgpaejkaiaa
open Go.RowKit Esch

/-- the questions of a slice -/
def AsksAt (w : World) (oa : Option Addr) (n : Nat) (qs : Nat → AskC) : Prop :=
  0 < n → ∃ b off, oa = some ⟨b, off, none⟩ ∧ b < w.heap.size ∧ ∀ i, i < n → (qs i).ok w ∧ ∀ j v, (qs i).cells[j]? = some v → w.cell? ⟨b, off + i * 9 + j, none⟩ = some v
theorem rd_asks {w : World} {cs : List Value} {d : D} (h : Rd w (.slice tyAsk) cs d) : ∃ (oa : Option Addr) (n cap : Nat) (qs : Nat → AskC), cs.headD undef = .slice oa n cap ∧ n ≤ 9223372036854775807 ∧ AsksAt w oa n qs := by
  obtain ⟨l, f, rfl, ⟨a0, cap, hv, -, hn, hc⟩, hl⟩ := rd_sliceAt h
  obtain ⟨xs, hxl, hx⟩ := choose_list l.length (fun i (x : AskC) => f i = x.cells ∧ x.ok w) (fun i hi => rd_ask (hl i hi))
  refine ⟨a0, l.length, cap, fun i => xs.getD i default, hv, hn, fun h0 => ?_⟩
  obtain ⟨b, off, rfl, hb, hcell⟩ := hc h0 (by decide)
  refine ⟨b, off, rfl, hb, fun i hi => ?_⟩
  obtain ⟨h1, h2⟩ := hx i hi
  refine ⟨h2, fun j v hj => ?_⟩
  have hj9 : j < 9 := by
    have := (List.getElem?_eq_some_iff.1 hj).1
    rw [AskC.cells_len] at this
    exact this
  have := hcell i hi j (by show j < 9; omega)
  rw [h1, hj] at this
  rw [← this]
  rfl
/-- a question's nine cells, as they lie -/
theorem AsksAt.get {w : World} {oa : Option Addr} {n k : Nat} {qs : Nat → AskC} (h : AsksAt w oa n qs) (hk : k < n) : ∃ b off, oa = some ⟨b, off, none⟩ ∧ b < w.heap.size ∧ (qs k).data.size ≤ 9223372036854775807 ∧ ListsAt (Old w) w (qs k).ca (qs k).ls ∧
    w.cell? ⟨b, off + k * 9, none⟩ = some (.int .i64 (qs k).kind) ∧ w.cell? ⟨b, off + k * 9 + 1, none⟩ = some (.int .i64 (qs k).unit) ∧ w.cell? ⟨b, off + k * 9 + 2, none⟩ = some (.int .i64 (qs k).epoch) ∧
    w.cell? ⟨b, off + k * 9 + 3, none⟩ = some (.int .i64 (qs k).page) ∧ w.cell? ⟨b, off + k * 9 + 4, none⟩ = some (.int .i64 (qs k).size) ∧ w.cell? ⟨b, off + k * 9 + 5, none⟩ = some (.int .i64 (qs k).n) ∧
    w.cell? ⟨b, off + k * 9 + 6, none⟩ = some (.string (qs k).data) ∧ w.cell? ⟨b, off + k * 9 + 7, none⟩ = some (.int .i64 (qs k).pe) ∧ w.cell? ⟨b, off + k * 9 + 8, none⟩ = some (.slice (qs k).ca (qs k).ls.length (qs k).cc) := by
  obtain ⟨b, off, e, hb, hc⟩ := h (by omega)
  obtain ⟨⟨h1, h2⟩, h3⟩ := hc k hk
  exact ⟨b, off, e, hb, h1, h2, h3 0 _ rfl, h3 1 _ rfl, h3 2 _ rfl, h3 3 _ rfl, h3 4 _ rfl, h3 5 _ rfl, h3 6 _ rfl, h3 7 _ rfl, h3 8 _ rfl⟩

def askLarge (q : AskC) : Bool := decide (6000 < q.data.size) || largeProj q.ls
/-- the lists of what stood there stand there still -/
theorem old_below {w W : World} {a : Option Addr} {ls : List (List Int)} (h : ListsAt (Old w) w a ls) (hW : Below w.heap.size w W) : ListsAt (Old w) W a ls :=
  h.mod (F := fun k => ¬ k < w.heap.size) ⟨hW.os, hW.tape, hW.output, hW.size, fun k _ h => hW.block k (Decidable.not_not.1 h)⟩ (fun _ hk _ h => h hk)

def FairRel (w : World) (qs : Nat → AskC) (n g : Nat) (s3 : Value) (wr : World) : Prop :=
  ∃ k : Nat, g = n - k ∧ k ≤ n ∧ s3 = .int .i64 k ∧ (∀ i, i < k → askLarge (qs i) = false) ∧ Below w.heap.size w wr
set_option maxHeartbeats 1000000 in
theorem fair12_any (w0 : World) (oa : Option Addr) (n cap : Nat) (qs : Nat → AskC) (hn : n ≤ 9223372036854775807) (h : AsksAt w0 oa n qs) (w : World) (hw : Below w0.heap.size w0 w) :
    Calls Try.prog 12 #[.slice oa n cap] w fun e w' => ∃ f, e = .returned (.bool f) ∧ (f = true → n ≤ 100 ∧ ∀ i, i < n → askLarge (qs i) = false) ∧ Below w.heap.size w w' := by
  have Hw := Lib.hid hw
  have H := Lib.hid h
  clear hw h
  go_enter Try.func12, Try.ntmps12
  go_wp2_with fail
  go_loopg [3] n (fun g s3 wr => FairRel w qs n g s3 wr)
  case atStart => exact ⟨0, rfl, Nat.zero_le _, rfl, fun i hi => absurd hi (by omega), Below.refl _ _⟩
  case round =>
    obtain ⟨k, rfl, hk, rfl, hfa, hBr⟩ := hrel
    have Hfa := Lib.hid hfa
    clear hfa
    have hB0 := Hw.out.trans (hBr.mono Hw.out.size)
    by_cases hlt : k < n
    · obtain ⟨b, off, rfl, hb, hd, hl, c0, c1, c2, c3, c4, c5, c6, c7, c8⟩ := H.out.get hlt
      obtain ⟨q, hq⟩ : ∃ q, q = qs k := ⟨_, rfl⟩
      rw [← hq] at hd hl c0 c1 c2 c3 c4 c5 c6 c7 c8
      have Hq := Lib.hid hq
      clear hq
      obtain ⟨qk, qu, qe, qp, qz, qn, qd, qpe, qca, qls, qcc⟩ := q
      simp only at hd hl c0 c1 c2 c3 c4 c5 c6 c7 c8
      replace c0 := below_at hB0 c0 hb
      replace c1 := below_at hB0 c1 hb
      replace c2 := below_at hB0 c2 hb
      replace c3 := below_at hB0 c3 hb
      replace c4 := below_at hB0 c4 hb
      replace c5 := below_at hB0 c5 hb
      replace c6 := below_at hB0 c6 hb
      replace c7 := below_at hB0 c7 hb
      replace c8 := below_at hB0 c8 hb
      have hla := largeAsk_any _ qk qu qe qp qz qn qd hd qpe qca qcc qls wr (old_below hl hB0)
      clear hB0 hl
      go_wp2_with fail
      refine hla.mono ?_
      clear hla
      rintro r w3 ⟨rfl, hB3⟩
      obtain ⟨lg, hlg⟩ : ∃ lg, lg = (decide (6000 < qd.size) || largeProj qls) := ⟨_, rfl⟩
      rw [← hlg]
      have Hlg := Lib.hid hlg
      clear hlg
      have hB4 := hBr.trans (hB3.mono hBr.size)
      cases lg
      · go_wp2_with fail
        go_roundg (n - (k + 1))
        case measure => omega
        case rel =>
          refine ⟨k + 1, rfl, by omega, by go_num, fun i hi => ?_, hB4⟩
          by_cases hi' : i < k
          · exact Hfa.out i hi'
          · obtain rfl : i = k := by omega
            rw [← Hq.out]
            exact Hlg.out.symm
      · go_wp2_with fail
        go_ret
        exact ⟨false, rfl, fun h => (by cases h), hB4⟩
    · have hge : n ≤ k := by omega
      obtain rfl : k = n := by omega
      clear hlt
      by_cases h100 : k ≤ 100
      · go_wp2_with fail
        go_ret
        exact ⟨_, rfl, fun _ => ⟨h100, Hfa.out⟩, hBr⟩
      · have h100' : 100 < k := by omega
        go_wp2_with fail
        go_ret
        refine ⟨_, rfl, fun h => ?_, hBr⟩
        first
          | exact absurd (of_decide_eq_true h) (by omega)
          | cases h
end Go.Proofs.Ytchidgpaejkaiaa
