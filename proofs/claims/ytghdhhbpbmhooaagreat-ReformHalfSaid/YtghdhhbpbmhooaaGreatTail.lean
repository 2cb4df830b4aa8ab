/- the log's tail that is asked for -/
import Derived.Test.YtghdhhbpbmhooaaGreatPkHand
namespace Go.Proofs.YtghdhhbpbmhooaaGreat
open Go.RowKit Esch

structure TaS where
  p : Proj
  «at» : Int
  addr : Int
  err : Int
structure TailAt (w : World) (tb : Nat) (S : Nat → Prop) (s : TaS) : Prop where
  c0 : w.cell? ⟨tb, 0, none⟩ = some (.int .i64 s.p.epoch)
  c1 : ∃ a c, w.cell? ⟨tb, 1, none⟩ = some (.slice a s.p.chains.length c) ∧ ListsAt (fun k => S k ∧ k ≠ tb) w a s.p.chains
  c2 : w.cell? ⟨tb, 2, none⟩ = some (.int .i64 s.at)
  c3 : w.cell? ⟨tb, 3, none⟩ = some (.int .i64 s.addr)
  c4 : w.cell? ⟨tb, 4, none⟩ = some (.int .i64 s.err)
  fr : ∀ o, o < 5 → w.frozen? ⟨tb, o, none⟩ = false
  sb : S tb
  small : Small s.p.chains
theorem TailAt.lt {w : World} {tb : Nat} {S : Nat → Prop} {s : TaS} (h : TailAt w tb S s) : tb < w.heap.size := cell_lt h.c0
theorem TailAt.mod {F S : Nat → Prop} {w w' : World} {tb : Nat} {s : TaS} (h : TailAt w tb S s) (hM : Mod F w w') (hF : ∀ k, S k → k < w.heap.size → ¬ F k) : TailAt w' tb S s := by
  have hl := h.lt
  have hb := hF tb h.sb hl
  obtain ⟨a, c, h1, h2⟩ := h.c1
  exact ⟨hM.at h.c0 hb, ⟨a, c, hM.at h1 hb, h2.mod hM (fun k hk hl => hF k hk.1 hl)⟩, hM.at h.c2 hb, hM.at h.c3 hb, hM.at h.c4 hb, fun o ho => (hM.frozen (p := ⟨tb, o, none⟩) hl hb).trans (h.fr o ho), h.sb, h.small⟩
theorem TailAt.below {S : Nat → Prop} {w w' : World} {tb : Nat} {s : TaS} (h : TailAt w tb S s) (hB : Below w.heap.size w w') : TailAt w' tb S s := h.mod (F := none') (Mod.of_below hB) (fun _ _ _ => id)
theorem TailAt.sub {S S' : Nat → Prop} {w : World} {tb : Nat} {s : TaS} (h : TailAt w tb S s) (hS : ∀ k, k < w.heap.size → S k → S' k) : TailAt w tb S' s := by
  obtain ⟨a, c, h1, h2⟩ := h.c1
  exact ⟨h.c0, ⟨a, c, h1, h2.sub (fun k hk hs => ⟨hS k hk hs.1, hs.2⟩)⟩, h.c2, h.c3, h.c4, h.fr, hS tb h.lt h.sb, h.small⟩
def ta0 (q : Proj) : TaS := if goodB q then ⟨q, 1, 0, 0⟩ else ⟨q, 2, 0, 1⟩
def TailNewPost (w : World) (q : Proj) (e : Ending) (w' : World) : Prop := ∃ tb, e = .returned (.pointer (some ⟨tb, 0, none⟩)) ∧ TailAt w' tb (From w.heap.size) (ta0 q) ∧ Below w.heap.size w w'
set_option maxHeartbeats 1000000 in
theorem tailNew_any (S : Nat → Prop) (w : World) (q : Proj) (a : Option Addr) (c : Nat) (hs : Small q.chains) (hl : ListsAt S w a q.chains) : Calls Tryz.prog 67 #[.agg #[.int .i64 q.epoch, .slice a q.chains.length c]] w (TailNewPost w q) := by
  obtain ⟨W0, hW0, hB0, hz0, p0, p1⟩ := oneBox w 24 (.int .i64 q.epoch) (.slice a q.chains.length c)
  have hl0 := hl.mod (F := none') (Mod.of_below hB0) (fun _ _ _ => id)
  have hcp := copy_any S W0 q.epoch a c q.chains hs hl0
  have HW0 := Lib.hid hW0
  have HL0 := Lib.hid hl0
  have Hs := Lib.hid hs
  clear hW0 hl hl0 hs
  go_enter Tryz.func67, Tryz.ntmps67
  go_wp2_with fail
  rw [← HW0.out]
  refine hcp.mono ?_
  clear hcp
  rintro e w1 ⟨a1, c1, rfl, hl1, hB1⟩
  have hz1 := hB1.size
  obtain ⟨W2, hW2, hB2, hz2, t0, t1, t2, t3, t4, tf⟩ : ∃ W2, W2 = w1.alloc (.cells #[.int .i64 q.epoch, .slice a1 q.chains.length c1, .int .i64 1, .int .i64 0, .int .i64 0] 175) ∧ Below w1.heap.size w1 W2 ∧ W2.heap.size = w1.heap.size + 1 ∧ W2.cell? ⟨w1.heap.size, 0, none⟩ = some (.int .i64 q.epoch) ∧ W2.cell? ⟨w1.heap.size, 1, none⟩ = some (.slice a1 q.chains.length c1) ∧ W2.cell? ⟨w1.heap.size, 2, none⟩ = some (.int .i64 1) ∧ W2.cell? ⟨w1.heap.size, 3, none⟩ = some (.int .i64 0) ∧ W2.cell? ⟨w1.heap.size, 4, none⟩ = some (.int .i64 0) ∧ ∀ o, o < 5 → W2.frozen? ⟨w1.heap.size, o, none⟩ = false :=
    ⟨_, rfl, by exact belC (Below.refl _ _), by simp, by go_simp, by go_simp, by go_simp, by go_simp, by go_simp, fun o ho => by go_simp⟩
  replace p0 := below_at hB1 p0 (by omega)
  replace p1 := below_at hB1 p1 (by omega)
  have hlw1 : w.heap.size < w1.heap.size := by omega
  have hBw2 : Below W0.heap.size W0 W2 := hB1.trans (hB2.mono hz1)
  have hT2 : TailAt W2 w1.heap.size (From w.heap.size) ⟨q, 1, 0, 0⟩ := ⟨t0, ⟨a1, c1, t1, ((hl1.sub (T := fun k => W0.heap.size ≤ k ∧ k < w1.heap.size) (fun k hk h => ⟨h, hk⟩)).mod (F := none') (Mod.of_below hB2) (fun _ _ _ => id)).sub (fun k _ hk => ⟨by show w.heap.size ≤ k; omega, by omega⟩)⟩, t2, t3, t4, tf, by show w.heap.size ≤ _; omega, Hs.out⟩
  have hgd := good_any S W2 q.epoch a c q.chains (HL0.out.mod (F := none') (Mod.of_below hBw2) (fun _ _ _ => id))
  have HT2 := Lib.hid hT2
  have HW2 := Lib.hid hW2
  have HB0 := Lib.hid (hB0.trans (hBw2.mono (by omega)))
  clear hT2 hW2 hB0 hBw2 hB1 hl1 hB2 t0 t1 t2 t3 t4 tf
  go_wp2_with fail
  rw [← HW2.out]
  refine hgd.mono ?_
  clear hgd
  rintro e w3 ⟨rfl, hB3⟩
  have hz3 := hB3.size
  have hT3 := HT2.out.below hB3
  have c2 := hT3.c2
  have c4 := hT3.c4
  have f2 := hT3.fr 2 (by omega)
  have f4 := hT3.fr 4 (by omega)
  have hl3 := hT3.lt
  have HT3 := Lib.hid hT3
  have HB3 := Lib.hid (HB0.out.trans (hB3.mono (by omega)))
  obtain ⟨g, hg⟩ : ∃ g, g = goodB ⟨q.epoch, q.chains⟩ := ⟨_, rfl⟩
  rw [← hg]
  have Hg := Lib.hid hg
  clear hg hT3 hB3
  cases g
  · go_wp2_with fail
    go_ret
    refine ⟨_, rfl, ?_, by exact belC HB3.out⟩
    have h3 := HT3.out
    have hne : ∀ k, k ≠ w1.heap.size → ¬ (k = w1.heap.size) := fun _ h => h
    obtain ⟨a3, b3, e1, e2⟩ := h3.c1
    have e0 := h3.c0
    have e3 := h3.c3
    rw [show ta0 q = ⟨q, 2, 0, 1⟩ by unfold ta0; rw [show goodB q = false from Hg.out.symm]; rfl]
    refine ⟨by go_simp, ⟨a3, b3, by go_simp, e2.mod (F := (· = w1.heap.size)) (by exact modC (Mod.refl _ _)) (fun k hk _ => hk.2)⟩, by go_simp, by go_simp, by go_simp, fun o ho => by have := h3.fr o ho; go_simp, h3.sb, h3.small⟩
  · go_wp2_with fail
    go_ret
    exact ⟨_, rfl, by rw [show ta0 q = ⟨q, 1, 0, 0⟩ by unfold ta0; rw [show goodB q = true from Hg.out.symm]; rfl]; exact HT3.out, HB3.out⟩
/-- its question -/
def TaS.ask (s : TaS) : QS × Bool := if s.at = 2 then (qz, false) else if s.at = 0 then (⟨9, 0, 0, 0, 0, 0, ⟨#[]⟩, Esch.p0⟩, true) else (⟨7, 0, s.p.epoch, 0, 0, 0, ⟨#[]⟩, Esch.p0⟩, true)
theorem tailAsk_any {w : World} {tb : Nat} {S : Nat → Prop} {s : TaS} (h : TailAt w tb S s) : Calls Tryz.prog 68 #[.pointer (some ⟨tb, 0, none⟩)] w fun e w' => e = .returned (.tuple #[qV s.ask.1 none 0, .bool s.ask.2]) ∧ Below w.heap.size w w' := by
  have c0 := h.c0
  have c2 := h.c2
  have hl := h.lt
  clear h
  unfold TaS.ask
  by_cases h2 : s.at = 2
  · rw [if_pos h2]
    rw [h2] at c2
    clear h2
    go_enter Tryz.func68, Tryz.ntmps68
    go_wp2_with fail
    refine bodyPost_ret (v := .tuple #[qV qz none 0, .bool false]) (by simp only [results, Tryz.results68, qV, Esch.p0, List.length_nil]; go_simp) rfl ?_
    exact ⟨rfl, by exact belC (Below.refl _ _)⟩
  · rw [if_neg h2]
    by_cases h0 : s.at = 0
    · rw [if_pos h0]
      rw [h0] at c2
      clear h2 h0
      go_enter Tryz.func68, Tryz.ntmps68
      go_wp2_with fail
      refine bodyPost_ret (v := .tuple #[qV ⟨9, 0, 0, 0, 0, 0, ⟨#[]⟩, Esch.p0⟩ none 0, .bool true]) (by simp only [results, Tryz.results68, qV, Esch.p0, List.length_nil]; go_simp) rfl ?_
      exact ⟨rfl, by exact belC (Below.refl _ _)⟩
    · rw [if_neg h0]
      have e2 : (s.at == 2) = false := by simpa using h2
      have e0 : (s.at == 0) = false := by simpa using h0
      clear h2 h0
      go_enter Tryz.func68, Tryz.ntmps68
      go_wp2_with fail
      refine bodyPost_ret (v := .tuple #[qV ⟨7, 0, s.p.epoch, 0, 0, 0, ⟨#[]⟩, Esch.p0⟩ none 0, .bool true]) (by simp only [results, Tryz.results68, qV, Esch.p0, List.length_nil]; go_simp) rfl ?_
      exact ⟨rfl, by exact belC (Below.refl _ _)⟩
theorem tailOver_any {w : World} {tb : Nat} {S : Nat → Prop} {s : TaS} (h : TailAt w tb S s) : Calls Tryz.prog 70 #[.pointer (some ⟨tb, 0, none⟩)] w
    fun e w' => e = .returned (if s.at = 2 then .tuple #[.int .i64 s.addr, .int .i64 s.err, .bool true] else .tuple #[.int .i64 0, .int .i64 0, .bool false]) ∧ Mod none' w w' := by
  have c2 := h.c2
  have c3 := h.c3
  have c4 := h.c4
  have hl := h.lt
  clear h
  by_cases h2 : s.at = 2
  · rw [if_pos h2]
    rw [h2] at c2
    clear h2
    go_enter Tryz.func70, Tryz.ntmps70
    go_wp2_with fail
    go_quiet (fail)
    go_wp2_with fail
    refine bodyPost_ret (v := .tuple #[.int .i64 s.addr, .int .i64 s.err, .bool true]) (by simp only [results, Tryz.results70]; go_simp) rfl ?_
    exact ⟨rfl, by exact modC (Mod.refl _ _)⟩
  · rw [if_neg h2]
    have e2 : (s.at != 2) = true := by simpa using h2
    clear h2
    go_enter Tryz.func70, Tryz.ntmps70
    go_wp2_with fail
    refine bodyPost_ret (v := .tuple #[.int .i64 0, .int .i64 0, .bool false]) (by simp only [results, Tryz.results70]; go_simp) rfl ?_
    exact ⟨rfl, Mod.refl _ _⟩
end Go.Proofs.YtghdhhbpbmhooaaGreat
