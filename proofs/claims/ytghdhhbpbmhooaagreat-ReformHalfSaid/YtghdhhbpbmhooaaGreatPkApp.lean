import Derived.Test.YtghdhhbpbmhooaaGreatPlace
import Derived.Test.YtghdhhbpbmhooaaGreatPkHand
import Derived.Test.YtghdhhbpbmhooaaGreatPkBase
import Derived.WalkMore
/- a record that is appended: plain Lean, and how it lies -/
namespace Go.Proofs.YtghdhhbpbmhooaaGreat
open Go.RowKit Esch

structure ApS where
  p : Proj
  txt : ByteArray
  «at» : Int
  was : Int
  i : Int
  addr : Int
  err : Int
  perhaps : Bool
structure ApAt (w : World) (b : Nat) (S : Nat → Prop) (s : ApS) : Prop where
  c0 : w.cell? ⟨b, 0, none⟩ = some (.int .i64 s.p.epoch)
  c1 : ∃ a c, w.cell? ⟨b, 1, none⟩ = some (.slice a s.p.chains.length c) ∧ ListsAt (fun k => S k ∧ k ≠ b) w a s.p.chains
  c2 : w.cell? ⟨b, 2, none⟩ = some (.string s.txt)
  c3 : w.cell? ⟨b, 3, none⟩ = some (.int .i64 s.at)
  c4 : w.cell? ⟨b, 4, none⟩ = some (.int .i64 s.was)
  c5 : w.cell? ⟨b, 5, none⟩ = some (.int .i64 s.i)
  c6 : w.cell? ⟨b, 6, none⟩ = some (.int .i64 s.addr)
  c7 : w.cell? ⟨b, 7, none⟩ = some (.int .i64 s.err)
  c8 : w.cell? ⟨b, 8, none⟩ = some (.bool s.perhaps)
  fr : ∀ o, o < 9 → w.frozen? ⟨b, o, none⟩ = false
  sb : S b
  small : Small s.p.chains
theorem ApAt.lt {w : World} {b : Nat} {S : Nat → Prop} {s : ApS} (h : ApAt w b S s) : b < w.heap.size := cell_lt h.c0
theorem ApAt.mod {F S : Nat → Prop} {w w' : World} {b : Nat} {s : ApS} (h : ApAt w b S s) (hM : Mod F w w') (hF : ∀ k, S k → k < w.heap.size → ¬ F k) : ApAt w' b S s := by
  have hl := h.lt
  have hb := hF b h.sb hl
  obtain ⟨a, c, h1, h2⟩ := h.c1
  exact ⟨hM.at h.c0 hb, ⟨a, c, hM.at h1 hb, h2.mod hM (fun k hk hl => hF k hk.1 hl)⟩, hM.at h.c2 hb, hM.at h.c3 hb, hM.at h.c4 hb, hM.at h.c5 hb, hM.at h.c6 hb, hM.at h.c7 hb, hM.at h.c8 hb, fun o ho => (hM.frozen (p := ⟨b, o, none⟩) hl hb).trans (h.fr o ho), h.sb, h.small⟩
theorem ApAt.below {S : Nat → Prop} {w w' : World} {b : Nat} {s : ApS} (h : ApAt w b S s) (hB : Below w.heap.size w w') : ApAt w' b S s := h.mod (F := none') (Mod.of_below hB) (fun _ _ _ => id)
theorem ApAt.sub {S S' : Nat → Prop} {w : World} {b : Nat} {s : ApS} (h : ApAt w b S s) (hS : ∀ k, k < w.heap.size → S k → S' k) : ApAt w b S' s := by
  obtain ⟨a, c, h1, h2⟩ := h.c1
  exact ⟨h.c0, ⟨a, c, h1, h2.sub (fun k hk hs => ⟨hS k hk hs.1, hs.2⟩)⟩, h.c2, h.c3, h.c4, h.c5, h.c6, h.c7, h.c8, h.fr, hS b h.lt h.sb, h.small⟩
def ap0 (q : Proj) (rec : ByteArray) : ApS := if goodB q = false then ⟨q, rec, 5, 0, 0, 0, 1, false⟩ else if 4096 < rec.size then ⟨q, rec, 5, 0, 0, 0, 2, false⟩ else ⟨q, rec, 2, 0, 0, 0, 0, false⟩
structure ApS.ok (s : ApS) : Prop where
  wh : s.at = 0 ∨ s.at = 1 ∨ s.at = 2 ∨ s.at = 3 ∨ s.at = 4 ∨ s.at = 5
  was : s.at = 1 → s.was = 3 ∨ s.was = 4
  un : s.at = 1 ∨ s.at = 3 ∨ s.at = 4 → (ofP s.p s.addr).2.2 = true ∧ 0 ≤ s.i ∧ s.i < (chainP s.p s.addr).length
def ApS.ask (s : ApS) : QS × Bool :=
  if s.at = 5 then (qz, false) else if s.at = 0 ∨ s.at = 1 then (⟨9, 0, 0, 0, 0, 0, ⟨#[]⟩, Esch.p0⟩, true) else if s.at = 2 then (⟨6, 0, s.p.epoch, 0, 0, 0, ⟨#[]⟩, Esch.p0⟩, true)
  else if s.at = 3 then (⟨1, (chainP s.p s.addr).getD s.i.toNat 0, s.p.epoch, (ofP s.p s.addr).2.1, 0, 0, s.txt, Esch.p0⟩, true)
  else (⟨3, (chainP s.p s.addr).getD s.i.toNat 0, s.p.epoch, (ofP s.p s.addr).2.1, 0, 0, ⟨#[]⟩, Esch.p0⟩, true)
def ApS.full (s : ApS) : ApS := { s with «at» := 5, addr := 0, err := if s.perhaps then 69 else 44 }
def ApS.next (s : ApS) : ApS := { s with i := s.i + 1, «at» := if s.i + 1 = (chainP s.p s.addr).length then 5 else 3 }
def ApS.token (s : ApS) : ApS := { s with «at» := 2, addr := 0 }
def ApS.over (s : ApS) (e : Int) : ApS := { s with «at» := 5, addr := 0, err := e }
def ApS.hear (s : ApS) (x : AnS) (heard : Bool) : ApS :=
  if s.at = 5 then s
  else if heard = false then { s with perhaps := s.perhaps || decide (s.at = 3) }
  else if x.code = 47 then s
  else if x.code = 45 then (if s.at = 3 ∨ s.at = 4 then { s with was := s.at, «at» := 1 } else s)
  else if x.code = 40 then { s with «at» := 0 }
  else if s.at = 0 then (if x.code = 0 ∧ goodB x.p = true then { s with p := x.p, «at» := 2, addr := 0 } else s)
  else if s.at = 1 then (if x.code = 0 ∧ goodB x.p = true ∧ x.p.epoch ≠ s.p.epoch then { s with p := x.p, «at» := 2, addr := 0 } else { s with «at» := s.was })
  else if s.at = 2 then (if x.code = 44 then s.full else if x.code = 0 ∧ (ofP s.p x.n).2.2 = true then { s with «at» := 3, i := 0, addr := x.n } else s)
  else if s.at = 3 then (if x.code = 0 then { s with perhaps := true }.next else if x.code = 41 then { s with «at» := 4 } else if x.code = 43 then s.token else if x.code = 44 then s.full else s.over x.code)
  else (if x.code = 0 ∧ x.data = s.txt then s.next else if x.code = 0 ∨ x.code = 46 ∨ x.code = 43 then s.token else if x.code = 42 then { s with «at» := 3 } else s.over x.code)
end Go.Proofs.YtghdhhbpbmhooaaGreat
/- a scope out of whose middle the run jumps forward, once -/
namespace Esch
open Go Go.RowKit

/-- as Q; by a goto to a label: what stands behind the label leads to Q -/
def fwd (P : Program) (c : Code) (Q : Exit → Act → World → Prop) : Exit → Act → World → Prop
  | .goto l, a, w => ∃ rest, findLabel c l = some rest ∧ rest.wp P (Exit.noGoto Q) a w
  | e, a, w => Q e a w
section
variable {P : Program} {c : Code} {Q : Exit → Act → World → Prop} {a : Act} {w : World}
@[simp] theorem fwd_normal : fwd P c Q .normal a w = Q .normal a w := rfl
@[simp] theorem fwd_exit (id : Nat) : fwd P c Q (.exit id) a w = Q (.exit id) a w := rfl
@[simp] theorem fwd_ret : fwd P c Q .ret a w = Q .ret a w := rfl
@[simp] theorem fwd_panic (ch : List PanicEntry) : fwd P c Q (.panic ch) a w = Q (.panic ch) a w := rfl
theorem wp_scope_fwd (first : ∀ c', c' = c → c.wp P (fwd P c' Q) a w) : (Code.scope c).wp P Q a w := by
  intro b k cs
  obtain ⟨e, a₁, w₁, hq, harr⟩ := first c rfl b (.inScope c :: k) cs
  cases e with
  | normal => exact ⟨.normal, a₁, w₁, hq, .head step_scope (Steps.trans harr (.one step_inScope))⟩
  | exit id => exact ⟨.exit id, a₁, w₁, hq, fun k' hk => .head step_scope (harr k' (by simp [exitTo, hk]))⟩
  | goto l =>
    obtain ⟨rest, hf, hr⟩ := hq
    have hg : gotoIn l (.inScope c :: k) = some (.code rest :: .inScope c :: k) := by simp [gotoIn, hf]
    obtain ⟨e₂, a₂, w₂, hq₂, harr₂⟩ := hr b (.inScope c :: k) cs
    have h2 : Steps P _ _ := Steps.head step_scope (harr _ hg)
    cases e₂ with
    | normal => exact ⟨.normal, a₂, w₂, hq₂, Steps.trans h2 (Steps.trans harr₂ (.one step_inScope))⟩
    | exit id => exact ⟨.exit id, a₂, w₂, hq₂, fun k' hk => Steps.trans h2 (harr₂ k' (by simp [exitTo, hk]))⟩
    | goto l => exact hq₂.elim
    | ret => exact ⟨_, a₂, w₂, hq₂, .of_steps h2 harr₂⟩
    | panic ch => exact ⟨_, a₂, w₂, hq₂, .of_steps h2 harr₂⟩
    | outgrown => exact ⟨_, a₂, w₂, hq₂, .of_steps h2 harr₂⟩
  | ret => exact ⟨_, a₁, w₁, hq, .of_steps (.one step_scope) harr⟩
  | panic ch => exact ⟨_, a₁, w₁, hq, .of_steps (.one step_scope) harr⟩
  | outgrown => exact ⟨_, a₁, w₁, hq, .of_steps (.one step_scope) harr⟩
end
end Esch
/- a record that is appended: New, Ask, Over, P -/
namespace Go.Proofs.YtghdhhbpbmhooaaGreat
open Go.RowKit Esch

def ApPost (w : World) (b : Nat) (S : Nat → Prop) (s : ApS) (e : Ending) (w' : World) : Prop := e = .returned (.tuple #[]) ∧ ApAt w' b (fun k => S k ∨ (w.heap.size ≤ k ∧ k < w'.heap.size)) s ∧ Mod (· = b) w w'
theorem ApAt.post0 {w w' : World} {b : Nat} {S : Nat → Prop} {s : ApS} (h : ApAt w b S s) (hB : Below w.heap.size w w') {e : Ending} (he : e = .returned (.tuple #[])) : ApPost w b S s e w' := ⟨he, (h.below hB).sub (fun _ _ hk => Or.inl hk), Mod.of_below hB⟩
/-- all but the projection and the record has been written -/
theorem ApAt.wrote {w w' : World} {b : Nat} {S : Nat → Prop} {s : ApS} (h : ApAt w b S s) {v3 v4 v5 v6 v7 : Int} {v8 : Bool} (hM : Mod (· = b) w w') (c3 : w'.cell? ⟨b, 3, none⟩ = some (.int .i64 v3)) (c4 : w'.cell? ⟨b, 4, none⟩ = some (.int .i64 v4)) (c5 : w'.cell? ⟨b, 5, none⟩ = some (.int .i64 v5))
    (c6 : w'.cell? ⟨b, 6, none⟩ = some (.int .i64 v6)) (c7 : w'.cell? ⟨b, 7, none⟩ = some (.int .i64 v7)) (c8 : w'.cell? ⟨b, 8, none⟩ = some (.bool v8)) (c0 : w'.cell? ⟨b, 0, none⟩ = w.cell? ⟨b, 0, none⟩) (c1 : w'.cell? ⟨b, 1, none⟩ = w.cell? ⟨b, 1, none⟩) (c2 : w'.cell? ⟨b, 2, none⟩ = w.cell? ⟨b, 2, none⟩)
    (fr : ∀ o, w'.frozen? ⟨b, o, none⟩ = w.frozen? ⟨b, o, none⟩) : ApAt w' b S ⟨s.p, s.txt, v3, v4, v5, v6, v7, v8⟩ := by
  obtain ⟨ca, cc, h1, h2⟩ := h.c1
  exact ⟨c0.trans h.c0, ⟨ca, cc, c1.trans h1, h2.mod hM (fun k hk _ => hk.2)⟩, c2.trans h.c2, c3, c4, c5, c6, c7, c8, fun o ho => (fr o).trans (h.fr o ho), h.sb, h.small⟩
section
variable {w : World} {b : Nat} {S : Nat → Prop} {s : ApS}
def ApEndPost (w : World) (b : Nat) (S : Nat → Prop) (s : ApS) (e : Ending) (w' : World) : Prop := e = .returned (.tuple #[]) ∧ ApAt w' b S s ∧ Mod (· = b) w w'
theorem apEnd_any (h : ApAt w b S s) (e : Int) : Calls Tryz.prog 63 #[.pointer (some ⟨b, 0, none⟩), .int .i64 e] w (ApEndPost w b S (s.over e)) := by
  have c0 := h.c0
  obtain ⟨ca, cc, c1, hcl⟩ := h.c1
  have c2 := h.c2
  have c3 := h.c3
  have c4 := h.c4
  have c5 := h.c5
  have c6 := h.c6
  have c7 := h.c7
  have c8 := h.c8
  have hl := h.lt
  have f3 := h.fr 3 (by omega)
  have f4 := h.fr 4 (by omega)
  have f5 := h.fr 5 (by omega)
  have f6 := h.fr 6 (by omega)
  have f7 := h.fr 7 (by omega)
  have f8 := h.fr 8 (by omega)
  have H := Lib.hid h
  clear h hcl
  go_enter Tryz.func63, Tryz.ntmps63
  go_wp2_with fail
  go_end0
  refine ⟨rfl, H.out.wrote (by exact modC (Mod.refl _ _)) (by go_simp) (by go_simp) (by go_simp) (by go_simp) (by go_simp) (by go_simp) (by go_simp) (by go_simp) (by go_simp) (fun o => by go_simp), by exact modC (Mod.refl _ _)⟩
theorem apOver_any (h : ApAt w b S s) : Calls Tryz.prog 38 #[.pointer (some ⟨b, 0, none⟩)] w
    fun e w' => e = .returned (if s.at = 5 then .tuple #[.int .i64 s.addr, .int .i64 s.err, .bool true] else .tuple #[.int .i64 0, .int .i64 0, .bool false]) ∧ Mod none' w w' := by
  have c0 := h.c0
  obtain ⟨ca, cc, c1, hcl⟩ := h.c1
  have c2 := h.c2
  have c3 := h.c3
  have c4 := h.c4
  have c5 := h.c5
  have c6 := h.c6
  have c7 := h.c7
  have c8 := h.c8
  have hl := h.lt
  have f3 := h.fr 3 (by omega)
  have f4 := h.fr 4 (by omega)
  have f5 := h.fr 5 (by omega)
  have f6 := h.fr 6 (by omega)
  have f7 := h.fr 7 (by omega)
  have f8 := h.fr 8 (by omega)
  have H := Lib.hid h
  clear h hcl
  by_cases h2 : s.at = 5
  · rw [if_pos h2]
    rw [h2] at c3
    clear h2
    go_enter Tryz.func38, Tryz.ntmps38
    go_wp2_with fail
    go_quiet (fail)
    go_wp2_with fail
    refine bodyPost_ret (v := .tuple #[.int .i64 s.addr, .int .i64 s.err, .bool true]) (by simp only [results, Tryz.results38]; go_simp) rfl ?_
    exact ⟨rfl, by exact modC (Mod.refl _ _)⟩
  · rw [if_neg h2]
    have e2 : (s.at != 5) = true := by simpa using h2
    clear h2
    go_enter Tryz.func38, Tryz.ntmps38
    go_wp2_with fail
    refine bodyPost_ret (v := .tuple #[.int .i64 0, .int .i64 0, .bool false]) (by simp only [results, Tryz.results38]; go_simp) rfl ?_
    exact ⟨rfl, Mod.refl _ _⟩
theorem apAsk_nil (w : World) : Calls Tryz.prog 34 #[.pointer none] w fun e w' => e = .returned (.tuple #[qV qz none 0, .bool false]) ∧ Below w.heap.size w w' := by
  go_enter Tryz.func34, Tryz.ntmps34
  go_wp2_with fail
  refine bodyPost_ret (v := .tuple #[qV qz none 0, .bool false]) (by simp only [results, Tryz.results34, qV, Esch.p0, List.length_nil]; go_simp) rfl ?_
  exact ⟨rfl, by exact belC (Below.refl _ _)⟩
end
/-- an append that is new -/
def ApNewPost (w : World) (q : Proj) (rec : ByteArray) (e : Ending) (w' : World) : Prop := ∃ b, e = .returned (.pointer (some ⟨b, 0, none⟩)) ∧ ApAt w' b (From w.heap.size) (ap0 q rec) ∧ Below w.heap.size w w'
theorem ap_box (w : World) (x0 x1 x2 x3 x4 x5 x6 x7 x8 : Value) : ∃ W2, W2 = w.alloc (.cells #[x0, x1, x2, x3, x4, x5, x6, x7, x8] 125) ∧ Below w.heap.size w W2 ∧ W2.heap.size = w.heap.size + 1 ∧ W2.cell? ⟨w.heap.size, 0, none⟩ = some x0 ∧ W2.cell? ⟨w.heap.size, 1, none⟩ = some x1 ∧ W2.cell? ⟨w.heap.size, 2, none⟩ = some x2 ∧ W2.cell? ⟨w.heap.size, 3, none⟩ = some x3 ∧ W2.cell? ⟨w.heap.size, 4, none⟩ = some x4 ∧ W2.cell? ⟨w.heap.size, 5, none⟩ = some x5 ∧ W2.cell? ⟨w.heap.size, 6, none⟩ = some x6 ∧ W2.cell? ⟨w.heap.size, 7, none⟩ = some x7 ∧ W2.cell? ⟨w.heap.size, 8, none⟩ = some x8 ∧ ∀ o, o < 9 → W2.frozen? ⟨w.heap.size, o, none⟩ = false :=
  ⟨_, rfl, by exact belC (Below.refl _ _), by simp, by go_simp, by go_simp, by go_simp, by go_simp, by go_simp, by go_simp, by go_simp, by go_simp, by go_simp, fun o ho => by go_simp⟩
set_option maxHeartbeats 1000000 in
theorem apNew_any (S : Nat → Prop) (w : World) (q : Proj) (rec : ByteArray) (a : Option Addr) (c : Nat) (hs : Small q.chains) (hl : ListsAt S w a q.chains) : Calls Tryz.prog 33 #[.agg #[.int .i64 q.epoch, .slice a q.chains.length c], .string rec] w (ApNewPost w q rec) := by
  obtain ⟨W0, hW0, hB0, hz0, p0, p1⟩ := oneBox w 24 (.int .i64 q.epoch) (.slice a q.chains.length c)
  have hl0 := hl.mod (F := none') (Mod.of_below hB0) (fun _ _ _ => id)
  have hcp := copy_any S W0 q.epoch a c q.chains hs hl0
  have HW0 := Lib.hid hW0
  have HL0 := Lib.hid hl0
  have Hs := Lib.hid hs
  clear hW0 hl hl0 hs
  go_enter Tryz.func33, Tryz.ntmps33
  go_wp2_with fail
  rw [← HW0.out]
  refine hcp.mono ?_
  clear hcp
  rintro e w1 ⟨a1, c1, rfl, hl1, hB1⟩
  have hz1 := hB1.size
  obtain ⟨W2, hW2, hB2, hz2, t0, t1, t2, t3, t4, t5, t6, t7, t8, tf⟩ := ap_box w1 (.int .i64 q.epoch) (.slice a1 q.chains.length c1) (.string rec) (.int .i64 2) (.int .i64 0) (.int .i64 0) (.int .i64 0) (.int .i64 0) (.bool false)
  replace p0 := below_at hB1 p0 (by omega)
  replace p1 := below_at hB1 p1 (by omega)
  have hlw1 : w.heap.size < w1.heap.size := by omega
  have hBw2 : Below W0.heap.size W0 W2 := hB1.trans (hB2.mono hz1)
  have hT2 : ApAt W2 w1.heap.size (From w.heap.size) ⟨q, rec, 2, 0, 0, 0, 0, false⟩ := ⟨t0, ⟨a1, c1, t1, ((hl1.sub (T := fun k => W0.heap.size ≤ k ∧ k < w1.heap.size) (fun k hk h => ⟨h, hk⟩)).mod (F := none') (Mod.of_below hB2) (fun _ _ _ => id)).sub (fun k _ hk => ⟨by show w.heap.size ≤ k; omega, by omega⟩)⟩, t2, t3, t4, t5, t6, t7, t8, tf, by show w.heap.size ≤ _; omega, Hs.out⟩
  have hgd := good_any S W2 q.epoch a c q.chains (HL0.out.mod (F := none') (Mod.of_below hBw2) (fun _ _ _ => id))
  have HT2 := Lib.hid hT2
  have HW2 := Lib.hid hW2
  have HB0 := Lib.hid (hB0.trans (hBw2.mono (by omega)))
  clear hT2 hW2 hB0 hBw2 hB1 hl1 hB2 t0 t1 t2 t3 t4 t5 t6 t7 t8 tf
  go_wp2_with fail
  rw [← HW2.out]
  refine hgd.mono ?_
  clear hgd
  rintro e w3 ⟨rfl, hB3⟩
  have hz3 := hB3.size
  have hT3 := HT2.out.below hB3
  have hen := fun e => apEnd_any hT3 e
  have HT3 := Lib.hid hT3
  have HB3 := Lib.hid (HB0.out.trans (hB3.mono (by omega)))
  obtain ⟨g, hg⟩ : ∃ g, g = goodB ⟨q.epoch, q.chains⟩ := ⟨_, rfl⟩
  rw [← hg]
  have Hg := Lib.hid hg
  clear hg hT3 hB3
  cases g
  · have he1 := hen 1
    clear hen
    go_wp2_with fail
    refine he1.mono ?_
    clear he1
    rintro e w4 ⟨rfl, hA4, hM4⟩
    have HA4 := Lib.hid hA4
    have HM4 := Lib.hid hM4
    clear hA4 hM4
    go_wp2_with fail
    go_ret
    refine ⟨_, rfl, ?_, HB3.out.trans (HM4.out.below_at HB3.out.size (fun k hk e => by omega))⟩
    rw [show ap0 q rec = (⟨q, rec, 2, 0, 0, 0, 0, false⟩ : ApS).over 1 by unfold ap0; rw [if_pos (show goodB q = false from Hg.out.symm)]; rfl]
    exact HA4.out
  · have hgt : ¬ goodB q = false := by rw [show goodB q = true from Hg.out.symm]; simp
    by_cases hr : 4096 < rec.size
    · have he2 := hen 2
      have hr' : (4096 : Int) < rec.size := by omega
      have Hr := Lib.hid hr
      have Hgt := Lib.hid hgt
      clear hen hr hgt
      go_wp2_with fail
      refine he2.mono ?_
      clear he2
      rintro e w4 ⟨rfl, hA4, hM4⟩
      have HA4 := Lib.hid hA4
      have HM4 := Lib.hid hM4
      clear hA4 hM4
      go_wp2_with fail
      go_ret
      refine ⟨_, rfl, ?_, HB3.out.trans (HM4.out.below_at HB3.out.size (fun k hk e => by omega))⟩
      rw [show ap0 q rec = (⟨q, rec, 2, 0, 0, 0, 0, false⟩ : ApS).over 2 by unfold ap0; rw [if_neg Hgt.out, if_pos Hr.out]; rfl]
      exact HA4.out
    · have hr' : (rec.size : Int) ≤ 4096 := by omega
      have Hr := Lib.hid hr
      have Hgt := Lib.hid hgt
      clear hen hr hgt
      go_wp2_with fail
      go_ret
      refine ⟨_, rfl, ?_, HB3.out⟩
      rw [show ap0 q rec = (⟨q, rec, 2, 0, 0, 0, 0, false⟩ : ApS) by unfold ap0; rw [if_neg Hgt.out, if_neg Hr.out]]
      exact HT3.out
end Go.Proofs.YtghdhhbpbmhooaaGreat
/- a record that is appended: its question -/
namespace Go.Proofs.YtghdhhbpbmhooaaGreat
open Go.RowKit Esch

theorem set2_other (w : World) (k b o : Nat) (v0 v1 : Value) (h : b < k) : ((w.setCell ⟨k, 0, none⟩ v0).setCell ⟨k, 1, none⟩ v1).cell? ⟨b, o, none⟩ = w.cell? ⟨b, o, none⟩ := by
  refine Eq.trans (?_ : _ = (w.setCell ⟨k, 0, none⟩ v0).cell? ⟨b, o, none⟩) ?_
  · apply World.cell?_setCell_other; intro e; injection e; omega
  · apply World.cell?_setCell_other; intro e; injection e; omega
/-- a box with a question -/
structure AskBox (w : World) (k : Nat) (x : Int) : Prop where
  a0 : w.cell? ⟨k, 0, none⟩ = some (.int .i64 0)
  a1 : w.cell? ⟨k, 1, none⟩ = some (.int .i64 0)
  a2 : w.cell? ⟨k, 2, none⟩ = some (.int .i64 x)
  a3 : w.cell? ⟨k, 3, none⟩ = some (.int .i64 0)
  a4 : w.cell? ⟨k, 4, none⟩ = some (.int .i64 0)
  a5 : w.cell? ⟨k, 5, none⟩ = some (.int .i64 0)
  a6 : w.cell? ⟨k, 6, none⟩ = some (.string ⟨#[]⟩)
  a7 : w.cell? ⟨k, 7, none⟩ = some (.int .i64 0)
  a8 : w.cell? ⟨k, 8, none⟩ = some (.slice none 0 0)
  fr : ∀ o, o < 9 → w.frozen? ⟨k, o, none⟩ = false
theorem AskBox.below {w w' : World} {k n : Nat} {x : Int} (h : AskBox w k x) (hB : Below n w w') (hk : k < n) : AskBox w' k x :=
  ⟨below_at hB h.a0 hk, below_at hB h.a1 hk, below_at hB h.a2 hk, below_at hB h.a3 hk, below_at hB h.a4 hk, below_at hB h.a5 hk, below_at hB h.a6 hk, below_at hB h.a7 hk, below_at hB h.a8 hk, fun o ho => (hB.frozen (p := ⟨k, o, none⟩) hk).trans (h.fr o ho)⟩
theorem ask_boxes2 (w : World) (x : Int) : ∃ W, W = (w.alloc (.cells #[.int .i64 0, .int .i64 0, .int .i64 0, .int .i64 0, .int .i64 0, .int .i64 0, .string ⟨#[]⟩, .int .i64 0, .slice none 0 0] 34)).alloc (.cells #[.int .i64 0, .int .i64 0, .int .i64 x, .int .i64 0, .int .i64 0, .int .i64 0, .string ⟨#[]⟩, .int .i64 0, .slice none 0 0] 34) ∧ Below w.heap.size w W ∧ W.heap.size = w.heap.size + 2 ∧ AskBox W w.heap.size 0 ∧ AskBox W (w.heap.size + 1) x :=
  ⟨_, rfl, by exact belC (Below.refl _ _), by simp, ⟨by go_simp, by go_simp, by go_simp, by go_simp, by go_simp, by go_simp, by go_simp, by go_simp, by go_simp, fun o ho => by go_simp⟩, ⟨by go_simp, by go_simp, by go_simp, by go_simp, by go_simp, by go_simp, by go_simp, by go_simp, by go_simp, fun o ho => by go_simp⟩⟩
/-- where an append asks, its place known -/
structure Asking (w W : World) (k : Nat) (b : Nat) (s : ApS) (ca : Option Addr) (cc : Nat) : Prop where
  B : Below w.heap.size w W
  p0 : W.cell? ⟨k, 0, none⟩ = some (.int .i64 (ofP s.p s.addr).1)
  p1 : W.cell? ⟨k, 1, none⟩ = some (.int .i64 (ofP s.p s.addr).2.1)
  k2 : w.heap.size + 2 ≤ k
  kl : k < W.heap.size
  qa : AskBox W w.heap.size 0
  qb : AskBox W (w.heap.size + 1) s.p.epoch
theorem asking_one {w W1 w2 : World} {b : Nat} {s : ApS} {ca : Option Addr} {cc : Nat} {T : TypeId} (hB1 : Below w.heap.size w W1) (hz : W1.heap.size = w.heap.size + 2) (qa : AskBox W1 w.heap.size 0) (qb : AskBox W1 (w.heap.size + 1) s.p.epoch) (hB2 : Below W1.heap.size W1 w2) :
    ∃ W k, W = w2.alloc (.cells #[.int .i64 (ofP s.p s.addr).1, .int .i64 (ofP s.p s.addr).2.1] T) ∧ k = w2.heap.size ∧ Asking w W k b s ca cc := by
  have hz2 := hB2.size
  have hB3 : Below W1.heap.size W1 (w2.alloc (.cells #[.int .i64 (ofP s.p s.addr).1, .int .i64 (ofP s.p s.addr).2.1] T)) := hB2.alloc hz2 _
  exact ⟨_, _, rfl, rfl, hB1.trans (hB3.mono (by omega)), by go_simp, by go_simp, by omega, by simp, qa.below hB3 (by omega), qb.below hB3 (by omega)⟩
theorem asking_two {w W1 w2 : World} {b : Nat} {s : ApS} {ca : Option Addr} {cc : Nat} {T : TypeId} (hB1 : Below w.heap.size w W1) (hz : W1.heap.size = w.heap.size + 2) (qa : AskBox W1 w.heap.size 0) (qb : AskBox W1 (w.heap.size + 1) s.p.epoch) (hB2 : Below (W1.heap.size + 1) (W1.alloc (.cells #[.int .i64 0, .int .i64 0] T)) w2)
    (y0 : w2.cell? ⟨W1.heap.size, 0, none⟩ = some (.int .i64 0)) (y1 : w2.cell? ⟨W1.heap.size, 1, none⟩ = some (.int .i64 0)) (_g0 : w2.frozen? ⟨W1.heap.size, 0, none⟩ = false) (_g1 : w2.frozen? ⟨W1.heap.size, 1, none⟩ = false) :
    ∃ W k, W = (w2.setCell ⟨W1.heap.size, 0, none⟩ (.int .i64 (ofP s.p s.addr).1)).setCell ⟨W1.heap.size, 1, none⟩ (.int .i64 (ofP s.p s.addr).2.1) ∧ k = W1.heap.size ∧ Asking w W k b s ca cc := by
  have hz2 : W1.heap.size + 1 ≤ w2.heap.size := by have := hB2.size; simpa using this
  have hBA : Below W1.heap.size W1 (W1.alloc (.cells #[.int .i64 0, .int .i64 0] T)) := (Below.refl _ _).alloc (Nat.le_refl _) _
  have hB3 : Below W1.heap.size W1 ((w2.setCell ⟨W1.heap.size, 0, none⟩ (.int .i64 (ofP s.p s.addr).1)).setCell ⟨W1.heap.size, 1, none⟩ (.int .i64 (ofP s.p s.addr).2.1)) := by
    have h1 := hBA.trans (hB2.mono (by omega))
    exact belC h1
  exact ⟨_, _, rfl, rfl, hB1.trans (hB3.mono (by omega)), by clear hz; go_simp, by clear hz; go_simp, by omega, Nat.lt_of_lt_of_le (show W1.heap.size < w2.heap.size by omega) (Nat.le_of_eq (by simp)), qa.below hB3 (by omega), qb.below hB3 (by omega)⟩
section
variable {w : World} {b : Nat} {S : Nat → Prop} {s : ApS}
def ApAskPost (w : World) (r : QS × Bool) (e : Ending) (w' : World) : Prop := e = .returned (.tuple #[qV r.1 none 0, .bool r.2]) ∧ Below w.heap.size w w'
theorem apAsk_end (h : ApAt w b S s) (h5 : s.at = 5) : Calls Tryz.prog 34 #[.pointer (some ⟨b, 0, none⟩)] w (ApAskPost w (qz, false)) := by
  have c0 := h.c0
  obtain ⟨ca, cc, c1, hcl⟩ := h.c1
  have c2 := h.c2
  have c3 := h.c3
  have c5 := h.c5
  have c6 := h.c6
  have hl := h.lt
  rw [h5] at c3
  clear h hcl h5
  go_enter Tryz.func34, Tryz.ntmps34
  go_wp2_with fail
  refine bodyPost_ret (v := .tuple #[qV qz none 0, .bool false]) (by simp only [results, Tryz.results34, qV, Esch.p0, List.length_nil]; go_simp) rfl ?_
  exact ⟨rfl, by exact belC (Below.refl _ _)⟩
/-- the same, its kind and its text written -/
structure Asked (w W : World) (k : Nat) (s : ApS) (x : Int) (t : ByteArray) : Prop where
  B : Below w.heap.size w W
  p1 : W.cell? ⟨k, 1, none⟩ = some (.int .i64 (ofP s.p s.addr).2.1)
  k2 : w.heap.size + 2 ≤ k
  kl : k < W.heap.size
  qa : AskBox W w.heap.size 0
  q0 : W.cell? ⟨w.heap.size + 1, 0, none⟩ = some (.int .i64 x)
  q1 : W.cell? ⟨w.heap.size + 1, 1, none⟩ = some (.int .i64 0)
  q2 : W.cell? ⟨w.heap.size + 1, 2, none⟩ = some (.int .i64 s.p.epoch)
  q3 : W.cell? ⟨w.heap.size + 1, 3, none⟩ = some (.int .i64 0)
  q4 : W.cell? ⟨w.heap.size + 1, 4, none⟩ = some (.int .i64 0)
  q5 : W.cell? ⟨w.heap.size + 1, 5, none⟩ = some (.int .i64 0)
  q6 : W.cell? ⟨w.heap.size + 1, 6, none⟩ = some (.string t)
  q7 : W.cell? ⟨w.heap.size + 1, 7, none⟩ = some (.int .i64 0)
  q8 : W.cell? ⟨w.heap.size + 1, 8, none⟩ = some (.slice none 0 0)
  fr : ∀ o, o < 9 → W.frozen? ⟨w.heap.size + 1, o, none⟩ = false
theorem Asking.asked {w W9 W : World} {k b : Nat} {s : ApS} {ca : Option Addr} {cc : Nat} {x : Int} {t : ByteArray} (A : Asking w W9 k b s ca cc) (M : Mod (· = w.heap.size + 1) W9 W) (q0 : W.cell? ⟨w.heap.size + 1, 0, none⟩ = some (.int .i64 x)) (q6 : W.cell? ⟨w.heap.size + 1, 6, none⟩ = some (.string t))
    (h : ∀ o, o ≠ 0 → o ≠ 6 → W.cell? ⟨w.heap.size + 1, o, none⟩ = W9.cell? ⟨w.heap.size + 1, o, none⟩) (hf : ∀ o, W.frozen? ⟨w.heap.size + 1, o, none⟩ = W9.frozen? ⟨w.heap.size + 1, o, none⟩) : Asked w W k s x t := by
  have hk2 := A.k2
  have hkl := A.kl
  have hB : Below (w.heap.size + 1) W9 W := (Below.refl _ _).trans (M.below_at (by omega) (fun j hj e => by omega))
  have hz := M.size
  exact ⟨A.B.trans (hB.mono (by omega)), M.at A.p1 (by omega), hk2, by omega, A.qa.below hB (by omega), q0, (h 1 (by omega) (by omega)).trans A.qb.a1, (h 2 (by omega) (by omega)).trans A.qb.a2, (h 3 (by omega) (by omega)).trans A.qb.a3, (h 4 (by omega) (by omega)).trans A.qb.a4, (h 5 (by omega) (by omega)).trans A.qb.a5, q6, (h 7 (by omega) (by omega)).trans A.qb.a7, (h 8 (by omega) (by omega)).trans A.qb.a8, fun o ho => (hf o).trans (A.qb.fr o ho)⟩
set_option maxRecDepth 100000 in
set_option maxHeartbeats 1000000 in
theorem apAsk_token (h : ApAt w b S s) (h5 : s.at = 2) : Calls Tryz.prog 34 #[.pointer (some ⟨b, 0, none⟩)] w (ApAskPost w (⟨6, 0, s.p.epoch, 0, 0, 0, ⟨#[]⟩, Esch.p0⟩, true)) := by
  have c0 := h.c0
  obtain ⟨ca, cc, c1, hcl⟩ := h.c1
  have c2 := h.c2
  have c3 := h.c3
  have c5 := h.c5
  have c6 := h.c6
  have hl := h.lt
  rw [h5] at c3
  have hof := fun W (hM : Mod none' w W) => placeOf_any _ W s.p ca cc s.addr (hcl.mod hM (fun _ _ _ => id))
  clear h hcl h5
  go_enter Tryz.func34, Tryz.ntmps34
  go_wp2_with fail
  obtain ⟨W1, hW1, hB1, hz1, qa, qb⟩ := ask_boxes2 w s.p.epoch
  rw [← hW1]
  have Hz1 := Lib.hid hz1
  clear hW1 hz1
  have k0 : W1.drew.cell? ⟨b, 0, none⟩ = some (.int .i64 s.p.epoch) := below_at hB1 c0 hl
  have k1 : W1.drew.cell? ⟨b, 1, none⟩ = some (.slice ca s.p.chains.length cc) := below_at hB1 c1 hl
  have k6 : W1.drew.cell? ⟨b, 6, none⟩ = some (.int .i64 s.addr) := below_at hB1 c6 hl
  have hof1 := hof W1.drew ((Mod.of_below hB1).drew)
  have hlb1 : b < W1.heap.size := by have := hB1.size; omega
  have k0a : (W1.alloc (.cells #[.int .i64 0, .int .i64 0] 127)).drew.cell? ⟨b, 0, none⟩ = some (.int .i64 s.p.epoch) := (cell_alloc_lt W1 _ b 0 hlb1).trans k0
  have k1a : (W1.alloc (.cells #[.int .i64 0, .int .i64 0] 127)).drew.cell? ⟨b, 1, none⟩ = some (.slice ca s.p.chains.length cc) := (cell_alloc_lt W1 _ b 1 hlb1).trans k1
  have k6a : (W1.alloc (.cells #[.int .i64 0, .int .i64 0] 127)).drew.cell? ⟨b, 6, none⟩ = some (.int .i64 s.addr) := (cell_alloc_lt W1 _ b 6 hlb1).trans k6
  have hof2 := hof (W1.alloc (.cells #[.int .i64 0, .int .i64 0] 127)).drew (((Mod.of_below hB1).alloc _).drew)
  have b0a : (W1.alloc (.cells #[.int .i64 0, .int .i64 0] 127)).cell? ⟨W1.heap.size, 0, none⟩ = some (.int .i64 0) := by go_simp
  have b1a : (W1.alloc (.cells #[.int .i64 0, .int .i64 0] 127)).cell? ⟨W1.heap.size, 1, none⟩ = some (.int .i64 0) := by go_simp
  have g0a : (W1.alloc (.cells #[.int .i64 0, .int .i64 0] 127)).frozen? ⟨W1.heap.size, 0, none⟩ = false := by go_simp
  have g1a : (W1.alloc (.cells #[.int .i64 0, .int .i64 0] 127)).frozen? ⟨W1.heap.size, 1, none⟩ = false := by go_simp
  go_region_held3 (fun w' => w'.cell? ⟨b, 0, none⟩ = some (.int .i64 s.p.epoch) ∧ w'.cell? ⟨b, 1, none⟩ = some (.slice ca s.p.chains.length cc) ∧ w'.cell? ⟨b, 6, none⟩ = some (.int .i64 s.addr))
    (first
      | with_reducible exact ⟨k0, k1, k6⟩
      | with_reducible exact ⟨k0a, k1a, k6a⟩
      | with_reducible exact ⟨z0, z1, z6⟩
      | with_reducible exact ⟨z0a _, z1a _, z6a _⟩
      | with_reducible exact ⟨z0b, z1b, z6b⟩
      | fail)
    (first
      | (go_at_call 64; (with_reducible refine hof1.mono ?_); rintro e w2 ⟨rfl, hB2'⟩
         have hB2 : Below W1.heap.size W1 w2 := below_drew hB2'
         clear hB2'
         have hlb2 : b < w2.heap.size := by have := hB2.size; omega
         have z0 := below_at hB2 k0 hlb1
         have z1 := below_at hB2 k1 hlb1
         have z6 := below_at hB2 k6 hlb1
         have z0a := fun o => (cell_alloc_lt w2 o b 0 hlb2).trans z0
         have z1a := fun o => (cell_alloc_lt w2 o b 1 hlb2).trans z1
         have z6a := fun o => (cell_alloc_lt w2 o b 6 hlb2).trans z6)
      | (go_at_call 64; (with_reducible refine hof2.mono ?_); rintro e w2 ⟨rfl, hB2'⟩
         have hB2 : Below (W1.heap.size + 1) (W1.alloc (.cells #[.int .i64 0, .int .i64 0] 127)) w2 := by have := below_drew hB2'; rwa [show (W1.alloc (.cells #[.int .i64 0, .int .i64 0] 127)).drew.heap.size = W1.heap.size + 1 from World.size_alloc ..] at this
         clear hB2'
         have z0 := below_at hB2 k0a (by omega)
         have z1 := below_at hB2 k1a (by omega)
         have z6 := below_at hB2 k6a (by omega)
         have z0b := (set2_other w2 W1.heap.size b 0 (.int .i64 (ofP s.p s.addr).1) (.int .i64 (ofP s.p s.addr).2.1) hlb1).trans z0
         have z1b := (set2_other w2 W1.heap.size b 1 (.int .i64 (ofP s.p s.addr).1) (.int .i64 (ofP s.p s.addr).2.1) hlb1).trans z1
         have z6b := (set2_other w2 W1.heap.size b 6 (.int .i64 (ofP s.p s.addr).1) (.int .i64 (ofP s.p s.addr).2.1) hlb1).trans z6
         have y0 := below_at hB2 b0a (by omega)
         have y1 := below_at hB2 b1a (by omega)
         have g0 := (hB2.frozen (p := ⟨W1.heap.size, 0, none⟩) (show W1.heap.size < W1.heap.size + 1 by omega)).trans g0a
         have g1 := (hB2.frozen (p := ⟨W1.heap.size, 1, none⟩) (show W1.heap.size < W1.heap.size + 1 by omega)).trans g1a))
  rotate_left
  · obtain ⟨W9, k9, hW9, hk9, A⟩ := asking_two (b := b) (ca := ca) (cc := cc) hB1 Hz1.out qa qb hB2 y0 y1 g0 g1
    rw [← hW9, ← hk9]
    replace c0 := below_at A.B c0 hl
    replace c1 := below_at A.B c1 hl
    replace c2 := below_at A.B c2 hl
    replace c3 := below_at A.B c3 hl
    replace c5 := below_at A.B c5 hl
    replace c6 := below_at A.B c6 hl
    obtain ⟨aB, p0, p1, k2, kl, ⟨r0, r1, r2, r3, r4, r5, r6, r7, r8, rf⟩, ⟨q0, q1, q2, q3, q4, q5, q6, q7, q8, qf⟩⟩ := A
    have AB := Lib.hid aB
    have rf0 := rf 0 (by omega)
    have rf1 := rf 1 (by omega)
    have rf2 := rf 2 (by omega)
    have rf3 := rf 3 (by omega)
    have rf4 := rf 4 (by omega)
    have rf5 := rf 5 (by omega)
    have rf6 := rf 6 (by omega)
    have rf7 := rf 7 (by omega)
    have rf8 := rf 8 (by omega)
    have qf0 := qf 0 (by omega)
    have qf1 := qf 1 (by omega)
    have qf2 := qf 2 (by omega)
    have qf3 := qf 3 (by omega)
    have qf4 := qf 4 (by omega)
    have qf5 := qf 5 (by omega)
    have qf6 := qf 6 (by omega)
    have qf7 := qf 7 (by omega)
    have qf8 := qf 8 (by omega)
    clear hW9 hk9 aB rf qf hof1 hof2 k0 k1 k6 k0a k1a k6a b0a b1a g0a g1a hlb1 z0 z1 z6 hB2 hB1 qa qb
    clear z0b z1b z6b y0 y1 g0 g1
    go_wp2_with fail
    refine bodyPost_ret (v := .tuple #[qV ⟨6, 0, s.p.epoch, 0, 0, 0, ⟨#[]⟩, Esch.p0⟩ none 0, .bool true]) (by simp only [results, Tryz.results34, qV, Esch.p0, List.length_nil]; go_simp) rfl ?_
    exact ⟨rfl, by exact belC AB.out⟩
  · obtain ⟨W9, k9, hW9, hk9, A⟩ := asking_one (b := b) (ca := ca) (cc := cc) (T := 127) hB1 Hz1.out qa qb hB2
    rw [← hW9, ← hk9]
    replace c0 := below_at A.B c0 hl
    replace c1 := below_at A.B c1 hl
    replace c2 := below_at A.B c2 hl
    replace c3 := below_at A.B c3 hl
    replace c5 := below_at A.B c5 hl
    replace c6 := below_at A.B c6 hl
    obtain ⟨aB, p0, p1, k2, kl, ⟨r0, r1, r2, r3, r4, r5, r6, r7, r8, rf⟩, ⟨q0, q1, q2, q3, q4, q5, q6, q7, q8, qf⟩⟩ := A
    have AB := Lib.hid aB
    have rf0 := rf 0 (by omega)
    have rf1 := rf 1 (by omega)
    have rf2 := rf 2 (by omega)
    have rf3 := rf 3 (by omega)
    have rf4 := rf 4 (by omega)
    have rf5 := rf 5 (by omega)
    have rf6 := rf 6 (by omega)
    have rf7 := rf 7 (by omega)
    have rf8 := rf 8 (by omega)
    have qf0 := qf 0 (by omega)
    have qf1 := qf 1 (by omega)
    have qf2 := qf 2 (by omega)
    have qf3 := qf 3 (by omega)
    have qf4 := qf 4 (by omega)
    have qf5 := qf 5 (by omega)
    have qf6 := qf 6 (by omega)
    have qf7 := qf 7 (by omega)
    have qf8 := qf 8 (by omega)
    clear hW9 hk9 aB rf qf hof1 hof2 k0 k1 k6 k0a k1a k6a b0a b1a g0a g1a hlb1 z0 z1 z6 hB2 hB1 qa qb
    clear z0a z1a z6a
    go_wp2_with fail
    refine bodyPost_ret (v := .tuple #[qV ⟨6, 0, s.p.epoch, 0, 0, 0, ⟨#[]⟩, Esch.p0⟩ none 0, .bool true]) (by simp only [results, Tryz.results34, qV, Esch.p0, List.length_nil]; go_simp) rfl ?_
    exact ⟨rfl, by exact belC AB.out⟩
theorem apAsk_lay0 (h : ApAt w b S s) (h5 : s.at = 0) : Calls Tryz.prog 34 #[.pointer (some ⟨b, 0, none⟩)] w (ApAskPost w (⟨9, 0, 0, 0, 0, 0, ⟨#[]⟩, Esch.p0⟩, true)) := by
  have c0 := h.c0
  obtain ⟨ca, cc, c1, hcl⟩ := h.c1
  have c2 := h.c2
  have c3 := h.c3
  have c5 := h.c5
  have c6 := h.c6
  have hl := h.lt
  rw [h5] at c3
  have hof := fun W (hM : Mod none' w W) => placeOf_any _ W s.p ca cc s.addr (hcl.mod hM (fun _ _ _ => id))
  clear h hcl h5
  go_enter Tryz.func34, Tryz.ntmps34
  go_wp2_with fail
  obtain ⟨W1, hW1, hB1, hz1, qa, qb⟩ := ask_boxes2 w s.p.epoch
  rw [← hW1]
  have Hz1 := Lib.hid hz1
  clear hW1 hz1
  have k0 : W1.drew.cell? ⟨b, 0, none⟩ = some (.int .i64 s.p.epoch) := below_at hB1 c0 hl
  have k1 : W1.drew.cell? ⟨b, 1, none⟩ = some (.slice ca s.p.chains.length cc) := below_at hB1 c1 hl
  have k6 : W1.drew.cell? ⟨b, 6, none⟩ = some (.int .i64 s.addr) := below_at hB1 c6 hl
  have hof1 := hof W1.drew ((Mod.of_below hB1).drew)
  have hlb1 : b < W1.heap.size := by have := hB1.size; omega
  have k0a : (W1.alloc (.cells #[.int .i64 0, .int .i64 0] 127)).drew.cell? ⟨b, 0, none⟩ = some (.int .i64 s.p.epoch) := (cell_alloc_lt W1 _ b 0 hlb1).trans k0
  have k1a : (W1.alloc (.cells #[.int .i64 0, .int .i64 0] 127)).drew.cell? ⟨b, 1, none⟩ = some (.slice ca s.p.chains.length cc) := (cell_alloc_lt W1 _ b 1 hlb1).trans k1
  have k6a : (W1.alloc (.cells #[.int .i64 0, .int .i64 0] 127)).drew.cell? ⟨b, 6, none⟩ = some (.int .i64 s.addr) := (cell_alloc_lt W1 _ b 6 hlb1).trans k6
  have hof2 := hof (W1.alloc (.cells #[.int .i64 0, .int .i64 0] 127)).drew (((Mod.of_below hB1).alloc _).drew)
  have b0a : (W1.alloc (.cells #[.int .i64 0, .int .i64 0] 127)).cell? ⟨W1.heap.size, 0, none⟩ = some (.int .i64 0) := by go_simp
  have b1a : (W1.alloc (.cells #[.int .i64 0, .int .i64 0] 127)).cell? ⟨W1.heap.size, 1, none⟩ = some (.int .i64 0) := by go_simp
  have g0a : (W1.alloc (.cells #[.int .i64 0, .int .i64 0] 127)).frozen? ⟨W1.heap.size, 0, none⟩ = false := by go_simp
  have g1a : (W1.alloc (.cells #[.int .i64 0, .int .i64 0] 127)).frozen? ⟨W1.heap.size, 1, none⟩ = false := by go_simp
  go_region_held3 (fun w' => w'.cell? ⟨b, 0, none⟩ = some (.int .i64 s.p.epoch) ∧ w'.cell? ⟨b, 1, none⟩ = some (.slice ca s.p.chains.length cc) ∧ w'.cell? ⟨b, 6, none⟩ = some (.int .i64 s.addr))
    (first
      | with_reducible exact ⟨k0, k1, k6⟩
      | with_reducible exact ⟨k0a, k1a, k6a⟩
      | with_reducible exact ⟨z0, z1, z6⟩
      | with_reducible exact ⟨z0a _, z1a _, z6a _⟩
      | with_reducible exact ⟨z0b, z1b, z6b⟩
      | fail)
    (first
      | (go_at_call 64; (with_reducible refine hof1.mono ?_); rintro e w2 ⟨rfl, hB2'⟩
         have hB2 : Below W1.heap.size W1 w2 := below_drew hB2'
         clear hB2'
         have hlb2 : b < w2.heap.size := by have := hB2.size; omega
         have z0 := below_at hB2 k0 hlb1
         have z1 := below_at hB2 k1 hlb1
         have z6 := below_at hB2 k6 hlb1
         have z0a := fun o => (cell_alloc_lt w2 o b 0 hlb2).trans z0
         have z1a := fun o => (cell_alloc_lt w2 o b 1 hlb2).trans z1
         have z6a := fun o => (cell_alloc_lt w2 o b 6 hlb2).trans z6)
      | (go_at_call 64; (with_reducible refine hof2.mono ?_); rintro e w2 ⟨rfl, hB2'⟩
         have hB2 : Below (W1.heap.size + 1) (W1.alloc (.cells #[.int .i64 0, .int .i64 0] 127)) w2 := by have := below_drew hB2'; rwa [show (W1.alloc (.cells #[.int .i64 0, .int .i64 0] 127)).drew.heap.size = W1.heap.size + 1 from World.size_alloc ..] at this
         clear hB2'
         have z0 := below_at hB2 k0a (by omega)
         have z1 := below_at hB2 k1a (by omega)
         have z6 := below_at hB2 k6a (by omega)
         have z0b := (set2_other w2 W1.heap.size b 0 (.int .i64 (ofP s.p s.addr).1) (.int .i64 (ofP s.p s.addr).2.1) hlb1).trans z0
         have z1b := (set2_other w2 W1.heap.size b 1 (.int .i64 (ofP s.p s.addr).1) (.int .i64 (ofP s.p s.addr).2.1) hlb1).trans z1
         have z6b := (set2_other w2 W1.heap.size b 6 (.int .i64 (ofP s.p s.addr).1) (.int .i64 (ofP s.p s.addr).2.1) hlb1).trans z6
         have y0 := below_at hB2 b0a (by omega)
         have y1 := below_at hB2 b1a (by omega)
         have g0 := (hB2.frozen (p := ⟨W1.heap.size, 0, none⟩) (show W1.heap.size < W1.heap.size + 1 by omega)).trans g0a
         have g1 := (hB2.frozen (p := ⟨W1.heap.size, 1, none⟩) (show W1.heap.size < W1.heap.size + 1 by omega)).trans g1a))
  rotate_left
  · obtain ⟨W9, k9, hW9, hk9, A⟩ := asking_two (b := b) (ca := ca) (cc := cc) hB1 Hz1.out qa qb hB2 y0 y1 g0 g1
    rw [← hW9, ← hk9]
    replace c0 := below_at A.B c0 hl
    replace c1 := below_at A.B c1 hl
    replace c2 := below_at A.B c2 hl
    replace c3 := below_at A.B c3 hl
    replace c5 := below_at A.B c5 hl
    replace c6 := below_at A.B c6 hl
    obtain ⟨aB, p0, p1, k2, kl, ⟨r0, r1, r2, r3, r4, r5, r6, r7, r8, rf⟩, ⟨q0, q1, q2, q3, q4, q5, q6, q7, q8, qf⟩⟩ := A
    have AB := Lib.hid aB
    have rf0 := rf 0 (by omega)
    have rf1 := rf 1 (by omega)
    have rf2 := rf 2 (by omega)
    have rf3 := rf 3 (by omega)
    have rf4 := rf 4 (by omega)
    have rf5 := rf 5 (by omega)
    have rf6 := rf 6 (by omega)
    have rf7 := rf 7 (by omega)
    have rf8 := rf 8 (by omega)
    have qf0 := qf 0 (by omega)
    have qf1 := qf 1 (by omega)
    have qf2 := qf 2 (by omega)
    have qf3 := qf 3 (by omega)
    have qf4 := qf 4 (by omega)
    have qf5 := qf 5 (by omega)
    have qf6 := qf 6 (by omega)
    have qf7 := qf 7 (by omega)
    have qf8 := qf 8 (by omega)
    clear hW9 hk9 aB rf qf hof1 hof2 k0 k1 k6 k0a k1a k6a b0a b1a g0a g1a hlb1 z0 z1 z6 hB2 hB1 qa qb
    clear z0b z1b z6b y0 y1 g0 g1
    go_wp2_with fail
    refine bodyPost_ret (v := .tuple #[qV ⟨9, 0, 0, 0, 0, 0, ⟨#[]⟩, Esch.p0⟩ none 0, .bool true]) (by simp only [results, Tryz.results34, qV, Esch.p0, List.length_nil]; go_simp) rfl ?_
    exact ⟨rfl, by exact belC AB.out⟩
  · obtain ⟨W9, k9, hW9, hk9, A⟩ := asking_one (b := b) (ca := ca) (cc := cc) (T := 127) hB1 Hz1.out qa qb hB2
    rw [← hW9, ← hk9]
    replace c0 := below_at A.B c0 hl
    replace c1 := below_at A.B c1 hl
    replace c2 := below_at A.B c2 hl
    replace c3 := below_at A.B c3 hl
    replace c5 := below_at A.B c5 hl
    replace c6 := below_at A.B c6 hl
    obtain ⟨aB, p0, p1, k2, kl, ⟨r0, r1, r2, r3, r4, r5, r6, r7, r8, rf⟩, ⟨q0, q1, q2, q3, q4, q5, q6, q7, q8, qf⟩⟩ := A
    have AB := Lib.hid aB
    have rf0 := rf 0 (by omega)
    have rf1 := rf 1 (by omega)
    have rf2 := rf 2 (by omega)
    have rf3 := rf 3 (by omega)
    have rf4 := rf 4 (by omega)
    have rf5 := rf 5 (by omega)
    have rf6 := rf 6 (by omega)
    have rf7 := rf 7 (by omega)
    have rf8 := rf 8 (by omega)
    have qf0 := qf 0 (by omega)
    have qf1 := qf 1 (by omega)
    have qf2 := qf 2 (by omega)
    have qf3 := qf 3 (by omega)
    have qf4 := qf 4 (by omega)
    have qf5 := qf 5 (by omega)
    have qf6 := qf 6 (by omega)
    have qf7 := qf 7 (by omega)
    have qf8 := qf 8 (by omega)
    clear hW9 hk9 aB rf qf hof1 hof2 k0 k1 k6 k0a k1a k6a b0a b1a g0a g1a hlb1 z0 z1 z6 hB2 hB1 qa qb
    clear z0a z1a z6a
    go_wp2_with fail
    refine bodyPost_ret (v := .tuple #[qV ⟨9, 0, 0, 0, 0, 0, ⟨#[]⟩, Esch.p0⟩ none 0, .bool true]) (by simp only [results, Tryz.results34, qV, Esch.p0, List.length_nil]; go_simp) rfl ?_
    exact ⟨rfl, by exact belC AB.out⟩
theorem apAsk_lay1 (h : ApAt w b S s) (h5 : s.at = 1) : Calls Tryz.prog 34 #[.pointer (some ⟨b, 0, none⟩)] w (ApAskPost w (⟨9, 0, 0, 0, 0, 0, ⟨#[]⟩, Esch.p0⟩, true)) := by
  have c0 := h.c0
  obtain ⟨ca, cc, c1, hcl⟩ := h.c1
  have c2 := h.c2
  have c3 := h.c3
  have c5 := h.c5
  have c6 := h.c6
  have hl := h.lt
  rw [h5] at c3
  have hof := fun W (hM : Mod none' w W) => placeOf_any _ W s.p ca cc s.addr (hcl.mod hM (fun _ _ _ => id))
  clear h hcl h5
  go_enter Tryz.func34, Tryz.ntmps34
  go_wp2_with fail
  obtain ⟨W1, hW1, hB1, hz1, qa, qb⟩ := ask_boxes2 w s.p.epoch
  rw [← hW1]
  have Hz1 := Lib.hid hz1
  clear hW1 hz1
  have k0 : W1.drew.cell? ⟨b, 0, none⟩ = some (.int .i64 s.p.epoch) := below_at hB1 c0 hl
  have k1 : W1.drew.cell? ⟨b, 1, none⟩ = some (.slice ca s.p.chains.length cc) := below_at hB1 c1 hl
  have k6 : W1.drew.cell? ⟨b, 6, none⟩ = some (.int .i64 s.addr) := below_at hB1 c6 hl
  have hof1 := hof W1.drew ((Mod.of_below hB1).drew)
  have hlb1 : b < W1.heap.size := by have := hB1.size; omega
  have k0a : (W1.alloc (.cells #[.int .i64 0, .int .i64 0] 127)).drew.cell? ⟨b, 0, none⟩ = some (.int .i64 s.p.epoch) := (cell_alloc_lt W1 _ b 0 hlb1).trans k0
  have k1a : (W1.alloc (.cells #[.int .i64 0, .int .i64 0] 127)).drew.cell? ⟨b, 1, none⟩ = some (.slice ca s.p.chains.length cc) := (cell_alloc_lt W1 _ b 1 hlb1).trans k1
  have k6a : (W1.alloc (.cells #[.int .i64 0, .int .i64 0] 127)).drew.cell? ⟨b, 6, none⟩ = some (.int .i64 s.addr) := (cell_alloc_lt W1 _ b 6 hlb1).trans k6
  have hof2 := hof (W1.alloc (.cells #[.int .i64 0, .int .i64 0] 127)).drew (((Mod.of_below hB1).alloc _).drew)
  have b0a : (W1.alloc (.cells #[.int .i64 0, .int .i64 0] 127)).cell? ⟨W1.heap.size, 0, none⟩ = some (.int .i64 0) := by go_simp
  have b1a : (W1.alloc (.cells #[.int .i64 0, .int .i64 0] 127)).cell? ⟨W1.heap.size, 1, none⟩ = some (.int .i64 0) := by go_simp
  have g0a : (W1.alloc (.cells #[.int .i64 0, .int .i64 0] 127)).frozen? ⟨W1.heap.size, 0, none⟩ = false := by go_simp
  have g1a : (W1.alloc (.cells #[.int .i64 0, .int .i64 0] 127)).frozen? ⟨W1.heap.size, 1, none⟩ = false := by go_simp
  go_region_held3 (fun w' => w'.cell? ⟨b, 0, none⟩ = some (.int .i64 s.p.epoch) ∧ w'.cell? ⟨b, 1, none⟩ = some (.slice ca s.p.chains.length cc) ∧ w'.cell? ⟨b, 6, none⟩ = some (.int .i64 s.addr))
    (first
      | with_reducible exact ⟨k0, k1, k6⟩
      | with_reducible exact ⟨k0a, k1a, k6a⟩
      | with_reducible exact ⟨z0, z1, z6⟩
      | with_reducible exact ⟨z0a _, z1a _, z6a _⟩
      | with_reducible exact ⟨z0b, z1b, z6b⟩
      | fail)
    (first
      | (go_at_call 64; (with_reducible refine hof1.mono ?_); rintro e w2 ⟨rfl, hB2'⟩
         have hB2 : Below W1.heap.size W1 w2 := below_drew hB2'
         clear hB2'
         have hlb2 : b < w2.heap.size := by have := hB2.size; omega
         have z0 := below_at hB2 k0 hlb1
         have z1 := below_at hB2 k1 hlb1
         have z6 := below_at hB2 k6 hlb1
         have z0a := fun o => (cell_alloc_lt w2 o b 0 hlb2).trans z0
         have z1a := fun o => (cell_alloc_lt w2 o b 1 hlb2).trans z1
         have z6a := fun o => (cell_alloc_lt w2 o b 6 hlb2).trans z6)
      | (go_at_call 64; (with_reducible refine hof2.mono ?_); rintro e w2 ⟨rfl, hB2'⟩
         have hB2 : Below (W1.heap.size + 1) (W1.alloc (.cells #[.int .i64 0, .int .i64 0] 127)) w2 := by have := below_drew hB2'; rwa [show (W1.alloc (.cells #[.int .i64 0, .int .i64 0] 127)).drew.heap.size = W1.heap.size + 1 from World.size_alloc ..] at this
         clear hB2'
         have z0 := below_at hB2 k0a (by omega)
         have z1 := below_at hB2 k1a (by omega)
         have z6 := below_at hB2 k6a (by omega)
         have z0b := (set2_other w2 W1.heap.size b 0 (.int .i64 (ofP s.p s.addr).1) (.int .i64 (ofP s.p s.addr).2.1) hlb1).trans z0
         have z1b := (set2_other w2 W1.heap.size b 1 (.int .i64 (ofP s.p s.addr).1) (.int .i64 (ofP s.p s.addr).2.1) hlb1).trans z1
         have z6b := (set2_other w2 W1.heap.size b 6 (.int .i64 (ofP s.p s.addr).1) (.int .i64 (ofP s.p s.addr).2.1) hlb1).trans z6
         have y0 := below_at hB2 b0a (by omega)
         have y1 := below_at hB2 b1a (by omega)
         have g0 := (hB2.frozen (p := ⟨W1.heap.size, 0, none⟩) (show W1.heap.size < W1.heap.size + 1 by omega)).trans g0a
         have g1 := (hB2.frozen (p := ⟨W1.heap.size, 1, none⟩) (show W1.heap.size < W1.heap.size + 1 by omega)).trans g1a))
  rotate_left
  · obtain ⟨W9, k9, hW9, hk9, A⟩ := asking_two (b := b) (ca := ca) (cc := cc) hB1 Hz1.out qa qb hB2 y0 y1 g0 g1
    rw [← hW9, ← hk9]
    replace c0 := below_at A.B c0 hl
    replace c1 := below_at A.B c1 hl
    replace c2 := below_at A.B c2 hl
    replace c3 := below_at A.B c3 hl
    replace c5 := below_at A.B c5 hl
    replace c6 := below_at A.B c6 hl
    obtain ⟨aB, p0, p1, k2, kl, ⟨r0, r1, r2, r3, r4, r5, r6, r7, r8, rf⟩, ⟨q0, q1, q2, q3, q4, q5, q6, q7, q8, qf⟩⟩ := A
    have AB := Lib.hid aB
    have rf0 := rf 0 (by omega)
    have rf1 := rf 1 (by omega)
    have rf2 := rf 2 (by omega)
    have rf3 := rf 3 (by omega)
    have rf4 := rf 4 (by omega)
    have rf5 := rf 5 (by omega)
    have rf6 := rf 6 (by omega)
    have rf7 := rf 7 (by omega)
    have rf8 := rf 8 (by omega)
    have qf0 := qf 0 (by omega)
    have qf1 := qf 1 (by omega)
    have qf2 := qf 2 (by omega)
    have qf3 := qf 3 (by omega)
    have qf4 := qf 4 (by omega)
    have qf5 := qf 5 (by omega)
    have qf6 := qf 6 (by omega)
    have qf7 := qf 7 (by omega)
    have qf8 := qf 8 (by omega)
    clear hW9 hk9 aB rf qf hof1 hof2 k0 k1 k6 k0a k1a k6a b0a b1a g0a g1a hlb1 z0 z1 z6 hB2 hB1 qa qb
    clear z0b z1b z6b y0 y1 g0 g1
    go_wp2_with fail
    refine bodyPost_ret (v := .tuple #[qV ⟨9, 0, 0, 0, 0, 0, ⟨#[]⟩, Esch.p0⟩ none 0, .bool true]) (by simp only [results, Tryz.results34, qV, Esch.p0, List.length_nil]; go_simp) rfl ?_
    exact ⟨rfl, by exact belC AB.out⟩
  · obtain ⟨W9, k9, hW9, hk9, A⟩ := asking_one (b := b) (ca := ca) (cc := cc) (T := 127) hB1 Hz1.out qa qb hB2
    rw [← hW9, ← hk9]
    replace c0 := below_at A.B c0 hl
    replace c1 := below_at A.B c1 hl
    replace c2 := below_at A.B c2 hl
    replace c3 := below_at A.B c3 hl
    replace c5 := below_at A.B c5 hl
    replace c6 := below_at A.B c6 hl
    obtain ⟨aB, p0, p1, k2, kl, ⟨r0, r1, r2, r3, r4, r5, r6, r7, r8, rf⟩, ⟨q0, q1, q2, q3, q4, q5, q6, q7, q8, qf⟩⟩ := A
    have AB := Lib.hid aB
    have rf0 := rf 0 (by omega)
    have rf1 := rf 1 (by omega)
    have rf2 := rf 2 (by omega)
    have rf3 := rf 3 (by omega)
    have rf4 := rf 4 (by omega)
    have rf5 := rf 5 (by omega)
    have rf6 := rf 6 (by omega)
    have rf7 := rf 7 (by omega)
    have rf8 := rf 8 (by omega)
    have qf0 := qf 0 (by omega)
    have qf1 := qf 1 (by omega)
    have qf2 := qf 2 (by omega)
    have qf3 := qf 3 (by omega)
    have qf4 := qf 4 (by omega)
    have qf5 := qf 5 (by omega)
    have qf6 := qf 6 (by omega)
    have qf7 := qf 7 (by omega)
    have qf8 := qf 8 (by omega)
    clear hW9 hk9 aB rf qf hof1 hof2 k0 k1 k6 k0a k1a k6a b0a b1a g0a g1a hlb1 z0 z1 z6 hB2 hB1 qa qb
    clear z0a z1a z6a
    go_wp2_with fail
    refine bodyPost_ret (v := .tuple #[qV ⟨9, 0, 0, 0, 0, 0, ⟨#[]⟩, Esch.p0⟩ none 0, .bool true]) (by simp only [results, Tryz.results34, qV, Esch.p0, List.length_nil]; go_simp) rfl ?_
    exact ⟨rfl, by exact belC AB.out⟩
end
end Go.Proofs.YtghdhhbpbmhooaaGreat
/- a record that is appended: its question where a unit is asked -/
namespace Go.Proofs.YtghdhhbpbmhooaaGreat
open Go.RowKit Esch

theorem set1_other (w : World) (k b o o' : Nat) (v : Value) (h : b ≠ k) : (w.setCell ⟨k, o', none⟩ v).cell? ⟨b, o, none⟩ = w.cell? ⟨b, o, none⟩ := by
  apply World.cell?_setCell_other; intro e; injection e; omega
theorem Asked.below {w W w2 : World} {k : Nat} {s : ApS} {x : Int} {t : ByteArray} (D : Asked w W k s x t) (hB : Below W.heap.size W w2) : Asked w w2 k s x t := by
  have hz := D.B.size
  have hk2 := D.k2
  have hkl := D.kl
  have hl : w.heap.size + 1 < W.heap.size := by omega
  have hz2 := hB.size
  exact ⟨D.B.trans (hB.mono hz), below_at hB D.p1 hkl, hk2, by omega, D.qa.below hB (by omega), below_at hB D.q0 hl, below_at hB D.q1 hl, below_at hB D.q2 hl, below_at hB D.q3 hl, below_at hB D.q4 hl, below_at hB D.q5 hl, below_at hB D.q6 hl, below_at hB D.q7 hl, below_at hB D.q8 hl, fun o ho => (hB.frozen (p := ⟨w.heap.size + 1, o, none⟩) hl).trans (D.fr o ho)⟩
theorem wpAnyH_mono2 {P : Program} {ops : Array Oper} {Q : Exit → Act → World → Prop} {md : Region.Mode} {S S2 : World → Prop} (hS : ∀ w, S2 w → S w) : ∀ {fuel : Nat} {listed : Array Bool} {a : Act} {w : World}, wpAnyH P md ops Q S2 fuel listed a w → wpAnyH P md ops Q S fuel listed a w
  | 0, _, _, _, h => h
  | _ + 1, _, _, _, h => ⟨h.1, fun i hi => wpOp_mono (fun _ _ h' => ⟨hS _ h'.1, wpAnyH_mono2 hS h'.2⟩) (h.2 i hi)⟩
section
variable {w : World} {b : Nat} {S : Nat → Prop} {s : ApS}
set_option linter.unusedSimpArgs false in
set_option maxRecDepth 100000 in
set_option maxHeartbeats 1000000 in
theorem apAsk_four (h : ApAt w b S s) (h5 : s.at = 4) (i : Nat) (hi : s.i = i) (hil : i < (chainP s.p s.addr).length) : Calls Tryz.prog 34 #[.pointer (some ⟨b, 0, none⟩)] w (ApAskPost w (⟨3, (chainP s.p s.addr).getD i 0, s.p.epoch, (ofP s.p s.addr).2.1, 0, 0, ⟨#[]⟩, Esch.p0⟩, true)) := by
  have c0 := h.c0
  obtain ⟨ca, cc, c1, hcl⟩ := h.c1
  have c2 := h.c2
  have c3 := h.c3
  have c5 := h.c5
  have c6 := h.c6
  have hl := h.lt
  rw [h5] at c3
  rw [hi] at c5
  have hof := fun W (hM : Mod none' w W) => placeOf_any _ W s.p ca cc s.addr (hcl.mod hM (fun _ _ _ => id))
  have hch := fun W (hM : Mod none' w W) => placeChain_any _ W s.p ca cc s.addr (hcl.mod hM (fun _ _ _ => id))
  have Hch := Lib.hid hch
  obtain ⟨l, hle⟩ : ∃ l, l = chainP s.p s.addr := ⟨_, rfl⟩
  rw [← hle] at hil ⊢
  rw [← hle] at Hch
  have Hil := Lib.hid hil
  obtain ⟨gi, hgi⟩ : ∃ g, g = l.getD i 0 := ⟨_, rfl⟩
  rw [← hgi]
  have Hgi := Lib.hid hgi
  clear hch hi hle hil hgi
  clear h hcl h5
  go_enter Tryz.func34, Tryz.ntmps34
  go_wp2_with fail
  obtain ⟨W1, hW1, hB1, hz1, qa, qb⟩ := ask_boxes2 w s.p.epoch
  rw [← hW1]
  have Hz1 := Lib.hid hz1
  clear hW1 hz1
  have k0 : W1.drew.cell? ⟨b, 0, none⟩ = some (.int .i64 s.p.epoch) := below_at hB1 c0 hl
  have k1 : W1.drew.cell? ⟨b, 1, none⟩ = some (.slice ca s.p.chains.length cc) := below_at hB1 c1 hl
  have k6 : W1.drew.cell? ⟨b, 6, none⟩ = some (.int .i64 s.addr) := below_at hB1 c6 hl
  have hof1 := hof W1.drew ((Mod.of_below hB1).drew)
  have hlb1 : b < W1.heap.size := by have := hB1.size; omega
  have k0a : (W1.alloc (.cells #[.int .i64 0, .int .i64 0] 127)).drew.cell? ⟨b, 0, none⟩ = some (.int .i64 s.p.epoch) := (cell_alloc_lt W1 _ b 0 hlb1).trans k0
  have k1a : (W1.alloc (.cells #[.int .i64 0, .int .i64 0] 127)).drew.cell? ⟨b, 1, none⟩ = some (.slice ca s.p.chains.length cc) := (cell_alloc_lt W1 _ b 1 hlb1).trans k1
  have k6a : (W1.alloc (.cells #[.int .i64 0, .int .i64 0] 127)).drew.cell? ⟨b, 6, none⟩ = some (.int .i64 s.addr) := (cell_alloc_lt W1 _ b 6 hlb1).trans k6
  have hof2 := hof (W1.alloc (.cells #[.int .i64 0, .int .i64 0] 127)).drew (((Mod.of_below hB1).alloc _).drew)
  have b0a : (W1.alloc (.cells #[.int .i64 0, .int .i64 0] 127)).cell? ⟨W1.heap.size, 0, none⟩ = some (.int .i64 0) := by go_simp
  have b1a : (W1.alloc (.cells #[.int .i64 0, .int .i64 0] 127)).cell? ⟨W1.heap.size, 1, none⟩ = some (.int .i64 0) := by go_simp
  have g0a : (W1.alloc (.cells #[.int .i64 0, .int .i64 0] 127)).frozen? ⟨W1.heap.size, 0, none⟩ = false := by go_simp
  have g1a : (W1.alloc (.cells #[.int .i64 0, .int .i64 0] 127)).frozen? ⟨W1.heap.size, 1, none⟩ = false := by go_simp
  go_region_held3 (fun w' => w'.cell? ⟨b, 0, none⟩ = some (.int .i64 s.p.epoch) ∧ w'.cell? ⟨b, 1, none⟩ = some (.slice ca s.p.chains.length cc) ∧ w'.cell? ⟨b, 6, none⟩ = some (.int .i64 s.addr))
    (first
      | with_reducible exact ⟨k0, k1, k6⟩
      | with_reducible exact ⟨k0a, k1a, k6a⟩
      | with_reducible exact ⟨z0, z1, z6⟩
      | with_reducible exact ⟨z0a _, z1a _, z6a _⟩
      | with_reducible exact ⟨z0b, z1b, z6b⟩
      | fail)
    (first
      | (go_at_call 64; (with_reducible refine hof1.mono ?_); rintro e w2 ⟨rfl, hB2'⟩
         have hB2 : Below W1.heap.size W1 w2 := below_drew hB2'
         clear hB2'
         have hlb2 : b < w2.heap.size := by have := hB2.size; omega
         have z0 := below_at hB2 k0 hlb1
         have z1 := below_at hB2 k1 hlb1
         have z6 := below_at hB2 k6 hlb1
         have z0a := fun o => (cell_alloc_lt w2 o b 0 hlb2).trans z0
         have z1a := fun o => (cell_alloc_lt w2 o b 1 hlb2).trans z1
         have z6a := fun o => (cell_alloc_lt w2 o b 6 hlb2).trans z6)
      | (go_at_call 64; (with_reducible refine hof2.mono ?_); rintro e w2 ⟨rfl, hB2'⟩
         have hB2 : Below (W1.heap.size + 1) (W1.alloc (.cells #[.int .i64 0, .int .i64 0] 127)) w2 := by have := below_drew hB2'; rwa [show (W1.alloc (.cells #[.int .i64 0, .int .i64 0] 127)).drew.heap.size = W1.heap.size + 1 from World.size_alloc ..] at this
         clear hB2'
         have z0 := below_at hB2 k0a (by omega)
         have z1 := below_at hB2 k1a (by omega)
         have z6 := below_at hB2 k6a (by omega)
         have z0b := (set2_other w2 W1.heap.size b 0 (.int .i64 (ofP s.p s.addr).1) (.int .i64 (ofP s.p s.addr).2.1) hlb1).trans z0
         have z1b := (set2_other w2 W1.heap.size b 1 (.int .i64 (ofP s.p s.addr).1) (.int .i64 (ofP s.p s.addr).2.1) hlb1).trans z1
         have z6b := (set2_other w2 W1.heap.size b 6 (.int .i64 (ofP s.p s.addr).1) (.int .i64 (ofP s.p s.addr).2.1) hlb1).trans z6
         have y0 := below_at hB2 b0a (by omega)
         have y1 := below_at hB2 b1a (by omega)
         have g0 := (hB2.frozen (p := ⟨W1.heap.size, 0, none⟩) (show W1.heap.size < W1.heap.size + 1 by omega)).trans g0a
         have g1 := (hB2.frozen (p := ⟨W1.heap.size, 1, none⟩) (show W1.heap.size < W1.heap.size + 1 by omega)).trans g1a))
  rotate_left
  · obtain ⟨W9, k9, hW9, hk9, A⟩ := asking_two (b := b) (ca := ca) (cc := cc) hB1 Hz1.out qa qb hB2 y0 y1 g0 g1
    rw [← hW9, ← hk9]
    have e2 := below_at A.B c2 hl
    have e3 := below_at A.B c3 hl
    have HA := Lib.hid A
    have hne : w.heap.size + 1 ≠ k9 := by have := A.k2; omega
    have qf0 := A.qb.fr 0 (by omega)
    have qf6 := A.qb.fr 6 (by omega)
    have q0 := A.qb.a0
    have q6 := A.qb.a6
    clear A hW9 hk9 hof1 hof2 k0 k1 k6 k0a k1a k6a b0a b1a g0a g1a hlb1 z0 z1 z6 hB2 hB1 qa qb
    clear z0b z1b z6b y0 y1 g0 g1
    go_wp2_with fail
    obtain ⟨W, hW, D⟩ : ∃ W, W = W9.setCell ⟨w.heap.size + 1, 0, none⟩ (.int .i64 3) ∧ Asked w W k9 s 3 ⟨#[]⟩ := ⟨_, rfl, HA.out.asked (by exact modC (Mod.refl _ _)) (by go_simp) (by go_simp) (fun o h0 h6 => by go_simp) (fun o => by go_simp)⟩
    rw [← hW]
    clear hW e2 e3 q0 q6 qf0 qf6
    have hch1 := Hch.out W.drew (Mod.of_below D.B).drew
    have hsz := D.B.size
    have hlw : b < W.heap.size := by omega
    have hk2 := D.k2
    have hkl := D.kl
    have hnl : w.heap.size + 1 < W.heap.size := by omega
    have hbn : b ≠ w.heap.size + 1 := by omega
    have hkn : k9 ≠ w.heap.size + 1 := by omega
    have hl0 : 0 < l.length := by have := Hil.out; omega
    have k0 : W.drew.cell? ⟨b, 0, none⟩ = some (.int .i64 s.p.epoch) := below_at D.B c0 hl
    have k1 : W.drew.cell? ⟨b, 1, none⟩ = some (.slice ca s.p.chains.length cc) := below_at D.B c1 hl
    have k5 : W.drew.cell? ⟨b, 5, none⟩ = some (.int .i64 i) := below_at D.B c5 hl
    have k6 : W.drew.cell? ⟨b, 6, none⟩ = some (.int .i64 s.addr) := below_at D.B c6 hl
    have kp : W.drew.cell? ⟨k9, 1, none⟩ = some (.int .i64 (ofP s.p s.addr).2.1) := D.p1
    have HD := Lib.hid D
    have i0 : (0 : Int) ≤ i := by omega
    have i1 : (i : Int) < l.length := by have := Hil.out; omega
    clear D c0 c1 c2 c3 c5 c6 hsz hk2 hne HA
    refine wp_region_held_drew (S := fun w' => w'.cell? ⟨b, 0, none⟩ = some (.int .i64 s.p.epoch) ∧ w'.cell? ⟨b, 1, none⟩ = some (.slice ca s.p.chains.length cc) ∧ w'.cell? ⟨b, 5, none⟩ = some (.int .i64 i) ∧ w'.cell? ⟨b, 6, none⟩ = some (.int .i64 s.addr) ∧ w'.cell? ⟨k9, 1, none⟩ = some (.int .i64 (ofP s.p s.addr).2.1)) (by kernel_rfl) ⟨k0, k1, k5, k6, kp⟩ (fun hHeld => ?_)
    refine takeL 0 ?_
    refine takeL 1 ?_
    refine takeL 2 ?_
    refine takeL 3 ?_
    refine takeL 4 ?_
    refine takeL 5 ?_
    refine takeL 6 ?_
    refine takeL 7 ?_
    refine takeL 9 ?_
    refine takeL 10 ?_
    refine takeL 11 ?_
    refine takeL 12 ?_
    refine takeL 15 ?_
    refine takeL 16 ?_
    refine wpAnyH_ready (rs := [8]) (by kernel_rfl) (by simp) ?_
    refine AllReadyH.cons (o := _) rfl (fun K hK => ?_) AllReadyH.nil
    go_simp
    go_at_call 65
    with_reducible refine hch1.mono ?_
    rintro e w2 ⟨a2, n2, rfl, hl2, hB2', -⟩
    have hB2 : Below W.heap.size W w2 := below_drew hB2'
    clear hB2'
    obtain ⟨ab, af, rfl, hab, hal, hac⟩ := hl2.2 hl0
    have x0 := (hac i Hil.out).trans (congrArg (fun z => some (Value.int IntKind.i64 z)) Hgi.out.symm)
    have hab' : W.heap.size ≤ ab := hab
    have han : ab ≠ w.heap.size + 1 := by omega
    have hna : w.heap.size + 1 ≠ ab := fun e => han e.symm
    clear hl2 hac hab hal
    have z0 := below_at hB2 k0 hlw
    have z1 := below_at hB2 k1 hlw
    have z5 := below_at hB2 k5 hlw
    have z6 := below_at hB2 k6 hlw
    have zp := below_at hB2 kp hkl
    have u0 := (set1_other w2 (w.heap.size + 1) b 0 1 (.int .i64 gi) hbn).trans z0
    have u1 := (set1_other w2 (w.heap.size + 1) b 1 1 (.int .i64 gi) hbn).trans z1
    have u5 := (set1_other w2 (w.heap.size + 1) b 5 1 (.int .i64 gi) hbn).trans z5
    have u6 := (set1_other w2 (w.heap.size + 1) b 6 1 (.int .i64 gi) hbn).trans z6
    have up := (set1_other w2 (w.heap.size + 1) k9 1 1 (.int .i64 gi) hkn).trans zp
    have D2 := HD.out.below hB2
    have D2B := Lib.hid D2.B
    obtain ⟨-, -, -, -, ⟨r0, r1, r2, r3, r4, r5, r6, r7, r8, rf⟩, q0, q1, q2, q3, q4, q5, q6, q7, q8, qf⟩ := D2
    have rf0 := rf 0 (by omega)
    have rf1 := rf 1 (by omega)
    have rf2 := rf 2 (by omega)
    have rf3 := rf 3 (by omega)
    have rf4 := rf 4 (by omega)
    have rf5 := rf 5 (by omega)
    have rf6 := rf 6 (by omega)
    have rf7 := rf 7 (by omega)
    have rf8 := rf 8 (by omega)
    have qf1 := qf 1 (by omega)
    have qf3 := qf 3 (by omega)
    clear rf qf
    have ux := (set1_other w2 (w.heap.size + 1) ab (af + i) 1 (.int .i64 gi) han).trans x0
    have v0 := (set1_other _ (w.heap.size + 1) b 0 3 (.int .i64 (ofP s.p s.addr).2.1) hbn).trans u0
    have v1 := (set1_other _ (w.heap.size + 1) b 1 3 (.int .i64 (ofP s.p s.addr).2.1) hbn).trans u1
    have v5 := (set1_other _ (w.heap.size + 1) b 5 3 (.int .i64 (ofP s.p s.addr).2.1) hbn).trans u5
    have v6 := (set1_other _ (w.heap.size + 1) b 6 3 (.int .i64 (ofP s.p s.addr).2.1) hbn).trans u6
    have vp := (set1_other _ (w.heap.size + 1) k9 1 3 (.int .i64 (ofP s.p s.addr).2.1) hkn).trans up
    have vx := (set1_other _ (w.heap.size + 1) ab (af + i) 3 (.int .i64 (ofP s.p s.addr).2.1) han).trans ux
    try go_wp2_with fail
    refine hK.out _ _ ⟨z0, z1, z5, z6, zp⟩ (fun hHeld => ?_)
    clear hK K
    try simp only [Act.put, List.setIfInBounds_toArray, List.set_cons_zero, List.set_cons_succ]
    refine wpAnyH_mono2 (S2 := fun w' => (w'.cell? ⟨b, 0, none⟩ = some (.int .i64 s.p.epoch) ∧ w'.cell? ⟨b, 1, none⟩ = some (.slice ca s.p.chains.length cc) ∧ w'.cell? ⟨b, 5, none⟩ = some (.int .i64 i) ∧ w'.cell? ⟨b, 6, none⟩ = some (.int .i64 s.addr) ∧ w'.cell? ⟨k9, 1, none⟩ = some (.int .i64 (ofP s.p s.addr).2.1)) ∧ w'.cell? ⟨ab, af + i, none⟩ = some (.int .i64 gi)) (fun _ h => h.1) ?_
    replace hHeld := And.intro hHeld x0
    refine takeL 13 ?_
    refine takeL 14 ?_
    refine takeL 17 ?_
    refine wpAnyH_ready (rs := [18]) (by kernel_rfl) (by simp) ?_
    refine AllReadyH.cons (o := _) rfl (fun K hK => ?_) AllReadyH.nil
    go_simp
    try go_wp2_with fail
    refine hK.out _ _ ⟨⟨u0, u1, u5, u6, up⟩, ux⟩ (fun hHeld => ?_)
    clear hK K
    try simp only [Act.put, List.setIfInBounds_toArray, List.set_cons_zero, List.set_cons_succ]
    refine takeL 19 ?_
    refine wpAnyH_ready (rs := [20]) (by kernel_rfl) (by simp) ?_
    refine AllReadyH.cons (o := _) rfl (fun K hK => ?_) AllReadyH.nil
    go_simp
    try go_wp2_with fail
    refine hK.out _ _ ⟨⟨v0, v1, v5, v6, vp⟩, vx⟩ (fun hHeld => ?_)
    clear hK K
    try simp only [Act.put, List.setIfInBounds_toArray, List.set_cons_zero, List.set_cons_succ]
    refine wpAnyH_done (by kernel_rfl) ?_ _
    clear hHeld z0 z1 z5 z6 zp u0 u1 u5 u6 up ux v0 v1 v5 v6 vp vx x0 k0 k1 k5 k6 kp hch1
    go_wp2_with fail
    refine bodyPost_ret (v := .tuple #[qV ⟨3, gi, s.p.epoch, (ofP s.p s.addr).2.1, 0, 0, ⟨#[]⟩, Esch.p0⟩ none 0, .bool true]) (by simp only [results, Tryz.results34, qV, Esch.p0, List.length_nil]; go_simp) rfl ?_
    exact ⟨rfl, by exact belC D2B.out⟩
  · obtain ⟨W9, k9, hW9, hk9, A⟩ := asking_one (b := b) (ca := ca) (cc := cc) (T := 127) hB1 Hz1.out qa qb hB2
    rw [← hW9, ← hk9]
    have e2 := below_at A.B c2 hl
    have e3 := below_at A.B c3 hl
    have HA := Lib.hid A
    have hne : w.heap.size + 1 ≠ k9 := by have := A.k2; omega
    have qf0 := A.qb.fr 0 (by omega)
    have qf6 := A.qb.fr 6 (by omega)
    have q0 := A.qb.a0
    have q6 := A.qb.a6
    clear A hW9 hk9 hof1 hof2 k0 k1 k6 k0a k1a k6a b0a b1a g0a g1a hlb1 z0 z1 z6 hB2 hB1 qa qb
    clear z0a z1a z6a
    go_wp2_with fail
    obtain ⟨W, hW, D⟩ : ∃ W, W = W9.setCell ⟨w.heap.size + 1, 0, none⟩ (.int .i64 3) ∧ Asked w W k9 s 3 ⟨#[]⟩ := ⟨_, rfl, HA.out.asked (by exact modC (Mod.refl _ _)) (by go_simp) (by go_simp) (fun o h0 h6 => by go_simp) (fun o => by go_simp)⟩
    rw [← hW]
    clear hW e2 e3 q0 q6 qf0 qf6
    have hch1 := Hch.out W.drew (Mod.of_below D.B).drew
    have hsz := D.B.size
    have hlw : b < W.heap.size := by omega
    have hk2 := D.k2
    have hkl := D.kl
    have hnl : w.heap.size + 1 < W.heap.size := by omega
    have hbn : b ≠ w.heap.size + 1 := by omega
    have hkn : k9 ≠ w.heap.size + 1 := by omega
    have hl0 : 0 < l.length := by have := Hil.out; omega
    have k0 : W.drew.cell? ⟨b, 0, none⟩ = some (.int .i64 s.p.epoch) := below_at D.B c0 hl
    have k1 : W.drew.cell? ⟨b, 1, none⟩ = some (.slice ca s.p.chains.length cc) := below_at D.B c1 hl
    have k5 : W.drew.cell? ⟨b, 5, none⟩ = some (.int .i64 i) := below_at D.B c5 hl
    have k6 : W.drew.cell? ⟨b, 6, none⟩ = some (.int .i64 s.addr) := below_at D.B c6 hl
    have kp : W.drew.cell? ⟨k9, 1, none⟩ = some (.int .i64 (ofP s.p s.addr).2.1) := D.p1
    have HD := Lib.hid D
    have i0 : (0 : Int) ≤ i := by omega
    have i1 : (i : Int) < l.length := by have := Hil.out; omega
    clear D c0 c1 c2 c3 c5 c6 hsz hk2 hne HA
    refine wp_region_held_drew (S := fun w' => w'.cell? ⟨b, 0, none⟩ = some (.int .i64 s.p.epoch) ∧ w'.cell? ⟨b, 1, none⟩ = some (.slice ca s.p.chains.length cc) ∧ w'.cell? ⟨b, 5, none⟩ = some (.int .i64 i) ∧ w'.cell? ⟨b, 6, none⟩ = some (.int .i64 s.addr) ∧ w'.cell? ⟨k9, 1, none⟩ = some (.int .i64 (ofP s.p s.addr).2.1)) (by kernel_rfl) ⟨k0, k1, k5, k6, kp⟩ (fun hHeld => ?_)
    refine takeL 0 ?_
    refine takeL 1 ?_
    refine takeL 2 ?_
    refine takeL 3 ?_
    refine takeL 4 ?_
    refine takeL 5 ?_
    refine takeL 6 ?_
    refine takeL 7 ?_
    refine takeL 9 ?_
    refine takeL 10 ?_
    refine takeL 11 ?_
    refine takeL 12 ?_
    refine takeL 15 ?_
    refine takeL 16 ?_
    refine wpAnyH_ready (rs := [8]) (by kernel_rfl) (by simp) ?_
    refine AllReadyH.cons (o := _) rfl (fun K hK => ?_) AllReadyH.nil
    go_simp
    go_at_call 65
    with_reducible refine hch1.mono ?_
    rintro e w2 ⟨a2, n2, rfl, hl2, hB2', -⟩
    have hB2 : Below W.heap.size W w2 := below_drew hB2'
    clear hB2'
    obtain ⟨ab, af, rfl, hab, hal, hac⟩ := hl2.2 hl0
    have x0 := (hac i Hil.out).trans (congrArg (fun z => some (Value.int IntKind.i64 z)) Hgi.out.symm)
    have hab' : W.heap.size ≤ ab := hab
    have han : ab ≠ w.heap.size + 1 := by omega
    have hna : w.heap.size + 1 ≠ ab := fun e => han e.symm
    clear hl2 hac hab hal
    have z0 := below_at hB2 k0 hlw
    have z1 := below_at hB2 k1 hlw
    have z5 := below_at hB2 k5 hlw
    have z6 := below_at hB2 k6 hlw
    have zp := below_at hB2 kp hkl
    have u0 := (set1_other w2 (w.heap.size + 1) b 0 1 (.int .i64 gi) hbn).trans z0
    have u1 := (set1_other w2 (w.heap.size + 1) b 1 1 (.int .i64 gi) hbn).trans z1
    have u5 := (set1_other w2 (w.heap.size + 1) b 5 1 (.int .i64 gi) hbn).trans z5
    have u6 := (set1_other w2 (w.heap.size + 1) b 6 1 (.int .i64 gi) hbn).trans z6
    have up := (set1_other w2 (w.heap.size + 1) k9 1 1 (.int .i64 gi) hkn).trans zp
    have D2 := HD.out.below hB2
    have D2B := Lib.hid D2.B
    obtain ⟨-, -, -, -, ⟨r0, r1, r2, r3, r4, r5, r6, r7, r8, rf⟩, q0, q1, q2, q3, q4, q5, q6, q7, q8, qf⟩ := D2
    have rf0 := rf 0 (by omega)
    have rf1 := rf 1 (by omega)
    have rf2 := rf 2 (by omega)
    have rf3 := rf 3 (by omega)
    have rf4 := rf 4 (by omega)
    have rf5 := rf 5 (by omega)
    have rf6 := rf 6 (by omega)
    have rf7 := rf 7 (by omega)
    have rf8 := rf 8 (by omega)
    have qf1 := qf 1 (by omega)
    have qf3 := qf 3 (by omega)
    clear rf qf
    have ux := (set1_other w2 (w.heap.size + 1) ab (af + i) 1 (.int .i64 gi) han).trans x0
    have v0 := (set1_other _ (w.heap.size + 1) b 0 3 (.int .i64 (ofP s.p s.addr).2.1) hbn).trans u0
    have v1 := (set1_other _ (w.heap.size + 1) b 1 3 (.int .i64 (ofP s.p s.addr).2.1) hbn).trans u1
    have v5 := (set1_other _ (w.heap.size + 1) b 5 3 (.int .i64 (ofP s.p s.addr).2.1) hbn).trans u5
    have v6 := (set1_other _ (w.heap.size + 1) b 6 3 (.int .i64 (ofP s.p s.addr).2.1) hbn).trans u6
    have vp := (set1_other _ (w.heap.size + 1) k9 1 3 (.int .i64 (ofP s.p s.addr).2.1) hkn).trans up
    have vx := (set1_other _ (w.heap.size + 1) ab (af + i) 3 (.int .i64 (ofP s.p s.addr).2.1) han).trans ux
    try go_wp2_with fail
    refine hK.out _ _ ⟨z0, z1, z5, z6, zp⟩ (fun hHeld => ?_)
    clear hK K
    try simp only [Act.put, List.setIfInBounds_toArray, List.set_cons_zero, List.set_cons_succ]
    refine wpAnyH_mono2 (S2 := fun w' => (w'.cell? ⟨b, 0, none⟩ = some (.int .i64 s.p.epoch) ∧ w'.cell? ⟨b, 1, none⟩ = some (.slice ca s.p.chains.length cc) ∧ w'.cell? ⟨b, 5, none⟩ = some (.int .i64 i) ∧ w'.cell? ⟨b, 6, none⟩ = some (.int .i64 s.addr) ∧ w'.cell? ⟨k9, 1, none⟩ = some (.int .i64 (ofP s.p s.addr).2.1)) ∧ w'.cell? ⟨ab, af + i, none⟩ = some (.int .i64 gi)) (fun _ h => h.1) ?_
    replace hHeld := And.intro hHeld x0
    refine takeL 13 ?_
    refine takeL 14 ?_
    refine takeL 17 ?_
    refine wpAnyH_ready (rs := [18]) (by kernel_rfl) (by simp) ?_
    refine AllReadyH.cons (o := _) rfl (fun K hK => ?_) AllReadyH.nil
    go_simp
    try go_wp2_with fail
    refine hK.out _ _ ⟨⟨u0, u1, u5, u6, up⟩, ux⟩ (fun hHeld => ?_)
    clear hK K
    try simp only [Act.put, List.setIfInBounds_toArray, List.set_cons_zero, List.set_cons_succ]
    refine takeL 19 ?_
    refine wpAnyH_ready (rs := [20]) (by kernel_rfl) (by simp) ?_
    refine AllReadyH.cons (o := _) rfl (fun K hK => ?_) AllReadyH.nil
    go_simp
    try go_wp2_with fail
    refine hK.out _ _ ⟨⟨v0, v1, v5, v6, vp⟩, vx⟩ (fun hHeld => ?_)
    clear hK K
    try simp only [Act.put, List.setIfInBounds_toArray, List.set_cons_zero, List.set_cons_succ]
    refine wpAnyH_done (by kernel_rfl) ?_ _
    clear hHeld z0 z1 z5 z6 zp u0 u1 u5 u6 up ux v0 v1 v5 v6 vp vx x0 k0 k1 k5 k6 kp hch1
    go_wp2_with fail
    refine bodyPost_ret (v := .tuple #[qV ⟨3, gi, s.p.epoch, (ofP s.p s.addr).2.1, 0, 0, ⟨#[]⟩, Esch.p0⟩ none 0, .bool true]) (by simp only [results, Tryz.results34, qV, Esch.p0, List.length_nil]; go_simp) rfl ?_
    exact ⟨rfl, by exact belC D2B.out⟩
set_option linter.unusedSimpArgs false in
set_option maxRecDepth 100000 in
set_option maxHeartbeats 1000000 in
theorem apAsk_three (h : ApAt w b S s) (h5 : s.at = 3) (i : Nat) (hi : s.i = i) (hil : i < (chainP s.p s.addr).length) : Calls Tryz.prog 34 #[.pointer (some ⟨b, 0, none⟩)] w (ApAskPost w (⟨1, (chainP s.p s.addr).getD i 0, s.p.epoch, (ofP s.p s.addr).2.1, 0, 0, s.txt, Esch.p0⟩, true)) := by
  have c0 := h.c0
  obtain ⟨ca, cc, c1, hcl⟩ := h.c1
  have c2 := h.c2
  have c3 := h.c3
  have c5 := h.c5
  have c6 := h.c6
  have hl := h.lt
  rw [h5] at c3
  rw [hi] at c5
  have hof := fun W (hM : Mod none' w W) => placeOf_any _ W s.p ca cc s.addr (hcl.mod hM (fun _ _ _ => id))
  have hch := fun W (hM : Mod none' w W) => placeChain_any _ W s.p ca cc s.addr (hcl.mod hM (fun _ _ _ => id))
  have Hch := Lib.hid hch
  obtain ⟨l, hle⟩ : ∃ l, l = chainP s.p s.addr := ⟨_, rfl⟩
  rw [← hle] at hil ⊢
  rw [← hle] at Hch
  have Hil := Lib.hid hil
  obtain ⟨gi, hgi⟩ : ∃ g, g = l.getD i 0 := ⟨_, rfl⟩
  rw [← hgi]
  have Hgi := Lib.hid hgi
  clear hch hi hle hil hgi
  clear h hcl h5
  go_enter Tryz.func34, Tryz.ntmps34
  go_wp2_with fail
  obtain ⟨W1, hW1, hB1, hz1, qa, qb⟩ := ask_boxes2 w s.p.epoch
  rw [← hW1]
  have Hz1 := Lib.hid hz1
  clear hW1 hz1
  have k0 : W1.drew.cell? ⟨b, 0, none⟩ = some (.int .i64 s.p.epoch) := below_at hB1 c0 hl
  have k1 : W1.drew.cell? ⟨b, 1, none⟩ = some (.slice ca s.p.chains.length cc) := below_at hB1 c1 hl
  have k6 : W1.drew.cell? ⟨b, 6, none⟩ = some (.int .i64 s.addr) := below_at hB1 c6 hl
  have hof1 := hof W1.drew ((Mod.of_below hB1).drew)
  have hlb1 : b < W1.heap.size := by have := hB1.size; omega
  have k0a : (W1.alloc (.cells #[.int .i64 0, .int .i64 0] 127)).drew.cell? ⟨b, 0, none⟩ = some (.int .i64 s.p.epoch) := (cell_alloc_lt W1 _ b 0 hlb1).trans k0
  have k1a : (W1.alloc (.cells #[.int .i64 0, .int .i64 0] 127)).drew.cell? ⟨b, 1, none⟩ = some (.slice ca s.p.chains.length cc) := (cell_alloc_lt W1 _ b 1 hlb1).trans k1
  have k6a : (W1.alloc (.cells #[.int .i64 0, .int .i64 0] 127)).drew.cell? ⟨b, 6, none⟩ = some (.int .i64 s.addr) := (cell_alloc_lt W1 _ b 6 hlb1).trans k6
  have hof2 := hof (W1.alloc (.cells #[.int .i64 0, .int .i64 0] 127)).drew (((Mod.of_below hB1).alloc _).drew)
  have b0a : (W1.alloc (.cells #[.int .i64 0, .int .i64 0] 127)).cell? ⟨W1.heap.size, 0, none⟩ = some (.int .i64 0) := by go_simp
  have b1a : (W1.alloc (.cells #[.int .i64 0, .int .i64 0] 127)).cell? ⟨W1.heap.size, 1, none⟩ = some (.int .i64 0) := by go_simp
  have g0a : (W1.alloc (.cells #[.int .i64 0, .int .i64 0] 127)).frozen? ⟨W1.heap.size, 0, none⟩ = false := by go_simp
  have g1a : (W1.alloc (.cells #[.int .i64 0, .int .i64 0] 127)).frozen? ⟨W1.heap.size, 1, none⟩ = false := by go_simp
  go_region_held3 (fun w' => w'.cell? ⟨b, 0, none⟩ = some (.int .i64 s.p.epoch) ∧ w'.cell? ⟨b, 1, none⟩ = some (.slice ca s.p.chains.length cc) ∧ w'.cell? ⟨b, 6, none⟩ = some (.int .i64 s.addr))
    (first
      | with_reducible exact ⟨k0, k1, k6⟩
      | with_reducible exact ⟨k0a, k1a, k6a⟩
      | with_reducible exact ⟨z0, z1, z6⟩
      | with_reducible exact ⟨z0a _, z1a _, z6a _⟩
      | with_reducible exact ⟨z0b, z1b, z6b⟩
      | fail)
    (first
      | (go_at_call 64; (with_reducible refine hof1.mono ?_); rintro e w2 ⟨rfl, hB2'⟩
         have hB2 : Below W1.heap.size W1 w2 := below_drew hB2'
         clear hB2'
         have hlb2 : b < w2.heap.size := by have := hB2.size; omega
         have z0 := below_at hB2 k0 hlb1
         have z1 := below_at hB2 k1 hlb1
         have z6 := below_at hB2 k6 hlb1
         have z0a := fun o => (cell_alloc_lt w2 o b 0 hlb2).trans z0
         have z1a := fun o => (cell_alloc_lt w2 o b 1 hlb2).trans z1
         have z6a := fun o => (cell_alloc_lt w2 o b 6 hlb2).trans z6)
      | (go_at_call 64; (with_reducible refine hof2.mono ?_); rintro e w2 ⟨rfl, hB2'⟩
         have hB2 : Below (W1.heap.size + 1) (W1.alloc (.cells #[.int .i64 0, .int .i64 0] 127)) w2 := by have := below_drew hB2'; rwa [show (W1.alloc (.cells #[.int .i64 0, .int .i64 0] 127)).drew.heap.size = W1.heap.size + 1 from World.size_alloc ..] at this
         clear hB2'
         have z0 := below_at hB2 k0a (by omega)
         have z1 := below_at hB2 k1a (by omega)
         have z6 := below_at hB2 k6a (by omega)
         have z0b := (set2_other w2 W1.heap.size b 0 (.int .i64 (ofP s.p s.addr).1) (.int .i64 (ofP s.p s.addr).2.1) hlb1).trans z0
         have z1b := (set2_other w2 W1.heap.size b 1 (.int .i64 (ofP s.p s.addr).1) (.int .i64 (ofP s.p s.addr).2.1) hlb1).trans z1
         have z6b := (set2_other w2 W1.heap.size b 6 (.int .i64 (ofP s.p s.addr).1) (.int .i64 (ofP s.p s.addr).2.1) hlb1).trans z6
         have y0 := below_at hB2 b0a (by omega)
         have y1 := below_at hB2 b1a (by omega)
         have g0 := (hB2.frozen (p := ⟨W1.heap.size, 0, none⟩) (show W1.heap.size < W1.heap.size + 1 by omega)).trans g0a
         have g1 := (hB2.frozen (p := ⟨W1.heap.size, 1, none⟩) (show W1.heap.size < W1.heap.size + 1 by omega)).trans g1a))
  rotate_left
  · obtain ⟨W9, k9, hW9, hk9, A⟩ := asking_two (b := b) (ca := ca) (cc := cc) hB1 Hz1.out qa qb hB2 y0 y1 g0 g1
    rw [← hW9, ← hk9]
    have e2 := below_at A.B c2 hl
    have e3 := below_at A.B c3 hl
    have HA := Lib.hid A
    have hne : w.heap.size + 1 ≠ k9 := by have := A.k2; omega
    have qf0 := A.qb.fr 0 (by omega)
    have qf6 := A.qb.fr 6 (by omega)
    have q0 := A.qb.a0
    have q6 := A.qb.a6
    clear A hW9 hk9 hof1 hof2 k0 k1 k6 k0a k1a k6a b0a b1a g0a g1a hlb1 z0 z1 z6 hB2 hB1 qa qb
    clear z0b z1b z6b y0 y1 g0 g1
    go_wp2_with fail
    go_region
    go_wp2_with fail
    obtain ⟨W, hW, D⟩ : ∃ W, W = ((W9.setCell ⟨w.heap.size + 1, 0, none⟩ (.int .i64 1)).setCell ⟨w.heap.size + 1, 6, none⟩ (.string s.txt)).drew ∧ Asked w W k9 s 1 s.txt := ⟨_, rfl, HA.out.asked (by exact modC (Mod.refl _ _)) (by go_simp) (by go_simp) (fun o h0 h6 => by go_simp) (fun o => by go_simp)⟩
    rw [← hW]
    clear hW e2 e3 q0 q6 qf0 qf6
    have hch1 := Hch.out W.drew (Mod.of_below D.B).drew
    have hsz := D.B.size
    have hlw : b < W.heap.size := by omega
    have hk2 := D.k2
    have hkl := D.kl
    have hnl : w.heap.size + 1 < W.heap.size := by omega
    have hbn : b ≠ w.heap.size + 1 := by omega
    have hkn : k9 ≠ w.heap.size + 1 := by omega
    have hl0 : 0 < l.length := by have := Hil.out; omega
    have k0 : W.drew.cell? ⟨b, 0, none⟩ = some (.int .i64 s.p.epoch) := below_at D.B c0 hl
    have k1 : W.drew.cell? ⟨b, 1, none⟩ = some (.slice ca s.p.chains.length cc) := below_at D.B c1 hl
    have k5 : W.drew.cell? ⟨b, 5, none⟩ = some (.int .i64 i) := below_at D.B c5 hl
    have k6 : W.drew.cell? ⟨b, 6, none⟩ = some (.int .i64 s.addr) := below_at D.B c6 hl
    have kp : W.drew.cell? ⟨k9, 1, none⟩ = some (.int .i64 (ofP s.p s.addr).2.1) := D.p1
    have HD := Lib.hid D
    have i0 : (0 : Int) ≤ i := by omega
    have i1 : (i : Int) < l.length := by have := Hil.out; omega
    clear D c0 c1 c2 c3 c5 c6 hsz hk2 hne HA
    refine wp_region_held_drew (S := fun w' => w'.cell? ⟨b, 0, none⟩ = some (.int .i64 s.p.epoch) ∧ w'.cell? ⟨b, 1, none⟩ = some (.slice ca s.p.chains.length cc) ∧ w'.cell? ⟨b, 5, none⟩ = some (.int .i64 i) ∧ w'.cell? ⟨b, 6, none⟩ = some (.int .i64 s.addr) ∧ w'.cell? ⟨k9, 1, none⟩ = some (.int .i64 (ofP s.p s.addr).2.1)) (by kernel_rfl) ⟨k0, k1, k5, k6, kp⟩ (fun hHeld => ?_)
    refine takeL 0 ?_
    refine takeL 1 ?_
    refine takeL 2 ?_
    refine takeL 3 ?_
    refine takeL 4 ?_
    refine takeL 5 ?_
    refine takeL 6 ?_
    refine takeL 7 ?_
    refine takeL 9 ?_
    refine takeL 10 ?_
    refine takeL 11 ?_
    refine takeL 12 ?_
    refine takeL 15 ?_
    refine takeL 16 ?_
    refine wpAnyH_ready (rs := [8]) (by kernel_rfl) (by simp) ?_
    refine AllReadyH.cons (o := _) rfl (fun K hK => ?_) AllReadyH.nil
    go_simp
    go_at_call 65
    with_reducible refine hch1.mono ?_
    rintro e w2 ⟨a2, n2, rfl, hl2, hB2', -⟩
    have hB2 : Below W.heap.size W w2 := below_drew hB2'
    clear hB2'
    obtain ⟨ab, af, rfl, hab, hal, hac⟩ := hl2.2 hl0
    have x0 := (hac i Hil.out).trans (congrArg (fun z => some (Value.int IntKind.i64 z)) Hgi.out.symm)
    have hab' : W.heap.size ≤ ab := hab
    have han : ab ≠ w.heap.size + 1 := by omega
    have hna : w.heap.size + 1 ≠ ab := fun e => han e.symm
    clear hl2 hac hab hal
    have z0 := below_at hB2 k0 hlw
    have z1 := below_at hB2 k1 hlw
    have z5 := below_at hB2 k5 hlw
    have z6 := below_at hB2 k6 hlw
    have zp := below_at hB2 kp hkl
    have u0 := (set1_other w2 (w.heap.size + 1) b 0 1 (.int .i64 gi) hbn).trans z0
    have u1 := (set1_other w2 (w.heap.size + 1) b 1 1 (.int .i64 gi) hbn).trans z1
    have u5 := (set1_other w2 (w.heap.size + 1) b 5 1 (.int .i64 gi) hbn).trans z5
    have u6 := (set1_other w2 (w.heap.size + 1) b 6 1 (.int .i64 gi) hbn).trans z6
    have up := (set1_other w2 (w.heap.size + 1) k9 1 1 (.int .i64 gi) hkn).trans zp
    have D2 := HD.out.below hB2
    have D2B := Lib.hid D2.B
    obtain ⟨-, -, -, -, ⟨r0, r1, r2, r3, r4, r5, r6, r7, r8, rf⟩, q0, q1, q2, q3, q4, q5, q6, q7, q8, qf⟩ := D2
    have rf0 := rf 0 (by omega)
    have rf1 := rf 1 (by omega)
    have rf2 := rf 2 (by omega)
    have rf3 := rf 3 (by omega)
    have rf4 := rf 4 (by omega)
    have rf5 := rf 5 (by omega)
    have rf6 := rf 6 (by omega)
    have rf7 := rf 7 (by omega)
    have rf8 := rf 8 (by omega)
    have qf1 := qf 1 (by omega)
    have qf3 := qf 3 (by omega)
    clear rf qf
    have ux := (set1_other w2 (w.heap.size + 1) ab (af + i) 1 (.int .i64 gi) han).trans x0
    have v0 := (set1_other _ (w.heap.size + 1) b 0 3 (.int .i64 (ofP s.p s.addr).2.1) hbn).trans u0
    have v1 := (set1_other _ (w.heap.size + 1) b 1 3 (.int .i64 (ofP s.p s.addr).2.1) hbn).trans u1
    have v5 := (set1_other _ (w.heap.size + 1) b 5 3 (.int .i64 (ofP s.p s.addr).2.1) hbn).trans u5
    have v6 := (set1_other _ (w.heap.size + 1) b 6 3 (.int .i64 (ofP s.p s.addr).2.1) hbn).trans u6
    have vp := (set1_other _ (w.heap.size + 1) k9 1 3 (.int .i64 (ofP s.p s.addr).2.1) hkn).trans up
    have vx := (set1_other _ (w.heap.size + 1) ab (af + i) 3 (.int .i64 (ofP s.p s.addr).2.1) han).trans ux
    try go_wp2_with fail
    refine hK.out _ _ ⟨z0, z1, z5, z6, zp⟩ (fun hHeld => ?_)
    clear hK K
    try simp only [Act.put, List.setIfInBounds_toArray, List.set_cons_zero, List.set_cons_succ]
    refine wpAnyH_mono2 (S2 := fun w' => (w'.cell? ⟨b, 0, none⟩ = some (.int .i64 s.p.epoch) ∧ w'.cell? ⟨b, 1, none⟩ = some (.slice ca s.p.chains.length cc) ∧ w'.cell? ⟨b, 5, none⟩ = some (.int .i64 i) ∧ w'.cell? ⟨b, 6, none⟩ = some (.int .i64 s.addr) ∧ w'.cell? ⟨k9, 1, none⟩ = some (.int .i64 (ofP s.p s.addr).2.1)) ∧ w'.cell? ⟨ab, af + i, none⟩ = some (.int .i64 gi)) (fun _ h => h.1) ?_
    replace hHeld := And.intro hHeld x0
    refine takeL 13 ?_
    refine takeL 14 ?_
    refine takeL 17 ?_
    refine wpAnyH_ready (rs := [18]) (by kernel_rfl) (by simp) ?_
    refine AllReadyH.cons (o := _) rfl (fun K hK => ?_) AllReadyH.nil
    go_simp
    try go_wp2_with fail
    refine hK.out _ _ ⟨⟨u0, u1, u5, u6, up⟩, ux⟩ (fun hHeld => ?_)
    clear hK K
    try simp only [Act.put, List.setIfInBounds_toArray, List.set_cons_zero, List.set_cons_succ]
    refine takeL 19 ?_
    refine wpAnyH_ready (rs := [20]) (by kernel_rfl) (by simp) ?_
    refine AllReadyH.cons (o := _) rfl (fun K hK => ?_) AllReadyH.nil
    go_simp
    try go_wp2_with fail
    refine hK.out _ _ ⟨⟨v0, v1, v5, v6, vp⟩, vx⟩ (fun hHeld => ?_)
    clear hK K
    try simp only [Act.put, List.setIfInBounds_toArray, List.set_cons_zero, List.set_cons_succ]
    refine wpAnyH_done (by kernel_rfl) ?_ _
    clear hHeld z0 z1 z5 z6 zp u0 u1 u5 u6 up ux v0 v1 v5 v6 vp vx x0 k0 k1 k5 k6 kp hch1
    go_wp2_with fail
    refine bodyPost_ret (v := .tuple #[qV ⟨1, gi, s.p.epoch, (ofP s.p s.addr).2.1, 0, 0, s.txt, Esch.p0⟩ none 0, .bool true]) (by simp only [results, Tryz.results34, qV, Esch.p0, List.length_nil]; go_simp) rfl ?_
    exact ⟨rfl, by exact belC D2B.out⟩
  · obtain ⟨W9, k9, hW9, hk9, A⟩ := asking_one (b := b) (ca := ca) (cc := cc) (T := 127) hB1 Hz1.out qa qb hB2
    rw [← hW9, ← hk9]
    have e2 := below_at A.B c2 hl
    have e3 := below_at A.B c3 hl
    have HA := Lib.hid A
    have hne : w.heap.size + 1 ≠ k9 := by have := A.k2; omega
    have qf0 := A.qb.fr 0 (by omega)
    have qf6 := A.qb.fr 6 (by omega)
    have q0 := A.qb.a0
    have q6 := A.qb.a6
    clear A hW9 hk9 hof1 hof2 k0 k1 k6 k0a k1a k6a b0a b1a g0a g1a hlb1 z0 z1 z6 hB2 hB1 qa qb
    clear z0a z1a z6a
    go_wp2_with fail
    go_region
    go_wp2_with fail
    obtain ⟨W, hW, D⟩ : ∃ W, W = ((W9.setCell ⟨w.heap.size + 1, 0, none⟩ (.int .i64 1)).setCell ⟨w.heap.size + 1, 6, none⟩ (.string s.txt)).drew ∧ Asked w W k9 s 1 s.txt := ⟨_, rfl, HA.out.asked (by exact modC (Mod.refl _ _)) (by go_simp) (by go_simp) (fun o h0 h6 => by go_simp) (fun o => by go_simp)⟩
    rw [← hW]
    clear hW e2 e3 q0 q6 qf0 qf6
    have hch1 := Hch.out W.drew (Mod.of_below D.B).drew
    have hsz := D.B.size
    have hlw : b < W.heap.size := by omega
    have hk2 := D.k2
    have hkl := D.kl
    have hnl : w.heap.size + 1 < W.heap.size := by omega
    have hbn : b ≠ w.heap.size + 1 := by omega
    have hkn : k9 ≠ w.heap.size + 1 := by omega
    have hl0 : 0 < l.length := by have := Hil.out; omega
    have k0 : W.drew.cell? ⟨b, 0, none⟩ = some (.int .i64 s.p.epoch) := below_at D.B c0 hl
    have k1 : W.drew.cell? ⟨b, 1, none⟩ = some (.slice ca s.p.chains.length cc) := below_at D.B c1 hl
    have k5 : W.drew.cell? ⟨b, 5, none⟩ = some (.int .i64 i) := below_at D.B c5 hl
    have k6 : W.drew.cell? ⟨b, 6, none⟩ = some (.int .i64 s.addr) := below_at D.B c6 hl
    have kp : W.drew.cell? ⟨k9, 1, none⟩ = some (.int .i64 (ofP s.p s.addr).2.1) := D.p1
    have HD := Lib.hid D
    have i0 : (0 : Int) ≤ i := by omega
    have i1 : (i : Int) < l.length := by have := Hil.out; omega
    clear D c0 c1 c2 c3 c5 c6 hsz hk2 hne HA
    refine wp_region_held_drew (S := fun w' => w'.cell? ⟨b, 0, none⟩ = some (.int .i64 s.p.epoch) ∧ w'.cell? ⟨b, 1, none⟩ = some (.slice ca s.p.chains.length cc) ∧ w'.cell? ⟨b, 5, none⟩ = some (.int .i64 i) ∧ w'.cell? ⟨b, 6, none⟩ = some (.int .i64 s.addr) ∧ w'.cell? ⟨k9, 1, none⟩ = some (.int .i64 (ofP s.p s.addr).2.1)) (by kernel_rfl) ⟨k0, k1, k5, k6, kp⟩ (fun hHeld => ?_)
    refine takeL 0 ?_
    refine takeL 1 ?_
    refine takeL 2 ?_
    refine takeL 3 ?_
    refine takeL 4 ?_
    refine takeL 5 ?_
    refine takeL 6 ?_
    refine takeL 7 ?_
    refine takeL 9 ?_
    refine takeL 10 ?_
    refine takeL 11 ?_
    refine takeL 12 ?_
    refine takeL 15 ?_
    refine takeL 16 ?_
    refine wpAnyH_ready (rs := [8]) (by kernel_rfl) (by simp) ?_
    refine AllReadyH.cons (o := _) rfl (fun K hK => ?_) AllReadyH.nil
    go_simp
    go_at_call 65
    with_reducible refine hch1.mono ?_
    rintro e w2 ⟨a2, n2, rfl, hl2, hB2', -⟩
    have hB2 : Below W.heap.size W w2 := below_drew hB2'
    clear hB2'
    obtain ⟨ab, af, rfl, hab, hal, hac⟩ := hl2.2 hl0
    have x0 := (hac i Hil.out).trans (congrArg (fun z => some (Value.int IntKind.i64 z)) Hgi.out.symm)
    have hab' : W.heap.size ≤ ab := hab
    have han : ab ≠ w.heap.size + 1 := by omega
    have hna : w.heap.size + 1 ≠ ab := fun e => han e.symm
    clear hl2 hac hab hal
    have z0 := below_at hB2 k0 hlw
    have z1 := below_at hB2 k1 hlw
    have z5 := below_at hB2 k5 hlw
    have z6 := below_at hB2 k6 hlw
    have zp := below_at hB2 kp hkl
    have u0 := (set1_other w2 (w.heap.size + 1) b 0 1 (.int .i64 gi) hbn).trans z0
    have u1 := (set1_other w2 (w.heap.size + 1) b 1 1 (.int .i64 gi) hbn).trans z1
    have u5 := (set1_other w2 (w.heap.size + 1) b 5 1 (.int .i64 gi) hbn).trans z5
    have u6 := (set1_other w2 (w.heap.size + 1) b 6 1 (.int .i64 gi) hbn).trans z6
    have up := (set1_other w2 (w.heap.size + 1) k9 1 1 (.int .i64 gi) hkn).trans zp
    have D2 := HD.out.below hB2
    have D2B := Lib.hid D2.B
    obtain ⟨-, -, -, -, ⟨r0, r1, r2, r3, r4, r5, r6, r7, r8, rf⟩, q0, q1, q2, q3, q4, q5, q6, q7, q8, qf⟩ := D2
    have rf0 := rf 0 (by omega)
    have rf1 := rf 1 (by omega)
    have rf2 := rf 2 (by omega)
    have rf3 := rf 3 (by omega)
    have rf4 := rf 4 (by omega)
    have rf5 := rf 5 (by omega)
    have rf6 := rf 6 (by omega)
    have rf7 := rf 7 (by omega)
    have rf8 := rf 8 (by omega)
    have qf1 := qf 1 (by omega)
    have qf3 := qf 3 (by omega)
    clear rf qf
    have ux := (set1_other w2 (w.heap.size + 1) ab (af + i) 1 (.int .i64 gi) han).trans x0
    have v0 := (set1_other _ (w.heap.size + 1) b 0 3 (.int .i64 (ofP s.p s.addr).2.1) hbn).trans u0
    have v1 := (set1_other _ (w.heap.size + 1) b 1 3 (.int .i64 (ofP s.p s.addr).2.1) hbn).trans u1
    have v5 := (set1_other _ (w.heap.size + 1) b 5 3 (.int .i64 (ofP s.p s.addr).2.1) hbn).trans u5
    have v6 := (set1_other _ (w.heap.size + 1) b 6 3 (.int .i64 (ofP s.p s.addr).2.1) hbn).trans u6
    have vp := (set1_other _ (w.heap.size + 1) k9 1 3 (.int .i64 (ofP s.p s.addr).2.1) hkn).trans up
    have vx := (set1_other _ (w.heap.size + 1) ab (af + i) 3 (.int .i64 (ofP s.p s.addr).2.1) han).trans ux
    try go_wp2_with fail
    refine hK.out _ _ ⟨z0, z1, z5, z6, zp⟩ (fun hHeld => ?_)
    clear hK K
    try simp only [Act.put, List.setIfInBounds_toArray, List.set_cons_zero, List.set_cons_succ]
    refine wpAnyH_mono2 (S2 := fun w' => (w'.cell? ⟨b, 0, none⟩ = some (.int .i64 s.p.epoch) ∧ w'.cell? ⟨b, 1, none⟩ = some (.slice ca s.p.chains.length cc) ∧ w'.cell? ⟨b, 5, none⟩ = some (.int .i64 i) ∧ w'.cell? ⟨b, 6, none⟩ = some (.int .i64 s.addr) ∧ w'.cell? ⟨k9, 1, none⟩ = some (.int .i64 (ofP s.p s.addr).2.1)) ∧ w'.cell? ⟨ab, af + i, none⟩ = some (.int .i64 gi)) (fun _ h => h.1) ?_
    replace hHeld := And.intro hHeld x0
    refine takeL 13 ?_
    refine takeL 14 ?_
    refine takeL 17 ?_
    refine wpAnyH_ready (rs := [18]) (by kernel_rfl) (by simp) ?_
    refine AllReadyH.cons (o := _) rfl (fun K hK => ?_) AllReadyH.nil
    go_simp
    try go_wp2_with fail
    refine hK.out _ _ ⟨⟨u0, u1, u5, u6, up⟩, ux⟩ (fun hHeld => ?_)
    clear hK K
    try simp only [Act.put, List.setIfInBounds_toArray, List.set_cons_zero, List.set_cons_succ]
    refine takeL 19 ?_
    refine wpAnyH_ready (rs := [20]) (by kernel_rfl) (by simp) ?_
    refine AllReadyH.cons (o := _) rfl (fun K hK => ?_) AllReadyH.nil
    go_simp
    try go_wp2_with fail
    refine hK.out _ _ ⟨⟨v0, v1, v5, v6, vp⟩, vx⟩ (fun hHeld => ?_)
    clear hK K
    try simp only [Act.put, List.setIfInBounds_toArray, List.set_cons_zero, List.set_cons_succ]
    refine wpAnyH_done (by kernel_rfl) ?_ _
    clear hHeld z0 z1 z5 z6 zp u0 u1 u5 u6 up ux v0 v1 v5 v6 vp vx x0 k0 k1 k5 k6 kp hch1
    go_wp2_with fail
    refine bodyPost_ret (v := .tuple #[qV ⟨1, gi, s.p.epoch, (ofP s.p s.addr).2.1, 0, 0, s.txt, Esch.p0⟩ none 0, .bool true]) (by simp only [results, Tryz.results34, qV, Esch.p0, List.length_nil]; go_simp) rfl ?_
    exact ⟨rfl, by exact belC D2B.out⟩
theorem apAsk_any (h : ApAt w b S s) (hk : s.ok) : Calls Tryz.prog 34 #[.pointer (some ⟨b, 0, none⟩)] w (ApAskPost w s.ask) := by
  have h4 := hk.un
  have hcast : ∀ i : Int, 0 ≤ i → i < (chainP s.p s.addr).length → ∃ k : Nat, i = k ∧ k < (chainP s.p s.addr).length ∧ i.toNat = k := fun i h0 h1 => ⟨i.toNat, by omega, by omega, rfl⟩
  rcases hk.wh with h5 | h5 | h5 | h5 | h5 | h5
  · rw [show s.ask = (⟨9, 0, 0, 0, 0, 0, ⟨#[]⟩, Esch.p0⟩, true) by unfold ApS.ask; rw [if_neg (by omega), if_pos (Or.inl h5)]]
    exact apAsk_lay0 h h5
  · rw [show s.ask = (⟨9, 0, 0, 0, 0, 0, ⟨#[]⟩, Esch.p0⟩, true) by unfold ApS.ask; rw [if_neg (by omega), if_pos (Or.inr h5)]]
    exact apAsk_lay1 h h5
  · rw [show s.ask = (⟨6, 0, s.p.epoch, 0, 0, 0, ⟨#[]⟩, Esch.p0⟩, true) by unfold ApS.ask; rw [if_neg (by omega), if_neg (by omega), if_pos h5]]
    exact apAsk_token h h5
  · obtain ⟨-, a1, a2⟩ := h4 (Or.inr (Or.inl h5))
    obtain ⟨k, k1, k2, k3⟩ := hcast s.i a1 a2
    rw [show s.ask = (⟨1, (chainP s.p s.addr).getD k 0, s.p.epoch, (ofP s.p s.addr).2.1, 0, 0, s.txt, Esch.p0⟩, true) by unfold ApS.ask; rw [if_neg (by omega), if_neg (by omega), if_neg (by omega), if_pos h5, k3]]
    exact apAsk_three h h5 k k1 k2
  · obtain ⟨-, a1, a2⟩ := h4 (Or.inr (Or.inr h5))
    obtain ⟨k, k1, k2, k3⟩ := hcast s.i a1 a2
    rw [show s.ask = (⟨3, (chainP s.p s.addr).getD k 0, s.p.epoch, (ofP s.p s.addr).2.1, 0, 0, ⟨#[]⟩, Esch.p0⟩, true) by unfold ApS.ask; rw [if_neg (by omega), if_neg (by omega), if_neg (by omega), if_neg (by omega), k3]]
    exact apAsk_four h h5 k k1 k2
  · rw [show s.ask = (qz, false) by unfold ApS.ask; rw [if_pos h5]]
    exact apAsk_end h h5
end
end Go.Proofs.YtghdhhbpbmhooaaGreat
/- a record that is appended: P and early -/
namespace Go.Proofs.YtghdhhbpbmhooaaGreat
open Go.RowKit Esch

def ApS.early (s : ApS) (c : Int) (heard : Bool) : ApS × Bool :=
  if heard = false then ({ s with perhaps := s.perhaps || decide (s.at = 3) }, true)
  else if c = 47 then (s, true)
  else if c = 45 then (if s.at = 3 ∨ s.at = 4 then { s with was := s.at, «at» := 1 } else s, true)
  else if c = 40 then ({ s with «at» := 0 }, true)
  else (s, false)
def EarlyPost (w : World) (b : Nat) (S : Nat → Prop) (r : ApS × Bool) (e : Ending) (w' : World) : Prop := e = .returned (.bool r.2) ∧ ApAt w' b S r.1 ∧ Mod (· = b) w w'
section
variable {w : World} {b : Nat} {S : Nat → Prop} {s : ApS}
theorem apEarly_any (h : ApAt w b S s) (c : Int) (heard : Bool) : Calls Tryz.prog 66 #[.pointer (some ⟨b, 0, none⟩), .int .i64 c, .bool heard] w (EarlyPost w b S (s.early c heard)) := by
  have c0 := h.c0
  obtain ⟨ca, cc, c1, hcl⟩ := h.c1
  have c2 := h.c2
  have c3 := h.c3
  have c4 := h.c4
  have c5 := h.c5
  have c6 := h.c6
  have c7 := h.c7
  have c8 := h.c8
  have hl := h.lt
  have f3 := h.fr 3 (by omega)
  have f4 := h.fr 4 (by omega)
  have f5 := h.fr 5 (by omega)
  have f6 := h.fr 6 (by omega)
  have f7 := h.fr 7 (by omega)
  have f8 := h.fr 8 (by omega)
  have H := Lib.hid h
  clear h hcl
  unfold ApS.early
  cases heard
  · rw [if_pos rfl]
    obtain ⟨p, txt, at', was, i, addr, err, perhaps⟩ := s
    simp only at c0 c1 c2 c3 c4 c5 c6 c7 c8 ⊢
    cases perhaps
    · by_cases h3 : at' = 3
      · subst h3
        go_enter Tryz.func66, Tryz.ntmps66
        go_wp2_with fail
        refine bodyPost_ret (v := .bool true) (by simp only [results, Tryz.results66]; go_simp) rfl ?_
        exact ⟨rfl, H.out.wrote (by exact modC (Mod.refl _ _)) (by go_simp) (by go_simp) (by go_simp) (by go_simp) (by go_simp) (by go_simp) (by go_simp) (by go_simp) (by go_simp) (fun o => by go_simp), by exact modC (Mod.refl _ _)⟩
      · have h3' : decide (at' = 3) = false := by simpa using h3
        rw [h3']
        have H3 := Lib.hid h3'
        clear h3'
        go_enter Tryz.func66, Tryz.ntmps66
        go_wp2_with fail
        refine bodyPost_ret (v := .bool true) (by simp only [results, Tryz.results66]; go_simp) rfl ?_
        exact ⟨rfl, H.out.wrote (by exact modC (Mod.refl _ _)) (by go_simp) (by go_simp) (by go_simp) (by go_simp) (by go_simp) (by go_simp) (by go_simp) (by go_simp) (by go_simp) (fun o => by go_simp), by exact modC (Mod.refl _ _)⟩
    · go_enter Tryz.func66, Tryz.ntmps66
      go_wp2_with fail
      refine bodyPost_ret (v := .bool true) (by simp only [results, Tryz.results66]; go_simp) rfl ?_
      exact ⟨rfl, H.out.wrote (by exact modC (Mod.refl _ _)) (by go_simp) (by go_simp) (by go_simp) (by go_simp) (by go_simp) (by go_simp) (by go_simp) (by go_simp) (by go_simp) (fun o => by go_simp), by exact modC (Mod.refl _ _)⟩
  · rw [if_neg (by simp)]
    by_cases h47 : c = 47
    · subst h47
      rw [if_pos rfl]
      go_enter Tryz.func66, Tryz.ntmps66
      go_wp2_with fail
      refine bodyPost_ret (v := .bool true) (by simp only [results, Tryz.results66]; go_simp) rfl ?_
      exact ⟨rfl, H.out.wrote (by exact modC (Mod.refl _ _)) (by go_simp) (by go_simp) (by go_simp) (by go_simp) (by go_simp) (by go_simp) (by go_simp) (by go_simp) (by go_simp) (fun o => by go_simp), by exact modC (Mod.refl _ _)⟩
    · rw [if_neg h47]
      by_cases h45 : c = 45
      · subst h45
        rw [if_pos rfl]
        clear h47
        by_cases h3 : s.at = 3
        · rw [if_pos (Or.inl h3), h3]
          rw [h3] at c3
          clear h3
          go_enter Tryz.func66, Tryz.ntmps66
          go_wp2_with fail
          refine bodyPost_ret (v := .bool true) (by simp only [results, Tryz.results66]; go_simp) rfl ?_
          exact ⟨rfl, H.out.wrote (by exact modC (Mod.refl _ _)) (by go_simp) (by go_simp) (by go_simp) (by go_simp) (by go_simp) (by go_simp) (by go_simp) (by go_simp) (by go_simp) (fun o => by go_simp), by exact modC (Mod.refl _ _)⟩
        · by_cases h4 : s.at = 4
          · rw [if_pos (Or.inr h4), h4]
            rw [h4] at c3
            clear h4 h3
            go_enter Tryz.func66, Tryz.ntmps66
            go_wp2_with fail
            refine bodyPost_ret (v := .bool true) (by simp only [results, Tryz.results66]; go_simp) rfl ?_
            exact ⟨rfl, H.out.wrote (by exact modC (Mod.refl _ _)) (by go_simp) (by go_simp) (by go_simp) (by go_simp) (by go_simp) (by go_simp) (by go_simp) (by go_simp) (by go_simp) (fun o => by go_simp), by exact modC (Mod.refl _ _)⟩
          · rw [if_neg (fun hh => hh.elim h3 h4)]
            have e3 : (s.at == 3) = false := by simpa using h3
            have e4 : (s.at == 4) = false := by simpa using h4
            clear h3 h4
            go_enter Tryz.func66, Tryz.ntmps66
            go_wp2_with fail
            refine bodyPost_ret (v := .bool true) (by simp only [results, Tryz.results66]; go_simp) rfl ?_
            exact ⟨rfl, H.out.wrote (by exact modC (Mod.refl _ _)) (by go_simp) (by go_simp) (by go_simp) (by go_simp) (by go_simp) (by go_simp) (by go_simp) (by go_simp) (by go_simp) (fun o => by go_simp), by exact modC (Mod.refl _ _)⟩
      · rw [if_neg h45]
        by_cases h40 : c = 40
        · subst h40
          rw [if_pos rfl]
          clear h47 h45
          go_enter Tryz.func66, Tryz.ntmps66
          go_wp2_with fail
          refine bodyPost_ret (v := .bool true) (by simp only [results, Tryz.results66]; go_simp) rfl ?_
          exact ⟨rfl, H.out.wrote (by exact modC (Mod.refl _ _)) (by go_simp) (by go_simp) (by go_simp) (by go_simp) (by go_simp) (by go_simp) (by go_simp) (by go_simp) (by go_simp) (fun o => by go_simp), by exact modC (Mod.refl _ _)⟩
        · rw [if_neg h40]
          go_enter Tryz.func66, Tryz.ntmps66
          go_wp2_with fail
          refine bodyPost_ret (v := .bool false) (by simp only [results, Tryz.results66]; go_simp) rfl ?_
          exact ⟨rfl, H.out.wrote (by exact modC (Mod.refl _ _)) (by go_simp) (by go_simp) (by go_simp) (by go_simp) (by go_simp) (by go_simp) (by go_simp) (by go_simp) (by go_simp) (fun o => by go_simp), by exact modC (Mod.refl _ _)⟩
end
end Go.Proofs.YtghdhhbpbmhooaaGreat
