import Derived.Test.YtghdhhbpbmhooaaGreatPlace
import Derived.Test.YtghdhhbpbmhooaaGreatPkHand
import Derived.Test.YtghdhhbpbmhooaaGreatPkApp
import Derived.Test.YtghdhhbpbmhooaaGreatTail2
import Derived.Test.YtghdhhbpbmhooaaGreatPkHear
/- an address that is read: plain Lean, and how it lies -/
namespace Go.Proofs.YtghdhhbpbmhooaaGreat
open Go.RowKit Esch

structure FeS where
  p : Proj
  addr : Int
  fill : Bool
  «at» : Int
  was : Int
  i : Int
  kind : Int
  s : ByteArray
  err : Int
structure FeAt (w : World) (b : Nat) (S : Nat → Prop) (s : FeS) : Prop where
  c0 : w.cell? ⟨b, 0, none⟩ = some (.int .i64 s.p.epoch)
  c1 : ∃ a c, w.cell? ⟨b, 1, none⟩ = some (.slice a s.p.chains.length c) ∧ ListsAt (fun k => S k ∧ k ≠ b) w a s.p.chains
  c2 : w.cell? ⟨b, 2, none⟩ = some (.int .i64 s.addr)
  c3 : w.cell? ⟨b, 3, none⟩ = some (.bool s.fill)
  c4 : w.cell? ⟨b, 4, none⟩ = some (.int .i64 s.at)
  c5 : w.cell? ⟨b, 5, none⟩ = some (.int .i64 s.was)
  c6 : w.cell? ⟨b, 6, none⟩ = some (.int .i64 s.i)
  c7 : w.cell? ⟨b, 7, none⟩ = some (.int .i64 s.kind)
  c8 : w.cell? ⟨b, 8, none⟩ = some (.string s.s)
  c9 : w.cell? ⟨b, 9, none⟩ = some (.int .i64 s.err)
  fr : ∀ o, o < 10 → w.frozen? ⟨b, o, none⟩ = false
  sb : S b
  small : Small s.p.chains
theorem FeAt.lt {w : World} {b : Nat} {S : Nat → Prop} {s : FeS} (h : FeAt w b S s) : b < w.heap.size := cell_lt h.c0
theorem FeAt.mod {F S : Nat → Prop} {w w' : World} {b : Nat} {s : FeS} (h : FeAt w b S s) (hM : Mod F w w') (hF : ∀ k, S k → k < w.heap.size → ¬ F k) : FeAt w' b S s := by
  have hl := h.lt
  have hb := hF b h.sb hl
  obtain ⟨a, c, h1, h2⟩ := h.c1
  exact ⟨hM.at h.c0 hb, ⟨a, c, hM.at h1 hb, h2.mod hM (fun k hk hl => hF k hk.1 hl)⟩, hM.at h.c2 hb, hM.at h.c3 hb, hM.at h.c4 hb, hM.at h.c5 hb, hM.at h.c6 hb, hM.at h.c7 hb, hM.at h.c8 hb, hM.at h.c9 hb, fun o ho => (hM.frozen (p := ⟨b, o, none⟩) hl hb).trans (h.fr o ho), h.sb, h.small⟩
theorem FeAt.below {S : Nat → Prop} {w w' : World} {b : Nat} {s : FeS} (h : FeAt w b S s) (hB : Below w.heap.size w w') : FeAt w' b S s := h.mod (F := none') (Mod.of_below hB) (fun _ _ _ => id)
theorem FeAt.sub {S S' : Nat → Prop} {w : World} {b : Nat} {s : FeS} (h : FeAt w b S s) (hS : ∀ k, k < w.heap.size → S k → S' k) : FeAt w b S' s := by
  obtain ⟨a, c, h1, h2⟩ := h.c1
  exact ⟨h.c0, ⟨a, c, h1, h2.sub (fun k hk hs => ⟨hS k hk hs.1, hs.2⟩)⟩, h.c2, h.c3, h.c4, h.c5, h.c6, h.c7, h.c8, h.c9, h.fr, hS b h.lt h.sb, h.small⟩
/-- all but the projection, the address, and whether it fills, has been written -/
theorem FeAt.wrote {w w' : World} {b : Nat} {S : Nat → Prop} {s : FeS} (h : FeAt w b S s) {v4 v5 v6 v7 v9 : Int} {v8 : ByteArray} (hM : Mod (· = b) w w') (c4 : w'.cell? ⟨b, 4, none⟩ = some (.int .i64 v4)) (c5 : w'.cell? ⟨b, 5, none⟩ = some (.int .i64 v5)) (c6 : w'.cell? ⟨b, 6, none⟩ = some (.int .i64 v6))
    (c7 : w'.cell? ⟨b, 7, none⟩ = some (.int .i64 v7)) (c8 : w'.cell? ⟨b, 8, none⟩ = some (.string v8)) (c9 : w'.cell? ⟨b, 9, none⟩ = some (.int .i64 v9)) (c0 : w'.cell? ⟨b, 0, none⟩ = w.cell? ⟨b, 0, none⟩) (c1 : w'.cell? ⟨b, 1, none⟩ = w.cell? ⟨b, 1, none⟩) (c2 : w'.cell? ⟨b, 2, none⟩ = w.cell? ⟨b, 2, none⟩) (c3 : w'.cell? ⟨b, 3, none⟩ = w.cell? ⟨b, 3, none⟩)
    (fr : ∀ o, w'.frozen? ⟨b, o, none⟩ = w.frozen? ⟨b, o, none⟩) : FeAt w' b S ⟨s.p, s.addr, s.fill, v4, v5, v6, v7, v8, v9⟩ := by
  obtain ⟨ca, cc, h1, h2⟩ := h.c1
  exact ⟨c0.trans h.c0, ⟨ca, cc, c1.trans h1, h2.mod hM (fun k hk _ => hk.2)⟩, c2.trans h.c2, c3.trans h.c3, c4, c5, c6, c7, c8, c9, fun o ho => (fr o).trans (h.fr o ho), h.sb, h.small⟩
structure FeS.ok (s : FeS) : Prop where
  wh : s.at = 0 ∨ s.at = 1 ∨ s.at = 2 ∨ s.at = 3 ∨ s.at = 4 ∨ s.at = 5 ∨ s.at = 6
  was : s.at = 1 → s.was = 2 ∨ s.was = 3 ∨ s.was = 4 ∨ s.was = 5
  un : s.at ≠ 6 → (ofP s.p s.addr).2.2 = true
  ix : s.at = 5 ∨ (s.at = 1 ∧ s.was = 5) → 0 ≤ s.i ∧ s.i < (chainP s.p s.addr).length
def FeS.over (s : FeS) (k : Int) (d : ByteArray) : FeS := { s with «at» := 6, kind := k, s := d }
def FeS.fail (s : FeS) (e : Int) : FeS := { s with «at» := 6, kind := 0, s := ⟨#[]⟩, err := e }
def fe0 (q : Proj) (a : Int) (fill : Bool) : FeS := if (ofP q a).2.2 = true then ⟨q, a, fill, 2, 0, 0, 0, ⟨#[]⟩, 0⟩ else ⟨q, a, fill, 6, 0, 0, 0, ⟨#[]⟩, 1⟩
def FeS.ask (s : FeS) : QS × Bool :=
  if s.at = 6 then (qz, false) else if s.at = 0 ∨ s.at = 1 then (⟨9, 0, 0, 0, 0, 0, ⟨#[]⟩, Esch.p0⟩, true)
  else if s.at = 2 then (⟨3, (chainP s.p s.addr).getD ((chainP s.p s.addr).length - 1) 0, s.p.epoch, (ofP s.p s.addr).2.1, 0, 0, ⟨#[]⟩, Esch.p0⟩, true)
  else if s.at = 3 then (⟨3, (chainP s.p s.addr).getD 0 0, s.p.epoch, (ofP s.p s.addr).2.1, 0, 0, ⟨#[]⟩, Esch.p0⟩, true)
  else if s.at = 4 then (⟨2, (chainP s.p s.addr).getD 0 0, s.p.epoch, (ofP s.p s.addr).2.1, 0, 0, ⟨#[]⟩, Esch.p0⟩, true)
  else if s.kind = 1 then (⟨1, (chainP s.p s.addr).getD s.i.toNat 0, s.p.epoch, (ofP s.p s.addr).2.1, 0, 0, s.s, Esch.p0⟩, true)
  else (⟨2, (chainP s.p s.addr).getD s.i.toNat 0, s.p.epoch, (ofP s.p s.addr).2.1, 0, 0, ⟨#[]⟩, Esch.p0⟩, true)
def FeS.early (s : FeS) (c : Int) (heard : Bool) : FeS × Bool :=
  if heard = false then (s, true)
  else if c = 45 ∧ (s.at = 0 ∨ s.at = 1) then (s, true)
  else if c = 45 then ({ s with was := s.at, «at» := 1 }, true)
  else if c = 40 then ({ s with «at» := 0 }, true)
  else if c = 43 ∧ ¬ (s.at = 0 ∨ s.at = 1) then (s.over 3 ⟨#[]⟩, true)
  else (s, false)
def FeS.mended (s : FeS) (n : Nat) : FeS := { s with i := s.i + 1, «at» := if (n : Int) ≤ s.i + 1 then 6 else 5 }
def FeS.none (s : FeS) : FeS := if s.fill then { s with «at» := 4 } else s.over 0 ⟨#[]⟩
/-- where it looks at an answer; n: how long the chain is -/
def FeS.look (s : FeS) (x : AnS) (n : Nat) : FeS :=
  if s.at = 0 then (if x.code = 0 ∧ goodB x.p = true then { s with p := x.p, «at» := 2 } else s)
  else if s.at = 1 then (if x.code = 0 ∧ goodB x.p = true ∧ x.p.epoch ≠ s.p.epoch then { s with p := x.p, «at» := 2 } else { s with «at» := s.was })
  else if s.at = 2 then (if x.code = 0 then s.over 1 x.data else if x.code = 46 then s.over 2 ⟨#[]⟩ else if x.code = 42 then (if n = 1 then s.none else { s with «at» := 3 }) else s.fail x.code)
  else if s.at = 3 then (if x.code = 0 then ({ s with kind := 1, s := x.data, i := 0 } : FeS).mended n else if x.code = 46 then ({ s with kind := 2, s := ⟨#[]⟩, i := 0 } : FeS).mended n else if x.code = 42 then s.none else s.fail x.code)
  else if s.at = 4 then (if x.code = 0 then ({ s with kind := 2, s := ⟨#[]⟩, i := 0 } : FeS).mended n else if x.code = 41 then { s with «at» := 3 } else s.fail x.code)
  else (if x.code = 0 ∨ x.code = 41 then s.mended n else s.fail x.code)
def FeS.hear (s : FeS) (x : AnS) (heard : Bool) : FeS :=
  if s.at = 6 then s else if (s.early x.code heard).2 = true then (s.early x.code heard).1 else s.look x (chainP s.p s.addr).length
end Go.Proofs.YtghdhhbpbmhooaaGreat
/- an address that is read: New, end, fail, Over, P, early -/
namespace Go.Proofs.YtghdhhbpbmhooaaGreat
open Go.RowKit Esch

def FePost (w : World) (b : Nat) (S : Nat → Prop) (s : FeS) (e : Ending) (w' : World) : Prop := e = .returned (.tuple #[]) ∧ FeAt w' b (fun k => S k ∨ (w.heap.size ≤ k ∧ k < w'.heap.size)) s ∧ Mod (· = b) w w'
theorem FeAt.post0 {w w' : World} {b : Nat} {S : Nat → Prop} {s : FeS} (h : FeAt w b S s) (hB : Below w.heap.size w w') {e : Ending} (he : e = .returned (.tuple #[])) : FePost w b S s e w' := ⟨he, (h.below hB).sub (fun _ _ hk => Or.inl hk), Mod.of_below hB⟩
section
variable {w : World} {b : Nat} {S : Nat → Prop} {s : FeS}
def FeEndPost (w : World) (b : Nat) (S : Nat → Prop) (s : FeS) (e : Ending) (w' : World) : Prop := e = .returned (.tuple #[]) ∧ FeAt w' b S s ∧ Mod (· = b) w w'
theorem feEnd_any (h : FeAt w b S s) (k : Int) (d : ByteArray) : Calls Tryz.prog 98 #[.pointer (some ⟨b, 0, none⟩), .int .i64 k, .string d] w (FeEndPost w b S (s.over k d)) := by
  have c0 := h.c0
  obtain ⟨ca, cc, c1, hcl⟩ := h.c1
  have c2 := h.c2
  have c3 := h.c3
  have c4 := h.c4
  have c5 := h.c5
  have c6 := h.c6
  have c7 := h.c7
  have c8 := h.c8
  have c9 := h.c9
  have hl := h.lt
  have f4 := h.fr 4 (by omega)
  have f5 := h.fr 5 (by omega)
  have f6 := h.fr 6 (by omega)
  have f7 := h.fr 7 (by omega)
  have f8 := h.fr 8 (by omega)
  have f9 := h.fr 9 (by omega)
  have H := Lib.hid h
  clear h hcl
  go_enter Tryz.func98, Tryz.ntmps98
  go_wp2_with fail
  go_end0
  refine ⟨rfl, H.out.wrote (by exact modC (Mod.refl _ _)) (by go_simp) (by go_simp) (by go_simp) (by go_simp) (by go_simp) (by go_simp) (by go_simp) (by go_simp) (by go_simp) (by go_simp) (fun o => by go_simp), by exact modC (Mod.refl _ _)⟩
theorem feFail_any (h : FeAt w b S s) (e : Int) : Calls Tryz.prog 96 #[.pointer (some ⟨b, 0, none⟩), .int .i64 e] w (FeEndPost w b S (s.fail e)) := by
  have hen := feEnd_any h 0 ⟨#[]⟩
  clear h
  go_enter Tryz.func96, Tryz.ntmps96
  go_wp2_with fail
  refine hen.mono ?_
  clear hen
  rintro r w1 ⟨rfl, h, hM1⟩
  have c0 := h.c0
  obtain ⟨ca, cc, c1, hcl⟩ := h.c1
  have c2 := h.c2
  have c3 := h.c3
  have c4 := h.c4
  have c5 := h.c5
  have c6 := h.c6
  have c7 := h.c7
  have c8 := h.c8
  have c9 := h.c9
  have hl := h.lt
  have f4 := h.fr 4 (by omega)
  have f5 := h.fr 5 (by omega)
  have f6 := h.fr 6 (by omega)
  have f7 := h.fr 7 (by omega)
  have f8 := h.fr 8 (by omega)
  have f9 := h.fr 9 (by omega)
  have H := Lib.hid h
  have HM1 := Lib.hid hM1
  clear h hcl hM1
  unfold FeS.over at *
  simp only at *
  go_wp2_with fail
  go_end0
  refine ⟨rfl, H.out.wrote (by exact modC (Mod.refl _ _)) (by go_simp) (by go_simp) (by go_simp) (by go_simp) (by go_simp) (by go_simp) (by go_simp) (by go_simp) (by go_simp) (by go_simp) (fun o => by go_simp), HM1.out.trans (by exact modC (Mod.refl _ _))⟩
def FOverV (s : FeS) : Value := if s.at = 6 then .tuple #[.int .i64 s.kind, .string s.s, .int .i64 s.err, .bool true] else .tuple #[.int .i64 0, .string ⟨#[]⟩, .int .i64 0, .bool false]
theorem feOver_any (h : FeAt w b S s) : Calls Tryz.prog 74 #[.pointer (some ⟨b, 0, none⟩)] w fun e w' => e = .returned (FOverV s) ∧ Mod none' w w' := by
  have c0 := h.c0
  obtain ⟨ca, cc, c1, hcl⟩ := h.c1
  have c2 := h.c2
  have c3 := h.c3
  have c4 := h.c4
  have c5 := h.c5
  have c6 := h.c6
  have c7 := h.c7
  have c8 := h.c8
  have c9 := h.c9
  have hl := h.lt
  have f4 := h.fr 4 (by omega)
  have f5 := h.fr 5 (by omega)
  have f6 := h.fr 6 (by omega)
  have f7 := h.fr 7 (by omega)
  have f8 := h.fr 8 (by omega)
  have f9 := h.fr 9 (by omega)
  have H := Lib.hid h
  clear h hcl
  unfold FOverV
  by_cases h2 : s.at = 6
  · rw [if_pos h2]
    rw [h2] at c4
    clear h2
    go_enter Tryz.func74, Tryz.ntmps74
    go_wp2_with fail
    go_quiet (fail)
    go_wp2_with fail
    refine bodyPost_ret (v := .tuple #[.int .i64 s.kind, .string s.s, .int .i64 s.err, .bool true]) (by simp only [results, Tryz.results74]; go_simp) rfl ?_
    exact ⟨rfl, by exact modC (Mod.refl _ _)⟩
  · rw [if_neg h2]
    have e2 : (s.at != 6) = true := by simpa using h2
    clear h2
    go_enter Tryz.func74, Tryz.ntmps74
    go_wp2_with fail
    refine bodyPost_ret (v := .tuple #[.int .i64 0, .string ⟨#[]⟩, .int .i64 0, .bool false]) (by simp only [results, Tryz.results74]; go_simp) rfl ?_
    exact ⟨rfl, Mod.refl _ _⟩
theorem feAsk_nil (w : World) : Calls Tryz.prog 72 #[.pointer none] w fun e w' => e = .returned (.tuple #[qV qz none 0, .bool false]) ∧ Below w.heap.size w w' := by
  go_enter Tryz.func72, Tryz.ntmps72
  go_wp2_with fail
  refine bodyPost_ret (v := .tuple #[qV qz none 0, .bool false]) (by simp only [results, Tryz.results72, qV, Esch.p0, List.length_nil]; go_simp) rfl ?_
  exact ⟨rfl, by exact belC (Below.refl _ _)⟩
def FeEarlyPost (w : World) (b : Nat) (S : Nat → Prop) (r : FeS × Bool) (e : Ending) (w' : World) : Prop := e = .returned (.bool r.2) ∧ FeAt w' b S r.1 ∧ Mod (· = b) w w'
set_option maxHeartbeats 1000000 in
theorem feEarly_any (h : FeAt w b S s) (c : Int) (heard : Bool) : Calls Tryz.prog 97 #[.pointer (some ⟨b, 0, none⟩), .int .i64 c, .bool heard] w (FeEarlyPost w b S (s.early c heard)) := by
  have hov := fun W (hA : FeAt W b S s) => feEnd_any hA 3 ⟨#[]⟩
  have c0 := h.c0
  obtain ⟨ca, cc, c1, hcl⟩ := h.c1
  have c2 := h.c2
  have c3 := h.c3
  have c4 := h.c4
  have c5 := h.c5
  have c6 := h.c6
  have c7 := h.c7
  have c8 := h.c8
  have c9 := h.c9
  have hl := h.lt
  have f4 := h.fr 4 (by omega)
  have f5 := h.fr 5 (by omega)
  have f6 := h.fr 6 (by omega)
  have f7 := h.fr 7 (by omega)
  have f8 := h.fr 8 (by omega)
  have f9 := h.fr 9 (by omega)
  have H := Lib.hid h
  have hen := hov w h
  clear h hcl hov
  unfold FeS.early
  cases heard
  · rw [if_pos rfl]
    by_cases h0 : s.at = 0
    · rw [h0] at c4
      go_enter Tryz.func97, Tryz.ntmps97
      go_wp2_with fail
      refine bodyPost_ret (v := .bool true) (by simp only [results, Tryz.results97]; go_simp) rfl ?_
      exact ⟨rfl, H.out.wrote (by exact modC (Mod.refl _ _)) (by go_simp) (by go_simp) (by go_simp) (by go_simp) (by go_simp) (by go_simp) (by go_simp) (by go_simp) (by go_simp) (by go_simp) (fun o => by go_simp), by exact modC (Mod.refl _ _)⟩
    · have e0 : (s.at == 0) = false := by simpa using h0
      go_enter Tryz.func97, Tryz.ntmps97
      go_wp2_with fail
      refine bodyPost_ret (v := .bool true) (by simp only [results, Tryz.results97]; go_simp) rfl ?_
      exact ⟨rfl, H.out.wrote (by exact modC (Mod.refl _ _)) (by go_simp) (by go_simp) (by go_simp) (by go_simp) (by go_simp) (by go_simp) (by go_simp) (by go_simp) (by go_simp) (by go_simp) (fun o => by go_simp), by exact modC (Mod.refl _ _)⟩
  · rw [if_neg (by simp)]
    by_cases hc5 : c = 45
    · subst hc5
      by_cases ha : s.at = 0 ∨ s.at = 1
      · rw [if_pos ⟨rfl, ha⟩]
        rcases ha with h0 | h0
        · rw [h0] at c4
          go_enter Tryz.func97, Tryz.ntmps97
          go_wp2_with fail
          refine bodyPost_ret (v := .bool true) (by simp only [results, Tryz.results97]; go_simp) rfl ?_
          exact ⟨rfl, H.out, by exact modC (Mod.refl _ _)⟩
        · rw [h0] at c4
          go_enter Tryz.func97, Tryz.ntmps97
          go_wp2_with fail
          refine bodyPost_ret (v := .bool true) (by simp only [results, Tryz.results97]; go_simp) rfl ?_
          exact ⟨rfl, H.out, by exact modC (Mod.refl _ _)⟩
      · rw [if_neg (fun e => ha e.2), if_pos rfl]
        have e0 : (s.at == 0) = false := by simp only [beq_eq_false_iff_ne]; omega
        have e1 : (s.at == 1) = false := by simp only [beq_eq_false_iff_ne]; omega
        clear ha
        go_enter Tryz.func97, Tryz.ntmps97
        go_wp2_with fail
        refine bodyPost_ret (v := .bool true) (by simp only [results, Tryz.results97]; go_simp) rfl ?_
        exact ⟨rfl, H.out.wrote (by exact modC (Mod.refl _ _)) (by go_simp) (by go_simp) (by go_simp) (by go_simp) (by go_simp) (by go_simp) (by go_simp) (by go_simp) (by go_simp) (by go_simp) (fun o => by go_simp), by exact modC (Mod.refl _ _)⟩
    · have e45 : (c == 45) = false := by simpa using hc5
      rw [if_neg (fun e => hc5 e.1), if_neg hc5]
      clear hc5
      by_cases hc0 : c = 40
      · subst hc0
        rw [if_pos rfl]
        by_cases h0 : s.at = 0
        · rw [h0] at c4
          go_enter Tryz.func97, Tryz.ntmps97
          go_wp2_with fail
          refine bodyPost_ret (v := .bool true) (by simp only [results, Tryz.results97]; go_simp) rfl ?_
          exact ⟨rfl, H.out.wrote (by exact modC (Mod.refl _ _)) (by go_simp) (by go_simp) (by go_simp) (by go_simp) (by go_simp) (by go_simp) (by go_simp) (by go_simp) (by go_simp) (by go_simp) (fun o => by go_simp), by exact modC (Mod.refl _ _)⟩
        · have e0 : (s.at == 0) = false := by simpa using h0
          clear h0
          go_enter Tryz.func97, Tryz.ntmps97
          go_wp2_with fail
          refine bodyPost_ret (v := .bool true) (by simp only [results, Tryz.results97]; go_simp) rfl ?_
          exact ⟨rfl, H.out.wrote (by exact modC (Mod.refl _ _)) (by go_simp) (by go_simp) (by go_simp) (by go_simp) (by go_simp) (by go_simp) (by go_simp) (by go_simp) (by go_simp) (by go_simp) (fun o => by go_simp), by exact modC (Mod.refl _ _)⟩
      · have e40 : (c == 40) = false := by simpa using hc0
        rw [if_neg hc0]
        clear hc0
        by_cases ha : s.at = 0 ∨ s.at = 1
        · rw [if_neg (fun e => e.2 ha)]
          rcases ha with h0 | h0
          · rw [h0] at c4
            go_enter Tryz.func97, Tryz.ntmps97
            go_wp2_with fail
            all_goals
              refine bodyPost_ret (v := .bool false) (by simp only [results, Tryz.results97]; go_simp) rfl ?_
              exact ⟨rfl, H.out, by exact modC (Mod.refl _ _)⟩
          · rw [h0] at c4
            go_enter Tryz.func97, Tryz.ntmps97
            go_wp2_with fail
            all_goals
              refine bodyPost_ret (v := .bool false) (by simp only [results, Tryz.results97]; go_simp) rfl ?_
              exact ⟨rfl, H.out, by exact modC (Mod.refl _ _)⟩
        · have e0 : (s.at == 0) = false := by simp only [beq_eq_false_iff_ne]; omega
          have e1 : (s.at == 1) = false := by simp only [beq_eq_false_iff_ne]; omega
          by_cases hc3 : c = 43
          · subst hc3
            rw [if_pos ⟨rfl, ha⟩]
            clear ha
            go_enter Tryz.func97, Tryz.ntmps97
            go_wp2_with fail
            refine hen.mono ?_
            clear hen
            rintro r w1 ⟨rfl, hA1, hM1⟩
            have HA1 := Lib.hid hA1
            have HM1 := Lib.hid hM1
            clear hA1 hM1 c0 c1 c2 c3 c4 c5 c6 c7 c8 c9 f4 f5 f6 f7 f8 f9
            go_wp2_with fail
            refine bodyPost_ret (v := .bool true) (by simp only [results, Tryz.results97]; go_simp) rfl ?_
            exact ⟨rfl, HA1.out, HM1.out⟩
          · have e43 : (c == 43) = false := by simpa using hc3
            rw [if_neg (fun e => hc3 e.1)]
            clear ha hc3
            go_enter Tryz.func97, Tryz.ntmps97
            go_wp2_with fail
            refine bodyPost_ret (v := .bool false) (by simp only [results, Tryz.results97]; go_simp) rfl ?_
            exact ⟨rfl, H.out, by exact modC (Mod.refl _ _)⟩
end
/-- a fetch that is new -/
def FeNewPost (w : World) (q : Proj) (x : Int) (fill : Bool) (e : Ending) (w' : World) : Prop := ∃ b, e = .returned (.pointer (some ⟨b, 0, none⟩)) ∧ FeAt w' b (From w.heap.size) (fe0 q x fill) ∧ Below w.heap.size w w'
theorem fe_box (w : World) (x0 x1 x2 x3 x4 x5 x6 x7 x8 x9 : Value) : ∃ W2, W2 = w.alloc (.cells #[x0, x1, x2, x3, x4, x5, x6, x7, x8, x9] 177) ∧ Below w.heap.size w W2 ∧ W2.heap.size = w.heap.size + 1 ∧ W2.cell? ⟨w.heap.size, 0, none⟩ = some x0 ∧ W2.cell? ⟨w.heap.size, 1, none⟩ = some x1 ∧ W2.cell? ⟨w.heap.size, 2, none⟩ = some x2 ∧ W2.cell? ⟨w.heap.size, 3, none⟩ = some x3 ∧ W2.cell? ⟨w.heap.size, 4, none⟩ = some x4 ∧ W2.cell? ⟨w.heap.size, 5, none⟩ = some x5 ∧ W2.cell? ⟨w.heap.size, 6, none⟩ = some x6 ∧ W2.cell? ⟨w.heap.size, 7, none⟩ = some x7 ∧ W2.cell? ⟨w.heap.size, 8, none⟩ = some x8 ∧ W2.cell? ⟨w.heap.size, 9, none⟩ = some x9 ∧ ∀ o, o < 10 → W2.frozen? ⟨w.heap.size, o, none⟩ = false :=
  ⟨_, rfl, by exact belC (Below.refl _ _), by simp, by go_simp, by go_simp, by go_simp, by go_simp, by go_simp, by go_simp, by go_simp, by go_simp, by go_simp, by go_simp, fun o ho => by go_simp⟩
set_option maxHeartbeats 1000000 in
theorem feNew_any (S : Nat → Prop) (w : World) (q : Proj) (x : Int) (fill : Bool) (a : Option Addr) (c : Nat) (hs : Small q.chains) (hl : ListsAt S w a q.chains) : Calls Tryz.prog 71 #[.agg #[.int .i64 q.epoch, .slice a q.chains.length c], .int .i64 x, .bool fill] w (FeNewPost w q x fill) := by
  obtain ⟨W0, hW0, hB0, hz0, p0, p1⟩ := oneBox w 24 (.int .i64 q.epoch) (.slice a q.chains.length c)
  have hl0 := hl.mod (F := none') (Mod.of_below hB0) (fun _ _ _ => id)
  have hcp := copy_any S W0 q.epoch a c q.chains hs hl0
  have HW0 := Lib.hid hW0
  have HL0 := Lib.hid hl0
  have Hs := Lib.hid hs
  clear hW0 hl hl0 hs
  go_enter Tryz.func71, Tryz.ntmps71
  go_wp2_with fail
  rw [← HW0.out]
  refine hcp.mono ?_
  clear hcp
  rintro e w1 ⟨a1, c1, rfl, hl1, hB1⟩
  have hz1 := hB1.size
  obtain ⟨W2, hW2, hB2, hz2, t0, t1, t2, t3, t4, t5, t6, t7, t8, t9, tf⟩ := fe_box w1 (.int .i64 q.epoch) (.slice a1 q.chains.length c1) (.int .i64 x) (.bool fill) (.int .i64 2) (.int .i64 0) (.int .i64 0) (.int .i64 0) (.string ⟨#[]⟩) (.int .i64 0)
  replace p0 := below_at hB1 p0 (by omega)
  replace p1 := below_at hB1 p1 (by omega)
  have hlw1 : w.heap.size < w1.heap.size := by omega
  have hBw2 : Below W0.heap.size W0 W2 := hB1.trans (hB2.mono hz1)
  have hT2 : FeAt W2 w1.heap.size (From w.heap.size) ⟨q, x, fill, 2, 0, 0, 0, ⟨#[]⟩, 0⟩ := ⟨t0, ⟨a1, c1, t1, ((hl1.sub (T := fun k => W0.heap.size ≤ k ∧ k < w1.heap.size) (fun k hk h => ⟨h, hk⟩)).mod (F := none') (Mod.of_below hB2) (fun _ _ _ => id)).sub (fun k _ hk => ⟨by show w.heap.size ≤ k; omega, by omega⟩)⟩, t2, t3, t4, t5, t6, t7, t8, t9, tf, by show w.heap.size ≤ _; omega, Hs.out⟩
  have hgd := placeOf_any S W2 q a c x (HL0.out.mod (F := none') (Mod.of_below hBw2) (fun _ _ _ => id))
  have HT2 := Lib.hid hT2
  have HW2 := Lib.hid hW2
  have HB0 := Lib.hid (hB0.trans (hBw2.mono (by omega)))
  obtain ⟨r, hr⟩ : ∃ r, r = ofP q x := ⟨_, rfl⟩
  rw [← hr] at hgd
  have Hr := Lib.hid hr
  obtain ⟨r0, r1, rb⟩ := r
  clear hT2 hW2 hB0 hBw2 hB1 hl1 hB2 t0 t1 t2 t3 t4 t5 t6 t7 t8 t9 tf hr
  go_wp2_with fail
  rw [← HW2.out]
  refine hgd.mono ?_
  clear hgd
  rintro e w3 ⟨rfl, hB3⟩
  have hz3 := hB3.size
  have hT3 := HT2.out.below hB3
  have HT3 := Lib.hid hT3
  have HB3 := Lib.hid (HB0.out.trans (hB3.mono (by omega)))
  clear hT3 hB3
  cases rb
  · go_wp2_with fail
    have hen := feFail_any (HT3.out.below (show Below w3.heap.size w3 (w3.alloc (.cells #[.int .i64 r0, .int .i64 r1] 127)) from (Below.refl _ _).alloc (Nat.le_refl _) _)) 1
    refine hen.mono ?_
    clear hen
    rintro e w4 ⟨rfl, hA4, hM4⟩
    have HA4 := Lib.hid hA4
    have HM4 := Lib.hid hM4
    clear hA4 hM4
    go_wp2_with fail
    go_ret
    have hza : w1.heap.size < w3.heap.size := HT3.out.lt
    refine ⟨_, rfl, ?_, (HB3.out.alloc HB3.out.size _).trans (HM4.out.below_at (by simp only [World.size_alloc]; have := HB3.out.size; omega) (fun k hk e => by omega))⟩
    rw [show fe0 q x fill = (⟨q, x, fill, 2, 0, 0, 0, ⟨#[]⟩, 0⟩ : FeS).fail 1 by unfold fe0; rw [← Hr.out, if_neg (by simp)]; rfl]
    exact HA4.out
  · go_wp2_with fail
    go_ret
    refine ⟨_, rfl, ?_, HB3.out.alloc HB3.out.size _⟩
    rw [show fe0 q x fill = (⟨q, x, fill, 2, 0, 0, 0, ⟨#[]⟩, 0⟩ : FeS) by unfold fe0; rw [← Hr.out, if_pos rfl]]
    exact HT3.out.below ((Below.refl _ _).alloc (Nat.le_refl _) _)
end Go.Proofs.YtghdhhbpbmhooaaGreat
/- an address that is read: its question -/
namespace Go.Proofs.YtghdhhbpbmhooaaGreat
open Go.RowKit Esch

theorem ask_box1 (w : World) : ∃ W, W = w.alloc (.cells #[.int .i64 0, .int .i64 0, .int .i64 0, .int .i64 0, .int .i64 0, .int .i64 0, .string ⟨#[]⟩, .int .i64 0, .slice none 0 0] 34) ∧ Below w.heap.size w W ∧ W.heap.size = w.heap.size + 1 ∧ AskBox W w.heap.size 0 :=
  ⟨_, rfl, by exact belC (Below.refl _ _), by simp, ⟨by go_simp, by go_simp, by go_simp, by go_simp, by go_simp, by go_simp, by go_simp, by go_simp, by go_simp, fun o ho => by go_simp⟩⟩
/-- its place is known: in a box -/
structure FePlace (w W : World) (k : Nat) (r1 : Int) : Prop where
  B : Below w.heap.size w W
  p1 : W.cell? ⟨k, 1, none⟩ = some (.int .i64 r1)
  k2 : w.heap.size + 1 ≤ k
  kl : k < W.heap.size
  qa : AskBox W w.heap.size 0
theorem fePlace_one {w W1 w2 : World} {r0 r1 : Int} {T : TypeId} (hB1 : Below w.heap.size w W1) (hz : W1.heap.size = w.heap.size + 1) (qa : AskBox W1 w.heap.size 0) (hB2 : Below W1.heap.size W1 w2) :
    ∃ W k, W = w2.alloc (.cells #[.int .i64 r0, .int .i64 r1] T) ∧ k = w2.heap.size ∧ FePlace w W k r1 := by
  have hz2 := hB2.size
  have hB3 : Below W1.heap.size W1 (w2.alloc (.cells #[.int .i64 r0, .int .i64 r1] T)) := hB2.alloc hz2 _
  exact ⟨_, _, rfl, rfl, hB1.trans (hB3.mono (by omega)), by go_simp, by omega, by simp, qa.below hB3 (by omega)⟩
theorem fePlace_two {w W1 w2 : World} {r0 r1 : Int} {T : TypeId} (hB1 : Below w.heap.size w W1) (hz : W1.heap.size = w.heap.size + 1) (qa : AskBox W1 w.heap.size 0) (hB2 : Below (W1.heap.size + 1) (W1.alloc (.cells #[.int .i64 0, .int .i64 0] T)) w2)
    (_y0 : w2.cell? ⟨W1.heap.size, 0, none⟩ = some (.int .i64 0)) (_y1 : w2.cell? ⟨W1.heap.size, 1, none⟩ = some (.int .i64 0)) (_g0 : w2.frozen? ⟨W1.heap.size, 0, none⟩ = false) (_g1 : w2.frozen? ⟨W1.heap.size, 1, none⟩ = false) :
    ∃ W k, W = (w2.setCell ⟨W1.heap.size, 0, none⟩ (.int .i64 r0)).setCell ⟨W1.heap.size, 1, none⟩ (.int .i64 r1) ∧ k = W1.heap.size ∧ FePlace w W k r1 := by
  have hz2 : W1.heap.size + 1 ≤ w2.heap.size := by have := hB2.size; simpa using this
  have hBA : Below W1.heap.size W1 (W1.alloc (.cells #[.int .i64 0, .int .i64 0] T)) := (Below.refl _ _).alloc (Nat.le_refl _) _
  have hB3 : Below W1.heap.size W1 ((w2.setCell ⟨W1.heap.size, 0, none⟩ (.int .i64 r0)).setCell ⟨W1.heap.size, 1, none⟩ (.int .i64 r1)) := by
    have h1 := hBA.trans (hB2.mono (by omega))
    exact belC h1
  exact ⟨_, _, rfl, rfl, hB1.trans (hB3.mono (by omega)), by clear hz; go_simp, by omega, Nat.lt_of_lt_of_le (show W1.heap.size < w2.heap.size by omega) (Nat.le_of_eq (by simp)), qa.below hB3 (by omega)⟩
/-- its question is in a box -/
structure FeQ (w W : World) (qb : Nat) (q : QS) : Prop where
  B : Below w.heap.size w W
  ne : w.heap.size < qb
  qa : AskBox W w.heap.size 0
  q0 : W.cell? ⟨qb, 0, none⟩ = some (.int .i64 q.kind)
  q1 : W.cell? ⟨qb, 1, none⟩ = some (.int .i64 q.unit)
  q2 : W.cell? ⟨qb, 2, none⟩ = some (.int .i64 q.epoch)
  q3 : W.cell? ⟨qb, 3, none⟩ = some (.int .i64 q.page)
  q4 : W.cell? ⟨qb, 4, none⟩ = some (.int .i64 0)
  q5 : W.cell? ⟨qb, 5, none⟩ = some (.int .i64 0)
  q6 : W.cell? ⟨qb, 6, none⟩ = some (.string q.data)
  q7 : W.cell? ⟨qb, 7, none⟩ = some (.int .i64 0)
  q8 : W.cell? ⟨qb, 8, none⟩ = some (.slice none 0 0)
  fr : ∀ o, o < 9 → W.frozen? ⟨qb, o, none⟩ = false
theorem feQ_new {w w2 : World} {a0 a1 a2 a3 : Int} (hB : Below w.heap.size w w2) (hl : w.heap.size < w2.heap.size) (qa : AskBox w2 w.heap.size 0) :
    ∃ W qb, W = w2.alloc (.cells #[.int .i64 a0, .int .i64 a1, .int .i64 a2, .int .i64 a3, .int .i64 0, .int .i64 0, .string ⟨#[]⟩, .int .i64 0, .slice none 0 0] 34) ∧ qb = w2.heap.size ∧ FeQ w W qb ⟨a0, a1, a2, a3, 0, 0, ⟨#[]⟩, Esch.p0⟩ ∧ Below w2.heap.size w2 W :=
  ⟨_, _, rfl, rfl, ⟨hB.alloc hB.size _, hl, qa.below ((Below.refl _ _).alloc (Nat.le_refl _) _ : Below w2.heap.size w2 _) hl, by go_simp, by go_simp, by go_simp, by go_simp, by go_simp, by go_simp, by go_simp, by go_simp, by go_simp, fun o ho => by go_simp⟩, (Below.refl _ _).alloc (Nat.le_refl _) _⟩
section
variable {w : World} {b : Nat} {S : Nat → Prop} {s : FeS}
def FeAskPost (w : World) (r : QS × Bool) (e : Ending) (w' : World) : Prop := e = .returned (.tuple #[qV r.1 none 0, .bool r.2]) ∧ Below w.heap.size w w'
theorem feAsk_end (h : FeAt w b S s) (h5 : s.at = 6) : Calls Tryz.prog 72 #[.pointer (some ⟨b, 0, none⟩)] w (FeAskPost w (qz, false)) := by
  have c0 := h.c0
  obtain ⟨ca, cc, c1, hcl⟩ := h.c1
  have c2 := h.c2
  have c4 := h.c4
  have c6 := h.c6
  have c7 := h.c7
  have c8 := h.c8
  have hl := h.lt
  rw [h5] at c4
  clear h hcl h5
  go_enter Tryz.func72, Tryz.ntmps72
  go_wp2_with fail
  refine bodyPost_ret (v := .tuple #[qV qz none 0, .bool false]) (by simp only [results, Tryz.results72, qV, Esch.p0, List.length_nil]; go_simp) rfl ?_
  exact ⟨rfl, by exact belC (Below.refl _ _)⟩
theorem feAsk_lay (h : FeAt w b S s) (h5 : s.at = 0 ∨ s.at = 1) : Calls Tryz.prog 72 #[.pointer (some ⟨b, 0, none⟩)] w (FeAskPost w (⟨9, 0, 0, 0, 0, 0, ⟨#[]⟩, Esch.p0⟩, true)) := by
  have c0 := h.c0
  obtain ⟨ca, cc, c1, hcl⟩ := h.c1
  have c2 := h.c2
  have c4 := h.c4
  have c6 := h.c6
  have c7 := h.c7
  have c8 := h.c8
  have hl := h.lt
  rcases h5 with h5 | h5
  · rw [h5] at c4
    clear h hcl h5
    go_enter Tryz.func72, Tryz.ntmps72
    go_wp2_with fail
    refine bodyPost_ret (v := .tuple #[qV ⟨9, 0, 0, 0, 0, 0, ⟨#[]⟩, Esch.p0⟩ none 0, .bool true]) (by simp only [results, Tryz.results72, qV, Esch.p0, List.length_nil]; go_simp) rfl ?_
    exact ⟨rfl, by exact belC (Below.refl _ _)⟩
  · rw [h5] at c4
    clear h hcl h5
    go_enter Tryz.func72, Tryz.ntmps72
    go_wp2_with fail
    refine bodyPost_ret (v := .tuple #[qV ⟨9, 0, 0, 0, 0, 0, ⟨#[]⟩, Esch.p0⟩ none 0, .bool true]) (by simp only [results, Tryz.results72, qV, Esch.p0, List.length_nil]; go_simp) rfl ?_
    exact ⟨rfl, by exact belC (Below.refl _ _)⟩
set_option maxRecDepth 100000 in
set_option maxHeartbeats 2000000 in
theorem feAsk_first (h : FeAt w b S s) (h5 : s.at = 3) (hl1 : 0 < (chainP s.p s.addr).length) : Calls Tryz.prog 72 #[.pointer (some ⟨b, 0, none⟩)] w (FeAskPost w (⟨3, (chainP s.p s.addr).getD 0 0, s.p.epoch, (ofP s.p s.addr).2.1, 0, 0, ⟨#[]⟩, Esch.p0⟩, true)) := by
  have c0 := h.c0
  obtain ⟨ca, cc, c1, hcl⟩ := h.c1
  have c2 := h.c2
  have c4 := h.c4
  have c6 := h.c6
  have c7 := h.c7
  have c8 := h.c8
  have hl := h.lt
  rw [h5] at c4
  have hof := fun W (hM : Mod none' w W) => placeOf_any _ W s.p ca cc s.addr (hcl.mod hM (fun _ _ _ => id))
  have hch := fun W (hM : Mod none' w W) => placeChain_any _ W s.p ca cc s.addr (hcl.mod hM (fun _ _ _ => id))
  obtain ⟨l, hle⟩ : ∃ l, l = chainP s.p s.addr := ⟨_, rfl⟩
  rw [← hle] at hl1 hch ⊢
  try rw [← hle] at h64'
  try rw [← hle] at hk'
  obtain ⟨⟨r0, r1, rb⟩, hr⟩ : ∃ r, r = ofP s.p s.addr := ⟨_, rfl⟩
  rw [← hr] at hof ⊢
  have Hch := Lib.hid hch
  have Hl1 := Lib.hid hl1
  clear h hcl h5 hch hle hr hl1
  go_enter Tryz.func72, Tryz.ntmps72
  go_wp2_with fail
  obtain ⟨W1, hW1, hB1, hz1, qa⟩ := ask_box1 w
  rw [← hW1]
  have Hz1 := Lib.hid hz1
  clear hW1 hz1
  have k0 : W1.drew.cell? ⟨b, 0, none⟩ = some (.int .i64 s.p.epoch) := below_at hB1 c0 hl
  have k1 : W1.drew.cell? ⟨b, 1, none⟩ = some (.slice ca s.p.chains.length cc) := below_at hB1 c1 hl
  have k2 : W1.drew.cell? ⟨b, 2, none⟩ = some (.int .i64 s.addr) := below_at hB1 c2 hl
  have hof1 := hof W1.drew ((Mod.of_below hB1).drew)
  have hlb1 : b < W1.heap.size := by have := hB1.size; omega
  have k0a : (W1.alloc (.cells #[.int .i64 0, .int .i64 0] 127)).drew.cell? ⟨b, 0, none⟩ = some (.int .i64 s.p.epoch) := (cell_alloc_lt W1 _ b 0 hlb1).trans k0
  have k1a : (W1.alloc (.cells #[.int .i64 0, .int .i64 0] 127)).drew.cell? ⟨b, 1, none⟩ = some (.slice ca s.p.chains.length cc) := (cell_alloc_lt W1 _ b 1 hlb1).trans k1
  have k2a : (W1.alloc (.cells #[.int .i64 0, .int .i64 0] 127)).drew.cell? ⟨b, 2, none⟩ = some (.int .i64 s.addr) := (cell_alloc_lt W1 _ b 2 hlb1).trans k2
  have hof2 := hof (W1.alloc (.cells #[.int .i64 0, .int .i64 0] 127)).drew (((Mod.of_below hB1).alloc _).drew)
  have b0a : (W1.alloc (.cells #[.int .i64 0, .int .i64 0] 127)).cell? ⟨W1.heap.size, 0, none⟩ = some (.int .i64 0) := by go_simp
  have b1a : (W1.alloc (.cells #[.int .i64 0, .int .i64 0] 127)).cell? ⟨W1.heap.size, 1, none⟩ = some (.int .i64 0) := by go_simp
  have g0a : (W1.alloc (.cells #[.int .i64 0, .int .i64 0] 127)).frozen? ⟨W1.heap.size, 0, none⟩ = false := by go_simp
  have g1a : (W1.alloc (.cells #[.int .i64 0, .int .i64 0] 127)).frozen? ⟨W1.heap.size, 1, none⟩ = false := by go_simp
  clear hof
  go_region_held3 (fun w' => w'.cell? ⟨b, 0, none⟩ = some (.int .i64 s.p.epoch) ∧ w'.cell? ⟨b, 1, none⟩ = some (.slice ca s.p.chains.length cc) ∧ w'.cell? ⟨b, 2, none⟩ = some (.int .i64 s.addr))
    (first
      | with_reducible exact ⟨k0, k1, k2⟩
      | with_reducible exact ⟨k0a, k1a, k2a⟩
      | with_reducible exact ⟨z0, z1, z2⟩
      | with_reducible exact ⟨z0a _, z1a _, z2a _⟩
      | with_reducible exact ⟨z0b, z1b, z2b⟩
      | fail)
    (first
      | (go_at_call 64; (with_reducible refine hof1.mono ?_); rintro e w2 ⟨rfl, hB2'⟩
         have hB2 : Below W1.heap.size W1 w2 := below_drew hB2'
         clear hB2'
         have hlb2 : b < w2.heap.size := by have := hB2.size; omega
         have z0 := below_at hB2 k0 hlb1
         have z1 := below_at hB2 k1 hlb1
         have z2 := below_at hB2 k2 hlb1
         have z0a := fun o => (cell_alloc_lt w2 o b 0 hlb2).trans z0
         have z1a := fun o => (cell_alloc_lt w2 o b 1 hlb2).trans z1
         have z2a := fun o => (cell_alloc_lt w2 o b 2 hlb2).trans z2)
      | (go_at_call 64; (with_reducible refine hof2.mono ?_); rintro e w2 ⟨rfl, hB2'⟩
         have hB2 : Below (W1.heap.size + 1) (W1.alloc (.cells #[.int .i64 0, .int .i64 0] 127)) w2 := by have := below_drew hB2'; rwa [show (W1.alloc (.cells #[.int .i64 0, .int .i64 0] 127)).drew.heap.size = W1.heap.size + 1 from World.size_alloc ..] at this
         clear hB2'
         have z0 := below_at hB2 k0a (by omega)
         have z1 := below_at hB2 k1a (by omega)
         have z2 := below_at hB2 k2a (by omega)
         have z0b := (set2_other w2 W1.heap.size b 0 (.int .i64 r0) (.int .i64 r1) hlb1).trans z0
         have z1b := (set2_other w2 W1.heap.size b 1 (.int .i64 r0) (.int .i64 r1) hlb1).trans z1
         have z2b := (set2_other w2 W1.heap.size b 2 (.int .i64 r0) (.int .i64 r1) hlb1).trans z2
         have y0 := below_at hB2 b0a (by omega)
         have y1 := below_at hB2 b1a (by omega)
         have g0 := (hB2.frozen (p := ⟨W1.heap.size, 0, none⟩) (show W1.heap.size < W1.heap.size + 1 by omega)).trans g0a
         have g1 := (hB2.frozen (p := ⟨W1.heap.size, 1, none⟩) (show W1.heap.size < W1.heap.size + 1 by omega)).trans g1a))
  all_goals
    first
    | (obtain ⟨W9, k9, hW9, hk9, A⟩ := fePlace_one (r0 := r0) (r1 := r1) (T := 127) hB1 Hz1.out qa hB2
       rw [← hW9, ← hk9]
       clear hW9 hk9 hof1 hof2 k0 k1 k2 k0a k1a k2a b0a b1a g0a g1a hlb1 z0 z1 z2 z0a z1a z2a hlb2 hB2 hB1 qa Hz1)
    | (obtain ⟨W9, k9, hW9, hk9, A⟩ := fePlace_two (r0 := r0) (r1 := r1) (T := 127) hB1 Hz1.out qa hB2 y0 y1 g0 g1
       rw [← hW9, ← hk9]
       clear hW9 hk9 hof1 hof2 k0 k1 k2 k0a k1a k2a b0a b1a g0a g1a hlb1 z0 z1 z2 z0b z1b z2b y0 y1 g0 g1 hB2 hB1 qa Hz1)
  all_goals
    skip
    have hch9 := Hch.out W9.drew ((Mod.of_below A.B).drew)
    have hlb9 : b < W9.heap.size := by have := A.B.size; omega
    have k0 : W9.drew.cell? ⟨b, 0, none⟩ = some (.int .i64 s.p.epoch) := below_at A.B c0 hl
    have k1 : W9.drew.cell? ⟨b, 1, none⟩ = some (.slice ca s.p.chains.length cc) := below_at A.B c1 hl
    have k2 : W9.drew.cell? ⟨b, 2, none⟩ = some (.int .i64 s.addr) := below_at A.B c2 hl
    have HA := Lib.hid A
    clear A Hch
    go_wp2_with fail
    go_region_held3 (fun w' => w'.cell? ⟨b, 0, none⟩ = some (.int .i64 s.p.epoch) ∧ w'.cell? ⟨b, 1, none⟩ = some (.slice ca s.p.chains.length cc) ∧ w'.cell? ⟨b, 2, none⟩ = some (.int .i64 s.addr))
      (first
        | with_reducible exact ⟨k0, k1, k2⟩
        | with_reducible exact ⟨z0, z1, z2⟩
        | fail)
      ((go_at_call 65; (with_reducible refine hch9.mono ?_); rintro e w2 ⟨a2, n2, rfl, hi2, hB2', -⟩
        have hB2 : Below W9.heap.size W9 w2 := below_drew hB2'
        clear hB2'
        have z0 := below_at hB2 k0 hlb9
        have z1 := below_at hB2 k1 hlb9
        have z2 := below_at hB2 k2 hlb9
        have HI2 := Lib.hid hi2
        have HB2 := Lib.hid hB2
        clear hi2 hB2))
    have hz2 := HB2.out.size
    have hk9 := HA.out.kl
    have hk92 := HA.out.k2
    obtain ⟨ab, af, rfl, hab, hal, hac⟩ := HI2.out.2 Hl1.out
    have hab' : W9.heap.size ≤ ab := hab
    have hBw2 : Below w.heap.size w w2 := HA.out.B.trans (HB2.out.mono HA.out.B.size)
    have hqa2 := HA.out.qa.below HB2.out (by have := HA.out.B.size; omega)
    have hl01 : (0 : Int) < l.length := by have := Hl1.out; omega
    have x0 : w2.drew.cell? ⟨ab, af, none⟩ = some (.int .i64 (l.getD 0 0)) := hac 0 Hl1.out
    have y0 : w2.drew.cell? ⟨b, 0, none⟩ = some (.int .i64 s.p.epoch) := z0
    have yp : w2.drew.cell? ⟨k9, 1, none⟩ = some (.int .i64 r1) := below_at HB2.out HA.out.p1 hk9
    obtain ⟨g0v, hg0v⟩ : ∃ g, g = l.getD 0 0 := ⟨_, rfl⟩
    rw [← hg0v] at x0
    try rw [← hg0v]
    have Hg0 := Lib.hid hg0v
    clear hg0v
    have hwl : w.heap.size < w2.heap.size := by omega
    have hbl2 : b < w2.heap.size := by omega
    have hkl2 : k9 < w2.heap.size := by omega
    have HAC := Lib.hid hac
    have Hqa2 := Lib.hid hqa2
    have HBw2 := Lib.hid hBw2
    have Hal := Lib.hid hal
    have xa : ∀ o, (w2.alloc o).drew.cell? ⟨ab, af, none⟩ = some (.int .i64 g0v) := fun o => (cell_alloc_lt w2 o ab af hal).trans x0
    have ya : ∀ o, (w2.alloc o).drew.cell? ⟨b, 0, none⟩ = some (.int .i64 s.p.epoch) := fun o => (cell_alloc_lt w2 o b 0 hbl2).trans y0
    have ypa : ∀ o, (w2.alloc o).drew.cell? ⟨k9, 1, none⟩ = some (.int .i64 r1) := fun o => (cell_alloc_lt w2 o k9 1 hkl2).trans yp
    have hl00 := Hl1.out
    clear hch9 k0 k1 k2 z1 z2 hz2 hk92 hab hac hqa2 hBw2 hab' hk9
    go_wp2_with fail
    go_region_held3 (fun w' => w'.cell? ⟨ab, af, none⟩ = some (.int .i64 g0v) ∧ w'.cell? ⟨b, 0, none⟩ = some (.int .i64 s.p.epoch) ∧ w'.cell? ⟨k9, 1, none⟩ = some (.int .i64 r1))
      (first
        | with_reducible exact ⟨x0, y0, yp⟩
        | with_reducible exact ⟨xa _, ya _, ypa _⟩
        | fail)
      (fail)
    obtain ⟨W, qb, hW, hqb, Q, hBq⟩ := feQ_new (w := w) (w2 := w2) (a0 := 3) (a1 := g0v) (a2 := s.p.epoch) (a3 := r1) HBw2.out hwl Hqa2.out
    have hW' : W = _ := hW
    rw [← hW, ← hqb]
    have d4 := below_at (HBw2.out.trans (hBq.mono HBw2.out.size)) c4 hl
    have d6 := below_at (HBw2.out.trans (hBq.mono HBw2.out.size)) c6 hl
    have d7 := below_at (HBw2.out.trans (hBq.mono HBw2.out.size)) c7 hl
    have d8 := below_at (HBw2.out.trans (hBq.mono HBw2.out.size)) c8 hl
    have HQ := Lib.hid Q
    have HBq := Lib.hid hBq
    have nqa : ab ≠ qb := by have := Hal.out; omega
    have nqa' : qb ≠ ab := fun e => nqa e.symm
    have nqb : b ≠ qb := by omega
    have nqb' : qb ≠ b := fun e => nqb e.symm
    clear hW hW' hqb Q hBq c0 c1 c2 c4 c6 c7 c8 x0 y0 yp z0 xa ya ypa hbl2 hkl2 hlb9 hwl
    obtain ⟨-, qne, ⟨ra0, ra1, ra2, ra3, ra4, ra5, ra6, ra7, ra8, rf⟩, q0, q1, q2, q3, q4, q5, q6, q7, q8, qf⟩ := HQ.out
    have rf0 := rf 0 (by omega)
    have rf1 := rf 1 (by omega)
    have rf2 := rf 2 (by omega)
    have rf3 := rf 3 (by omega)
    have rf4 := rf 4 (by omega)
    have rf5 := rf 5 (by omega)
    have rf6 := rf 6 (by omega)
    have rf7 := rf 7 (by omega)
    have rf8 := rf 8 (by omega)
    have qf0 := qf 0 (by omega)
    have qf1 := qf 1 (by omega)
    have qf2 := qf 2 (by omega)
    have qf3 := qf 3 (by omega)
    have qf4 := qf 4 (by omega)
    have qf5 := qf 5 (by omega)
    have qf6 := qf 6 (by omega)
    have qf7 := qf 7 (by omega)
    have qf8 := qf 8 (by omega)
    clear rf qf
    simp only at q0 q1 q2 q3 q6
    go_wp2_with fail
    refine bodyPost_ret (v := .tuple #[qV ⟨3, g0v, s.p.epoch, r1, 0, 0, ⟨#[]⟩, Esch.p0⟩ none 0, .bool true]) (by simp only [results, Tryz.results72, qV, Esch.p0, List.length_nil]; go_simp) rfl ?_
    refine ⟨?_, by exact belC HQ.out.B⟩
    first
    | rfl
    | (rw [← Hg0.out])
    | (rw [← Hgl.out])
    | (have hgg : l.getD (ll + 1 - 1) 0 = glv := by rw [Hgl.out, Hln.out]
       rw [← hgg]
       rfl)
set_option maxRecDepth 100000 in
set_option maxHeartbeats 2000000 in
theorem feAsk_junk (h : FeAt w b S s) (h5 : s.at = 4) (hl1 : 0 < (chainP s.p s.addr).length) : Calls Tryz.prog 72 #[.pointer (some ⟨b, 0, none⟩)] w (FeAskPost w (⟨2, (chainP s.p s.addr).getD 0 0, s.p.epoch, (ofP s.p s.addr).2.1, 0, 0, ⟨#[]⟩, Esch.p0⟩, true)) := by
  have c0 := h.c0
  obtain ⟨ca, cc, c1, hcl⟩ := h.c1
  have c2 := h.c2
  have c4 := h.c4
  have c6 := h.c6
  have c7 := h.c7
  have c8 := h.c8
  have hl := h.lt
  rw [h5] at c4
  have hof := fun W (hM : Mod none' w W) => placeOf_any _ W s.p ca cc s.addr (hcl.mod hM (fun _ _ _ => id))
  have hch := fun W (hM : Mod none' w W) => placeChain_any _ W s.p ca cc s.addr (hcl.mod hM (fun _ _ _ => id))
  obtain ⟨l, hle⟩ : ∃ l, l = chainP s.p s.addr := ⟨_, rfl⟩
  rw [← hle] at hl1 hch ⊢
  try rw [← hle] at h64'
  try rw [← hle] at hk'
  obtain ⟨⟨r0, r1, rb⟩, hr⟩ : ∃ r, r = ofP s.p s.addr := ⟨_, rfl⟩
  rw [← hr] at hof ⊢
  have Hch := Lib.hid hch
  have Hl1 := Lib.hid hl1
  clear h hcl h5 hch hle hr hl1
  go_enter Tryz.func72, Tryz.ntmps72
  go_wp2_with fail
  obtain ⟨W1, hW1, hB1, hz1, qa⟩ := ask_box1 w
  rw [← hW1]
  have Hz1 := Lib.hid hz1
  clear hW1 hz1
  have k0 : W1.drew.cell? ⟨b, 0, none⟩ = some (.int .i64 s.p.epoch) := below_at hB1 c0 hl
  have k1 : W1.drew.cell? ⟨b, 1, none⟩ = some (.slice ca s.p.chains.length cc) := below_at hB1 c1 hl
  have k2 : W1.drew.cell? ⟨b, 2, none⟩ = some (.int .i64 s.addr) := below_at hB1 c2 hl
  have hof1 := hof W1.drew ((Mod.of_below hB1).drew)
  have hlb1 : b < W1.heap.size := by have := hB1.size; omega
  have k0a : (W1.alloc (.cells #[.int .i64 0, .int .i64 0] 127)).drew.cell? ⟨b, 0, none⟩ = some (.int .i64 s.p.epoch) := (cell_alloc_lt W1 _ b 0 hlb1).trans k0
  have k1a : (W1.alloc (.cells #[.int .i64 0, .int .i64 0] 127)).drew.cell? ⟨b, 1, none⟩ = some (.slice ca s.p.chains.length cc) := (cell_alloc_lt W1 _ b 1 hlb1).trans k1
  have k2a : (W1.alloc (.cells #[.int .i64 0, .int .i64 0] 127)).drew.cell? ⟨b, 2, none⟩ = some (.int .i64 s.addr) := (cell_alloc_lt W1 _ b 2 hlb1).trans k2
  have hof2 := hof (W1.alloc (.cells #[.int .i64 0, .int .i64 0] 127)).drew (((Mod.of_below hB1).alloc _).drew)
  have b0a : (W1.alloc (.cells #[.int .i64 0, .int .i64 0] 127)).cell? ⟨W1.heap.size, 0, none⟩ = some (.int .i64 0) := by go_simp
  have b1a : (W1.alloc (.cells #[.int .i64 0, .int .i64 0] 127)).cell? ⟨W1.heap.size, 1, none⟩ = some (.int .i64 0) := by go_simp
  have g0a : (W1.alloc (.cells #[.int .i64 0, .int .i64 0] 127)).frozen? ⟨W1.heap.size, 0, none⟩ = false := by go_simp
  have g1a : (W1.alloc (.cells #[.int .i64 0, .int .i64 0] 127)).frozen? ⟨W1.heap.size, 1, none⟩ = false := by go_simp
  clear hof
  go_region_held3 (fun w' => w'.cell? ⟨b, 0, none⟩ = some (.int .i64 s.p.epoch) ∧ w'.cell? ⟨b, 1, none⟩ = some (.slice ca s.p.chains.length cc) ∧ w'.cell? ⟨b, 2, none⟩ = some (.int .i64 s.addr))
    (first
      | with_reducible exact ⟨k0, k1, k2⟩
      | with_reducible exact ⟨k0a, k1a, k2a⟩
      | with_reducible exact ⟨z0, z1, z2⟩
      | with_reducible exact ⟨z0a _, z1a _, z2a _⟩
      | with_reducible exact ⟨z0b, z1b, z2b⟩
      | fail)
    (first
      | (go_at_call 64; (with_reducible refine hof1.mono ?_); rintro e w2 ⟨rfl, hB2'⟩
         have hB2 : Below W1.heap.size W1 w2 := below_drew hB2'
         clear hB2'
         have hlb2 : b < w2.heap.size := by have := hB2.size; omega
         have z0 := below_at hB2 k0 hlb1
         have z1 := below_at hB2 k1 hlb1
         have z2 := below_at hB2 k2 hlb1
         have z0a := fun o => (cell_alloc_lt w2 o b 0 hlb2).trans z0
         have z1a := fun o => (cell_alloc_lt w2 o b 1 hlb2).trans z1
         have z2a := fun o => (cell_alloc_lt w2 o b 2 hlb2).trans z2)
      | (go_at_call 64; (with_reducible refine hof2.mono ?_); rintro e w2 ⟨rfl, hB2'⟩
         have hB2 : Below (W1.heap.size + 1) (W1.alloc (.cells #[.int .i64 0, .int .i64 0] 127)) w2 := by have := below_drew hB2'; rwa [show (W1.alloc (.cells #[.int .i64 0, .int .i64 0] 127)).drew.heap.size = W1.heap.size + 1 from World.size_alloc ..] at this
         clear hB2'
         have z0 := below_at hB2 k0a (by omega)
         have z1 := below_at hB2 k1a (by omega)
         have z2 := below_at hB2 k2a (by omega)
         have z0b := (set2_other w2 W1.heap.size b 0 (.int .i64 r0) (.int .i64 r1) hlb1).trans z0
         have z1b := (set2_other w2 W1.heap.size b 1 (.int .i64 r0) (.int .i64 r1) hlb1).trans z1
         have z2b := (set2_other w2 W1.heap.size b 2 (.int .i64 r0) (.int .i64 r1) hlb1).trans z2
         have y0 := below_at hB2 b0a (by omega)
         have y1 := below_at hB2 b1a (by omega)
         have g0 := (hB2.frozen (p := ⟨W1.heap.size, 0, none⟩) (show W1.heap.size < W1.heap.size + 1 by omega)).trans g0a
         have g1 := (hB2.frozen (p := ⟨W1.heap.size, 1, none⟩) (show W1.heap.size < W1.heap.size + 1 by omega)).trans g1a))
  all_goals
    first
    | (obtain ⟨W9, k9, hW9, hk9, A⟩ := fePlace_one (r0 := r0) (r1 := r1) (T := 127) hB1 Hz1.out qa hB2
       rw [← hW9, ← hk9]
       clear hW9 hk9 hof1 hof2 k0 k1 k2 k0a k1a k2a b0a b1a g0a g1a hlb1 z0 z1 z2 z0a z1a z2a hlb2 hB2 hB1 qa Hz1)
    | (obtain ⟨W9, k9, hW9, hk9, A⟩ := fePlace_two (r0 := r0) (r1 := r1) (T := 127) hB1 Hz1.out qa hB2 y0 y1 g0 g1
       rw [← hW9, ← hk9]
       clear hW9 hk9 hof1 hof2 k0 k1 k2 k0a k1a k2a b0a b1a g0a g1a hlb1 z0 z1 z2 z0b z1b z2b y0 y1 g0 g1 hB2 hB1 qa Hz1)
  all_goals
    skip
    have hch9 := Hch.out W9.drew ((Mod.of_below A.B).drew)
    have hlb9 : b < W9.heap.size := by have := A.B.size; omega
    have k0 : W9.drew.cell? ⟨b, 0, none⟩ = some (.int .i64 s.p.epoch) := below_at A.B c0 hl
    have k1 : W9.drew.cell? ⟨b, 1, none⟩ = some (.slice ca s.p.chains.length cc) := below_at A.B c1 hl
    have k2 : W9.drew.cell? ⟨b, 2, none⟩ = some (.int .i64 s.addr) := below_at A.B c2 hl
    have HA := Lib.hid A
    clear A Hch
    go_wp2_with fail
    go_region_held3 (fun w' => w'.cell? ⟨b, 0, none⟩ = some (.int .i64 s.p.epoch) ∧ w'.cell? ⟨b, 1, none⟩ = some (.slice ca s.p.chains.length cc) ∧ w'.cell? ⟨b, 2, none⟩ = some (.int .i64 s.addr))
      (first
        | with_reducible exact ⟨k0, k1, k2⟩
        | with_reducible exact ⟨z0, z1, z2⟩
        | fail)
      ((go_at_call 65; (with_reducible refine hch9.mono ?_); rintro e w2 ⟨a2, n2, rfl, hi2, hB2', -⟩
        have hB2 : Below W9.heap.size W9 w2 := below_drew hB2'
        clear hB2'
        have z0 := below_at hB2 k0 hlb9
        have z1 := below_at hB2 k1 hlb9
        have z2 := below_at hB2 k2 hlb9
        have HI2 := Lib.hid hi2
        have HB2 := Lib.hid hB2
        clear hi2 hB2))
    have hz2 := HB2.out.size
    have hk9 := HA.out.kl
    have hk92 := HA.out.k2
    obtain ⟨ab, af, rfl, hab, hal, hac⟩ := HI2.out.2 Hl1.out
    have hab' : W9.heap.size ≤ ab := hab
    have hBw2 : Below w.heap.size w w2 := HA.out.B.trans (HB2.out.mono HA.out.B.size)
    have hqa2 := HA.out.qa.below HB2.out (by have := HA.out.B.size; omega)
    have hl01 : (0 : Int) < l.length := by have := Hl1.out; omega
    have x0 : w2.drew.cell? ⟨ab, af, none⟩ = some (.int .i64 (l.getD 0 0)) := hac 0 Hl1.out
    have y0 : w2.drew.cell? ⟨b, 0, none⟩ = some (.int .i64 s.p.epoch) := z0
    have yp : w2.drew.cell? ⟨k9, 1, none⟩ = some (.int .i64 r1) := below_at HB2.out HA.out.p1 hk9
    obtain ⟨g0v, hg0v⟩ : ∃ g, g = l.getD 0 0 := ⟨_, rfl⟩
    rw [← hg0v] at x0
    try rw [← hg0v]
    have Hg0 := Lib.hid hg0v
    clear hg0v
    have hwl : w.heap.size < w2.heap.size := by omega
    have hbl2 : b < w2.heap.size := by omega
    have hkl2 : k9 < w2.heap.size := by omega
    have HAC := Lib.hid hac
    have Hqa2 := Lib.hid hqa2
    have HBw2 := Lib.hid hBw2
    have Hal := Lib.hid hal
    have xa : ∀ o, (w2.alloc o).drew.cell? ⟨ab, af, none⟩ = some (.int .i64 g0v) := fun o => (cell_alloc_lt w2 o ab af hal).trans x0
    have ya : ∀ o, (w2.alloc o).drew.cell? ⟨b, 0, none⟩ = some (.int .i64 s.p.epoch) := fun o => (cell_alloc_lt w2 o b 0 hbl2).trans y0
    have ypa : ∀ o, (w2.alloc o).drew.cell? ⟨k9, 1, none⟩ = some (.int .i64 r1) := fun o => (cell_alloc_lt w2 o k9 1 hkl2).trans yp
    have hl00 := Hl1.out
    clear hch9 k0 k1 k2 z1 z2 hz2 hk92 hab hac hqa2 hBw2 hab' hk9
    go_wp2_with fail
    go_region_held3 (fun w' => w'.cell? ⟨ab, af, none⟩ = some (.int .i64 g0v) ∧ w'.cell? ⟨b, 0, none⟩ = some (.int .i64 s.p.epoch) ∧ w'.cell? ⟨k9, 1, none⟩ = some (.int .i64 r1))
      (first
        | with_reducible exact ⟨x0, y0, yp⟩
        | with_reducible exact ⟨xa _, ya _, ypa _⟩
        | fail)
      (fail)
    obtain ⟨W, qb, hW, hqb, Q, hBq⟩ := feQ_new (w := w) (w2 := w2) (a0 := 3) (a1 := g0v) (a2 := s.p.epoch) (a3 := r1) HBw2.out hwl Hqa2.out
    have hW' : W = _ := hW
    rw [← hW, ← hqb]
    have d4 := below_at (HBw2.out.trans (hBq.mono HBw2.out.size)) c4 hl
    have d6 := below_at (HBw2.out.trans (hBq.mono HBw2.out.size)) c6 hl
    have d7 := below_at (HBw2.out.trans (hBq.mono HBw2.out.size)) c7 hl
    have d8 := below_at (HBw2.out.trans (hBq.mono HBw2.out.size)) c8 hl
    have HQ := Lib.hid Q
    have HBq := Lib.hid hBq
    have nqa : ab ≠ qb := by have := Hal.out; omega
    have nqa' : qb ≠ ab := fun e => nqa e.symm
    have nqb : b ≠ qb := by omega
    have nqb' : qb ≠ b := fun e => nqb e.symm
    clear hW hW' hqb Q hBq c0 c1 c2 c4 c6 c7 c8 x0 y0 yp z0 xa ya ypa hbl2 hkl2 hlb9 hwl
    obtain ⟨-, qne, ⟨ra0, ra1, ra2, ra3, ra4, ra5, ra6, ra7, ra8, rf⟩, q0, q1, q2, q3, q4, q5, q6, q7, q8, qf⟩ := HQ.out
    have rf0 := rf 0 (by omega)
    have rf1 := rf 1 (by omega)
    have rf2 := rf 2 (by omega)
    have rf3 := rf 3 (by omega)
    have rf4 := rf 4 (by omega)
    have rf5 := rf 5 (by omega)
    have rf6 := rf 6 (by omega)
    have rf7 := rf 7 (by omega)
    have rf8 := rf 8 (by omega)
    have qf0 := qf 0 (by omega)
    have qf1 := qf 1 (by omega)
    have qf2 := qf 2 (by omega)
    have qf3 := qf 3 (by omega)
    have qf4 := qf 4 (by omega)
    have qf5 := qf 5 (by omega)
    have qf6 := qf 6 (by omega)
    have qf7 := qf 7 (by omega)
    have qf8 := qf 8 (by omega)
    clear rf qf
    simp only at q0 q1 q2 q3 q6
    go_wp2_with fail
    refine bodyPost_ret (v := .tuple #[qV ⟨2, g0v, s.p.epoch, r1, 0, 0, ⟨#[]⟩, Esch.p0⟩ none 0, .bool true]) (by simp only [results, Tryz.results72, qV, Esch.p0, List.length_nil]; go_simp) rfl ?_
    refine ⟨?_, by exact belC HQ.out.B⟩
    first
    | rfl
    | (rw [← Hg0.out])
    | (rw [← Hgl.out])
    | (have hgg : l.getD (ll + 1 - 1) 0 = glv := by rw [Hgl.out, Hln.out]
       rw [← hgg]
       rfl)
set_option maxRecDepth 100000 in
set_option maxHeartbeats 2000000 in
theorem feAsk_last (h : FeAt w b S s) (h5 : s.at = 2) (hl1 : 0 < (chainP s.p s.addr).length) (h64 : (chainP s.p s.addr).length ≤ 64) : Calls Tryz.prog 72 #[.pointer (some ⟨b, 0, none⟩)] w (FeAskPost w (⟨3, (chainP s.p s.addr).getD ((chainP s.p s.addr).length - 1) 0, s.p.epoch, (ofP s.p s.addr).2.1, 0, 0, ⟨#[]⟩, Esch.p0⟩, true)) := by
  have h64' := h64
  have c0 := h.c0
  obtain ⟨ca, cc, c1, hcl⟩ := h.c1
  have c2 := h.c2
  have c4 := h.c4
  have c6 := h.c6
  have c7 := h.c7
  have c8 := h.c8
  have hl := h.lt
  rw [h5] at c4
  have hof := fun W (hM : Mod none' w W) => placeOf_any _ W s.p ca cc s.addr (hcl.mod hM (fun _ _ _ => id))
  have hch := fun W (hM : Mod none' w W) => placeChain_any _ W s.p ca cc s.addr (hcl.mod hM (fun _ _ _ => id))
  obtain ⟨l, hle⟩ : ∃ l, l = chainP s.p s.addr := ⟨_, rfl⟩
  rw [← hle] at hl1 hch ⊢
  try rw [← hle] at h64'
  try rw [← hle] at hk'
  obtain ⟨⟨r0, r1, rb⟩, hr⟩ : ∃ r, r = ofP s.p s.addr := ⟨_, rfl⟩
  rw [← hr] at hof ⊢
  have Hch := Lib.hid hch
  have Hl1 := Lib.hid hl1
  clear h hcl h5 hch hle hr hl1
  go_enter Tryz.func72, Tryz.ntmps72
  go_wp2_with fail
  obtain ⟨W1, hW1, hB1, hz1, qa⟩ := ask_box1 w
  rw [← hW1]
  have Hz1 := Lib.hid hz1
  clear hW1 hz1
  have k0 : W1.drew.cell? ⟨b, 0, none⟩ = some (.int .i64 s.p.epoch) := below_at hB1 c0 hl
  have k1 : W1.drew.cell? ⟨b, 1, none⟩ = some (.slice ca s.p.chains.length cc) := below_at hB1 c1 hl
  have k2 : W1.drew.cell? ⟨b, 2, none⟩ = some (.int .i64 s.addr) := below_at hB1 c2 hl
  have hof1 := hof W1.drew ((Mod.of_below hB1).drew)
  have hlb1 : b < W1.heap.size := by have := hB1.size; omega
  have k0a : (W1.alloc (.cells #[.int .i64 0, .int .i64 0] 127)).drew.cell? ⟨b, 0, none⟩ = some (.int .i64 s.p.epoch) := (cell_alloc_lt W1 _ b 0 hlb1).trans k0
  have k1a : (W1.alloc (.cells #[.int .i64 0, .int .i64 0] 127)).drew.cell? ⟨b, 1, none⟩ = some (.slice ca s.p.chains.length cc) := (cell_alloc_lt W1 _ b 1 hlb1).trans k1
  have k2a : (W1.alloc (.cells #[.int .i64 0, .int .i64 0] 127)).drew.cell? ⟨b, 2, none⟩ = some (.int .i64 s.addr) := (cell_alloc_lt W1 _ b 2 hlb1).trans k2
  have hof2 := hof (W1.alloc (.cells #[.int .i64 0, .int .i64 0] 127)).drew (((Mod.of_below hB1).alloc _).drew)
  have b0a : (W1.alloc (.cells #[.int .i64 0, .int .i64 0] 127)).cell? ⟨W1.heap.size, 0, none⟩ = some (.int .i64 0) := by go_simp
  have b1a : (W1.alloc (.cells #[.int .i64 0, .int .i64 0] 127)).cell? ⟨W1.heap.size, 1, none⟩ = some (.int .i64 0) := by go_simp
  have g0a : (W1.alloc (.cells #[.int .i64 0, .int .i64 0] 127)).frozen? ⟨W1.heap.size, 0, none⟩ = false := by go_simp
  have g1a : (W1.alloc (.cells #[.int .i64 0, .int .i64 0] 127)).frozen? ⟨W1.heap.size, 1, none⟩ = false := by go_simp
  clear hof
  go_region_held3 (fun w' => w'.cell? ⟨b, 0, none⟩ = some (.int .i64 s.p.epoch) ∧ w'.cell? ⟨b, 1, none⟩ = some (.slice ca s.p.chains.length cc) ∧ w'.cell? ⟨b, 2, none⟩ = some (.int .i64 s.addr))
    (first
      | with_reducible exact ⟨k0, k1, k2⟩
      | with_reducible exact ⟨k0a, k1a, k2a⟩
      | with_reducible exact ⟨z0, z1, z2⟩
      | with_reducible exact ⟨z0a _, z1a _, z2a _⟩
      | with_reducible exact ⟨z0b, z1b, z2b⟩
      | fail)
    (first
      | (go_at_call 64; (with_reducible refine hof1.mono ?_); rintro e w2 ⟨rfl, hB2'⟩
         have hB2 : Below W1.heap.size W1 w2 := below_drew hB2'
         clear hB2'
         have hlb2 : b < w2.heap.size := by have := hB2.size; omega
         have z0 := below_at hB2 k0 hlb1
         have z1 := below_at hB2 k1 hlb1
         have z2 := below_at hB2 k2 hlb1
         have z0a := fun o => (cell_alloc_lt w2 o b 0 hlb2).trans z0
         have z1a := fun o => (cell_alloc_lt w2 o b 1 hlb2).trans z1
         have z2a := fun o => (cell_alloc_lt w2 o b 2 hlb2).trans z2)
      | (go_at_call 64; (with_reducible refine hof2.mono ?_); rintro e w2 ⟨rfl, hB2'⟩
         have hB2 : Below (W1.heap.size + 1) (W1.alloc (.cells #[.int .i64 0, .int .i64 0] 127)) w2 := by have := below_drew hB2'; rwa [show (W1.alloc (.cells #[.int .i64 0, .int .i64 0] 127)).drew.heap.size = W1.heap.size + 1 from World.size_alloc ..] at this
         clear hB2'
         have z0 := below_at hB2 k0a (by omega)
         have z1 := below_at hB2 k1a (by omega)
         have z2 := below_at hB2 k2a (by omega)
         have z0b := (set2_other w2 W1.heap.size b 0 (.int .i64 r0) (.int .i64 r1) hlb1).trans z0
         have z1b := (set2_other w2 W1.heap.size b 1 (.int .i64 r0) (.int .i64 r1) hlb1).trans z1
         have z2b := (set2_other w2 W1.heap.size b 2 (.int .i64 r0) (.int .i64 r1) hlb1).trans z2
         have y0 := below_at hB2 b0a (by omega)
         have y1 := below_at hB2 b1a (by omega)
         have g0 := (hB2.frozen (p := ⟨W1.heap.size, 0, none⟩) (show W1.heap.size < W1.heap.size + 1 by omega)).trans g0a
         have g1 := (hB2.frozen (p := ⟨W1.heap.size, 1, none⟩) (show W1.heap.size < W1.heap.size + 1 by omega)).trans g1a))
  all_goals
    first
    | (obtain ⟨W9, k9, hW9, hk9, A⟩ := fePlace_one (r0 := r0) (r1 := r1) (T := 127) hB1 Hz1.out qa hB2
       rw [← hW9, ← hk9]
       clear hW9 hk9 hof1 hof2 k0 k1 k2 k0a k1a k2a b0a b1a g0a g1a hlb1 z0 z1 z2 z0a z1a z2a hlb2 hB2 hB1 qa Hz1)
    | (obtain ⟨W9, k9, hW9, hk9, A⟩ := fePlace_two (r0 := r0) (r1 := r1) (T := 127) hB1 Hz1.out qa hB2 y0 y1 g0 g1
       rw [← hW9, ← hk9]
       clear hW9 hk9 hof1 hof2 k0 k1 k2 k0a k1a k2a b0a b1a g0a g1a hlb1 z0 z1 z2 z0b z1b z2b y0 y1 g0 g1 hB2 hB1 qa Hz1)
  all_goals
    skip
    have H64 := Lib.hid (show l.length ≤ 64 from h64')
    have hch9 := Hch.out W9.drew ((Mod.of_below A.B).drew)
    have hlb9 : b < W9.heap.size := by have := A.B.size; omega
    have k0 : W9.drew.cell? ⟨b, 0, none⟩ = some (.int .i64 s.p.epoch) := below_at A.B c0 hl
    have k1 : W9.drew.cell? ⟨b, 1, none⟩ = some (.slice ca s.p.chains.length cc) := below_at A.B c1 hl
    have k2 : W9.drew.cell? ⟨b, 2, none⟩ = some (.int .i64 s.addr) := below_at A.B c2 hl
    have HA := Lib.hid A
    clear A Hch
    go_wp2_with fail
    go_region_held3 (fun w' => w'.cell? ⟨b, 0, none⟩ = some (.int .i64 s.p.epoch) ∧ w'.cell? ⟨b, 1, none⟩ = some (.slice ca s.p.chains.length cc) ∧ w'.cell? ⟨b, 2, none⟩ = some (.int .i64 s.addr))
      (first
        | with_reducible exact ⟨k0, k1, k2⟩
        | with_reducible exact ⟨z0, z1, z2⟩
        | fail)
      ((go_at_call 65; (with_reducible refine hch9.mono ?_); rintro e w2 ⟨a2, n2, rfl, hi2, hB2', -⟩
        have hB2 : Below W9.heap.size W9 w2 := below_drew hB2'
        clear hB2'
        have z0 := below_at hB2 k0 hlb9
        have z1 := below_at hB2 k1 hlb9
        have z2 := below_at hB2 k2 hlb9
        have HI2 := Lib.hid hi2
        have HB2 := Lib.hid hB2
        clear hi2 hB2))
    have hz2 := HB2.out.size
    have hk9 := HA.out.kl
    have hk92 := HA.out.k2
    obtain ⟨ab, af, rfl, hab, hal, hac⟩ := HI2.out.2 Hl1.out
    have hab' : W9.heap.size ≤ ab := hab
    have hBw2 : Below w.heap.size w w2 := HA.out.B.trans (HB2.out.mono HA.out.B.size)
    have hqa2 := HA.out.qa.below HB2.out (by have := HA.out.B.size; omega)
    have hl01 : (0 : Int) < l.length := by have := Hl1.out; omega
    have x0 : w2.drew.cell? ⟨ab, af, none⟩ = some (.int .i64 (l.getD 0 0)) := hac 0 Hl1.out
    have y0 : w2.drew.cell? ⟨b, 0, none⟩ = some (.int .i64 s.p.epoch) := z0
    have yp : w2.drew.cell? ⟨k9, 1, none⟩ = some (.int .i64 r1) := below_at HB2.out HA.out.p1 hk9
    obtain ⟨g0v, hg0v⟩ : ∃ g, g = l.getD 0 0 := ⟨_, rfl⟩
    rw [← hg0v] at x0
    try rw [← hg0v]
    have Hg0 := Lib.hid hg0v
    clear hg0v
    have hwl : w.heap.size < w2.heap.size := by omega
    have hbl2 : b < w2.heap.size := by omega
    have hkl2 : k9 < w2.heap.size := by omega
    have HAC := Lib.hid hac
    have Hqa2 := Lib.hid hqa2
    have HBw2 := Lib.hid hBw2
    have Hal := Lib.hid hal
    have xa : ∀ o, (w2.alloc o).drew.cell? ⟨ab, af, none⟩ = some (.int .i64 g0v) := fun o => (cell_alloc_lt w2 o ab af hal).trans x0
    have ya : ∀ o, (w2.alloc o).drew.cell? ⟨b, 0, none⟩ = some (.int .i64 s.p.epoch) := fun o => (cell_alloc_lt w2 o b 0 hbl2).trans y0
    have ypa : ∀ o, (w2.alloc o).drew.cell? ⟨k9, 1, none⟩ = some (.int .i64 r1) := fun o => (cell_alloc_lt w2 o k9 1 hkl2).trans yp
    have hl00 := Hl1.out
    clear hch9 k0 k1 k2 z1 z2 hz2 hk92 hab hac hqa2 hBw2 hab' hk9
    go_wp2_with fail
    go_region_held3 (fun w' => w'.cell? ⟨ab, af, none⟩ = some (.int .i64 g0v) ∧ w'.cell? ⟨b, 0, none⟩ = some (.int .i64 s.p.epoch) ∧ w'.cell? ⟨k9, 1, none⟩ = some (.int .i64 r1))
      (first
        | with_reducible exact ⟨x0, y0, yp⟩
        | with_reducible exact ⟨xa _, ya _, ypa _⟩
        | fail)
      (fail)
    have xl := HAC.out (l.length - 1) (by have := Hl1.out; omega)
    obtain ⟨glv, hglv⟩ : ∃ g, g = l.getD (l.length - 1) 0 := ⟨_, rfl⟩
    rw [← hglv] at xl ⊢
    have Hgl := Lib.hid hglv
    obtain ⟨ll, hll⟩ : ∃ ll, ll = l.length - 1 := ⟨_, rfl⟩
    rw [← hll] at xl
    have hln : l.length = ll + 1 := by have := Hl1.out; omega
    have Hln := Lib.hid hln
    clear hglv hll
    obtain ⟨W, qb, hW, hqb, Q, hBq⟩ := feQ_new (w := w) (w2 := w2) (a0 := 3) (a1 := g0v) (a2 := s.p.epoch) (a3 := r1) HBw2.out hwl Hqa2.out
    have hW' : W = _ := hW
    rw [← hW, ← hqb]
    have d4 := below_at (HBw2.out.trans (hBq.mono HBw2.out.size)) c4 hl
    have d6 := below_at (HBw2.out.trans (hBq.mono HBw2.out.size)) c6 hl
    have d7 := below_at (HBw2.out.trans (hBq.mono HBw2.out.size)) c7 hl
    have d8 := below_at (HBw2.out.trans (hBq.mono HBw2.out.size)) c8 hl
    have HQ := Lib.hid Q
    have HBq := Lib.hid hBq
    have nqa : ab ≠ qb := by have := Hal.out; omega
    have nqa' : qb ≠ ab := fun e => nqa e.symm
    have nqb : b ≠ qb := by omega
    have nqb' : qb ≠ b := fun e => nqb e.symm
    clear hW hW' hqb Q hBq c0 c1 c2 c4 c6 c7 c8 x0 y0 yp z0 xa ya ypa hbl2 hkl2 hlb9 hwl
    obtain ⟨-, qne, ⟨ra0, ra1, ra2, ra3, ra4, ra5, ra6, ra7, ra8, rf⟩, q0, q1, q2, q3, q4, q5, q6, q7, q8, qf⟩ := HQ.out
    have rf0 := rf 0 (by omega)
    have rf1 := rf 1 (by omega)
    have rf2 := rf 2 (by omega)
    have rf3 := rf 3 (by omega)
    have rf4 := rf 4 (by omega)
    have rf5 := rf 5 (by omega)
    have rf6 := rf 6 (by omega)
    have rf7 := rf 7 (by omega)
    have rf8 := rf 8 (by omega)
    have qf0 := qf 0 (by omega)
    have qf1 := qf 1 (by omega)
    have qf2 := qf 2 (by omega)
    have qf3 := qf 3 (by omega)
    have qf4 := qf 4 (by omega)
    have qf5 := qf 5 (by omega)
    have qf6 := qf 6 (by omega)
    have qf7 := qf 7 (by omega)
    have qf8 := qf 8 (by omega)
    clear rf qf
    simp only at q0 q1 q2 q3 q6
    have xq := below_at HBq.out xl Hal.out
    clear xl
    rw [Hln.out]
    have n0 : (0 : Int) ≤ ll := by omega
    have n1 : (ll : Int) < 1000 := by have := H64.out; have := Hln.out; omega
    go_wp2_with fail
    refine bodyPost_ret (v := .tuple #[qV ⟨3, glv, s.p.epoch, r1, 0, 0, ⟨#[]⟩, Esch.p0⟩ none 0, .bool true]) (by simp only [results, Tryz.results72, qV, Esch.p0, List.length_nil]; go_simp) rfl ?_
    refine ⟨?_, by exact belC HQ.out.B⟩
    first
    | rfl
    | (rw [← Hg0.out])
    | (rw [← Hgl.out])
    | (have hgg : l.getD (ll + 1 - 1) 0 = glv := by rw [Hgl.out, Hln.out]
       rw [← hgg]
       rfl)
end
end Go.Proofs.YtghdhhbpbmhooaaGreat
/- an address that is read: what it hears -/
namespace Go.Proofs.YtghdhhbpbmhooaaGreat
open Go.RowKit Esch

section
variable {w : World} {b : Nat} {S : Nat → Prop} {s : FeS} (x : AnS) (a : Option Addr) (c : Nat)
set_option maxRecDepth 100000 in
set_option maxHeartbeats 1000000 in
theorem feHear_end (h : FeAt w b S s) (h5 : s.at = 6) (bb : Bool) : Calls Tryz.prog 73 #[.pointer (some ⟨b, 0, none⟩), aV x a c, .bool bb] w (FePost w b S s) := by
  have c0 := h.c0
  obtain ⟨ca, cc, c1, hcl⟩ := h.c1
  have c2 := h.c2
  have c3 := h.c3
  have c4 := h.c4
  have c5 := h.c5
  have c6 := h.c6
  have c7 := h.c7
  have c8 := h.c8
  have c9 := h.c9
  have hl := h.lt
  have f4 := h.fr 4 (by omega)
  have f5 := h.fr 5 (by omega)
  have f6 := h.fr 6 (by omega)
  have f7 := h.fr 7 (by omega)
  have f8 := h.fr 8 (by omega)
  have f9 := h.fr 9 (by omega)
  have H := Lib.hid h
  rw [h5] at c4
  clear h hcl h5
  simp only [aV]
  go_enter Tryz.func73, Tryz.ntmps73
  go_wp2_with fail
  go_step3
  go_wp2_with fail
  rw [Exit.noGoto_ret]
  go_end0
  exact H.out.post0 (by exact belC (Below.refl _ _)) rfl
set_option maxRecDepth 100000 in
set_option maxHeartbeats 1000000 in
theorem feHear_early (h : FeAt w b S s) (h5 : s.at ≠ 6) (bb : Bool) (hy : (s.early x.code bb).2 = true) : Calls Tryz.prog 73 #[.pointer (some ⟨b, 0, none⟩), aV x a c, .bool bb] w (FePost w b S (s.early x.code bb).1) := by
  have c0 := h.c0
  obtain ⟨ca, cc, c1, hcl⟩ := h.c1
  have c2 := h.c2
  have c3 := h.c3
  have c4 := h.c4
  have c5 := h.c5
  have c6 := h.c6
  have c7 := h.c7
  have c8 := h.c8
  have c9 := h.c9
  have hl := h.lt
  have f4 := h.fr 4 (by omega)
  have f5 := h.fr 5 (by omega)
  have f6 := h.fr 6 (by omega)
  have f7 := h.fr 7 (by omega)
  have f8 := h.fr 8 (by omega)
  have f9 := h.fr 9 (by omega)
  have H := Lib.hid h
  obtain ⟨xc, xn, xd, ⟨xpe, xls⟩, xm, xs, xe⟩ := x
  obtain ⟨W0, hW0, hB0, hz0, b0, b1, b2, b3, b4, b5, b6, b7⟩ := an_boxA w (.int .i64 xc) (.int .i64 xn) (.string xd) (.int .i64 xpe) (.slice a xls.length c) (.int .i64 xm) (.int .i64 xs) (.int .i64 xe)
  have he := feEarly_any (h.below hB0) xc bb
  have HW0 := Lib.hid hW0
  have e5 : (s.at == 6) = false := by simpa using h5
  simp only at hy
  clear hW0 h hcl h5
  simp only [aV]
  go_enter Tryz.func73, Tryz.ntmps73
  go_wp2_with fail
  go_step3
  go_wp2_with fail
  rw [← HW0.out]
  refine he.mono ?_
  clear he
  rintro e w1 ⟨rfl, hA1, hM1⟩
  rw [hy]
  have HA1 := Lib.hid hA1
  have HM1 := Lib.hid hM1
  clear hA1 hM1
  go_wp2_with fail
  rw [Exit.noGoto_ret]
  go_end0
  exact ⟨rfl, HA1.out.sub (fun _ _ hk => Or.inl hk), (Mod.of_below hB0).trans HM1.out⟩
set_option maxRecDepth 100000 in
set_option maxHeartbeats 1000000 in
theorem feHear_layE (h : FeAt w b S s) (h5 : s.at = 0) (hno : s.early x.code true = (s, false)) (h0 : x.code ≠ 0) : Calls Tryz.prog 73 #[.pointer (some ⟨b, 0, none⟩), aV x a c, .bool true] w (FePost w b S s) := by
  obtain ⟨xc, xn, xd, ⟨xpe, xls⟩, xm, xs, xe⟩ := x
  obtain ⟨W0, hW0, hB0, hz0, b0, b1, b2, b3, b4, b5, b6, b7⟩ := an_boxA w (.int .i64 xc) (.int .i64 xn) (.string xd) (.int .i64 xpe) (.slice a xls.length c) (.int .i64 xm) (.int .i64 xs) (.int .i64 xe)
  simp only at *
  have he := feEarly_any (h.below hB0) xc true
  rw [hno] at he
  have HW0 := Lib.hid hW0
  have hlt := h.lt
  have c4 := h.c4
  rw [h5] at c4
  clear hW0 h hno
  simp only [aV]
  go_enter Tryz.func73, Tryz.ntmps73
  go_wp2_with fail
  go_step3
  go_wp2_with fail
  rw [← HW0.out]
  refine he.mono ?_
  clear he
  rintro e w1 ⟨rfl, h, hM1⟩
  clear c4
  have H1 := Lib.hid h
  have hbn : w.heap.size ≠ b := by omega
  replace b0 := hM1.at b0 hbn
  replace b1 := hM1.at b1 hbn
  replace b2 := hM1.at b2 hbn
  replace b3 := hM1.at b3 hbn
  replace b4 := hM1.at b4 hbn
  have HMW1 := Lib.hid ((Mod.of_below hB0 : Mod (· = b) w W0).trans hM1)
  obtain ⟨ca, cc, k1', hcl⟩ := h.c1
  have hlb : b < w1.heap.size := h.lt
  have hnl : w.heap.size < w1.heap.size := cell_lt b0
  have k0 : w1.drew.cell? ⟨b, 0, none⟩ = some (.int .i64 s.p.epoch) := h.c0
  have k1 : w1.drew.cell? ⟨b, 1, none⟩ = some (.slice ca s.p.chains.length cc) := k1'
  have k2 : w1.drew.cell? ⟨b, 2, none⟩ = some (.int .i64 s.addr) := h.c2
  have hch := placeChain_any _ w1.drew s.p ca cc s.addr (hcl.mod ((Mod.refl none' _).drew) (fun _ _ _ => id))
  obtain ⟨l, hle⟩ : ∃ l, l = chainP s.p s.addr := ⟨_, rfl⟩
  rw [← hle] at hch
  have Hle := Lib.hid hle
  clear hcl k1' hle h hM1 hB0 hz0 b5 b6 b7
  go_wp2_with fail
  go_region_held3 (fun w' => w'.cell? ⟨b, 0, none⟩ = some (.int .i64 s.p.epoch) ∧ w'.cell? ⟨b, 1, none⟩ = some (.slice ca s.p.chains.length cc) ∧ w'.cell? ⟨b, 2, none⟩ = some (.int .i64 s.addr))
    (first
      | with_reducible exact ⟨k0, k1, k2⟩
      | with_reducible exact ⟨z0, z1, z2⟩)
    ((go_at_call 65; (with_reducible refine hch.mono ?_); rintro e w2 ⟨a2, n2, rfl, hl2, hB2', -⟩
      have hB2 : Below w1.heap.size w1 w2 := below_drew hB2'
      clear hB2' hl2
      have z0 := below_at hB2 k0 hlb
      have z1 := below_at hB2 k1 hlb
      have z2 := below_at hB2 k2 hlb
      have HB2 := Lib.hid hB2))
  have h := H1.out.below HB2.out
  replace b0 := below_at HB2.out b0 hnl
  replace b1 := below_at HB2.out b1 hnl
  replace b2 := below_at HB2.out b2 hnl
  replace b3 := below_at HB2.out b3 hnl
  replace b4 := below_at HB2.out b4 hnl
  have HMW := Lib.hid (HMW1.out.trans (Mod.of_below HB2.out))
  clear k0 k1 k2 z0 z1 z2 hch hB2 H1 HMW1 hlb hnl
  have c0 := h.c0
  obtain ⟨ca, cc, c1, hcl⟩ := h.c1
  have c2 := h.c2
  have c3 := h.c3
  have c4 := h.c4
  have c5 := h.c5
  have c6 := h.c6
  have c7 := h.c7
  have c8 := h.c8
  have c9 := h.c9
  have hl := h.lt
  have f4 := h.fr 4 (by omega)
  have f5 := h.fr 5 (by omega)
  have f6 := h.fr 6 (by omega)
  have f7 := h.fr 7 (by omega)
  have f8 := h.fr 8 (by omega)
  have f9 := h.fr 9 (by omega)
  have H := Lib.hid h
  clear h hcl
  rw [h5] at c4
  have e0 : (xc == 0) = false := by simpa using h0
  clear h0
  go_wp2_with fail
  rw [Exit.noGoto_ret]
  go_end0
  exact ⟨rfl, H.out.sub (fun _ _ hk => Or.inl hk), HMW.out⟩
set_option maxRecDepth 100000 in
set_option maxHeartbeats 1000000 in
theorem feHear_chkE (h : FeAt w b S s) (h5 : s.at = 1) (hno : s.early x.code true = (s, false)) (h0 : x.code ≠ 0) : Calls Tryz.prog 73 #[.pointer (some ⟨b, 0, none⟩), aV x a c, .bool true] w (FePost w b S { s with «at» := s.was }) := by
  obtain ⟨xc, xn, xd, ⟨xpe, xls⟩, xm, xs, xe⟩ := x
  obtain ⟨W0, hW0, hB0, hz0, b0, b1, b2, b3, b4, b5, b6, b7⟩ := an_boxA w (.int .i64 xc) (.int .i64 xn) (.string xd) (.int .i64 xpe) (.slice a xls.length c) (.int .i64 xm) (.int .i64 xs) (.int .i64 xe)
  simp only at *
  have he := feEarly_any (h.below hB0) xc true
  rw [hno] at he
  have HW0 := Lib.hid hW0
  have hlt := h.lt
  have c4 := h.c4
  rw [h5] at c4
  clear hW0 h hno
  simp only [aV]
  go_enter Tryz.func73, Tryz.ntmps73
  go_wp2_with fail
  go_step3
  go_wp2_with fail
  rw [← HW0.out]
  refine he.mono ?_
  clear he
  rintro e w1 ⟨rfl, h, hM1⟩
  clear c4
  have H1 := Lib.hid h
  have hbn : w.heap.size ≠ b := by omega
  replace b0 := hM1.at b0 hbn
  replace b1 := hM1.at b1 hbn
  replace b2 := hM1.at b2 hbn
  replace b3 := hM1.at b3 hbn
  replace b4 := hM1.at b4 hbn
  have HMW1 := Lib.hid ((Mod.of_below hB0 : Mod (· = b) w W0).trans hM1)
  obtain ⟨ca, cc, k1', hcl⟩ := h.c1
  have hlb : b < w1.heap.size := h.lt
  have hnl : w.heap.size < w1.heap.size := cell_lt b0
  have k0 : w1.drew.cell? ⟨b, 0, none⟩ = some (.int .i64 s.p.epoch) := h.c0
  have k1 : w1.drew.cell? ⟨b, 1, none⟩ = some (.slice ca s.p.chains.length cc) := k1'
  have k2 : w1.drew.cell? ⟨b, 2, none⟩ = some (.int .i64 s.addr) := h.c2
  have hch := placeChain_any _ w1.drew s.p ca cc s.addr (hcl.mod ((Mod.refl none' _).drew) (fun _ _ _ => id))
  obtain ⟨l, hle⟩ : ∃ l, l = chainP s.p s.addr := ⟨_, rfl⟩
  rw [← hle] at hch
  have Hle := Lib.hid hle
  clear hcl k1' hle h hM1 hB0 hz0 b5 b6 b7
  go_wp2_with fail
  go_region_held3 (fun w' => w'.cell? ⟨b, 0, none⟩ = some (.int .i64 s.p.epoch) ∧ w'.cell? ⟨b, 1, none⟩ = some (.slice ca s.p.chains.length cc) ∧ w'.cell? ⟨b, 2, none⟩ = some (.int .i64 s.addr))
    (first
      | with_reducible exact ⟨k0, k1, k2⟩
      | with_reducible exact ⟨z0, z1, z2⟩)
    ((go_at_call 65; (with_reducible refine hch.mono ?_); rintro e w2 ⟨a2, n2, rfl, hl2, hB2', -⟩
      have hB2 : Below w1.heap.size w1 w2 := below_drew hB2'
      clear hB2' hl2
      have z0 := below_at hB2 k0 hlb
      have z1 := below_at hB2 k1 hlb
      have z2 := below_at hB2 k2 hlb
      have HB2 := Lib.hid hB2))
  have h := H1.out.below HB2.out
  replace b0 := below_at HB2.out b0 hnl
  replace b1 := below_at HB2.out b1 hnl
  replace b2 := below_at HB2.out b2 hnl
  replace b3 := below_at HB2.out b3 hnl
  replace b4 := below_at HB2.out b4 hnl
  have HMW := Lib.hid (HMW1.out.trans (Mod.of_below HB2.out))
  clear k0 k1 k2 z0 z1 z2 hch hB2 H1 HMW1 hlb hnl
  have c0 := h.c0
  obtain ⟨ca, cc, c1, hcl⟩ := h.c1
  have c2 := h.c2
  have c3 := h.c3
  have c4 := h.c4
  have c5 := h.c5
  have c6 := h.c6
  have c7 := h.c7
  have c8 := h.c8
  have c9 := h.c9
  have hl := h.lt
  have f4 := h.fr 4 (by omega)
  have f5 := h.fr 5 (by omega)
  have f6 := h.fr 6 (by omega)
  have f7 := h.fr 7 (by omega)
  have f8 := h.fr 8 (by omega)
  have f9 := h.fr 9 (by omega)
  have H := Lib.hid h
  clear h hcl
  rw [h5] at c4
  have e0 : (xc == 0) = false := by simpa using h0
  clear h0
  go_wp2_with fail
  go_quiet (fail)
  go_wp2_with fail
  try rw [Exit.noGoto_ret]
  try rw [Exit.noGoto_normal]
  go_end0
  refine ⟨rfl, (H.out.wrote (by exact modC (Mod.refl _ _)) (by go_simp) (by go_simp) (by go_simp) (by go_simp) (by go_simp) (by go_simp) (by go_simp) (by go_simp) (by go_simp) (by go_simp) (fun o => by go_simp)).sub (fun _ _ hk => Or.inl hk), HMW.out.trans (by exact modC (Mod.refl _ _))⟩
set_option maxRecDepth 100000 in
set_option maxHeartbeats 1000000 in
theorem feHear_last0 (h : FeAt w b S s) (h5 : s.at = 2) (hno : s.early x.code true = (s, false)) (hx : x.code = 0) : Calls Tryz.prog 73 #[.pointer (some ⟨b, 0, none⟩), aV x a c, .bool true] w (FePost w b S (s.over 1 x.data)) := by
  obtain ⟨xc, xn, xd, ⟨xpe, xls⟩, xm, xs, xe⟩ := x
  obtain ⟨W0, hW0, hB0, hz0, b0, b1, b2, b3, b4, b5, b6, b7⟩ := an_boxA w (.int .i64 xc) (.int .i64 xn) (.string xd) (.int .i64 xpe) (.slice a xls.length c) (.int .i64 xm) (.int .i64 xs) (.int .i64 xe)
  simp only at *
  have he := feEarly_any (h.below hB0) xc true
  rw [hno] at he
  have HW0 := Lib.hid hW0
  have hlt := h.lt
  have c4 := h.c4
  rw [h5] at c4
  clear hW0 h hno
  simp only [aV]
  go_enter Tryz.func73, Tryz.ntmps73
  go_wp2_with fail
  subst hx
  go_step3
  go_wp2_with fail
  rw [← HW0.out]
  refine he.mono ?_
  clear he
  rintro e w1 ⟨rfl, h, hM1⟩
  clear c4
  have H1 := Lib.hid h
  have hbn : w.heap.size ≠ b := by omega
  replace b0 := hM1.at b0 hbn
  replace b1 := hM1.at b1 hbn
  replace b2 := hM1.at b2 hbn
  replace b3 := hM1.at b3 hbn
  replace b4 := hM1.at b4 hbn
  have HMW1 := Lib.hid ((Mod.of_below hB0 : Mod (· = b) w W0).trans hM1)
  obtain ⟨ca, cc, k1', hcl⟩ := h.c1
  have hlb : b < w1.heap.size := h.lt
  have hnl : w.heap.size < w1.heap.size := cell_lt b0
  have k0 : w1.drew.cell? ⟨b, 0, none⟩ = some (.int .i64 s.p.epoch) := h.c0
  have k1 : w1.drew.cell? ⟨b, 1, none⟩ = some (.slice ca s.p.chains.length cc) := k1'
  have k2 : w1.drew.cell? ⟨b, 2, none⟩ = some (.int .i64 s.addr) := h.c2
  have hch := placeChain_any _ w1.drew s.p ca cc s.addr (hcl.mod ((Mod.refl none' _).drew) (fun _ _ _ => id))
  obtain ⟨l, hle⟩ : ∃ l, l = chainP s.p s.addr := ⟨_, rfl⟩
  rw [← hle] at hch
  have Hle := Lib.hid hle
  clear hcl k1' hle h hM1 hB0 hz0 b5 b6 b7
  go_wp2_with fail
  go_region_held3 (fun w' => w'.cell? ⟨b, 0, none⟩ = some (.int .i64 s.p.epoch) ∧ w'.cell? ⟨b, 1, none⟩ = some (.slice ca s.p.chains.length cc) ∧ w'.cell? ⟨b, 2, none⟩ = some (.int .i64 s.addr))
    (first
      | with_reducible exact ⟨k0, k1, k2⟩
      | with_reducible exact ⟨z0, z1, z2⟩)
    ((go_at_call 65; (with_reducible refine hch.mono ?_); rintro e w2 ⟨a2, n2, rfl, hl2, hB2', -⟩
      have hB2 : Below w1.heap.size w1 w2 := below_drew hB2'
      clear hB2' hl2
      have z0 := below_at hB2 k0 hlb
      have z1 := below_at hB2 k1 hlb
      have z2 := below_at hB2 k2 hlb
      have HB2 := Lib.hid hB2))
  have h := H1.out.below HB2.out
  replace b0 := below_at HB2.out b0 hnl
  replace b1 := below_at HB2.out b1 hnl
  replace b2 := below_at HB2.out b2 hnl
  replace b3 := below_at HB2.out b3 hnl
  replace b4 := below_at HB2.out b4 hnl
  have HMW := Lib.hid (HMW1.out.trans (Mod.of_below HB2.out))
  clear k0 k1 k2 z0 z1 z2 hch hB2 H1 HMW1 hlb hnl
  have c0 := h.c0
  obtain ⟨ca, cc, c1, hcl⟩ := h.c1
  have c2 := h.c2
  have c3 := h.c3
  have c4 := h.c4
  have c5 := h.c5
  have c6 := h.c6
  have c7 := h.c7
  have c8 := h.c8
  have c9 := h.c9
  have hl := h.lt
  have f4 := h.fr 4 (by omega)
  have f5 := h.fr 5 (by omega)
  have f6 := h.fr 6 (by omega)
  have f7 := h.fr 7 (by omega)
  have f8 := h.fr 8 (by omega)
  have f9 := h.fr 9 (by omega)
  have H := Lib.hid h
  clear h hcl
  rw [h5] at c4
  have hen := feEnd_any H.out 1 xd
  go_wp2_with fail
  refine hen.mono ?_
  clear hen
  rintro e w3 ⟨rfl, hA3, hM3⟩
  have HA3 := Lib.hid hA3
  have HMW3 := Lib.hid (HMW.out.trans hM3)
  clear hA3 hM3 HMW c0 c1 c2 c3 c4 c5 c6 c7 c8 c9 f4 f5 f6 f7 f8 f9 b0 b1 b2 b3 b4
  go_wp2_with fail
  try rw [Exit.noGoto_ret]
  try rw [Exit.noGoto_normal]
  go_end0
  exact ⟨rfl, HA3.out.sub (fun _ _ hk => Or.inl hk), HMW3.out⟩
set_option maxRecDepth 100000 in
set_option maxHeartbeats 1000000 in
theorem feHear_lastJ (h : FeAt w b S s) (h5 : s.at = 2) (hno : s.early x.code true = (s, false)) (hx : x.code = 46) : Calls Tryz.prog 73 #[.pointer (some ⟨b, 0, none⟩), aV x a c, .bool true] w (FePost w b S (s.over 2 ⟨#[]⟩)) := by
  obtain ⟨xc, xn, xd, ⟨xpe, xls⟩, xm, xs, xe⟩ := x
  obtain ⟨W0, hW0, hB0, hz0, b0, b1, b2, b3, b4, b5, b6, b7⟩ := an_boxA w (.int .i64 xc) (.int .i64 xn) (.string xd) (.int .i64 xpe) (.slice a xls.length c) (.int .i64 xm) (.int .i64 xs) (.int .i64 xe)
  simp only at *
  have he := feEarly_any (h.below hB0) xc true
  rw [hno] at he
  have HW0 := Lib.hid hW0
  have hlt := h.lt
  have c4 := h.c4
  rw [h5] at c4
  clear hW0 h hno
  simp only [aV]
  go_enter Tryz.func73, Tryz.ntmps73
  go_wp2_with fail
  subst hx
  go_step3
  go_wp2_with fail
  rw [← HW0.out]
  refine he.mono ?_
  clear he
  rintro e w1 ⟨rfl, h, hM1⟩
  clear c4
  have H1 := Lib.hid h
  have hbn : w.heap.size ≠ b := by omega
  replace b0 := hM1.at b0 hbn
  replace b1 := hM1.at b1 hbn
  replace b2 := hM1.at b2 hbn
  replace b3 := hM1.at b3 hbn
  replace b4 := hM1.at b4 hbn
  have HMW1 := Lib.hid ((Mod.of_below hB0 : Mod (· = b) w W0).trans hM1)
  obtain ⟨ca, cc, k1', hcl⟩ := h.c1
  have hlb : b < w1.heap.size := h.lt
  have hnl : w.heap.size < w1.heap.size := cell_lt b0
  have k0 : w1.drew.cell? ⟨b, 0, none⟩ = some (.int .i64 s.p.epoch) := h.c0
  have k1 : w1.drew.cell? ⟨b, 1, none⟩ = some (.slice ca s.p.chains.length cc) := k1'
  have k2 : w1.drew.cell? ⟨b, 2, none⟩ = some (.int .i64 s.addr) := h.c2
  have hch := placeChain_any _ w1.drew s.p ca cc s.addr (hcl.mod ((Mod.refl none' _).drew) (fun _ _ _ => id))
  obtain ⟨l, hle⟩ : ∃ l, l = chainP s.p s.addr := ⟨_, rfl⟩
  rw [← hle] at hch
  have Hle := Lib.hid hle
  clear hcl k1' hle h hM1 hB0 hz0 b5 b6 b7
  go_wp2_with fail
  go_region_held3 (fun w' => w'.cell? ⟨b, 0, none⟩ = some (.int .i64 s.p.epoch) ∧ w'.cell? ⟨b, 1, none⟩ = some (.slice ca s.p.chains.length cc) ∧ w'.cell? ⟨b, 2, none⟩ = some (.int .i64 s.addr))
    (first
      | with_reducible exact ⟨k0, k1, k2⟩
      | with_reducible exact ⟨z0, z1, z2⟩)
    ((go_at_call 65; (with_reducible refine hch.mono ?_); rintro e w2 ⟨a2, n2, rfl, hl2, hB2', -⟩
      have hB2 : Below w1.heap.size w1 w2 := below_drew hB2'
      clear hB2' hl2
      have z0 := below_at hB2 k0 hlb
      have z1 := below_at hB2 k1 hlb
      have z2 := below_at hB2 k2 hlb
      have HB2 := Lib.hid hB2))
  have h := H1.out.below HB2.out
  replace b0 := below_at HB2.out b0 hnl
  replace b1 := below_at HB2.out b1 hnl
  replace b2 := below_at HB2.out b2 hnl
  replace b3 := below_at HB2.out b3 hnl
  replace b4 := below_at HB2.out b4 hnl
  have HMW := Lib.hid (HMW1.out.trans (Mod.of_below HB2.out))
  clear k0 k1 k2 z0 z1 z2 hch hB2 H1 HMW1 hlb hnl
  have c0 := h.c0
  obtain ⟨ca, cc, c1, hcl⟩ := h.c1
  have c2 := h.c2
  have c3 := h.c3
  have c4 := h.c4
  have c5 := h.c5
  have c6 := h.c6
  have c7 := h.c7
  have c8 := h.c8
  have c9 := h.c9
  have hl := h.lt
  have f4 := h.fr 4 (by omega)
  have f5 := h.fr 5 (by omega)
  have f6 := h.fr 6 (by omega)
  have f7 := h.fr 7 (by omega)
  have f8 := h.fr 8 (by omega)
  have f9 := h.fr 9 (by omega)
  have H := Lib.hid h
  clear h hcl
  rw [h5] at c4
  have hen := feEnd_any H.out 2 ⟨#[]⟩
  go_wp2_with fail
  refine hen.mono ?_
  clear hen
  rintro e w3 ⟨rfl, hA3, hM3⟩
  have HA3 := Lib.hid hA3
  have HMW3 := Lib.hid (HMW.out.trans hM3)
  clear hA3 hM3 HMW c0 c1 c2 c3 c4 c5 c6 c7 c8 c9 f4 f5 f6 f7 f8 f9 b0 b1 b2 b3 b4
  go_wp2_with fail
  try rw [Exit.noGoto_ret]
  try rw [Exit.noGoto_normal]
  go_end0
  exact ⟨rfl, HA3.out.sub (fun _ _ hk => Or.inl hk), HMW3.out⟩
set_option maxRecDepth 100000 in
set_option maxHeartbeats 1000000 in
theorem feHear_lastU (h : FeAt w b S s) (h5 : s.at = 2) (hno : s.early x.code true = (s, false)) (hx : x.code = 42) (hn : (chainP s.p s.addr).length ≠ 1) : Calls Tryz.prog 73 #[.pointer (some ⟨b, 0, none⟩), aV x a c, .bool true] w (FePost w b S { s with «at» := 3 }) := by
  have Hn := Lib.hid hn
  clear hn
  obtain ⟨xc, xn, xd, ⟨xpe, xls⟩, xm, xs, xe⟩ := x
  obtain ⟨W0, hW0, hB0, hz0, b0, b1, b2, b3, b4, b5, b6, b7⟩ := an_boxA w (.int .i64 xc) (.int .i64 xn) (.string xd) (.int .i64 xpe) (.slice a xls.length c) (.int .i64 xm) (.int .i64 xs) (.int .i64 xe)
  simp only at *
  have he := feEarly_any (h.below hB0) xc true
  rw [hno] at he
  have HW0 := Lib.hid hW0
  have hlt := h.lt
  have c4 := h.c4
  rw [h5] at c4
  clear hW0 h hno
  simp only [aV]
  go_enter Tryz.func73, Tryz.ntmps73
  go_wp2_with fail
  subst hx
  go_step3
  go_wp2_with fail
  rw [← HW0.out]
  refine he.mono ?_
  clear he
  rintro e w1 ⟨rfl, h, hM1⟩
  clear c4
  have H1 := Lib.hid h
  have hbn : w.heap.size ≠ b := by omega
  replace b0 := hM1.at b0 hbn
  replace b1 := hM1.at b1 hbn
  replace b2 := hM1.at b2 hbn
  replace b3 := hM1.at b3 hbn
  replace b4 := hM1.at b4 hbn
  have HMW1 := Lib.hid ((Mod.of_below hB0 : Mod (· = b) w W0).trans hM1)
  obtain ⟨ca, cc, k1', hcl⟩ := h.c1
  have hlb : b < w1.heap.size := h.lt
  have hnl : w.heap.size < w1.heap.size := cell_lt b0
  have k0 : w1.drew.cell? ⟨b, 0, none⟩ = some (.int .i64 s.p.epoch) := h.c0
  have k1 : w1.drew.cell? ⟨b, 1, none⟩ = some (.slice ca s.p.chains.length cc) := k1'
  have k2 : w1.drew.cell? ⟨b, 2, none⟩ = some (.int .i64 s.addr) := h.c2
  have hch := placeChain_any _ w1.drew s.p ca cc s.addr (hcl.mod ((Mod.refl none' _).drew) (fun _ _ _ => id))
  obtain ⟨l, hle⟩ : ∃ l, l = chainP s.p s.addr := ⟨_, rfl⟩
  rw [← hle] at hch
  have Hle := Lib.hid hle
  clear hcl k1' hle h hM1 hB0 hz0 b5 b6 b7
  go_wp2_with fail
  go_region_held3 (fun w' => w'.cell? ⟨b, 0, none⟩ = some (.int .i64 s.p.epoch) ∧ w'.cell? ⟨b, 1, none⟩ = some (.slice ca s.p.chains.length cc) ∧ w'.cell? ⟨b, 2, none⟩ = some (.int .i64 s.addr))
    (first
      | with_reducible exact ⟨k0, k1, k2⟩
      | with_reducible exact ⟨z0, z1, z2⟩)
    ((go_at_call 65; (with_reducible refine hch.mono ?_); rintro e w2 ⟨a2, n2, rfl, hl2, hB2', -⟩
      have hB2 : Below w1.heap.size w1 w2 := below_drew hB2'
      clear hB2' hl2
      have z0 := below_at hB2 k0 hlb
      have z1 := below_at hB2 k1 hlb
      have z2 := below_at hB2 k2 hlb
      have HB2 := Lib.hid hB2))
  have h := H1.out.below HB2.out
  replace b0 := below_at HB2.out b0 hnl
  replace b1 := below_at HB2.out b1 hnl
  replace b2 := below_at HB2.out b2 hnl
  replace b3 := below_at HB2.out b3 hnl
  replace b4 := below_at HB2.out b4 hnl
  have HMW := Lib.hid (HMW1.out.trans (Mod.of_below HB2.out))
  clear k0 k1 k2 z0 z1 z2 hch hB2 H1 HMW1 hlb hnl
  have c0 := h.c0
  obtain ⟨ca, cc, c1, hcl⟩ := h.c1
  have c2 := h.c2
  have c3 := h.c3
  have c4 := h.c4
  have c5 := h.c5
  have c6 := h.c6
  have c7 := h.c7
  have c8 := h.c8
  have c9 := h.c9
  have hl := h.lt
  have f4 := h.fr 4 (by omega)
  have f5 := h.fr 5 (by omega)
  have f6 := h.fr 6 (by omega)
  have f7 := h.fr 7 (by omega)
  have f8 := h.fr 8 (by omega)
  have f9 := h.fr 9 (by omega)
  have H := Lib.hid h
  clear h hcl
  rw [h5] at c4
  have hn1 : l.length ≠ 1 := by rw [Hle.out]; exact Hn.out
  have hn2 : ((l.length : Int) == 1) = false := by rw [beq_eq_false_iff_ne]; omega
  have hn3 : (l.length == 1) = false := by rw [beq_eq_false_iff_ne]; omega
  clear hn1
  go_wp2_with fail
  try rw [Exit.noGoto_ret]
  try rw [Exit.noGoto_normal]
  go_end0
  refine ⟨rfl, (H.out.wrote (by exact modC (Mod.refl _ _)) (by go_simp) (by go_simp) (by go_simp) (by go_simp) (by go_simp) (by go_simp) (by go_simp) (by go_simp) (by go_simp) (by go_simp) (fun o => by go_simp)).sub (fun _ _ hk => Or.inl hk), HMW.out.trans (by exact modC (Mod.refl _ _))⟩
set_option maxRecDepth 100000 in
set_option maxHeartbeats 1000000 in
theorem feHear_lastF (h : FeAt w b S s) (h5 : s.at = 2) (hno : s.early x.code true = (s, false)) (hx : x.code ≠ 0 ∧ x.code ≠ 46 ∧ x.code ≠ 42) : Calls Tryz.prog 73 #[.pointer (some ⟨b, 0, none⟩), aV x a c, .bool true] w (FePost w b S (s.fail x.code)) := by
  obtain ⟨xc, xn, xd, ⟨xpe, xls⟩, xm, xs, xe⟩ := x
  obtain ⟨W0, hW0, hB0, hz0, b0, b1, b2, b3, b4, b5, b6, b7⟩ := an_boxA w (.int .i64 xc) (.int .i64 xn) (.string xd) (.int .i64 xpe) (.slice a xls.length c) (.int .i64 xm) (.int .i64 xs) (.int .i64 xe)
  simp only at *
  have he := feEarly_any (h.below hB0) xc true
  rw [hno] at he
  have HW0 := Lib.hid hW0
  have hlt := h.lt
  have c4 := h.c4
  rw [h5] at c4
  clear hW0 h hno
  simp only [aV]
  go_enter Tryz.func73, Tryz.ntmps73
  go_wp2_with fail
  obtain ⟨x0, x1, x2⟩ := hx
  have e0 : (xc == 0) = false := by simpa using x0
  have e1 : (xc == 46) = false := by simpa using x1
  have e2 : (xc == 42) = false := by simpa using x2
  clear x0 x1 x2
  go_step3
  go_wp2_with fail
  rw [← HW0.out]
  refine he.mono ?_
  clear he
  rintro e w1 ⟨rfl, h, hM1⟩
  clear c4
  have H1 := Lib.hid h
  have hbn : w.heap.size ≠ b := by omega
  replace b0 := hM1.at b0 hbn
  replace b1 := hM1.at b1 hbn
  replace b2 := hM1.at b2 hbn
  replace b3 := hM1.at b3 hbn
  replace b4 := hM1.at b4 hbn
  have HMW1 := Lib.hid ((Mod.of_below hB0 : Mod (· = b) w W0).trans hM1)
  obtain ⟨ca, cc, k1', hcl⟩ := h.c1
  have hlb : b < w1.heap.size := h.lt
  have hnl : w.heap.size < w1.heap.size := cell_lt b0
  have k0 : w1.drew.cell? ⟨b, 0, none⟩ = some (.int .i64 s.p.epoch) := h.c0
  have k1 : w1.drew.cell? ⟨b, 1, none⟩ = some (.slice ca s.p.chains.length cc) := k1'
  have k2 : w1.drew.cell? ⟨b, 2, none⟩ = some (.int .i64 s.addr) := h.c2
  have hch := placeChain_any _ w1.drew s.p ca cc s.addr (hcl.mod ((Mod.refl none' _).drew) (fun _ _ _ => id))
  obtain ⟨l, hle⟩ : ∃ l, l = chainP s.p s.addr := ⟨_, rfl⟩
  rw [← hle] at hch
  have Hle := Lib.hid hle
  clear hcl k1' hle h hM1 hB0 hz0 b5 b6 b7
  go_wp2_with fail
  go_region_held3 (fun w' => w'.cell? ⟨b, 0, none⟩ = some (.int .i64 s.p.epoch) ∧ w'.cell? ⟨b, 1, none⟩ = some (.slice ca s.p.chains.length cc) ∧ w'.cell? ⟨b, 2, none⟩ = some (.int .i64 s.addr))
    (first
      | with_reducible exact ⟨k0, k1, k2⟩
      | with_reducible exact ⟨z0, z1, z2⟩)
    ((go_at_call 65; (with_reducible refine hch.mono ?_); rintro e w2 ⟨a2, n2, rfl, hl2, hB2', -⟩
      have hB2 : Below w1.heap.size w1 w2 := below_drew hB2'
      clear hB2' hl2
      have z0 := below_at hB2 k0 hlb
      have z1 := below_at hB2 k1 hlb
      have z2 := below_at hB2 k2 hlb
      have HB2 := Lib.hid hB2))
  have h := H1.out.below HB2.out
  replace b0 := below_at HB2.out b0 hnl
  replace b1 := below_at HB2.out b1 hnl
  replace b2 := below_at HB2.out b2 hnl
  replace b3 := below_at HB2.out b3 hnl
  replace b4 := below_at HB2.out b4 hnl
  have HMW := Lib.hid (HMW1.out.trans (Mod.of_below HB2.out))
  clear k0 k1 k2 z0 z1 z2 hch hB2 H1 HMW1 hlb hnl
  have c0 := h.c0
  obtain ⟨ca, cc, c1, hcl⟩ := h.c1
  have c2 := h.c2
  have c3 := h.c3
  have c4 := h.c4
  have c5 := h.c5
  have c6 := h.c6
  have c7 := h.c7
  have c8 := h.c8
  have c9 := h.c9
  have hl := h.lt
  have f4 := h.fr 4 (by omega)
  have f5 := h.fr 5 (by omega)
  have f6 := h.fr 6 (by omega)
  have f7 := h.fr 7 (by omega)
  have f8 := h.fr 8 (by omega)
  have f9 := h.fr 9 (by omega)
  have H := Lib.hid h
  clear h hcl
  rw [h5] at c4
  have hen := feFail_any H.out xc
  go_wp2_with fail
  refine hen.mono ?_
  clear hen
  rintro e w3 ⟨rfl, hA3, hM3⟩
  have HA3 := Lib.hid hA3
  have HMW3 := Lib.hid (HMW.out.trans hM3)
  clear hA3 hM3 HMW c0 c1 c2 c3 c4 c5 c6 c7 c8 c9 f4 f5 f6 f7 f8 f9 b0 b1 b2 b3 b4
  go_wp2_with fail
  try rw [Exit.noGoto_ret]
  try rw [Exit.noGoto_normal]
  go_end0
  exact ⟨rfl, HA3.out.sub (fun _ _ hk => Or.inl hk), HMW3.out⟩
set_option maxRecDepth 100000 in
set_option maxHeartbeats 1000000 in
theorem feHear_firstF (h : FeAt w b S s) (h5 : s.at = 3) (hno : s.early x.code true = (s, false)) (hx : x.code ≠ 0 ∧ x.code ≠ 46 ∧ x.code ≠ 42) : Calls Tryz.prog 73 #[.pointer (some ⟨b, 0, none⟩), aV x a c, .bool true] w (FePost w b S (s.fail x.code)) := by
  obtain ⟨xc, xn, xd, ⟨xpe, xls⟩, xm, xs, xe⟩ := x
  obtain ⟨W0, hW0, hB0, hz0, b0, b1, b2, b3, b4, b5, b6, b7⟩ := an_boxA w (.int .i64 xc) (.int .i64 xn) (.string xd) (.int .i64 xpe) (.slice a xls.length c) (.int .i64 xm) (.int .i64 xs) (.int .i64 xe)
  simp only at *
  have he := feEarly_any (h.below hB0) xc true
  rw [hno] at he
  have HW0 := Lib.hid hW0
  have hlt := h.lt
  have c4 := h.c4
  rw [h5] at c4
  clear hW0 h hno
  simp only [aV]
  go_enter Tryz.func73, Tryz.ntmps73
  go_wp2_with fail
  obtain ⟨x0, x1, x2⟩ := hx
  have e0 : (xc == 0) = false := by simpa using x0
  have e1 : (xc == 46) = false := by simpa using x1
  have e2 : (xc == 42) = false := by simpa using x2
  clear x0 x1 x2
  go_step3
  go_wp2_with fail
  rw [← HW0.out]
  refine he.mono ?_
  clear he
  rintro e w1 ⟨rfl, h, hM1⟩
  clear c4
  have H1 := Lib.hid h
  have hbn : w.heap.size ≠ b := by omega
  replace b0 := hM1.at b0 hbn
  replace b1 := hM1.at b1 hbn
  replace b2 := hM1.at b2 hbn
  replace b3 := hM1.at b3 hbn
  replace b4 := hM1.at b4 hbn
  have HMW1 := Lib.hid ((Mod.of_below hB0 : Mod (· = b) w W0).trans hM1)
  obtain ⟨ca, cc, k1', hcl⟩ := h.c1
  have hlb : b < w1.heap.size := h.lt
  have hnl : w.heap.size < w1.heap.size := cell_lt b0
  have k0 : w1.drew.cell? ⟨b, 0, none⟩ = some (.int .i64 s.p.epoch) := h.c0
  have k1 : w1.drew.cell? ⟨b, 1, none⟩ = some (.slice ca s.p.chains.length cc) := k1'
  have k2 : w1.drew.cell? ⟨b, 2, none⟩ = some (.int .i64 s.addr) := h.c2
  have hch := placeChain_any _ w1.drew s.p ca cc s.addr (hcl.mod ((Mod.refl none' _).drew) (fun _ _ _ => id))
  obtain ⟨l, hle⟩ : ∃ l, l = chainP s.p s.addr := ⟨_, rfl⟩
  rw [← hle] at hch
  have Hle := Lib.hid hle
  clear hcl k1' hle h hM1 hB0 hz0 b5 b6 b7
  go_wp2_with fail
  go_region_held3 (fun w' => w'.cell? ⟨b, 0, none⟩ = some (.int .i64 s.p.epoch) ∧ w'.cell? ⟨b, 1, none⟩ = some (.slice ca s.p.chains.length cc) ∧ w'.cell? ⟨b, 2, none⟩ = some (.int .i64 s.addr))
    (first
      | with_reducible exact ⟨k0, k1, k2⟩
      | with_reducible exact ⟨z0, z1, z2⟩)
    ((go_at_call 65; (with_reducible refine hch.mono ?_); rintro e w2 ⟨a2, n2, rfl, hl2, hB2', -⟩
      have hB2 : Below w1.heap.size w1 w2 := below_drew hB2'
      clear hB2' hl2
      have z0 := below_at hB2 k0 hlb
      have z1 := below_at hB2 k1 hlb
      have z2 := below_at hB2 k2 hlb
      have HB2 := Lib.hid hB2))
  have h := H1.out.below HB2.out
  replace b0 := below_at HB2.out b0 hnl
  replace b1 := below_at HB2.out b1 hnl
  replace b2 := below_at HB2.out b2 hnl
  replace b3 := below_at HB2.out b3 hnl
  replace b4 := below_at HB2.out b4 hnl
  have HMW := Lib.hid (HMW1.out.trans (Mod.of_below HB2.out))
  clear k0 k1 k2 z0 z1 z2 hch hB2 H1 HMW1 hlb hnl
  have c0 := h.c0
  obtain ⟨ca, cc, c1, hcl⟩ := h.c1
  have c2 := h.c2
  have c3 := h.c3
  have c4 := h.c4
  have c5 := h.c5
  have c6 := h.c6
  have c7 := h.c7
  have c8 := h.c8
  have c9 := h.c9
  have hl := h.lt
  have f4 := h.fr 4 (by omega)
  have f5 := h.fr 5 (by omega)
  have f6 := h.fr 6 (by omega)
  have f7 := h.fr 7 (by omega)
  have f8 := h.fr 8 (by omega)
  have f9 := h.fr 9 (by omega)
  have H := Lib.hid h
  clear h hcl
  rw [h5] at c4
  have hen := feFail_any H.out xc
  go_wp2_with fail
  refine hen.mono ?_
  clear hen
  rintro e w3 ⟨rfl, hA3, hM3⟩
  have HA3 := Lib.hid hA3
  have HMW3 := Lib.hid (HMW.out.trans hM3)
  clear hA3 hM3 HMW c0 c1 c2 c3 c4 c5 c6 c7 c8 c9 f4 f5 f6 f7 f8 f9 b0 b1 b2 b3 b4
  go_wp2_with fail
  try rw [Exit.noGoto_ret]
  try rw [Exit.noGoto_normal]
  go_end0
  exact ⟨rfl, HA3.out.sub (fun _ _ hk => Or.inl hk), HMW3.out⟩
set_option maxRecDepth 100000 in
set_option maxHeartbeats 1000000 in
theorem feHear_junkF (h : FeAt w b S s) (h5 : s.at = 4) (hno : s.early x.code true = (s, false)) (hx : x.code ≠ 0 ∧ x.code ≠ 41) : Calls Tryz.prog 73 #[.pointer (some ⟨b, 0, none⟩), aV x a c, .bool true] w (FePost w b S (s.fail x.code)) := by
  obtain ⟨xc, xn, xd, ⟨xpe, xls⟩, xm, xs, xe⟩ := x
  obtain ⟨W0, hW0, hB0, hz0, b0, b1, b2, b3, b4, b5, b6, b7⟩ := an_boxA w (.int .i64 xc) (.int .i64 xn) (.string xd) (.int .i64 xpe) (.slice a xls.length c) (.int .i64 xm) (.int .i64 xs) (.int .i64 xe)
  simp only at *
  have he := feEarly_any (h.below hB0) xc true
  rw [hno] at he
  have HW0 := Lib.hid hW0
  have hlt := h.lt
  have c4 := h.c4
  rw [h5] at c4
  clear hW0 h hno
  simp only [aV]
  go_enter Tryz.func73, Tryz.ntmps73
  go_wp2_with fail
  obtain ⟨x0, x1⟩ := hx
  have e0 : (xc == 0) = false := by simpa using x0
  have e1 : (xc == 41) = false := by simpa using x1
  clear x0 x1
  go_step3
  go_wp2_with fail
  rw [← HW0.out]
  refine he.mono ?_
  clear he
  rintro e w1 ⟨rfl, h, hM1⟩
  clear c4
  have H1 := Lib.hid h
  have hbn : w.heap.size ≠ b := by omega
  replace b0 := hM1.at b0 hbn
  replace b1 := hM1.at b1 hbn
  replace b2 := hM1.at b2 hbn
  replace b3 := hM1.at b3 hbn
  replace b4 := hM1.at b4 hbn
  have HMW1 := Lib.hid ((Mod.of_below hB0 : Mod (· = b) w W0).trans hM1)
  obtain ⟨ca, cc, k1', hcl⟩ := h.c1
  have hlb : b < w1.heap.size := h.lt
  have hnl : w.heap.size < w1.heap.size := cell_lt b0
  have k0 : w1.drew.cell? ⟨b, 0, none⟩ = some (.int .i64 s.p.epoch) := h.c0
  have k1 : w1.drew.cell? ⟨b, 1, none⟩ = some (.slice ca s.p.chains.length cc) := k1'
  have k2 : w1.drew.cell? ⟨b, 2, none⟩ = some (.int .i64 s.addr) := h.c2
  have hch := placeChain_any _ w1.drew s.p ca cc s.addr (hcl.mod ((Mod.refl none' _).drew) (fun _ _ _ => id))
  obtain ⟨l, hle⟩ : ∃ l, l = chainP s.p s.addr := ⟨_, rfl⟩
  rw [← hle] at hch
  have Hle := Lib.hid hle
  clear hcl k1' hle h hM1 hB0 hz0 b5 b6 b7
  go_wp2_with fail
  go_region_held3 (fun w' => w'.cell? ⟨b, 0, none⟩ = some (.int .i64 s.p.epoch) ∧ w'.cell? ⟨b, 1, none⟩ = some (.slice ca s.p.chains.length cc) ∧ w'.cell? ⟨b, 2, none⟩ = some (.int .i64 s.addr))
    (first
      | with_reducible exact ⟨k0, k1, k2⟩
      | with_reducible exact ⟨z0, z1, z2⟩)
    ((go_at_call 65; (with_reducible refine hch.mono ?_); rintro e w2 ⟨a2, n2, rfl, hl2, hB2', -⟩
      have hB2 : Below w1.heap.size w1 w2 := below_drew hB2'
      clear hB2' hl2
      have z0 := below_at hB2 k0 hlb
      have z1 := below_at hB2 k1 hlb
      have z2 := below_at hB2 k2 hlb
      have HB2 := Lib.hid hB2))
  have h := H1.out.below HB2.out
  replace b0 := below_at HB2.out b0 hnl
  replace b1 := below_at HB2.out b1 hnl
  replace b2 := below_at HB2.out b2 hnl
  replace b3 := below_at HB2.out b3 hnl
  replace b4 := below_at HB2.out b4 hnl
  have HMW := Lib.hid (HMW1.out.trans (Mod.of_below HB2.out))
  clear k0 k1 k2 z0 z1 z2 hch hB2 H1 HMW1 hlb hnl
  have c0 := h.c0
  obtain ⟨ca, cc, c1, hcl⟩ := h.c1
  have c2 := h.c2
  have c3 := h.c3
  have c4 := h.c4
  have c5 := h.c5
  have c6 := h.c6
  have c7 := h.c7
  have c8 := h.c8
  have c9 := h.c9
  have hl := h.lt
  have f4 := h.fr 4 (by omega)
  have f5 := h.fr 5 (by omega)
  have f6 := h.fr 6 (by omega)
  have f7 := h.fr 7 (by omega)
  have f8 := h.fr 8 (by omega)
  have f9 := h.fr 9 (by omega)
  have H := Lib.hid h
  clear h hcl
  rw [h5] at c4
  have hen := feFail_any H.out xc
  go_wp2_with fail
  refine hen.mono ?_
  clear hen
  rintro e w3 ⟨rfl, hA3, hM3⟩
  have HA3 := Lib.hid hA3
  have HMW3 := Lib.hid (HMW.out.trans hM3)
  clear hA3 hM3 HMW c0 c1 c2 c3 c4 c5 c6 c7 c8 c9 f4 f5 f6 f7 f8 f9 b0 b1 b2 b3 b4
  go_wp2_with fail
  try rw [Exit.noGoto_ret]
  try rw [Exit.noGoto_normal]
  go_end0
  exact ⟨rfl, HA3.out.sub (fun _ _ hk => Or.inl hk), HMW3.out⟩
set_option maxRecDepth 100000 in
set_option maxHeartbeats 1000000 in
theorem feHear_mendF (h : FeAt w b S s) (h5 : s.at = 5) (hno : s.early x.code true = (s, false)) (hx : x.code ≠ 0 ∧ x.code ≠ 41) : Calls Tryz.prog 73 #[.pointer (some ⟨b, 0, none⟩), aV x a c, .bool true] w (FePost w b S (s.fail x.code)) := by
  obtain ⟨xc, xn, xd, ⟨xpe, xls⟩, xm, xs, xe⟩ := x
  obtain ⟨W0, hW0, hB0, hz0, b0, b1, b2, b3, b4, b5, b6, b7⟩ := an_boxA w (.int .i64 xc) (.int .i64 xn) (.string xd) (.int .i64 xpe) (.slice a xls.length c) (.int .i64 xm) (.int .i64 xs) (.int .i64 xe)
  simp only at *
  have he := feEarly_any (h.below hB0) xc true
  rw [hno] at he
  have HW0 := Lib.hid hW0
  have hlt := h.lt
  have c4 := h.c4
  rw [h5] at c4
  clear hW0 h hno
  simp only [aV]
  go_enter Tryz.func73, Tryz.ntmps73
  go_wp2_with fail
  obtain ⟨x0, x1⟩ := hx
  have e0 : (xc == 0) = false := by simpa using x0
  have e1 : (xc == 41) = false := by simpa using x1
  clear x0 x1
  go_step3
  go_wp2_with fail
  rw [← HW0.out]
  refine he.mono ?_
  clear he
  rintro e w1 ⟨rfl, h, hM1⟩
  clear c4
  have H1 := Lib.hid h
  have hbn : w.heap.size ≠ b := by omega
  replace b0 := hM1.at b0 hbn
  replace b1 := hM1.at b1 hbn
  replace b2 := hM1.at b2 hbn
  replace b3 := hM1.at b3 hbn
  replace b4 := hM1.at b4 hbn
  have HMW1 := Lib.hid ((Mod.of_below hB0 : Mod (· = b) w W0).trans hM1)
  obtain ⟨ca, cc, k1', hcl⟩ := h.c1
  have hlb : b < w1.heap.size := h.lt
  have hnl : w.heap.size < w1.heap.size := cell_lt b0
  have k0 : w1.drew.cell? ⟨b, 0, none⟩ = some (.int .i64 s.p.epoch) := h.c0
  have k1 : w1.drew.cell? ⟨b, 1, none⟩ = some (.slice ca s.p.chains.length cc) := k1'
  have k2 : w1.drew.cell? ⟨b, 2, none⟩ = some (.int .i64 s.addr) := h.c2
  have hch := placeChain_any _ w1.drew s.p ca cc s.addr (hcl.mod ((Mod.refl none' _).drew) (fun _ _ _ => id))
  obtain ⟨l, hle⟩ : ∃ l, l = chainP s.p s.addr := ⟨_, rfl⟩
  rw [← hle] at hch
  have Hle := Lib.hid hle
  clear hcl k1' hle h hM1 hB0 hz0 b5 b6 b7
  go_wp2_with fail
  go_region_held3 (fun w' => w'.cell? ⟨b, 0, none⟩ = some (.int .i64 s.p.epoch) ∧ w'.cell? ⟨b, 1, none⟩ = some (.slice ca s.p.chains.length cc) ∧ w'.cell? ⟨b, 2, none⟩ = some (.int .i64 s.addr))
    (first
      | with_reducible exact ⟨k0, k1, k2⟩
      | with_reducible exact ⟨z0, z1, z2⟩)
    ((go_at_call 65; (with_reducible refine hch.mono ?_); rintro e w2 ⟨a2, n2, rfl, hl2, hB2', -⟩
      have hB2 : Below w1.heap.size w1 w2 := below_drew hB2'
      clear hB2' hl2
      have z0 := below_at hB2 k0 hlb
      have z1 := below_at hB2 k1 hlb
      have z2 := below_at hB2 k2 hlb
      have HB2 := Lib.hid hB2))
  have h := H1.out.below HB2.out
  replace b0 := below_at HB2.out b0 hnl
  replace b1 := below_at HB2.out b1 hnl
  replace b2 := below_at HB2.out b2 hnl
  replace b3 := below_at HB2.out b3 hnl
  replace b4 := below_at HB2.out b4 hnl
  have HMW := Lib.hid (HMW1.out.trans (Mod.of_below HB2.out))
  clear k0 k1 k2 z0 z1 z2 hch hB2 H1 HMW1 hlb hnl
  have c0 := h.c0
  obtain ⟨ca, cc, c1, hcl⟩ := h.c1
  have c2 := h.c2
  have c3 := h.c3
  have c4 := h.c4
  have c5 := h.c5
  have c6 := h.c6
  have c7 := h.c7
  have c8 := h.c8
  have c9 := h.c9
  have hl := h.lt
  have f4 := h.fr 4 (by omega)
  have f5 := h.fr 5 (by omega)
  have f6 := h.fr 6 (by omega)
  have f7 := h.fr 7 (by omega)
  have f8 := h.fr 8 (by omega)
  have f9 := h.fr 9 (by omega)
  have H := Lib.hid h
  clear h hcl
  rw [h5] at c4
  have hen := feFail_any H.out xc
  go_wp2_with fail
  refine hen.mono ?_
  clear hen
  rintro e w3 ⟨rfl, hA3, hM3⟩
  have HA3 := Lib.hid hA3
  have HMW3 := Lib.hid (HMW.out.trans hM3)
  clear hA3 hM3 HMW c0 c1 c2 c3 c4 c5 c6 c7 c8 c9 f4 f5 f6 f7 f8 f9 b0 b1 b2 b3 b4
  go_wp2_with fail
  try rw [Exit.noGoto_ret]
  try rw [Exit.noGoto_normal]
  go_end0
  exact ⟨rfl, HA3.out.sub (fun _ _ hk => Or.inl hk), HMW3.out⟩
set_option maxRecDepth 100000 in
set_option maxHeartbeats 1000000 in
theorem feHear_junkW (h : FeAt w b S s) (h5 : s.at = 4) (hno : s.early x.code true = (s, false)) (hx : x.code = 41) : Calls Tryz.prog 73 #[.pointer (some ⟨b, 0, none⟩), aV x a c, .bool true] w (FePost w b S { s with «at» := 3 }) := by
  obtain ⟨xc, xn, xd, ⟨xpe, xls⟩, xm, xs, xe⟩ := x
  obtain ⟨W0, hW0, hB0, hz0, b0, b1, b2, b3, b4, b5, b6, b7⟩ := an_boxA w (.int .i64 xc) (.int .i64 xn) (.string xd) (.int .i64 xpe) (.slice a xls.length c) (.int .i64 xm) (.int .i64 xs) (.int .i64 xe)
  simp only at *
  have he := feEarly_any (h.below hB0) xc true
  rw [hno] at he
  have HW0 := Lib.hid hW0
  have hlt := h.lt
  have c4 := h.c4
  rw [h5] at c4
  clear hW0 h hno
  simp only [aV]
  go_enter Tryz.func73, Tryz.ntmps73
  go_wp2_with fail
  subst hx
  go_step3
  go_wp2_with fail
  rw [← HW0.out]
  refine he.mono ?_
  clear he
  rintro e w1 ⟨rfl, h, hM1⟩
  clear c4
  have H1 := Lib.hid h
  have hbn : w.heap.size ≠ b := by omega
  replace b0 := hM1.at b0 hbn
  replace b1 := hM1.at b1 hbn
  replace b2 := hM1.at b2 hbn
  replace b3 := hM1.at b3 hbn
  replace b4 := hM1.at b4 hbn
  have HMW1 := Lib.hid ((Mod.of_below hB0 : Mod (· = b) w W0).trans hM1)
  obtain ⟨ca, cc, k1', hcl⟩ := h.c1
  have hlb : b < w1.heap.size := h.lt
  have hnl : w.heap.size < w1.heap.size := cell_lt b0
  have k0 : w1.drew.cell? ⟨b, 0, none⟩ = some (.int .i64 s.p.epoch) := h.c0
  have k1 : w1.drew.cell? ⟨b, 1, none⟩ = some (.slice ca s.p.chains.length cc) := k1'
  have k2 : w1.drew.cell? ⟨b, 2, none⟩ = some (.int .i64 s.addr) := h.c2
  have hch := placeChain_any _ w1.drew s.p ca cc s.addr (hcl.mod ((Mod.refl none' _).drew) (fun _ _ _ => id))
  obtain ⟨l, hle⟩ : ∃ l, l = chainP s.p s.addr := ⟨_, rfl⟩
  rw [← hle] at hch
  have Hle := Lib.hid hle
  clear hcl k1' hle h hM1 hB0 hz0 b5 b6 b7
  go_wp2_with fail
  go_region_held3 (fun w' => w'.cell? ⟨b, 0, none⟩ = some (.int .i64 s.p.epoch) ∧ w'.cell? ⟨b, 1, none⟩ = some (.slice ca s.p.chains.length cc) ∧ w'.cell? ⟨b, 2, none⟩ = some (.int .i64 s.addr))
    (first
      | with_reducible exact ⟨k0, k1, k2⟩
      | with_reducible exact ⟨z0, z1, z2⟩)
    ((go_at_call 65; (with_reducible refine hch.mono ?_); rintro e w2 ⟨a2, n2, rfl, hl2, hB2', -⟩
      have hB2 : Below w1.heap.size w1 w2 := below_drew hB2'
      clear hB2' hl2
      have z0 := below_at hB2 k0 hlb
      have z1 := below_at hB2 k1 hlb
      have z2 := below_at hB2 k2 hlb
      have HB2 := Lib.hid hB2))
  have h := H1.out.below HB2.out
  replace b0 := below_at HB2.out b0 hnl
  replace b1 := below_at HB2.out b1 hnl
  replace b2 := below_at HB2.out b2 hnl
  replace b3 := below_at HB2.out b3 hnl
  replace b4 := below_at HB2.out b4 hnl
  have HMW := Lib.hid (HMW1.out.trans (Mod.of_below HB2.out))
  clear k0 k1 k2 z0 z1 z2 hch hB2 H1 HMW1 hlb hnl
  have c0 := h.c0
  obtain ⟨ca, cc, c1, hcl⟩ := h.c1
  have c2 := h.c2
  have c3 := h.c3
  have c4 := h.c4
  have c5 := h.c5
  have c6 := h.c6
  have c7 := h.c7
  have c8 := h.c8
  have c9 := h.c9
  have hl := h.lt
  have f4 := h.fr 4 (by omega)
  have f5 := h.fr 5 (by omega)
  have f6 := h.fr 6 (by omega)
  have f7 := h.fr 7 (by omega)
  have f8 := h.fr 8 (by omega)
  have f9 := h.fr 9 (by omega)
  have H := Lib.hid h
  clear h hcl
  rw [h5] at c4
  go_wp2_with fail
  try rw [Exit.noGoto_ret]
  try rw [Exit.noGoto_normal]
  go_end0
  refine ⟨rfl, (H.out.wrote (by exact modC (Mod.refl _ _)) (by go_simp) (by go_simp) (by go_simp) (by go_simp) (by go_simp) (by go_simp) (by go_simp) (by go_simp) (by go_simp) (by go_simp) (fun o => by go_simp)).sub (fun _ _ hk => Or.inl hk), HMW.out.trans (by exact modC (Mod.refl _ _))⟩
end
end Go.Proofs.YtghdhhbpbmhooaaGreat
/- an address that is read: what it hears, and where it goes on -/
namespace Go.Proofs.YtghdhhbpbmhooaaGreat
open Go.RowKit Esch

section
variable {w : World} {b : Nat} {S : Nat → Prop} {s : FeS} (x : AnS) (a : Option Addr) (c : Nat)
set_option maxRecDepth 100000 in
set_option maxHeartbeats 1000000 in
theorem feHear_last1 (h : FeAt w b S s) (h5 : s.at = 2) (hno : s.early x.code true = (s, false)) (hx : x.code = 42) (hn : (chainP s.p s.addr).length = 1) : Calls Tryz.prog 73 #[.pointer (some ⟨b, 0, none⟩), aV x a c, .bool true] w (FePost w b S s.none) := by
  have Hn := Lib.hid hn
  clear hn
  obtain ⟨xc, xn, xd, ⟨xpe, xls⟩, xm, xs, xe⟩ := x
  obtain ⟨W0, hW0, hB0, hz0, b0, b1, b2, b3, b4, b5, b6, b7⟩ := an_boxA w (.int .i64 xc) (.int .i64 xn) (.string xd) (.int .i64 xpe) (.slice a xls.length c) (.int .i64 xm) (.int .i64 xs) (.int .i64 xe)
  simp only at *
  have he := feEarly_any (h.below hB0) xc true
  rw [hno] at he
  have HW0 := Lib.hid hW0
  have hlt := h.lt
  have c4 := h.c4
  rw [h5] at c4
  clear hW0 h hno
  simp only [aV]
  go_enter Tryz.func73, Tryz.ntmps73
  go_wp2_with fail
  subst hx
  refine wp_scope_fwd ?_
  intro code hcode
  have Hcode := Lib.hid hcode
  clear hcode
  go_wp2_with fail
  go_wp2_with fail
  rw [← HW0.out]
  refine he.mono ?_
  clear he
  rintro e w1 ⟨rfl, h, hM1⟩
  clear c4
  have H1 := Lib.hid h
  have hbn : w.heap.size ≠ b := by omega
  replace b0 := hM1.at b0 hbn
  replace b1 := hM1.at b1 hbn
  replace b2 := hM1.at b2 hbn
  replace b3 := hM1.at b3 hbn
  replace b4 := hM1.at b4 hbn
  have HMW1 := Lib.hid ((Mod.of_below hB0 : Mod (· = b) w W0).trans hM1)
  obtain ⟨ca, cc, k1', hcl⟩ := h.c1
  have hlb : b < w1.heap.size := h.lt
  have hnl : w.heap.size < w1.heap.size := cell_lt b0
  have k0 : w1.drew.cell? ⟨b, 0, none⟩ = some (.int .i64 s.p.epoch) := h.c0
  have k1 : w1.drew.cell? ⟨b, 1, none⟩ = some (.slice ca s.p.chains.length cc) := k1'
  have k2 : w1.drew.cell? ⟨b, 2, none⟩ = some (.int .i64 s.addr) := h.c2
  have hch := placeChain_any _ w1.drew s.p ca cc s.addr (hcl.mod ((Mod.refl none' _).drew) (fun _ _ _ => id))
  obtain ⟨l, hle⟩ : ∃ l, l = chainP s.p s.addr := ⟨_, rfl⟩
  rw [← hle] at hch
  have Hle := Lib.hid hle
  clear hcl k1' hle h hM1 hB0 hz0 b5 b6 b7
  go_wp2_with fail
  go_region_held3 (fun w' => w'.cell? ⟨b, 0, none⟩ = some (.int .i64 s.p.epoch) ∧ w'.cell? ⟨b, 1, none⟩ = some (.slice ca s.p.chains.length cc) ∧ w'.cell? ⟨b, 2, none⟩ = some (.int .i64 s.addr))
    (first
      | with_reducible exact ⟨k0, k1, k2⟩
      | with_reducible exact ⟨z0, z1, z2⟩)
    ((go_at_call 65; (with_reducible refine hch.mono ?_); rintro e w2 ⟨a2, n2, rfl, hl2, hB2', -⟩
      have hB2 : Below w1.heap.size w1 w2 := below_drew hB2'
      clear hB2' hl2
      have z0 := below_at hB2 k0 hlb
      have z1 := below_at hB2 k1 hlb
      have z2 := below_at hB2 k2 hlb
      have HB2 := Lib.hid hB2))
  have h := H1.out.below HB2.out
  replace b0 := below_at HB2.out b0 hnl
  replace b1 := below_at HB2.out b1 hnl
  replace b2 := below_at HB2.out b2 hnl
  replace b3 := below_at HB2.out b3 hnl
  replace b4 := below_at HB2.out b4 hnl
  have HMW := Lib.hid (HMW1.out.trans (Mod.of_below HB2.out))
  clear k0 k1 k2 z0 z1 z2 hch hB2 H1 HMW1 hlb hnl
  have c0 := h.c0
  obtain ⟨ca, cc, c1, hcl⟩ := h.c1
  have c2 := h.c2
  have c3 := h.c3
  have c4 := h.c4
  have c5 := h.c5
  have c6 := h.c6
  have c7 := h.c7
  have c8 := h.c8
  have c9 := h.c9
  have hl := h.lt
  have f4 := h.fr 4 (by omega)
  have f5 := h.fr 5 (by omega)
  have f6 := h.fr 6 (by omega)
  have f7 := h.fr 7 (by omega)
  have f8 := h.fr 8 (by omega)
  have f9 := h.fr 9 (by omega)
  have H := Lib.hid h
  clear h hcl
  rw [h5] at c4
  have hn1 : l.length = 1 := by rw [Hle.out]; exact Hn.out
  have hn2 : ((l.length : Int) == 1) = true := by rw [beq_iff_eq]; omega
  have hn3 : (l.length == 1) = true := by rw [beq_iff_eq]; omega
  clear hn1
  have hnone : ∀ f, s.fill = f → s.none = if f then { s with «at» := 4 } else s.over 0 ⟨#[]⟩ := fun f hf => by unfold FeS.none; rw [hf]
  cases hfl : s.fill
  · have Hn := Lib.hid (hnone _ hfl)
    have Hfl := Lib.hid hfl
    rw [hfl] at c3
    clear hnone hfl
    go_wp2_with fail
    go_step3
    go_wp2_with fail
    refine ⟨_, by rw [Hcode.out]; rfl, ?_⟩
    clear Hcode
    go_wp2_with fail
    obtain ⟨w4, hw4⟩ : ∃ w4, w4 = w2.setCell ⟨b, 4, none⟩ (.int .i64 4) := ⟨_, rfl⟩
    rw [← hw4]
    have H4 : FeAt w4 b S ⟨s.p, s.addr, s.fill, 4, s.was, s.i, s.kind, s.s, s.err⟩ := by
      rw [hw4]
      rw [← Hfl.out] at c3
      exact H.out.wrote (by exact modC (Mod.refl _ _)) (by go_simp) (by go_simp) (by go_simp) (by go_simp) (by go_simp) (by go_simp) (by go_simp) (by go_simp) (by go_simp) (by go_simp) (fun o => by go_simp)
    have hen := feEnd_any H4 0 ⟨#[]⟩
    have HMW4 := Lib.hid (show Mod (· = b) w w4 by rw [hw4]; exact HMW.out.trans (by exact modC (Mod.refl _ _)))
    clear hw4 H4 HMW
    refine hen.mono ?_
    clear hen
    rintro e w3 ⟨rfl, hA3, hM3⟩
    have HA3 := Lib.hid hA3
    have HMW3 := Lib.hid (HMW4.out.trans hM3)
    clear hA3 hM3 HMW4 c0 c1 c2 c3 c4 c5 c6 c7 c8 c9 f4 f5 f6 f7 f8 f9 b0 b1 b2 b3 b4
    go_wp2_with fail
    try rw [Exit.noGoto_ret]
    try rw [Exit.noGoto_normal]
    go_end0
    rw [Hn.out]
    exact ⟨rfl, HA3.out.sub (fun _ _ hk => Or.inl hk), HMW3.out⟩
  · have Hn := Lib.hid (hnone _ hfl)
    have Hfl := Lib.hid hfl
    rw [hfl] at c3
    clear hnone hfl
    go_wp2_with fail
    go_step3
    go_wp2_with fail
    refine ⟨_, by rw [Hcode.out]; rfl, ?_⟩
    clear Hcode
    go_wp2_with fail
    try rw [Exit.noGoto_ret]
    try rw [Exit.noGoto_normal]
    go_end0
    rw [Hn.out]
    rw [← Hfl.out] at c3
    refine ⟨rfl, (H.out.wrote (by exact modC (Mod.refl _ _)) (by go_simp) (by go_simp) (by go_simp) (by go_simp) (by go_simp) (by go_simp) (by go_simp) (by go_simp) (by go_simp) (by go_simp) (fun o => by go_simp)).sub (fun _ _ hk => Or.inl hk), HMW.out.trans (by exact modC (Mod.refl _ _))⟩
set_option maxRecDepth 100000 in
set_option maxHeartbeats 1000000 in
theorem feHear_firstU (h : FeAt w b S s) (h5 : s.at = 3) (hno : s.early x.code true = (s, false)) (hx : x.code = 42) : Calls Tryz.prog 73 #[.pointer (some ⟨b, 0, none⟩), aV x a c, .bool true] w (FePost w b S s.none) := by
  obtain ⟨xc, xn, xd, ⟨xpe, xls⟩, xm, xs, xe⟩ := x
  obtain ⟨W0, hW0, hB0, hz0, b0, b1, b2, b3, b4, b5, b6, b7⟩ := an_boxA w (.int .i64 xc) (.int .i64 xn) (.string xd) (.int .i64 xpe) (.slice a xls.length c) (.int .i64 xm) (.int .i64 xs) (.int .i64 xe)
  simp only at *
  have he := feEarly_any (h.below hB0) xc true
  rw [hno] at he
  have HW0 := Lib.hid hW0
  have hlt := h.lt
  have c4 := h.c4
  rw [h5] at c4
  clear hW0 h hno
  simp only [aV]
  go_enter Tryz.func73, Tryz.ntmps73
  go_wp2_with fail
  subst hx
  refine wp_scope_fwd ?_
  intro code hcode
  have Hcode := Lib.hid hcode
  clear hcode
  go_wp2_with fail
  go_wp2_with fail
  rw [← HW0.out]
  refine he.mono ?_
  clear he
  rintro e w1 ⟨rfl, h, hM1⟩
  clear c4
  have H1 := Lib.hid h
  have hbn : w.heap.size ≠ b := by omega
  replace b0 := hM1.at b0 hbn
  replace b1 := hM1.at b1 hbn
  replace b2 := hM1.at b2 hbn
  replace b3 := hM1.at b3 hbn
  replace b4 := hM1.at b4 hbn
  have HMW1 := Lib.hid ((Mod.of_below hB0 : Mod (· = b) w W0).trans hM1)
  obtain ⟨ca, cc, k1', hcl⟩ := h.c1
  have hlb : b < w1.heap.size := h.lt
  have hnl : w.heap.size < w1.heap.size := cell_lt b0
  have k0 : w1.drew.cell? ⟨b, 0, none⟩ = some (.int .i64 s.p.epoch) := h.c0
  have k1 : w1.drew.cell? ⟨b, 1, none⟩ = some (.slice ca s.p.chains.length cc) := k1'
  have k2 : w1.drew.cell? ⟨b, 2, none⟩ = some (.int .i64 s.addr) := h.c2
  have hch := placeChain_any _ w1.drew s.p ca cc s.addr (hcl.mod ((Mod.refl none' _).drew) (fun _ _ _ => id))
  obtain ⟨l, hle⟩ : ∃ l, l = chainP s.p s.addr := ⟨_, rfl⟩
  rw [← hle] at hch
  have Hle := Lib.hid hle
  clear hcl k1' hle h hM1 hB0 hz0 b5 b6 b7
  go_wp2_with fail
  go_region_held3 (fun w' => w'.cell? ⟨b, 0, none⟩ = some (.int .i64 s.p.epoch) ∧ w'.cell? ⟨b, 1, none⟩ = some (.slice ca s.p.chains.length cc) ∧ w'.cell? ⟨b, 2, none⟩ = some (.int .i64 s.addr))
    (first
      | with_reducible exact ⟨k0, k1, k2⟩
      | with_reducible exact ⟨z0, z1, z2⟩)
    ((go_at_call 65; (with_reducible refine hch.mono ?_); rintro e w2 ⟨a2, n2, rfl, hl2, hB2', -⟩
      have hB2 : Below w1.heap.size w1 w2 := below_drew hB2'
      clear hB2' hl2
      have z0 := below_at hB2 k0 hlb
      have z1 := below_at hB2 k1 hlb
      have z2 := below_at hB2 k2 hlb
      have HB2 := Lib.hid hB2))
  have h := H1.out.below HB2.out
  replace b0 := below_at HB2.out b0 hnl
  replace b1 := below_at HB2.out b1 hnl
  replace b2 := below_at HB2.out b2 hnl
  replace b3 := below_at HB2.out b3 hnl
  replace b4 := below_at HB2.out b4 hnl
  have HMW := Lib.hid (HMW1.out.trans (Mod.of_below HB2.out))
  clear k0 k1 k2 z0 z1 z2 hch hB2 H1 HMW1 hlb hnl
  have c0 := h.c0
  obtain ⟨ca, cc, c1, hcl⟩ := h.c1
  have c2 := h.c2
  have c3 := h.c3
  have c4 := h.c4
  have c5 := h.c5
  have c6 := h.c6
  have c7 := h.c7
  have c8 := h.c8
  have c9 := h.c9
  have hl := h.lt
  have f4 := h.fr 4 (by omega)
  have f5 := h.fr 5 (by omega)
  have f6 := h.fr 6 (by omega)
  have f7 := h.fr 7 (by omega)
  have f8 := h.fr 8 (by omega)
  have f9 := h.fr 9 (by omega)
  have H := Lib.hid h
  clear h hcl
  rw [h5] at c4
  have hnone : ∀ f, s.fill = f → s.none = if f then { s with «at» := 4 } else s.over 0 ⟨#[]⟩ := fun f hf => by unfold FeS.none; rw [hf]
  cases hfl : s.fill
  · have Hn := Lib.hid (hnone _ hfl)
    have Hfl := Lib.hid hfl
    rw [hfl] at c3
    clear hnone hfl
    go_wp2_with fail
    go_step3
    go_wp2_with fail
    refine ⟨_, by rw [Hcode.out]; rfl, ?_⟩
    clear Hcode
    go_wp2_with fail
    obtain ⟨w4, hw4⟩ : ∃ w4, w4 = w2.setCell ⟨b, 4, none⟩ (.int .i64 4) := ⟨_, rfl⟩
    rw [← hw4]
    have H4 : FeAt w4 b S ⟨s.p, s.addr, s.fill, 4, s.was, s.i, s.kind, s.s, s.err⟩ := by
      rw [hw4]
      rw [← Hfl.out] at c3
      exact H.out.wrote (by exact modC (Mod.refl _ _)) (by go_simp) (by go_simp) (by go_simp) (by go_simp) (by go_simp) (by go_simp) (by go_simp) (by go_simp) (by go_simp) (by go_simp) (fun o => by go_simp)
    have hen := feEnd_any H4 0 ⟨#[]⟩
    have HMW4 := Lib.hid (show Mod (· = b) w w4 by rw [hw4]; exact HMW.out.trans (by exact modC (Mod.refl _ _)))
    clear hw4 H4 HMW
    refine hen.mono ?_
    clear hen
    rintro e w3 ⟨rfl, hA3, hM3⟩
    have HA3 := Lib.hid hA3
    have HMW3 := Lib.hid (HMW4.out.trans hM3)
    clear hA3 hM3 HMW4 c0 c1 c2 c3 c4 c5 c6 c7 c8 c9 f4 f5 f6 f7 f8 f9 b0 b1 b2 b3 b4
    go_wp2_with fail
    try rw [Exit.noGoto_ret]
    try rw [Exit.noGoto_normal]
    go_end0
    rw [Hn.out]
    exact ⟨rfl, HA3.out.sub (fun _ _ hk => Or.inl hk), HMW3.out⟩
  · have Hn := Lib.hid (hnone _ hfl)
    have Hfl := Lib.hid hfl
    rw [hfl] at c3
    clear hnone hfl
    go_wp2_with fail
    go_step3
    go_wp2_with fail
    refine ⟨_, by rw [Hcode.out]; rfl, ?_⟩
    clear Hcode
    go_wp2_with fail
    try rw [Exit.noGoto_ret]
    try rw [Exit.noGoto_normal]
    go_end0
    rw [Hn.out]
    rw [← Hfl.out] at c3
    refine ⟨rfl, (H.out.wrote (by exact modC (Mod.refl _ _)) (by go_simp) (by go_simp) (by go_simp) (by go_simp) (by go_simp) (by go_simp) (by go_simp) (by go_simp) (by go_simp) (by go_simp) (fun o => by go_simp)).sub (fun _ _ hk => Or.inl hk), HMW.out.trans (by exact modC (Mod.refl _ _))⟩
set_option maxRecDepth 100000 in
set_option maxHeartbeats 1000000 in
theorem feHear_firstJ (h : FeAt w b S s) (h5 : s.at = 3) (hno : s.early x.code true = (s, false)) (hx : x.code = 46) : Calls Tryz.prog 73 #[.pointer (some ⟨b, 0, none⟩), aV x a c, .bool true] w (FePost w b S (({ s with kind := 2, s := ⟨#[]⟩, i := 0 } : FeS).mended (chainP s.p s.addr).length)) := by
  obtain ⟨xc, xn, xd, ⟨xpe, xls⟩, xm, xs, xe⟩ := x
  obtain ⟨W0, hW0, hB0, hz0, b0, b1, b2, b3, b4, b5, b6, b7⟩ := an_boxA w (.int .i64 xc) (.int .i64 xn) (.string xd) (.int .i64 xpe) (.slice a xls.length c) (.int .i64 xm) (.int .i64 xs) (.int .i64 xe)
  simp only at *
  have he := feEarly_any (h.below hB0) xc true
  rw [hno] at he
  have HW0 := Lib.hid hW0
  have hlt := h.lt
  have c4 := h.c4
  rw [h5] at c4
  clear hW0 h hno
  simp only [aV]
  go_enter Tryz.func73, Tryz.ntmps73
  go_wp2_with fail
  subst hx
  refine wp_scope_fwd ?_
  intro code hcode
  have Hcode := Lib.hid hcode
  clear hcode
  go_wp2_with fail
  go_wp2_with fail
  rw [← HW0.out]
  refine he.mono ?_
  clear he
  rintro e w1 ⟨rfl, h, hM1⟩
  clear c4
  have H1 := Lib.hid h
  have hbn : w.heap.size ≠ b := by omega
  replace b0 := hM1.at b0 hbn
  replace b1 := hM1.at b1 hbn
  replace b2 := hM1.at b2 hbn
  replace b3 := hM1.at b3 hbn
  replace b4 := hM1.at b4 hbn
  have HMW1 := Lib.hid ((Mod.of_below hB0 : Mod (· = b) w W0).trans hM1)
  obtain ⟨ca, cc, k1', hcl⟩ := h.c1
  have hlb : b < w1.heap.size := h.lt
  have hnl : w.heap.size < w1.heap.size := cell_lt b0
  have k0 : w1.drew.cell? ⟨b, 0, none⟩ = some (.int .i64 s.p.epoch) := h.c0
  have k1 : w1.drew.cell? ⟨b, 1, none⟩ = some (.slice ca s.p.chains.length cc) := k1'
  have k2 : w1.drew.cell? ⟨b, 2, none⟩ = some (.int .i64 s.addr) := h.c2
  have hch := placeChain_any _ w1.drew s.p ca cc s.addr (hcl.mod ((Mod.refl none' _).drew) (fun _ _ _ => id))
  obtain ⟨l, hle⟩ : ∃ l, l = chainP s.p s.addr := ⟨_, rfl⟩
  rw [← hle] at hch
  have Hle := Lib.hid hle
  clear hcl k1' hle h hM1 hB0 hz0 b5 b6 b7
  go_wp2_with fail
  go_region_held3 (fun w' => w'.cell? ⟨b, 0, none⟩ = some (.int .i64 s.p.epoch) ∧ w'.cell? ⟨b, 1, none⟩ = some (.slice ca s.p.chains.length cc) ∧ w'.cell? ⟨b, 2, none⟩ = some (.int .i64 s.addr))
    (first
      | with_reducible exact ⟨k0, k1, k2⟩
      | with_reducible exact ⟨z0, z1, z2⟩)
    ((go_at_call 65; (with_reducible refine hch.mono ?_); rintro e w2 ⟨a2, n2, rfl, hl2, hB2', -⟩
      have hB2 : Below w1.heap.size w1 w2 := below_drew hB2'
      clear hB2' hl2
      have z0 := below_at hB2 k0 hlb
      have z1 := below_at hB2 k1 hlb
      have z2 := below_at hB2 k2 hlb
      have HB2 := Lib.hid hB2))
  have h := H1.out.below HB2.out
  replace b0 := below_at HB2.out b0 hnl
  replace b1 := below_at HB2.out b1 hnl
  replace b2 := below_at HB2.out b2 hnl
  replace b3 := below_at HB2.out b3 hnl
  replace b4 := below_at HB2.out b4 hnl
  have HMW := Lib.hid (HMW1.out.trans (Mod.of_below HB2.out))
  clear k0 k1 k2 z0 z1 z2 hch hB2 H1 HMW1 hlb hnl
  have c0 := h.c0
  obtain ⟨ca, cc, c1, hcl⟩ := h.c1
  have c2 := h.c2
  have c3 := h.c3
  have c4 := h.c4
  have c5 := h.c5
  have c6 := h.c6
  have c7 := h.c7
  have c8 := h.c8
  have c9 := h.c9
  have hl := h.lt
  have f4 := h.fr 4 (by omega)
  have f5 := h.fr 5 (by omega)
  have f6 := h.fr 6 (by omega)
  have f7 := h.fr 7 (by omega)
  have f8 := h.fr 8 (by omega)
  have f9 := h.fr 9 (by omega)
  have H := Lib.hid h
  clear h hcl
  rw [h5] at c4
  have c4' := c4
  rw [← h5] at c4'
  rcases Nat.lt_or_ge 1 l.length with hn | hn
  · have n1 : (1 : Int) < l.length := by omega
    have n2 : decide (l.length ≤ 1) = false := by simpa using hn
    have hne : ¬ ((chainP s.p s.addr).length : Int) ≤ 0 + 1 := by rw [← Hle.out]; omega
    have Hne := Lib.hid hne
    clear hne hn
    go_wp2_with fail
    go_step3
    go_wp2_with fail
    refine ⟨_, by rw [Hcode.out]; rfl, ?_⟩
    clear Hcode
    go_wp2_with fail
    with_reducible refine wp_label ?_
    go_wp2_with fail
    obtain ⟨wx, hNX_⟩ : ∃ wx, wx = ((w2.setCell ⟨b, 7, none⟩ (.int .i64 2)).setCell ⟨b, 8, none⟩ (.string ⟨#[]⟩)).setCell ⟨b, 6, none⟩ (.int .i64 0) := ⟨_, rfl⟩
    rw [← hNX_]
    have h : FeAt wx b S (⟨s.p, s.addr, s.fill, s.at, s.was, 0, 2, ⟨#[]⟩, s.err⟩ : FeS) := by rw [hNX_]; exact H.out.wrote (by exact modC (Mod.refl _ _)) (by go_simp) (by go_simp) (by go_simp) (by go_simp) (by go_simp) (by go_simp) (by go_simp) (by go_simp) (by go_simp) (by go_simp) (fun o => by go_simp)
    have HMx := Lib.hid (show Mod (· = b) w wx by rw [hNX_]; exact HMW.out.trans (by exact modC (Mod.refl _ _)))
    clear hNX_ c0 c1 c2 c3 c4 c5 c6 c7 c8 c9 f4 f5 f6 f7 f8 f9 H HMW hl
    have HMW := HMx
    clear HMx
    have c0 := h.c0
    obtain ⟨ca, cc, c1, hcl⟩ := h.c1
    have c2 := h.c2
    have c3 := h.c3
    have c4 := h.c4
    have c5 := h.c5
    have c6 := h.c6
    have c7 := h.c7
    have c8 := h.c8
    have c9 := h.c9
    have hl := h.lt
    have f4 := h.fr 4 (by omega)
    have f5 := h.fr 5 (by omega)
    have f6 := h.fr 6 (by omega)
    have f7 := h.fr 7 (by omega)
    have f8 := h.fr 8 (by omega)
    have f9 := h.fr 9 (by omega)
    have H := Lib.hid h
    clear h hcl
    with_reducible refine wp_label ?_
    go_wp2_with fail
    try rw [Exit.noGoto_ret]
    try rw [Exit.noGoto_normal]
    go_end0
    have hme : ∀ v, (⟨s.p, s.addr, s.fill, v, s.was, 0, 2, ⟨#[]⟩, s.err⟩ : FeS).mended (chainP s.p s.addr).length = (⟨s.p, s.addr, s.fill, 5, s.was, 0 + 1, 2, ⟨#[]⟩, s.err⟩ : FeS) := fun v => by
      unfold FeS.mended
      simp only
      rw [if_neg (by have := Hne.out; omega)]
    rw [hme]
    refine ⟨rfl, (H.out.wrote (by exact modC (Mod.refl _ _)) (by go_simp) (by go_simp) (by go_simp) (by go_simp) (by go_simp) (by go_simp) (by go_simp) (by go_simp) (by go_simp) (by go_simp) (fun o => by go_simp)).sub (fun _ _ hk => Or.inl hk), HMW.out.trans (by exact modC (Mod.refl _ _))⟩
  · have n1 : (l.length : Int) ≤ 1 := by omega
    have n2 : decide (l.length ≤ 1) = true := by simpa using hn
    have hne : ((chainP s.p s.addr).length : Int) ≤ 0 + 1 := by rw [← Hle.out]; omega
    have Hne := Lib.hid hne
    clear hne
    go_wp2_with fail
    go_step3
    go_wp2_with fail
    refine ⟨_, by rw [Hcode.out]; rfl, ?_⟩
    clear Hcode
    go_wp2_with fail
    with_reducible refine wp_label ?_
    go_wp2_with fail
    obtain ⟨wx, hNX_⟩ : ∃ wx, wx = ((w2.setCell ⟨b, 7, none⟩ (.int .i64 2)).setCell ⟨b, 8, none⟩ (.string ⟨#[]⟩)).setCell ⟨b, 6, none⟩ (.int .i64 0) := ⟨_, rfl⟩
    rw [← hNX_]
    have h : FeAt wx b S (⟨s.p, s.addr, s.fill, s.at, s.was, 0, 2, ⟨#[]⟩, s.err⟩ : FeS) := by rw [hNX_]; exact H.out.wrote (by exact modC (Mod.refl _ _)) (by go_simp) (by go_simp) (by go_simp) (by go_simp) (by go_simp) (by go_simp) (by go_simp) (by go_simp) (by go_simp) (by go_simp) (fun o => by go_simp)
    have HMx := Lib.hid (show Mod (· = b) w wx by rw [hNX_]; exact HMW.out.trans (by exact modC (Mod.refl _ _)))
    clear hNX_ c0 c1 c2 c3 c4 c5 c6 c7 c8 c9 f4 f5 f6 f7 f8 f9 H HMW hl
    have HMW := HMx
    clear HMx
    have c0 := h.c0
    obtain ⟨ca, cc, c1, hcl⟩ := h.c1
    have c2 := h.c2
    have c3 := h.c3
    have c4 := h.c4
    have c5 := h.c5
    have c6 := h.c6
    have c7 := h.c7
    have c8 := h.c8
    have c9 := h.c9
    have hl := h.lt
    have f4 := h.fr 4 (by omega)
    have f5 := h.fr 5 (by omega)
    have f6 := h.fr 6 (by omega)
    have f7 := h.fr 7 (by omega)
    have f8 := h.fr 8 (by omega)
    have f9 := h.fr 9 (by omega)
    have H := Lib.hid h
    clear h hcl
    with_reducible refine wp_label ?_
    go_wp2_with fail
    try rw [Exit.noGoto_ret]
    try rw [Exit.noGoto_normal]
    go_end0
    obtain ⟨wy, hNX_⟩ : ∃ wy, wy = (wx.setCell ⟨b, 6, none⟩ (.int .i64 1)).setCell ⟨b, 4, none⟩ (.int .i64 5) := ⟨_, rfl⟩
    rw [← hNX_]
    have h : FeAt wy b S (⟨s.p, s.addr, s.fill, 5, s.was, 1, 2, ⟨#[]⟩, s.err⟩ : FeS) := by rw [hNX_]; exact H.out.wrote (by exact modC (Mod.refl _ _)) (by go_simp) (by go_simp) (by go_simp) (by go_simp) (by go_simp) (by go_simp) (by go_simp) (by go_simp) (by go_simp) (by go_simp) (fun o => by go_simp)
    have HMx := Lib.hid (show Mod (· = b) w wy by rw [hNX_]; exact HMW.out.trans (by exact modC (Mod.refl _ _)))
    clear hNX_ c0 c1 c2 c3 c4 c5 c6 c7 c8 c9 f4 f5 f6 f7 f8 f9 H HMW hl
    have HMW := HMx
    clear HMx
    have c0 := h.c0
    obtain ⟨ca, cc, c1, hcl⟩ := h.c1
    have c2 := h.c2
    have c3 := h.c3
    have c4 := h.c4
    have c5 := h.c5
    have c6 := h.c6
    have c7 := h.c7
    have c8 := h.c8
    have c9 := h.c9
    have hl := h.lt
    have f4 := h.fr 4 (by omega)
    have f5 := h.fr 5 (by omega)
    have f6 := h.fr 6 (by omega)
    have f7 := h.fr 7 (by omega)
    have f8 := h.fr 8 (by omega)
    have f9 := h.fr 9 (by omega)
    have H := Lib.hid h
    clear h hcl
    have hme : ∀ v, (⟨s.p, s.addr, s.fill, v, s.was, 0, 2, ⟨#[]⟩, s.err⟩ : FeS).mended (chainP s.p s.addr).length = (⟨s.p, s.addr, s.fill, 6, s.was, 0 + 1, 2, ⟨#[]⟩, s.err⟩ : FeS) := fun v => by
      unfold FeS.mended
      simp only
      rw [if_pos (by have := Hne.out; omega)]
    rw [hme]
    refine ⟨rfl, (H.out.wrote (by exact modC (Mod.refl _ _)) (by go_simp) (by go_simp) (by go_simp) (by go_simp) (by go_simp) (by go_simp) (by go_simp) (by go_simp) (by go_simp) (by go_simp) (fun o => by go_simp)).sub (fun _ _ hk => Or.inl hk), HMW.out.trans (by exact modC (Mod.refl _ _))⟩
set_option maxRecDepth 100000 in
set_option maxHeartbeats 1000000 in
theorem feHear_junk0 (h : FeAt w b S s) (h5 : s.at = 4) (hno : s.early x.code true = (s, false)) (hx : x.code = 0) : Calls Tryz.prog 73 #[.pointer (some ⟨b, 0, none⟩), aV x a c, .bool true] w (FePost w b S (({ s with kind := 2, s := ⟨#[]⟩, i := 0 } : FeS).mended (chainP s.p s.addr).length)) := by
  obtain ⟨xc, xn, xd, ⟨xpe, xls⟩, xm, xs, xe⟩ := x
  obtain ⟨W0, hW0, hB0, hz0, b0, b1, b2, b3, b4, b5, b6, b7⟩ := an_boxA w (.int .i64 xc) (.int .i64 xn) (.string xd) (.int .i64 xpe) (.slice a xls.length c) (.int .i64 xm) (.int .i64 xs) (.int .i64 xe)
  simp only at *
  have he := feEarly_any (h.below hB0) xc true
  rw [hno] at he
  have HW0 := Lib.hid hW0
  have hlt := h.lt
  have c4 := h.c4
  rw [h5] at c4
  clear hW0 h hno
  simp only [aV]
  go_enter Tryz.func73, Tryz.ntmps73
  go_wp2_with fail
  subst hx
  refine wp_scope_fwd ?_
  intro code hcode
  have Hcode := Lib.hid hcode
  clear hcode
  go_wp2_with fail
  go_wp2_with fail
  rw [← HW0.out]
  refine he.mono ?_
  clear he
  rintro e w1 ⟨rfl, h, hM1⟩
  clear c4
  have H1 := Lib.hid h
  have hbn : w.heap.size ≠ b := by omega
  replace b0 := hM1.at b0 hbn
  replace b1 := hM1.at b1 hbn
  replace b2 := hM1.at b2 hbn
  replace b3 := hM1.at b3 hbn
  replace b4 := hM1.at b4 hbn
  have HMW1 := Lib.hid ((Mod.of_below hB0 : Mod (· = b) w W0).trans hM1)
  obtain ⟨ca, cc, k1', hcl⟩ := h.c1
  have hlb : b < w1.heap.size := h.lt
  have hnl : w.heap.size < w1.heap.size := cell_lt b0
  have k0 : w1.drew.cell? ⟨b, 0, none⟩ = some (.int .i64 s.p.epoch) := h.c0
  have k1 : w1.drew.cell? ⟨b, 1, none⟩ = some (.slice ca s.p.chains.length cc) := k1'
  have k2 : w1.drew.cell? ⟨b, 2, none⟩ = some (.int .i64 s.addr) := h.c2
  have hch := placeChain_any _ w1.drew s.p ca cc s.addr (hcl.mod ((Mod.refl none' _).drew) (fun _ _ _ => id))
  obtain ⟨l, hle⟩ : ∃ l, l = chainP s.p s.addr := ⟨_, rfl⟩
  rw [← hle] at hch
  have Hle := Lib.hid hle
  clear hcl k1' hle h hM1 hB0 hz0 b5 b6 b7
  go_wp2_with fail
  go_region_held3 (fun w' => w'.cell? ⟨b, 0, none⟩ = some (.int .i64 s.p.epoch) ∧ w'.cell? ⟨b, 1, none⟩ = some (.slice ca s.p.chains.length cc) ∧ w'.cell? ⟨b, 2, none⟩ = some (.int .i64 s.addr))
    (first
      | with_reducible exact ⟨k0, k1, k2⟩
      | with_reducible exact ⟨z0, z1, z2⟩)
    ((go_at_call 65; (with_reducible refine hch.mono ?_); rintro e w2 ⟨a2, n2, rfl, hl2, hB2', -⟩
      have hB2 : Below w1.heap.size w1 w2 := below_drew hB2'
      clear hB2' hl2
      have z0 := below_at hB2 k0 hlb
      have z1 := below_at hB2 k1 hlb
      have z2 := below_at hB2 k2 hlb
      have HB2 := Lib.hid hB2))
  have h := H1.out.below HB2.out
  replace b0 := below_at HB2.out b0 hnl
  replace b1 := below_at HB2.out b1 hnl
  replace b2 := below_at HB2.out b2 hnl
  replace b3 := below_at HB2.out b3 hnl
  replace b4 := below_at HB2.out b4 hnl
  have HMW := Lib.hid (HMW1.out.trans (Mod.of_below HB2.out))
  clear k0 k1 k2 z0 z1 z2 hch hB2 H1 HMW1 hlb hnl
  have c0 := h.c0
  obtain ⟨ca, cc, c1, hcl⟩ := h.c1
  have c2 := h.c2
  have c3 := h.c3
  have c4 := h.c4
  have c5 := h.c5
  have c6 := h.c6
  have c7 := h.c7
  have c8 := h.c8
  have c9 := h.c9
  have hl := h.lt
  have f4 := h.fr 4 (by omega)
  have f5 := h.fr 5 (by omega)
  have f6 := h.fr 6 (by omega)
  have f7 := h.fr 7 (by omega)
  have f8 := h.fr 8 (by omega)
  have f9 := h.fr 9 (by omega)
  have H := Lib.hid h
  clear h hcl
  rw [h5] at c4
  have c4' := c4
  rw [← h5] at c4'
  rcases Nat.lt_or_ge 1 l.length with hn | hn
  · have n1 : (1 : Int) < l.length := by omega
    have n2 : decide (l.length ≤ 1) = false := by simpa using hn
    have hne : ¬ ((chainP s.p s.addr).length : Int) ≤ 0 + 1 := by rw [← Hle.out]; omega
    have Hne := Lib.hid hne
    clear hne hn
    go_wp2_with fail
    go_step3
    go_wp2_with fail
    refine ⟨_, by rw [Hcode.out]; rfl, ?_⟩
    clear Hcode
    go_wp2_with fail
    with_reducible refine wp_label ?_
    go_wp2_with fail
    obtain ⟨wx, hNX_⟩ : ∃ wx, wx = ((w2.setCell ⟨b, 7, none⟩ (.int .i64 2)).setCell ⟨b, 8, none⟩ (.string ⟨#[]⟩)).setCell ⟨b, 6, none⟩ (.int .i64 0) := ⟨_, rfl⟩
    rw [← hNX_]
    have h : FeAt wx b S (⟨s.p, s.addr, s.fill, s.at, s.was, 0, 2, ⟨#[]⟩, s.err⟩ : FeS) := by rw [hNX_]; exact H.out.wrote (by exact modC (Mod.refl _ _)) (by go_simp) (by go_simp) (by go_simp) (by go_simp) (by go_simp) (by go_simp) (by go_simp) (by go_simp) (by go_simp) (by go_simp) (fun o => by go_simp)
    have HMx := Lib.hid (show Mod (· = b) w wx by rw [hNX_]; exact HMW.out.trans (by exact modC (Mod.refl _ _)))
    clear hNX_ c0 c1 c2 c3 c4 c5 c6 c7 c8 c9 f4 f5 f6 f7 f8 f9 H HMW hl
    have HMW := HMx
    clear HMx
    have c0 := h.c0
    obtain ⟨ca, cc, c1, hcl⟩ := h.c1
    have c2 := h.c2
    have c3 := h.c3
    have c4 := h.c4
    have c5 := h.c5
    have c6 := h.c6
    have c7 := h.c7
    have c8 := h.c8
    have c9 := h.c9
    have hl := h.lt
    have f4 := h.fr 4 (by omega)
    have f5 := h.fr 5 (by omega)
    have f6 := h.fr 6 (by omega)
    have f7 := h.fr 7 (by omega)
    have f8 := h.fr 8 (by omega)
    have f9 := h.fr 9 (by omega)
    have H := Lib.hid h
    clear h hcl
    with_reducible refine wp_label ?_
    go_wp2_with fail
    try rw [Exit.noGoto_ret]
    try rw [Exit.noGoto_normal]
    go_end0
    have hme : ∀ v, (⟨s.p, s.addr, s.fill, v, s.was, 0, 2, ⟨#[]⟩, s.err⟩ : FeS).mended (chainP s.p s.addr).length = (⟨s.p, s.addr, s.fill, 5, s.was, 0 + 1, 2, ⟨#[]⟩, s.err⟩ : FeS) := fun v => by
      unfold FeS.mended
      simp only
      rw [if_neg (by have := Hne.out; omega)]
    rw [hme]
    refine ⟨rfl, (H.out.wrote (by exact modC (Mod.refl _ _)) (by go_simp) (by go_simp) (by go_simp) (by go_simp) (by go_simp) (by go_simp) (by go_simp) (by go_simp) (by go_simp) (by go_simp) (fun o => by go_simp)).sub (fun _ _ hk => Or.inl hk), HMW.out.trans (by exact modC (Mod.refl _ _))⟩
  · have n1 : (l.length : Int) ≤ 1 := by omega
    have n2 : decide (l.length ≤ 1) = true := by simpa using hn
    have hne : ((chainP s.p s.addr).length : Int) ≤ 0 + 1 := by rw [← Hle.out]; omega
    have Hne := Lib.hid hne
    clear hne
    go_wp2_with fail
    go_step3
    go_wp2_with fail
    refine ⟨_, by rw [Hcode.out]; rfl, ?_⟩
    clear Hcode
    go_wp2_with fail
    with_reducible refine wp_label ?_
    go_wp2_with fail
    obtain ⟨wx, hNX_⟩ : ∃ wx, wx = ((w2.setCell ⟨b, 7, none⟩ (.int .i64 2)).setCell ⟨b, 8, none⟩ (.string ⟨#[]⟩)).setCell ⟨b, 6, none⟩ (.int .i64 0) := ⟨_, rfl⟩
    rw [← hNX_]
    have h : FeAt wx b S (⟨s.p, s.addr, s.fill, s.at, s.was, 0, 2, ⟨#[]⟩, s.err⟩ : FeS) := by rw [hNX_]; exact H.out.wrote (by exact modC (Mod.refl _ _)) (by go_simp) (by go_simp) (by go_simp) (by go_simp) (by go_simp) (by go_simp) (by go_simp) (by go_simp) (by go_simp) (by go_simp) (fun o => by go_simp)
    have HMx := Lib.hid (show Mod (· = b) w wx by rw [hNX_]; exact HMW.out.trans (by exact modC (Mod.refl _ _)))
    clear hNX_ c0 c1 c2 c3 c4 c5 c6 c7 c8 c9 f4 f5 f6 f7 f8 f9 H HMW hl
    have HMW := HMx
    clear HMx
    have c0 := h.c0
    obtain ⟨ca, cc, c1, hcl⟩ := h.c1
    have c2 := h.c2
    have c3 := h.c3
    have c4 := h.c4
    have c5 := h.c5
    have c6 := h.c6
    have c7 := h.c7
    have c8 := h.c8
    have c9 := h.c9
    have hl := h.lt
    have f4 := h.fr 4 (by omega)
    have f5 := h.fr 5 (by omega)
    have f6 := h.fr 6 (by omega)
    have f7 := h.fr 7 (by omega)
    have f8 := h.fr 8 (by omega)
    have f9 := h.fr 9 (by omega)
    have H := Lib.hid h
    clear h hcl
    with_reducible refine wp_label ?_
    go_wp2_with fail
    try rw [Exit.noGoto_ret]
    try rw [Exit.noGoto_normal]
    go_end0
    obtain ⟨wy, hNX_⟩ : ∃ wy, wy = (wx.setCell ⟨b, 6, none⟩ (.int .i64 1)).setCell ⟨b, 4, none⟩ (.int .i64 5) := ⟨_, rfl⟩
    rw [← hNX_]
    have h : FeAt wy b S (⟨s.p, s.addr, s.fill, 5, s.was, 1, 2, ⟨#[]⟩, s.err⟩ : FeS) := by rw [hNX_]; exact H.out.wrote (by exact modC (Mod.refl _ _)) (by go_simp) (by go_simp) (by go_simp) (by go_simp) (by go_simp) (by go_simp) (by go_simp) (by go_simp) (by go_simp) (by go_simp) (fun o => by go_simp)
    have HMx := Lib.hid (show Mod (· = b) w wy by rw [hNX_]; exact HMW.out.trans (by exact modC (Mod.refl _ _)))
    clear hNX_ c0 c1 c2 c3 c4 c5 c6 c7 c8 c9 f4 f5 f6 f7 f8 f9 H HMW hl
    have HMW := HMx
    clear HMx
    have c0 := h.c0
    obtain ⟨ca, cc, c1, hcl⟩ := h.c1
    have c2 := h.c2
    have c3 := h.c3
    have c4 := h.c4
    have c5 := h.c5
    have c6 := h.c6
    have c7 := h.c7
    have c8 := h.c8
    have c9 := h.c9
    have hl := h.lt
    have f4 := h.fr 4 (by omega)
    have f5 := h.fr 5 (by omega)
    have f6 := h.fr 6 (by omega)
    have f7 := h.fr 7 (by omega)
    have f8 := h.fr 8 (by omega)
    have f9 := h.fr 9 (by omega)
    have H := Lib.hid h
    clear h hcl
    have hme : ∀ v, (⟨s.p, s.addr, s.fill, v, s.was, 0, 2, ⟨#[]⟩, s.err⟩ : FeS).mended (chainP s.p s.addr).length = (⟨s.p, s.addr, s.fill, 6, s.was, 0 + 1, 2, ⟨#[]⟩, s.err⟩ : FeS) := fun v => by
      unfold FeS.mended
      simp only
      rw [if_pos (by have := Hne.out; omega)]
    rw [hme]
    refine ⟨rfl, (H.out.wrote (by exact modC (Mod.refl _ _)) (by go_simp) (by go_simp) (by go_simp) (by go_simp) (by go_simp) (by go_simp) (by go_simp) (by go_simp) (by go_simp) (by go_simp) (fun o => by go_simp)).sub (fun _ _ hk => Or.inl hk), HMW.out.trans (by exact modC (Mod.refl _ _))⟩
set_option maxRecDepth 100000 in
set_option maxHeartbeats 1000000 in
theorem feHear_first0 (h : FeAt w b S s) (h5 : s.at = 3) (hno : s.early x.code true = (s, false)) (hx : x.code = 0) : Calls Tryz.prog 73 #[.pointer (some ⟨b, 0, none⟩), aV x a c, .bool true] w (FePost w b S (({ s with kind := 1, s := x.data, i := 0 } : FeS).mended (chainP s.p s.addr).length)) := by
  obtain ⟨xc, xn, xd, ⟨xpe, xls⟩, xm, xs, xe⟩ := x
  obtain ⟨W0, hW0, hB0, hz0, b0, b1, b2, b3, b4, b5, b6, b7⟩ := an_boxA w (.int .i64 xc) (.int .i64 xn) (.string xd) (.int .i64 xpe) (.slice a xls.length c) (.int .i64 xm) (.int .i64 xs) (.int .i64 xe)
  simp only at *
  have he := feEarly_any (h.below hB0) xc true
  rw [hno] at he
  have HW0 := Lib.hid hW0
  have hlt := h.lt
  have c4 := h.c4
  rw [h5] at c4
  clear hW0 h hno
  simp only [aV]
  go_enter Tryz.func73, Tryz.ntmps73
  go_wp2_with fail
  subst hx
  refine wp_scope_fwd ?_
  intro code hcode
  have Hcode := Lib.hid hcode
  clear hcode
  go_wp2_with fail
  go_wp2_with fail
  rw [← HW0.out]
  refine he.mono ?_
  clear he
  rintro e w1 ⟨rfl, h, hM1⟩
  clear c4
  have H1 := Lib.hid h
  have hbn : w.heap.size ≠ b := by omega
  replace b0 := hM1.at b0 hbn
  replace b1 := hM1.at b1 hbn
  replace b2 := hM1.at b2 hbn
  replace b3 := hM1.at b3 hbn
  replace b4 := hM1.at b4 hbn
  have HMW1 := Lib.hid ((Mod.of_below hB0 : Mod (· = b) w W0).trans hM1)
  obtain ⟨ca, cc, k1', hcl⟩ := h.c1
  have hlb : b < w1.heap.size := h.lt
  have hnl : w.heap.size < w1.heap.size := cell_lt b0
  have k0 : w1.drew.cell? ⟨b, 0, none⟩ = some (.int .i64 s.p.epoch) := h.c0
  have k1 : w1.drew.cell? ⟨b, 1, none⟩ = some (.slice ca s.p.chains.length cc) := k1'
  have k2 : w1.drew.cell? ⟨b, 2, none⟩ = some (.int .i64 s.addr) := h.c2
  have hch := placeChain_any _ w1.drew s.p ca cc s.addr (hcl.mod ((Mod.refl none' _).drew) (fun _ _ _ => id))
  obtain ⟨l, hle⟩ : ∃ l, l = chainP s.p s.addr := ⟨_, rfl⟩
  rw [← hle] at hch
  have Hle := Lib.hid hle
  clear hcl k1' hle h hM1 hB0 hz0 b5 b6 b7
  go_wp2_with fail
  go_region_held3 (fun w' => w'.cell? ⟨b, 0, none⟩ = some (.int .i64 s.p.epoch) ∧ w'.cell? ⟨b, 1, none⟩ = some (.slice ca s.p.chains.length cc) ∧ w'.cell? ⟨b, 2, none⟩ = some (.int .i64 s.addr))
    (first
      | with_reducible exact ⟨k0, k1, k2⟩
      | with_reducible exact ⟨z0, z1, z2⟩)
    ((go_at_call 65; (with_reducible refine hch.mono ?_); rintro e w2 ⟨a2, n2, rfl, hl2, hB2', -⟩
      have hB2 : Below w1.heap.size w1 w2 := below_drew hB2'
      clear hB2' hl2
      have z0 := below_at hB2 k0 hlb
      have z1 := below_at hB2 k1 hlb
      have z2 := below_at hB2 k2 hlb
      have HB2 := Lib.hid hB2))
  have h := H1.out.below HB2.out
  replace b0 := below_at HB2.out b0 hnl
  replace b1 := below_at HB2.out b1 hnl
  replace b2 := below_at HB2.out b2 hnl
  replace b3 := below_at HB2.out b3 hnl
  replace b4 := below_at HB2.out b4 hnl
  have HMW := Lib.hid (HMW1.out.trans (Mod.of_below HB2.out))
  clear k0 k1 k2 z0 z1 z2 hch hB2 H1 HMW1 hlb hnl
  have c0 := h.c0
  obtain ⟨ca, cc, c1, hcl⟩ := h.c1
  have c2 := h.c2
  have c3 := h.c3
  have c4 := h.c4
  have c5 := h.c5
  have c6 := h.c6
  have c7 := h.c7
  have c8 := h.c8
  have c9 := h.c9
  have hl := h.lt
  have f4 := h.fr 4 (by omega)
  have f5 := h.fr 5 (by omega)
  have f6 := h.fr 6 (by omega)
  have f7 := h.fr 7 (by omega)
  have f8 := h.fr 8 (by omega)
  have f9 := h.fr 9 (by omega)
  have H := Lib.hid h
  clear h hcl
  rw [h5] at c4
  go_wp2_with fail
  go_region
  · skip
    rcases Nat.lt_or_ge 1 l.length with hn | hn
    · have n1 : (1 : Int) < l.length := by omega
      have n2 : decide (l.length ≤ 1) = false := by simpa using hn
      have hne : ¬ ((chainP s.p s.addr).length : Int) ≤ 0 + 1 := by rw [← Hle.out]; omega
      have Hne := Lib.hid hne
      clear hne hn
      go_wp2_with fail
      go_step3
      go_wp2_with fail
      refine ⟨_, by rw [Hcode.out]; rfl, ?_⟩
      clear Hcode
      go_wp2_with fail
      skip
      obtain ⟨wx, hNX_⟩ : ∃ wx, wx = ((w2.setCell ⟨b, 7, none⟩ (.int .i64 1)).setCell ⟨b, 8, none⟩ (.string xd)).setCell ⟨b, 6, none⟩ (.int .i64 0) := ⟨_, rfl⟩
      rw [← hNX_]
      have h : FeAt wx b S (⟨s.p, s.addr, s.fill, s.at, s.was, 0, 1, xd, s.err⟩ : FeS) := by rw [hNX_]; exact H.out.wrote (by exact modC (Mod.refl _ _)) (by go_simp) (by go_simp) (by go_simp) (by go_simp) (by go_simp) (by go_simp) (by go_simp) (by go_simp) (by go_simp) (by go_simp) (fun o => by go_simp)
      have HMx := Lib.hid (show Mod (· = b) w wx by rw [hNX_]; exact HMW.out.trans (by exact modC (Mod.refl _ _)))
      clear hNX_ c0 c1 c2 c3 c4 c5 c6 c7 c8 c9 f4 f5 f6 f7 f8 f9 H HMW hl
      have HMW := HMx
      clear HMx
      have c0 := h.c0
      obtain ⟨ca, cc, c1, hcl⟩ := h.c1
      have c2 := h.c2
      have c3 := h.c3
      have c4 := h.c4
      have c5 := h.c5
      have c6 := h.c6
      have c7 := h.c7
      have c8 := h.c8
      have c9 := h.c9
      have hl := h.lt
      have f4 := h.fr 4 (by omega)
      have f5 := h.fr 5 (by omega)
      have f6 := h.fr 6 (by omega)
      have f7 := h.fr 7 (by omega)
      have f8 := h.fr 8 (by omega)
      have f9 := h.fr 9 (by omega)
      have H := Lib.hid h
      clear h hcl
      with_reducible refine wp_label ?_
      go_wp2_with fail
      try rw [Exit.noGoto_ret]
      try rw [Exit.noGoto_normal]
      go_end0
      have hme : ∀ v, (⟨s.p, s.addr, s.fill, v, s.was, 0, 1, xd, s.err⟩ : FeS).mended (chainP s.p s.addr).length = (⟨s.p, s.addr, s.fill, 5, s.was, 0 + 1, 1, xd, s.err⟩ : FeS) := fun v => by
        unfold FeS.mended
        simp only
        rw [if_neg (by have := Hne.out; omega)]
      rw [hme]
      refine ⟨rfl, (H.out.wrote (by exact modC (Mod.refl _ _)) (by go_simp) (by go_simp) (by go_simp) (by go_simp) (by go_simp) (by go_simp) (by go_simp) (by go_simp) (by go_simp) (by go_simp) (fun o => by go_simp)).sub (fun _ _ hk => Or.inl hk), HMW.out.trans (by exact modC (Mod.refl _ _))⟩
    · have n1 : (l.length : Int) ≤ 1 := by omega
      have n2 : decide (l.length ≤ 1) = true := by simpa using hn
      have hne : ((chainP s.p s.addr).length : Int) ≤ 0 + 1 := by rw [← Hle.out]; omega
      have Hne := Lib.hid hne
      clear hne
      go_wp2_with fail
      go_step3
      go_wp2_with fail
      refine ⟨_, by rw [Hcode.out]; rfl, ?_⟩
      clear Hcode
      go_wp2_with fail
      skip
      obtain ⟨wx, hNX_⟩ : ∃ wx, wx = ((w2.setCell ⟨b, 7, none⟩ (.int .i64 1)).setCell ⟨b, 8, none⟩ (.string xd)).setCell ⟨b, 6, none⟩ (.int .i64 0) := ⟨_, rfl⟩
      rw [← hNX_]
      have h : FeAt wx b S (⟨s.p, s.addr, s.fill, s.at, s.was, 0, 1, xd, s.err⟩ : FeS) := by rw [hNX_]; exact H.out.wrote (by exact modC (Mod.refl _ _)) (by go_simp) (by go_simp) (by go_simp) (by go_simp) (by go_simp) (by go_simp) (by go_simp) (by go_simp) (by go_simp) (by go_simp) (fun o => by go_simp)
      have HMx := Lib.hid (show Mod (· = b) w wx by rw [hNX_]; exact HMW.out.trans (by exact modC (Mod.refl _ _)))
      clear hNX_ c0 c1 c2 c3 c4 c5 c6 c7 c8 c9 f4 f5 f6 f7 f8 f9 H HMW hl
      have HMW := HMx
      clear HMx
      have c0 := h.c0
      obtain ⟨ca, cc, c1, hcl⟩ := h.c1
      have c2 := h.c2
      have c3 := h.c3
      have c4 := h.c4
      have c5 := h.c5
      have c6 := h.c6
      have c7 := h.c7
      have c8 := h.c8
      have c9 := h.c9
      have hl := h.lt
      have f4 := h.fr 4 (by omega)
      have f5 := h.fr 5 (by omega)
      have f6 := h.fr 6 (by omega)
      have f7 := h.fr 7 (by omega)
      have f8 := h.fr 8 (by omega)
      have f9 := h.fr 9 (by omega)
      have H := Lib.hid h
      clear h hcl
      with_reducible refine wp_label ?_
      go_wp2_with fail
      try rw [Exit.noGoto_ret]
      try rw [Exit.noGoto_normal]
      go_end0
      obtain ⟨wy, hNX_⟩ : ∃ wy, wy = (wx.setCell ⟨b, 6, none⟩ (.int .i64 1)).setCell ⟨b, 4, none⟩ (.int .i64 5) := ⟨_, rfl⟩
      rw [← hNX_]
      have h : FeAt wy b S (⟨s.p, s.addr, s.fill, 5, s.was, 1, 1, xd, s.err⟩ : FeS) := by rw [hNX_]; exact H.out.wrote (by exact modC (Mod.refl _ _)) (by go_simp) (by go_simp) (by go_simp) (by go_simp) (by go_simp) (by go_simp) (by go_simp) (by go_simp) (by go_simp) (by go_simp) (fun o => by go_simp)
      have HMx := Lib.hid (show Mod (· = b) w wy by rw [hNX_]; exact HMW.out.trans (by exact modC (Mod.refl _ _)))
      clear hNX_ c0 c1 c2 c3 c4 c5 c6 c7 c8 c9 f4 f5 f6 f7 f8 f9 H HMW hl
      have HMW := HMx
      clear HMx
      have c0 := h.c0
      obtain ⟨ca, cc, c1, hcl⟩ := h.c1
      have c2 := h.c2
      have c3 := h.c3
      have c4 := h.c4
      have c5 := h.c5
      have c6 := h.c6
      have c7 := h.c7
      have c8 := h.c8
      have c9 := h.c9
      have hl := h.lt
      have f4 := h.fr 4 (by omega)
      have f5 := h.fr 5 (by omega)
      have f6 := h.fr 6 (by omega)
      have f7 := h.fr 7 (by omega)
      have f8 := h.fr 8 (by omega)
      have f9 := h.fr 9 (by omega)
      have H := Lib.hid h
      clear h hcl
      have hme : ∀ v, (⟨s.p, s.addr, s.fill, v, s.was, 0, 1, xd, s.err⟩ : FeS).mended (chainP s.p s.addr).length = (⟨s.p, s.addr, s.fill, 6, s.was, 0 + 1, 1, xd, s.err⟩ : FeS) := fun v => by
        unfold FeS.mended
        simp only
        rw [if_pos (by have := Hne.out; omega)]
      rw [hme]
      refine ⟨rfl, (H.out.wrote (by exact modC (Mod.refl _ _)) (by go_simp) (by go_simp) (by go_simp) (by go_simp) (by go_simp) (by go_simp) (by go_simp) (by go_simp) (by go_simp) (by go_simp) (fun o => by go_simp)).sub (fun _ _ hk => Or.inl hk), HMW.out.trans (by exact modC (Mod.refl _ _))⟩
set_option maxRecDepth 100000 in
set_option maxHeartbeats 1000000 in
theorem feHear_mend (h : FeAt w b S s) (h5 : s.at = 5) (hno : s.early x.code true = (s, false)) (hx : x.code = 0 ∨ x.code = 41) (k : Nat) (hi : s.i = k) (hk : k < 1000) : Calls Tryz.prog 73 #[.pointer (some ⟨b, 0, none⟩), aV x a c, .bool true] w (FePost w b S (s.mended (chainP s.p s.addr).length)) := by
  have Hi := Lib.hid hi
  have i0 : (0 : Int) ≤ k := by omega
  have i1 : (k : Int) < 1000 := by omega
  clear hi hk
  obtain ⟨xc, xn, xd, ⟨xpe, xls⟩, xm, xs, xe⟩ := x
  obtain ⟨W0, hW0, hB0, hz0, b0, b1, b2, b3, b4, b5, b6, b7⟩ := an_boxA w (.int .i64 xc) (.int .i64 xn) (.string xd) (.int .i64 xpe) (.slice a xls.length c) (.int .i64 xm) (.int .i64 xs) (.int .i64 xe)
  simp only at *
  have he := feEarly_any (h.below hB0) xc true
  rw [hno] at he
  have HW0 := Lib.hid hW0
  have hlt := h.lt
  have c4 := h.c4
  rw [h5] at c4
  clear hW0 h hno
  simp only [aV]
  go_enter Tryz.func73, Tryz.ntmps73
  go_wp2_with fail
  rcases hx with hx | hx
  · subst hx
    refine wp_scope_fwd ?_
    intro code hcode
    have Hcode := Lib.hid hcode
    clear hcode
    go_wp2_with fail
    go_wp2_with fail
    rw [← HW0.out]
    refine he.mono ?_
    clear he
    rintro e w1 ⟨rfl, h, hM1⟩
    clear c4
    have H1 := Lib.hid h
    have hbn : w.heap.size ≠ b := by omega
    replace b0 := hM1.at b0 hbn
    replace b1 := hM1.at b1 hbn
    replace b2 := hM1.at b2 hbn
    replace b3 := hM1.at b3 hbn
    replace b4 := hM1.at b4 hbn
    have HMW1 := Lib.hid ((Mod.of_below hB0 : Mod (· = b) w W0).trans hM1)
    obtain ⟨ca, cc, k1', hcl⟩ := h.c1
    have hlb : b < w1.heap.size := h.lt
    have hnl : w.heap.size < w1.heap.size := cell_lt b0
    have k0 : w1.drew.cell? ⟨b, 0, none⟩ = some (.int .i64 s.p.epoch) := h.c0
    have k1 : w1.drew.cell? ⟨b, 1, none⟩ = some (.slice ca s.p.chains.length cc) := k1'
    have k2 : w1.drew.cell? ⟨b, 2, none⟩ = some (.int .i64 s.addr) := h.c2
    have hch := placeChain_any _ w1.drew s.p ca cc s.addr (hcl.mod ((Mod.refl none' _).drew) (fun _ _ _ => id))
    obtain ⟨l, hle⟩ : ∃ l, l = chainP s.p s.addr := ⟨_, rfl⟩
    rw [← hle] at hch
    have Hle := Lib.hid hle
    clear hcl k1' hle h hM1 hB0 hz0 b5 b6 b7
    go_wp2_with fail
    go_region_held3 (fun w' => w'.cell? ⟨b, 0, none⟩ = some (.int .i64 s.p.epoch) ∧ w'.cell? ⟨b, 1, none⟩ = some (.slice ca s.p.chains.length cc) ∧ w'.cell? ⟨b, 2, none⟩ = some (.int .i64 s.addr))
      (first
        | with_reducible exact ⟨k0, k1, k2⟩
        | with_reducible exact ⟨z0, z1, z2⟩)
      ((go_at_call 65; (with_reducible refine hch.mono ?_); rintro e w2 ⟨a2, n2, rfl, hl2, hB2', -⟩
        have hB2 : Below w1.heap.size w1 w2 := below_drew hB2'
        clear hB2' hl2
        have z0 := below_at hB2 k0 hlb
        have z1 := below_at hB2 k1 hlb
        have z2 := below_at hB2 k2 hlb
        have HB2 := Lib.hid hB2))
    have h := H1.out.below HB2.out
    replace b0 := below_at HB2.out b0 hnl
    replace b1 := below_at HB2.out b1 hnl
    replace b2 := below_at HB2.out b2 hnl
    replace b3 := below_at HB2.out b3 hnl
    replace b4 := below_at HB2.out b4 hnl
    have HMW := Lib.hid (HMW1.out.trans (Mod.of_below HB2.out))
    clear k0 k1 k2 z0 z1 z2 hch hB2 H1 HMW1 hlb hnl
    have c0 := h.c0
    obtain ⟨ca, cc, c1, hcl⟩ := h.c1
    have c2 := h.c2
    have c3 := h.c3
    have c4 := h.c4
    have c5 := h.c5
    have c6 := h.c6
    have c7 := h.c7
    have c8 := h.c8
    have c9 := h.c9
    have hl := h.lt
    have f4 := h.fr 4 (by omega)
    have f5 := h.fr 5 (by omega)
    have f6 := h.fr 6 (by omega)
    have f7 := h.fr 7 (by omega)
    have f8 := h.fr 8 (by omega)
    have f9 := h.fr 9 (by omega)
    have H := Lib.hid h
    clear h hcl
    rw [h5] at c4
    rw [Hi.out] at c6
    rcases Nat.lt_or_ge (k + 1) l.length with hn | hn
    · have n1 : (k : Int) + 1 < l.length := by omega
      have hne : ¬ ((chainP s.p s.addr).length : Int) ≤ s.i + 1 := by rw [← Hle.out, Hi.out]; omega
      have Hne := Lib.hid hne
      clear hne
      go_wp2_with fail
      go_step3
      go_wp2_with fail
      refine ⟨_, by rw [Hcode.out]; rfl, ?_⟩
      clear Hcode
      go_wp2_with fail
      try rw [Exit.noGoto_ret]
      try rw [Exit.noGoto_normal]
      go_end0
      rw [show s.mended (chainP s.p s.addr).length = (⟨s.p, s.addr, s.fill, 5, s.was, (k : Int) + 1, s.kind, s.s, s.err⟩ : FeS) by unfold FeS.mended; rw [if_neg (by have := Hne.out; omega), Hi.out]]
      refine ⟨rfl, (H.out.wrote (by exact modC (Mod.refl _ _)) (by go_simp) (by go_simp) (by go_simp) (by go_simp) (by go_simp) (by go_simp) (by go_simp) (by go_simp) (by go_simp) (by go_simp) (fun o => by go_simp)).sub (fun _ _ hk => Or.inl hk), HMW.out.trans (by exact modC (Mod.refl _ _))⟩
    · have n1 : (l.length : Int) ≤ (k : Int) + 1 := by omega
      have hne : ((chainP s.p s.addr).length : Int) ≤ s.i + 1 := by rw [← Hle.out, Hi.out]; omega
      have Hne := Lib.hid hne
      clear hne
      go_wp2_with fail
      go_step3
      go_wp2_with fail
      refine ⟨_, by rw [Hcode.out]; rfl, ?_⟩
      clear Hcode
      go_wp2_with fail
      try rw [Exit.noGoto_ret]
      try rw [Exit.noGoto_normal]
      go_end0
      obtain ⟨wx, hNX_⟩ : ∃ wx, wx = (w2.setCell ⟨b, 6, none⟩ (.int .i64 ((k : Int) + 1))).setCell ⟨b, 4, none⟩ (.int .i64 5) := ⟨_, rfl⟩
      rw [← hNX_]
      have h : FeAt wx b S (⟨s.p, s.addr, s.fill, 5, s.was, (k : Int) + 1, s.kind, s.s, s.err⟩ : FeS) := by rw [hNX_]; exact H.out.wrote (by exact modC (Mod.refl _ _)) (by go_simp) (by go_simp) (by go_simp) (by go_simp) (by go_simp) (by go_simp) (by go_simp) (by go_simp) (by go_simp) (by go_simp) (fun o => by go_simp)
      have HMx := Lib.hid (show Mod (· = b) w wx by rw [hNX_]; exact HMW.out.trans (by exact modC (Mod.refl _ _)))
      clear hNX_ c0 c1 c2 c3 c4 c5 c6 c7 c8 c9 f4 f5 f6 f7 f8 f9 H HMW hl
      have HMW := HMx
      clear HMx
      have c0 := h.c0
      obtain ⟨ca, cc, c1, hcl⟩ := h.c1
      have c2 := h.c2
      have c3 := h.c3
      have c4 := h.c4
      have c5 := h.c5
      have c6 := h.c6
      have c7 := h.c7
      have c8 := h.c8
      have c9 := h.c9
      have hl := h.lt
      have f4 := h.fr 4 (by omega)
      have f5 := h.fr 5 (by omega)
      have f6 := h.fr 6 (by omega)
      have f7 := h.fr 7 (by omega)
      have f8 := h.fr 8 (by omega)
      have f9 := h.fr 9 (by omega)
      have H := Lib.hid h
      clear h hcl
      rw [show s.mended (chainP s.p s.addr).length = (⟨s.p, s.addr, s.fill, 6, s.was, (k : Int) + 1, s.kind, s.s, s.err⟩ : FeS) by unfold FeS.mended; rw [if_pos (by have := Hne.out; omega), Hi.out]]
      refine ⟨rfl, (H.out.wrote (by exact modC (Mod.refl _ _)) (by go_simp) (by go_simp) (by go_simp) (by go_simp) (by go_simp) (by go_simp) (by go_simp) (by go_simp) (by go_simp) (by go_simp) (fun o => by go_simp)).sub (fun _ _ hk => Or.inl hk), HMW.out.trans (by exact modC (Mod.refl _ _))⟩
  · subst hx
    refine wp_scope_fwd ?_
    intro code hcode
    have Hcode := Lib.hid hcode
    clear hcode
    go_wp2_with fail
    go_wp2_with fail
    rw [← HW0.out]
    refine he.mono ?_
    clear he
    rintro e w1 ⟨rfl, h, hM1⟩
    clear c4
    have H1 := Lib.hid h
    have hbn : w.heap.size ≠ b := by omega
    replace b0 := hM1.at b0 hbn
    replace b1 := hM1.at b1 hbn
    replace b2 := hM1.at b2 hbn
    replace b3 := hM1.at b3 hbn
    replace b4 := hM1.at b4 hbn
    have HMW1 := Lib.hid ((Mod.of_below hB0 : Mod (· = b) w W0).trans hM1)
    obtain ⟨ca, cc, k1', hcl⟩ := h.c1
    have hlb : b < w1.heap.size := h.lt
    have hnl : w.heap.size < w1.heap.size := cell_lt b0
    have k0 : w1.drew.cell? ⟨b, 0, none⟩ = some (.int .i64 s.p.epoch) := h.c0
    have k1 : w1.drew.cell? ⟨b, 1, none⟩ = some (.slice ca s.p.chains.length cc) := k1'
    have k2 : w1.drew.cell? ⟨b, 2, none⟩ = some (.int .i64 s.addr) := h.c2
    have hch := placeChain_any _ w1.drew s.p ca cc s.addr (hcl.mod ((Mod.refl none' _).drew) (fun _ _ _ => id))
    obtain ⟨l, hle⟩ : ∃ l, l = chainP s.p s.addr := ⟨_, rfl⟩
    rw [← hle] at hch
    have Hle := Lib.hid hle
    clear hcl k1' hle h hM1 hB0 hz0 b5 b6 b7
    go_wp2_with fail
    go_region_held3 (fun w' => w'.cell? ⟨b, 0, none⟩ = some (.int .i64 s.p.epoch) ∧ w'.cell? ⟨b, 1, none⟩ = some (.slice ca s.p.chains.length cc) ∧ w'.cell? ⟨b, 2, none⟩ = some (.int .i64 s.addr))
      (first
        | with_reducible exact ⟨k0, k1, k2⟩
        | with_reducible exact ⟨z0, z1, z2⟩)
      ((go_at_call 65; (with_reducible refine hch.mono ?_); rintro e w2 ⟨a2, n2, rfl, hl2, hB2', -⟩
        have hB2 : Below w1.heap.size w1 w2 := below_drew hB2'
        clear hB2' hl2
        have z0 := below_at hB2 k0 hlb
        have z1 := below_at hB2 k1 hlb
        have z2 := below_at hB2 k2 hlb
        have HB2 := Lib.hid hB2))
    have h := H1.out.below HB2.out
    replace b0 := below_at HB2.out b0 hnl
    replace b1 := below_at HB2.out b1 hnl
    replace b2 := below_at HB2.out b2 hnl
    replace b3 := below_at HB2.out b3 hnl
    replace b4 := below_at HB2.out b4 hnl
    have HMW := Lib.hid (HMW1.out.trans (Mod.of_below HB2.out))
    clear k0 k1 k2 z0 z1 z2 hch hB2 H1 HMW1 hlb hnl
    have c0 := h.c0
    obtain ⟨ca, cc, c1, hcl⟩ := h.c1
    have c2 := h.c2
    have c3 := h.c3
    have c4 := h.c4
    have c5 := h.c5
    have c6 := h.c6
    have c7 := h.c7
    have c8 := h.c8
    have c9 := h.c9
    have hl := h.lt
    have f4 := h.fr 4 (by omega)
    have f5 := h.fr 5 (by omega)
    have f6 := h.fr 6 (by omega)
    have f7 := h.fr 7 (by omega)
    have f8 := h.fr 8 (by omega)
    have f9 := h.fr 9 (by omega)
    have H := Lib.hid h
    clear h hcl
    rw [h5] at c4
    rw [Hi.out] at c6
    rcases Nat.lt_or_ge (k + 1) l.length with hn | hn
    · have n1 : (k : Int) + 1 < l.length := by omega
      have hne : ¬ ((chainP s.p s.addr).length : Int) ≤ s.i + 1 := by rw [← Hle.out, Hi.out]; omega
      have Hne := Lib.hid hne
      clear hne
      go_wp2_with fail
      go_step3
      go_wp2_with fail
      refine ⟨_, by rw [Hcode.out]; rfl, ?_⟩
      clear Hcode
      go_wp2_with fail
      try rw [Exit.noGoto_ret]
      try rw [Exit.noGoto_normal]
      go_end0
      rw [show s.mended (chainP s.p s.addr).length = (⟨s.p, s.addr, s.fill, 5, s.was, (k : Int) + 1, s.kind, s.s, s.err⟩ : FeS) by unfold FeS.mended; rw [if_neg (by have := Hne.out; omega), Hi.out]]
      refine ⟨rfl, (H.out.wrote (by exact modC (Mod.refl _ _)) (by go_simp) (by go_simp) (by go_simp) (by go_simp) (by go_simp) (by go_simp) (by go_simp) (by go_simp) (by go_simp) (by go_simp) (fun o => by go_simp)).sub (fun _ _ hk => Or.inl hk), HMW.out.trans (by exact modC (Mod.refl _ _))⟩
    · have n1 : (l.length : Int) ≤ (k : Int) + 1 := by omega
      have hne : ((chainP s.p s.addr).length : Int) ≤ s.i + 1 := by rw [← Hle.out, Hi.out]; omega
      have Hne := Lib.hid hne
      clear hne
      go_wp2_with fail
      go_step3
      go_wp2_with fail
      refine ⟨_, by rw [Hcode.out]; rfl, ?_⟩
      clear Hcode
      go_wp2_with fail
      try rw [Exit.noGoto_ret]
      try rw [Exit.noGoto_normal]
      go_end0
      obtain ⟨wx, hNX_⟩ : ∃ wx, wx = (w2.setCell ⟨b, 6, none⟩ (.int .i64 ((k : Int) + 1))).setCell ⟨b, 4, none⟩ (.int .i64 5) := ⟨_, rfl⟩
      rw [← hNX_]
      have h : FeAt wx b S (⟨s.p, s.addr, s.fill, 5, s.was, (k : Int) + 1, s.kind, s.s, s.err⟩ : FeS) := by rw [hNX_]; exact H.out.wrote (by exact modC (Mod.refl _ _)) (by go_simp) (by go_simp) (by go_simp) (by go_simp) (by go_simp) (by go_simp) (by go_simp) (by go_simp) (by go_simp) (by go_simp) (fun o => by go_simp)
      have HMx := Lib.hid (show Mod (· = b) w wx by rw [hNX_]; exact HMW.out.trans (by exact modC (Mod.refl _ _)))
      clear hNX_ c0 c1 c2 c3 c4 c5 c6 c7 c8 c9 f4 f5 f6 f7 f8 f9 H HMW hl
      have HMW := HMx
      clear HMx
      have c0 := h.c0
      obtain ⟨ca, cc, c1, hcl⟩ := h.c1
      have c2 := h.c2
      have c3 := h.c3
      have c4 := h.c4
      have c5 := h.c5
      have c6 := h.c6
      have c7 := h.c7
      have c8 := h.c8
      have c9 := h.c9
      have hl := h.lt
      have f4 := h.fr 4 (by omega)
      have f5 := h.fr 5 (by omega)
      have f6 := h.fr 6 (by omega)
      have f7 := h.fr 7 (by omega)
      have f8 := h.fr 8 (by omega)
      have f9 := h.fr 9 (by omega)
      have H := Lib.hid h
      clear h hcl
      rw [show s.mended (chainP s.p s.addr).length = (⟨s.p, s.addr, s.fill, 6, s.was, (k : Int) + 1, s.kind, s.s, s.err⟩ : FeS) by unfold FeS.mended; rw [if_pos (by have := Hne.out; omega), Hi.out]]
      refine ⟨rfl, (H.out.wrote (by exact modC (Mod.refl _ _)) (by go_simp) (by go_simp) (by go_simp) (by go_simp) (by go_simp) (by go_simp) (by go_simp) (by go_simp) (by go_simp) (by go_simp) (fun o => by go_simp)).sub (fun _ _ hk => Or.inl hk), HMW.out.trans (by exact modC (Mod.refl _ _))⟩
end
end Go.Proofs.YtghdhhbpbmhooaaGreat
/- an address that is read: a projection that it hears -/
namespace Go.Proofs.YtghdhhbpbmhooaaGreat
open Go.RowKit Esch

section
variable {w : World} {b : Nat} {S : Nat → Prop} {s : FeS} (x : AnS) (a : Option Addr) (c : Nat)
set_option maxRecDepth 100000 in
set_option maxHeartbeats 1000000 in
theorem feHear_layN (h : FeAt w b S s) (h5 : s.at = 0) (hno : s.early x.code true = (s, false)) (hx : x.code = 0) (S' : Nat → Prop) (hl0 : ListsAt S' w a x.p.chains) (hS : ∀ k, S' k → k ≠ b) (hg : goodB x.p = false) : Calls Tryz.prog 73 #[.pointer (some ⟨b, 0, none⟩), aV x a c, .bool true] w (FePost w b S s) := by
  have HL := Lib.hid hl0
  have Hg := Lib.hid hg
  have HS := Lib.hid hS
  clear hl0 hg hS
  obtain ⟨xc, xn, xd, ⟨xpe, xls⟩, xm, xs, xe⟩ := x
  obtain ⟨W0, hW0, hB0, hz0, b0, b1, b2, b3, b4, b5, b6, b7⟩ := an_boxA w (.int .i64 xc) (.int .i64 xn) (.string xd) (.int .i64 xpe) (.slice a xls.length c) (.int .i64 xm) (.int .i64 xs) (.int .i64 xe)
  simp only at *
  have he := feEarly_any (h.below hB0) xc true
  rw [hno] at he
  have HW0 := Lib.hid hW0
  have hlt := h.lt
  have c4 := h.c4
  rw [h5] at c4
  clear hW0 h hno
  simp only [aV]
  go_enter Tryz.func73, Tryz.ntmps73
  go_wp2_with fail
  subst hx
  go_step3
  go_wp2_with fail
  rw [← HW0.out]
  refine he.mono ?_
  clear he
  rintro e w1 ⟨rfl, h, hM1⟩
  clear c4
  have H1 := Lib.hid h
  have hbn : w.heap.size ≠ b := by omega
  replace b0 := hM1.at b0 hbn
  replace b1 := hM1.at b1 hbn
  replace b2 := hM1.at b2 hbn
  replace b3 := hM1.at b3 hbn
  replace b4 := hM1.at b4 hbn
  have HMW1 := Lib.hid ((Mod.of_below hB0 : Mod (· = b) w W0).trans hM1)
  obtain ⟨ca, cc, k1', hcl⟩ := h.c1
  have hlb : b < w1.heap.size := h.lt
  have hnl : w.heap.size < w1.heap.size := cell_lt b0
  have k0 : w1.drew.cell? ⟨b, 0, none⟩ = some (.int .i64 s.p.epoch) := h.c0
  have k1 : w1.drew.cell? ⟨b, 1, none⟩ = some (.slice ca s.p.chains.length cc) := k1'
  have k2 : w1.drew.cell? ⟨b, 2, none⟩ = some (.int .i64 s.addr) := h.c2
  have hch := placeChain_any _ w1.drew s.p ca cc s.addr (hcl.mod ((Mod.refl none' _).drew) (fun _ _ _ => id))
  obtain ⟨l, hle⟩ : ∃ l, l = chainP s.p s.addr := ⟨_, rfl⟩
  rw [← hle] at hch
  have Hle := Lib.hid hle
  clear hcl k1' hle h hM1 hB0 hz0 b5 b6 b7
  go_wp2_with fail
  go_region_held3 (fun w' => w'.cell? ⟨b, 0, none⟩ = some (.int .i64 s.p.epoch) ∧ w'.cell? ⟨b, 1, none⟩ = some (.slice ca s.p.chains.length cc) ∧ w'.cell? ⟨b, 2, none⟩ = some (.int .i64 s.addr))
    (first
      | with_reducible exact ⟨k0, k1, k2⟩
      | with_reducible exact ⟨z0, z1, z2⟩)
    ((go_at_call 65; (with_reducible refine hch.mono ?_); rintro e w2 ⟨a2, n2, rfl, hl2, hB2', -⟩
      have hB2 : Below w1.heap.size w1 w2 := below_drew hB2'
      clear hB2' hl2
      have z0 := below_at hB2 k0 hlb
      have z1 := below_at hB2 k1 hlb
      have z2 := below_at hB2 k2 hlb
      have HB2 := Lib.hid hB2))
  have h := H1.out.below HB2.out
  replace b0 := below_at HB2.out b0 hnl
  replace b1 := below_at HB2.out b1 hnl
  replace b2 := below_at HB2.out b2 hnl
  replace b3 := below_at HB2.out b3 hnl
  replace b4 := below_at HB2.out b4 hnl
  have HMW := Lib.hid (HMW1.out.trans (Mod.of_below HB2.out))
  clear k0 k1 k2 z0 z1 z2 hch hB2 H1 HMW1 hlb hnl
  have c0 := h.c0
  obtain ⟨ca, cc, c1, hcl⟩ := h.c1
  have c2 := h.c2
  have c3 := h.c3
  have c4 := h.c4
  have c5 := h.c5
  have c6 := h.c6
  have c7 := h.c7
  have c8 := h.c8
  have c9 := h.c9
  have hl := h.lt
  have f4 := h.fr 4 (by omega)
  have f5 := h.fr 5 (by omega)
  have f6 := h.fr 6 (by omega)
  have f7 := h.fr 7 (by omega)
  have f8 := h.fr 8 (by omega)
  have f9 := h.fr 9 (by omega)
  have H := Lib.hid h
  clear h hcl
  rw [h5] at c4
  have hgd := good_any S' w2 xpe a c xls (HL.out.mod HMW.out (fun k hk _ => HS.out k hk))
  rw [show goodB ⟨xpe, xls⟩ = false from Hg.out] at hgd
  go_wp2_with fail
  refine hgd.mono ?_
  clear hgd
  rintro e w5 ⟨rfl, hB5⟩
  have H2 := Lib.hid (H.out.below hB5)
  have HM2 := Lib.hid (HMW.out.trans (Mod.of_below hB5))
  clear hB5 H c0 c1 c2 c3 c4 c5 c6 c7 c8 c9 f4 f5 f6 f7 f8 f9 b0 b1 b2 b3 b4
  go_wp2_with fail
  rw [Exit.noGoto_ret]
  go_end0
  exact ⟨rfl, H2.out.sub (fun _ _ hk => Or.inl hk), HM2.out⟩
set_option maxRecDepth 100000 in
set_option maxHeartbeats 1000000 in
theorem feHear_layG (h : FeAt w b S s) (h5 : s.at = 0) (hno : s.early x.code true = (s, false)) (hx : x.code = 0) (S' : Nat → Prop) (hl0 : ListsAt S' w a x.p.chains) (hS : ∀ k, S' k → k ≠ b) (hg : goodB x.p = true) : Calls Tryz.prog 73 #[.pointer (some ⟨b, 0, none⟩), aV x a c, .bool true] w (FePost w b S { s with p := x.p, «at» := 2 }) := by
  have HL := Lib.hid hl0
  have Hg := Lib.hid hg
  have HS := Lib.hid hS
  clear hl0 hg hS
  obtain ⟨xc, xn, xd, ⟨xpe, xls⟩, xm, xs, xe⟩ := x
  obtain ⟨W0, hW0, hB0, hz0, b0, b1, b2, b3, b4, b5, b6, b7⟩ := an_boxA w (.int .i64 xc) (.int .i64 xn) (.string xd) (.int .i64 xpe) (.slice a xls.length c) (.int .i64 xm) (.int .i64 xs) (.int .i64 xe)
  simp only at *
  have he := feEarly_any (h.below hB0) xc true
  rw [hno] at he
  have HW0 := Lib.hid hW0
  have hlt := h.lt
  have c4 := h.c4
  rw [h5] at c4
  clear hW0 h hno
  simp only [aV]
  go_enter Tryz.func73, Tryz.ntmps73
  go_wp2_with fail
  subst hx
  go_step3
  go_wp2_with fail
  rw [← HW0.out]
  refine he.mono ?_
  clear he
  rintro e w1 ⟨rfl, h, hM1⟩
  clear c4
  have H1 := Lib.hid h
  have hbn : w.heap.size ≠ b := by omega
  replace b0 := hM1.at b0 hbn
  replace b1 := hM1.at b1 hbn
  replace b2 := hM1.at b2 hbn
  replace b3 := hM1.at b3 hbn
  replace b4 := hM1.at b4 hbn
  have HMW1 := Lib.hid ((Mod.of_below hB0 : Mod (· = b) w W0).trans hM1)
  obtain ⟨ca, cc, k1', hcl⟩ := h.c1
  have hlb : b < w1.heap.size := h.lt
  have hnl : w.heap.size < w1.heap.size := cell_lt b0
  have k0 : w1.drew.cell? ⟨b, 0, none⟩ = some (.int .i64 s.p.epoch) := h.c0
  have k1 : w1.drew.cell? ⟨b, 1, none⟩ = some (.slice ca s.p.chains.length cc) := k1'
  have k2 : w1.drew.cell? ⟨b, 2, none⟩ = some (.int .i64 s.addr) := h.c2
  have hch := placeChain_any _ w1.drew s.p ca cc s.addr (hcl.mod ((Mod.refl none' _).drew) (fun _ _ _ => id))
  obtain ⟨l, hle⟩ : ∃ l, l = chainP s.p s.addr := ⟨_, rfl⟩
  rw [← hle] at hch
  have Hle := Lib.hid hle
  clear hcl k1' hle h hM1 hB0 hz0 b5 b6 b7
  go_wp2_with fail
  go_region_held3 (fun w' => w'.cell? ⟨b, 0, none⟩ = some (.int .i64 s.p.epoch) ∧ w'.cell? ⟨b, 1, none⟩ = some (.slice ca s.p.chains.length cc) ∧ w'.cell? ⟨b, 2, none⟩ = some (.int .i64 s.addr))
    (first
      | with_reducible exact ⟨k0, k1, k2⟩
      | with_reducible exact ⟨z0, z1, z2⟩)
    ((go_at_call 65; (with_reducible refine hch.mono ?_); rintro e w2 ⟨a2, n2, rfl, hl2, hB2', -⟩
      have hB2 : Below w1.heap.size w1 w2 := below_drew hB2'
      clear hB2' hl2
      have z0 := below_at hB2 k0 hlb
      have z1 := below_at hB2 k1 hlb
      have z2 := below_at hB2 k2 hlb
      have HB2 := Lib.hid hB2))
  have h := H1.out.below HB2.out
  replace b0 := below_at HB2.out b0 hnl
  replace b1 := below_at HB2.out b1 hnl
  replace b2 := below_at HB2.out b2 hnl
  replace b3 := below_at HB2.out b3 hnl
  replace b4 := below_at HB2.out b4 hnl
  have HMW := Lib.hid (HMW1.out.trans (Mod.of_below HB2.out))
  clear k0 k1 k2 z0 z1 z2 hch hB2 H1 HMW1 hlb hnl
  have c0 := h.c0
  obtain ⟨ca, cc, c1, hcl⟩ := h.c1
  have c2 := h.c2
  have c3 := h.c3
  have c4 := h.c4
  have c5 := h.c5
  have c6 := h.c6
  have c7 := h.c7
  have c8 := h.c8
  have c9 := h.c9
  have hl := h.lt
  have f4 := h.fr 4 (by omega)
  have f5 := h.fr 5 (by omega)
  have f6 := h.fr 6 (by omega)
  have f7 := h.fr 7 (by omega)
  have f8 := h.fr 8 (by omega)
  have f9 := h.fr 9 (by omega)
  have H := Lib.hid h
  clear h hcl
  rw [h5] at c4
  have hgd := good_any S' w2 xpe a c xls (HL.out.mod HMW.out (fun k hk _ => HS.out k hk))
  rw [show goodB ⟨xpe, xls⟩ = true from Hg.out] at hgd
  have HLT := Lib.hid hlt
  clear hlt
  go_wp2_with fail
  refine hgd.mono ?_
  clear hgd
  rintro e w5 ⟨rfl, hB5⟩
  have hl1 : w.heap.size < w2.heap.size := cell_lt b0
  have z3 := below_at hB5 b3 hl1
  have z4 := below_at hB5 b4 hl1
  have H2 := Lib.hid (H.out.below hB5)
  have HM2 := Lib.hid (HMW.out.trans (Mod.of_below hB5))
  clear hB5 H HMW hl hl1 hbn c0 c1 c2 c3 c4 c5 c6 c7 c8 c9 f4 f5 f6 f7 f8 f9 b0 b1 b2 b3 b4
  have hsm := good_small (of_decide_eq_true (show decide (Proj.good ⟨xpe, xls⟩) = true from Hg.out))
  have hcp := copy_any S' w5 xpe a c xls hsm (HL.out.mod HM2.out (fun k hk _ => HS.out k hk))
  have Hsm := Lib.hid hsm
  clear hsm
  go_wp2_with fail
  refine hcp.mono ?_
  clear hcp
  rintro e w3 ⟨ia, ic, rfl, hl3, hB3⟩
  have h := H2.out.below hB3
  have HM3 := Lib.hid (HM2.out.trans (Mod.of_below hB3))
  have HL3 := Lib.hid hl3
  have HZ2 := Lib.hid HM2.out.size
  have HZ3 := Lib.hid hB3.size
  have HBL := Lib.hid H2.out.lt
  clear hB3 hl3 z3 z4 HM2
  have c0 := h.c0
  obtain ⟨ca, cc, c1, hcl⟩ := h.c1
  have c2 := h.c2
  have c3 := h.c3
  have c4 := h.c4
  have c5 := h.c5
  have c6 := h.c6
  have c7 := h.c7
  have c8 := h.c8
  have c9 := h.c9
  have hl := h.lt
  have f4 := h.fr 4 (by omega)
  have f5 := h.fr 5 (by omega)
  have f6 := h.fr 6 (by omega)
  have f7 := h.fr 7 (by omega)
  have f8 := h.fr 8 (by omega)
  have f9 := h.fr 9 (by omega)
  have H := Lib.hid h
  have f0 := h.fr 0 (by omega)
  have f1 := h.fr 1 (by omega)
  clear h hcl
  go_wp2_with fail
  rw [Exit.noGoto_ret]
  go_end0
  refine ⟨rfl, ⟨by go_simp, ⟨ia, ic, by go_simp, ?_⟩, by go_simp, by go_simp, by go_simp, by go_simp, by go_simp, by go_simp, by go_simp, by go_simp, fun o ho => by have := H.out.fr o ho; go_simp, Or.inl H.out.sb, Hsm.out⟩, HM3.out.trans (by exact modC (Mod.refl _ _))⟩
  refine (HL3.out.mod (F := (· = b)) (by exact modC (Mod.refl _ _)) (fun k hk _ e => ?_)).sub (fun k hkl hk => ?_)
  · have hk : w5.heap.size ≤ k := hk
    have := HBL.out
    omega
  · have hk : w5.heap.size ≤ k := hk
    have z2 := HZ2.out
    have hb := HBL.out
    exact ⟨Or.inr ⟨by omega, hkl⟩, by omega⟩
set_option maxRecDepth 100000 in
set_option maxHeartbeats 1000000 in
theorem feHear_chkS (h : FeAt w b S s) (h5 : s.at = 1) (hno : s.early x.code true = (s, false)) (hx : x.code = 0) (S' : Nat → Prop) (hl0 : ListsAt S' w a x.p.chains) (hS : ∀ k, S' k → k ≠ b) (hg : goodB x.p = true) (hq : x.p.epoch = s.p.epoch) : Calls Tryz.prog 73 #[.pointer (some ⟨b, 0, none⟩), aV x a c, .bool true] w (FePost w b S { s with «at» := s.was }) := by
  have Hq := Lib.hid hq
  clear hq
  have HL := Lib.hid hl0
  have Hg := Lib.hid hg
  have HS := Lib.hid hS
  clear hl0 hg hS
  obtain ⟨xc, xn, xd, ⟨xpe, xls⟩, xm, xs, xe⟩ := x
  obtain ⟨W0, hW0, hB0, hz0, b0, b1, b2, b3, b4, b5, b6, b7⟩ := an_boxA w (.int .i64 xc) (.int .i64 xn) (.string xd) (.int .i64 xpe) (.slice a xls.length c) (.int .i64 xm) (.int .i64 xs) (.int .i64 xe)
  simp only at *
  have he := feEarly_any (h.below hB0) xc true
  rw [hno] at he
  have HW0 := Lib.hid hW0
  have hlt := h.lt
  have c4 := h.c4
  rw [h5] at c4
  clear hW0 h hno
  simp only [aV]
  go_enter Tryz.func73, Tryz.ntmps73
  go_wp2_with fail
  subst hx
  go_step3
  go_wp2_with fail
  rw [← HW0.out]
  refine he.mono ?_
  clear he
  rintro e w1 ⟨rfl, h, hM1⟩
  clear c4
  have H1 := Lib.hid h
  have hbn : w.heap.size ≠ b := by omega
  replace b0 := hM1.at b0 hbn
  replace b1 := hM1.at b1 hbn
  replace b2 := hM1.at b2 hbn
  replace b3 := hM1.at b3 hbn
  replace b4 := hM1.at b4 hbn
  have HMW1 := Lib.hid ((Mod.of_below hB0 : Mod (· = b) w W0).trans hM1)
  obtain ⟨ca, cc, k1', hcl⟩ := h.c1
  have hlb : b < w1.heap.size := h.lt
  have hnl : w.heap.size < w1.heap.size := cell_lt b0
  have k0 : w1.drew.cell? ⟨b, 0, none⟩ = some (.int .i64 s.p.epoch) := h.c0
  have k1 : w1.drew.cell? ⟨b, 1, none⟩ = some (.slice ca s.p.chains.length cc) := k1'
  have k2 : w1.drew.cell? ⟨b, 2, none⟩ = some (.int .i64 s.addr) := h.c2
  have hch := placeChain_any _ w1.drew s.p ca cc s.addr (hcl.mod ((Mod.refl none' _).drew) (fun _ _ _ => id))
  obtain ⟨l, hle⟩ : ∃ l, l = chainP s.p s.addr := ⟨_, rfl⟩
  rw [← hle] at hch
  have Hle := Lib.hid hle
  clear hcl k1' hle h hM1 hB0 hz0 b5 b6 b7
  go_wp2_with fail
  go_region_held3 (fun w' => w'.cell? ⟨b, 0, none⟩ = some (.int .i64 s.p.epoch) ∧ w'.cell? ⟨b, 1, none⟩ = some (.slice ca s.p.chains.length cc) ∧ w'.cell? ⟨b, 2, none⟩ = some (.int .i64 s.addr))
    (first
      | with_reducible exact ⟨k0, k1, k2⟩
      | with_reducible exact ⟨z0, z1, z2⟩)
    ((go_at_call 65; (with_reducible refine hch.mono ?_); rintro e w2 ⟨a2, n2, rfl, hl2, hB2', -⟩
      have hB2 : Below w1.heap.size w1 w2 := below_drew hB2'
      clear hB2' hl2
      have z0 := below_at hB2 k0 hlb
      have z1 := below_at hB2 k1 hlb
      have z2 := below_at hB2 k2 hlb
      have HB2 := Lib.hid hB2))
  have h := H1.out.below HB2.out
  replace b0 := below_at HB2.out b0 hnl
  replace b1 := below_at HB2.out b1 hnl
  replace b2 := below_at HB2.out b2 hnl
  replace b3 := below_at HB2.out b3 hnl
  replace b4 := below_at HB2.out b4 hnl
  have HMW := Lib.hid (HMW1.out.trans (Mod.of_below HB2.out))
  clear k0 k1 k2 z0 z1 z2 hch hB2 H1 HMW1 hlb hnl
  have c0 := h.c0
  obtain ⟨ca, cc, c1, hcl⟩ := h.c1
  have c2 := h.c2
  have c3 := h.c3
  have c4 := h.c4
  have c5 := h.c5
  have c6 := h.c6
  have c7 := h.c7
  have c8 := h.c8
  have c9 := h.c9
  have hl := h.lt
  have f4 := h.fr 4 (by omega)
  have f5 := h.fr 5 (by omega)
  have f6 := h.fr 6 (by omega)
  have f7 := h.fr 7 (by omega)
  have f8 := h.fr 8 (by omega)
  have f9 := h.fr 9 (by omega)
  have H := Lib.hid h
  clear h hcl
  rw [h5] at c4
  go_wp2_with fail
  obtain ⟨w4, hw4⟩ : ∃ w4, w4 = w2.setCell ⟨b, 4, none⟩ (.int .i64 s.was) := ⟨_, rfl⟩
  rw [← hw4]
  have H4 := Lib.hid (show FeAt w4 b S { s with «at» := s.was } by rw [hw4]; exact H.out.wrote (by exact modC (Mod.refl _ _)) (by go_simp) (by go_simp) (by go_simp) (by go_simp) (by go_simp) (by go_simp) (by go_simp) (by go_simp) (by go_simp) (by go_simp) (fun o => by go_simp))
  have HM4 := Lib.hid (show Mod (· = b) w w4 by rw [hw4]; exact HMW.out.trans (by exact modC (Mod.refl _ _)))
  have k3 : w4.drew.cell? ⟨w.heap.size, 3, none⟩ = some (.int .i64 xpe) := by rw [hw4]; go_simp
  have k4 : w4.drew.cell? ⟨w.heap.size, 4, none⟩ = some (.slice a xls.length c) := by rw [hw4]; go_simp
  have ke : w4.drew.cell? ⟨b, 0, none⟩ = some (.int .i64 s.p.epoch) := H4.out.c0
  have hnl : w.heap.size < w4.heap.size := cell_lt k3
  have hbl : b < w4.heap.size := cell_lt ke
  have hgd := good_any S' w4.drew xpe a c xls (HL.out.mod HM4.out.drew (fun k hk _ => HS.out k hk))
  clear hw4 HMW H hlt hl hbn c0 c1 c2 c3 c4 c5 c6 c7 c8 c9 f4 f5 f6 f7 f8 f9 b0 b1 b2 b3 b4
  rw [show goodB ⟨xpe, xls⟩ = true from Hg.out] at hgd
  have eq : (xpe != s.p.epoch) = false := by simpa using Hq.out
  go_region_held3 (fun w' => w'.cell? ⟨w.heap.size, 3, none⟩ = some (.int .i64 xpe) ∧ w'.cell? ⟨w.heap.size, 4, none⟩ = some (.slice a xls.length c) ∧ w'.cell? ⟨b, 0, none⟩ = some (.int .i64 s.p.epoch))
    (first
      | with_reducible exact ⟨k3, k4, ke⟩
      | with_reducible exact ⟨z3, z4, ze⟩)
    ((go_at_call 45; (with_reducible refine hgd.mono ?_); rintro e w5 ⟨rfl, hB5'⟩
      have hB5 : Below w4.heap.size w4 w5 := below_drew hB5'
      clear hB5'
      have z3 := below_at hB5 k3 hnl
      have z4 := below_at hB5 k4 hnl
      have ze := below_at hB5 ke hbl
      have HB5 := Lib.hid hB5))
  all_goals
    clear k3 k4 ke z3 z4 ze hgd
    go_wp2_with fail
    rw [Exit.noGoto_ret]
    go_end0
    exact ⟨rfl, (H4.out.below HB5.out).sub (fun _ _ hk => Or.inl hk), HM4.out.trans (Mod.of_below HB5.out)⟩
set_option maxRecDepth 100000 in
set_option maxHeartbeats 1000000 in
theorem feHear_chkG (h : FeAt w b S s) (h5 : s.at = 1) (hno : s.early x.code true = (s, false)) (hx : x.code = 0) (S' : Nat → Prop) (hl0 : ListsAt S' w a x.p.chains) (hS : ∀ k, S' k → k ≠ b) (hg : goodB x.p = true) (hq : x.p.epoch ≠ s.p.epoch) : Calls Tryz.prog 73 #[.pointer (some ⟨b, 0, none⟩), aV x a c, .bool true] w (FePost w b S { s with p := x.p, «at» := 2 }) := by
  have Hq := Lib.hid hq
  clear hq
  have HL := Lib.hid hl0
  have Hg := Lib.hid hg
  have HS := Lib.hid hS
  clear hl0 hg hS
  obtain ⟨xc, xn, xd, ⟨xpe, xls⟩, xm, xs, xe⟩ := x
  obtain ⟨W0, hW0, hB0, hz0, b0, b1, b2, b3, b4, b5, b6, b7⟩ := an_boxA w (.int .i64 xc) (.int .i64 xn) (.string xd) (.int .i64 xpe) (.slice a xls.length c) (.int .i64 xm) (.int .i64 xs) (.int .i64 xe)
  simp only at *
  have he := feEarly_any (h.below hB0) xc true
  rw [hno] at he
  have HW0 := Lib.hid hW0
  have hlt := h.lt
  have c4 := h.c4
  rw [h5] at c4
  clear hW0 h hno
  simp only [aV]
  go_enter Tryz.func73, Tryz.ntmps73
  go_wp2_with fail
  subst hx
  go_step3
  go_wp2_with fail
  rw [← HW0.out]
  refine he.mono ?_
  clear he
  rintro e w1 ⟨rfl, h, hM1⟩
  clear c4
  have H1 := Lib.hid h
  have hbn : w.heap.size ≠ b := by omega
  replace b0 := hM1.at b0 hbn
  replace b1 := hM1.at b1 hbn
  replace b2 := hM1.at b2 hbn
  replace b3 := hM1.at b3 hbn
  replace b4 := hM1.at b4 hbn
  have HMW1 := Lib.hid ((Mod.of_below hB0 : Mod (· = b) w W0).trans hM1)
  obtain ⟨ca, cc, k1', hcl⟩ := h.c1
  have hlb : b < w1.heap.size := h.lt
  have hnl : w.heap.size < w1.heap.size := cell_lt b0
  have k0 : w1.drew.cell? ⟨b, 0, none⟩ = some (.int .i64 s.p.epoch) := h.c0
  have k1 : w1.drew.cell? ⟨b, 1, none⟩ = some (.slice ca s.p.chains.length cc) := k1'
  have k2 : w1.drew.cell? ⟨b, 2, none⟩ = some (.int .i64 s.addr) := h.c2
  have hch := placeChain_any _ w1.drew s.p ca cc s.addr (hcl.mod ((Mod.refl none' _).drew) (fun _ _ _ => id))
  obtain ⟨l, hle⟩ : ∃ l, l = chainP s.p s.addr := ⟨_, rfl⟩
  rw [← hle] at hch
  have Hle := Lib.hid hle
  clear hcl k1' hle h hM1 hB0 hz0 b5 b6 b7
  go_wp2_with fail
  go_region_held3 (fun w' => w'.cell? ⟨b, 0, none⟩ = some (.int .i64 s.p.epoch) ∧ w'.cell? ⟨b, 1, none⟩ = some (.slice ca s.p.chains.length cc) ∧ w'.cell? ⟨b, 2, none⟩ = some (.int .i64 s.addr))
    (first
      | with_reducible exact ⟨k0, k1, k2⟩
      | with_reducible exact ⟨z0, z1, z2⟩)
    ((go_at_call 65; (with_reducible refine hch.mono ?_); rintro e w2 ⟨a2, n2, rfl, hl2, hB2', -⟩
      have hB2 : Below w1.heap.size w1 w2 := below_drew hB2'
      clear hB2' hl2
      have z0 := below_at hB2 k0 hlb
      have z1 := below_at hB2 k1 hlb
      have z2 := below_at hB2 k2 hlb
      have HB2 := Lib.hid hB2))
  have h := H1.out.below HB2.out
  replace b0 := below_at HB2.out b0 hnl
  replace b1 := below_at HB2.out b1 hnl
  replace b2 := below_at HB2.out b2 hnl
  replace b3 := below_at HB2.out b3 hnl
  replace b4 := below_at HB2.out b4 hnl
  have HMW := Lib.hid (HMW1.out.trans (Mod.of_below HB2.out))
  clear k0 k1 k2 z0 z1 z2 hch hB2 H1 HMW1 hlb hnl
  have c0 := h.c0
  obtain ⟨ca, cc, c1, hcl⟩ := h.c1
  have c2 := h.c2
  have c3 := h.c3
  have c4 := h.c4
  have c5 := h.c5
  have c6 := h.c6
  have c7 := h.c7
  have c8 := h.c8
  have c9 := h.c9
  have hl := h.lt
  have f4 := h.fr 4 (by omega)
  have f5 := h.fr 5 (by omega)
  have f6 := h.fr 6 (by omega)
  have f7 := h.fr 7 (by omega)
  have f8 := h.fr 8 (by omega)
  have f9 := h.fr 9 (by omega)
  have H := Lib.hid h
  clear h hcl
  rw [h5] at c4
  go_wp2_with fail
  obtain ⟨w4, hw4⟩ : ∃ w4, w4 = w2.setCell ⟨b, 4, none⟩ (.int .i64 s.was) := ⟨_, rfl⟩
  rw [← hw4]
  have H4 := Lib.hid (show FeAt w4 b S { s with «at» := s.was } by rw [hw4]; exact H.out.wrote (by exact modC (Mod.refl _ _)) (by go_simp) (by go_simp) (by go_simp) (by go_simp) (by go_simp) (by go_simp) (by go_simp) (by go_simp) (by go_simp) (by go_simp) (fun o => by go_simp))
  have HM4 := Lib.hid (show Mod (· = b) w w4 by rw [hw4]; exact HMW.out.trans (by exact modC (Mod.refl _ _)))
  have k3 : w4.drew.cell? ⟨w.heap.size, 3, none⟩ = some (.int .i64 xpe) := by rw [hw4]; go_simp
  have k4 : w4.drew.cell? ⟨w.heap.size, 4, none⟩ = some (.slice a xls.length c) := by rw [hw4]; go_simp
  have ke : w4.drew.cell? ⟨b, 0, none⟩ = some (.int .i64 s.p.epoch) := H4.out.c0
  have hnl : w.heap.size < w4.heap.size := cell_lt k3
  have hbl : b < w4.heap.size := cell_lt ke
  have hgd := good_any S' w4.drew xpe a c xls (HL.out.mod HM4.out.drew (fun k hk _ => HS.out k hk))
  clear hw4 HMW H hlt hl hbn c0 c1 c2 c3 c4 c5 c6 c7 c8 c9 f4 f5 f6 f7 f8 f9 b0 b1 b2 b3 b4
  rw [show goodB ⟨xpe, xls⟩ = true from Hg.out] at hgd
  have eq : (xpe != s.p.epoch) = true := by simpa using Hq.out
  go_region_held3 (fun w' => w'.cell? ⟨w.heap.size, 3, none⟩ = some (.int .i64 xpe) ∧ w'.cell? ⟨w.heap.size, 4, none⟩ = some (.slice a xls.length c) ∧ w'.cell? ⟨b, 0, none⟩ = some (.int .i64 s.p.epoch))
    (first
      | with_reducible exact ⟨k3, k4, ke⟩
      | with_reducible exact ⟨z3, z4, ze⟩)
    ((go_at_call 45; (with_reducible refine hgd.mono ?_); rintro e w5 ⟨rfl, hB5'⟩
      have hB5 : Below w4.heap.size w4 w5 := below_drew hB5'
      clear hB5'
      have z3 := below_at hB5 k3 hnl
      have z4 := below_at hB5 k4 hnl
      have ze := below_at hB5 ke hbl
      have HB5 := Lib.hid hB5))
  have H2 := Lib.hid (H4.out.below HB5.out)
  have HM2 := Lib.hid (HM4.out.trans (Mod.of_below HB5.out))
  clear k3 k4 ke ze hgd hbl hnl hB5
  have hsm := good_small (of_decide_eq_true (show decide (Proj.good ⟨xpe, xls⟩) = true from Hg.out))
  have hcp := copy_any S' w5 xpe a c xls hsm (HL.out.mod HM2.out (fun k hk _ => HS.out k hk))
  have Hsm := Lib.hid hsm
  clear hsm
  go_wp2_with fail
  refine hcp.mono ?_
  clear hcp
  rintro e w3 ⟨ia, ic, rfl, hl3, hB3⟩
  have h := H2.out.below hB3
  have HM3 := Lib.hid (HM2.out.trans (Mod.of_below hB3))
  have HL3 := Lib.hid hl3
  have HZ2 := Lib.hid HM2.out.size
  have HZ3 := Lib.hid hB3.size
  have HBL := Lib.hid H2.out.lt
  clear hB3 hl3 z3 z4 HM2
  have c0 := h.c0
  obtain ⟨ca, cc, c1, hcl⟩ := h.c1
  have c2 := h.c2
  have c3 := h.c3
  have c4 := h.c4
  have c5 := h.c5
  have c6 := h.c6
  have c7 := h.c7
  have c8 := h.c8
  have c9 := h.c9
  have hl := h.lt
  have f4 := h.fr 4 (by omega)
  have f5 := h.fr 5 (by omega)
  have f6 := h.fr 6 (by omega)
  have f7 := h.fr 7 (by omega)
  have f8 := h.fr 8 (by omega)
  have f9 := h.fr 9 (by omega)
  have H := Lib.hid h
  have f0 := h.fr 0 (by omega)
  have f1 := h.fr 1 (by omega)
  clear h hcl
  go_wp2_with fail
  rw [Exit.noGoto_ret]
  go_end0
  refine ⟨rfl, ⟨by go_simp, ⟨ia, ic, by go_simp, ?_⟩, by go_simp, by go_simp, by go_simp, by go_simp, by go_simp, by go_simp, by go_simp, by go_simp, fun o ho => by have := H.out.fr o ho; go_simp, Or.inl H.out.sb, Hsm.out⟩, HM3.out.trans (by exact modC (Mod.refl _ _))⟩
  refine (HL3.out.mod (F := (· = b)) (by exact modC (Mod.refl _ _)) (fun k hk _ e => ?_)).sub (fun k hkl hk => ?_)
  · have hk : w5.heap.size ≤ k := hk
    have := HBL.out
    omega
  · have hk : w5.heap.size ≤ k := hk
    have z2 := HZ2.out
    have hb := HBL.out
    exact ⟨Or.inr ⟨by omega, hkl⟩, by omega⟩
set_option linter.unusedSimpArgs false in
set_option maxRecDepth 100000 in
set_option maxHeartbeats 8000000 in
theorem feHear_chkN (h : FeAt w b S s) (h5 : s.at = 1) (hno : s.early x.code true = (s, false)) (hx : x.code = 0) (S' : Nat → Prop) (hl0 : ListsAt S' w a x.p.chains) (hS : ∀ k, S' k → k ≠ b) (hg : goodB x.p = false) : Calls Tryz.prog 73 #[.pointer (some ⟨b, 0, none⟩), aV x a c, .bool true] w (FePost w b S { s with «at» := s.was }) := by
  have HL := Lib.hid hl0
  have Hg := Lib.hid hg
  have HS := Lib.hid hS
  clear hl0 hg hS
  obtain ⟨xc, xn, xd, ⟨xpe, xls⟩, xm, xs, xe⟩ := x
  obtain ⟨W0, hW0, hB0, hz0, b0, b1, b2, b3, b4, b5, b6, b7⟩ := an_boxA w (.int .i64 xc) (.int .i64 xn) (.string xd) (.int .i64 xpe) (.slice a xls.length c) (.int .i64 xm) (.int .i64 xs) (.int .i64 xe)
  simp only at *
  have he := feEarly_any (h.below hB0) xc true
  rw [hno] at he
  have HW0 := Lib.hid hW0
  have hlt := h.lt
  have c4 := h.c4
  rw [h5] at c4
  clear hW0 h hno
  simp only [aV]
  go_enter Tryz.func73, Tryz.ntmps73
  go_wp2_with fail
  subst hx
  go_step3
  go_wp2_with fail
  rw [← HW0.out]
  refine he.mono ?_
  clear he
  rintro e w1 ⟨rfl, h, hM1⟩
  clear c4
  have H1 := Lib.hid h
  have hbn : w.heap.size ≠ b := by omega
  replace b0 := hM1.at b0 hbn
  replace b1 := hM1.at b1 hbn
  replace b2 := hM1.at b2 hbn
  replace b3 := hM1.at b3 hbn
  replace b4 := hM1.at b4 hbn
  have HMW1 := Lib.hid ((Mod.of_below hB0 : Mod (· = b) w W0).trans hM1)
  obtain ⟨ca, cc, k1', hcl⟩ := h.c1
  have hlb : b < w1.heap.size := h.lt
  have hnl : w.heap.size < w1.heap.size := cell_lt b0
  have k0 : w1.drew.cell? ⟨b, 0, none⟩ = some (.int .i64 s.p.epoch) := h.c0
  have k1 : w1.drew.cell? ⟨b, 1, none⟩ = some (.slice ca s.p.chains.length cc) := k1'
  have k2 : w1.drew.cell? ⟨b, 2, none⟩ = some (.int .i64 s.addr) := h.c2
  have hch := placeChain_any _ w1.drew s.p ca cc s.addr (hcl.mod ((Mod.refl none' _).drew) (fun _ _ _ => id))
  obtain ⟨l, hle⟩ : ∃ l, l = chainP s.p s.addr := ⟨_, rfl⟩
  rw [← hle] at hch
  have Hle := Lib.hid hle
  clear hcl k1' hle h hM1 hB0 hz0 b5 b6 b7
  go_wp2_with fail
  go_region_held3 (fun w' => w'.cell? ⟨b, 0, none⟩ = some (.int .i64 s.p.epoch) ∧ w'.cell? ⟨b, 1, none⟩ = some (.slice ca s.p.chains.length cc) ∧ w'.cell? ⟨b, 2, none⟩ = some (.int .i64 s.addr))
    (first
      | with_reducible exact ⟨k0, k1, k2⟩
      | with_reducible exact ⟨z0, z1, z2⟩)
    ((go_at_call 65; (with_reducible refine hch.mono ?_); rintro e w2 ⟨a2, n2, rfl, hl2, hB2', -⟩
      have hB2 : Below w1.heap.size w1 w2 := below_drew hB2'
      clear hB2' hl2
      have z0 := below_at hB2 k0 hlb
      have z1 := below_at hB2 k1 hlb
      have z2 := below_at hB2 k2 hlb
      have HB2 := Lib.hid hB2))
  have h := H1.out.below HB2.out
  replace b0 := below_at HB2.out b0 hnl
  replace b1 := below_at HB2.out b1 hnl
  replace b2 := below_at HB2.out b2 hnl
  replace b3 := below_at HB2.out b3 hnl
  replace b4 := below_at HB2.out b4 hnl
  have HMW := Lib.hid (HMW1.out.trans (Mod.of_below HB2.out))
  clear k0 k1 k2 z0 z1 z2 hch hB2 H1 HMW1 hlb hnl
  have c0 := h.c0
  obtain ⟨ca, cc, c1, hcl⟩ := h.c1
  have c2 := h.c2
  have c3 := h.c3
  have c4 := h.c4
  have c5 := h.c5
  have c6 := h.c6
  have c7 := h.c7
  have c8 := h.c8
  have c9 := h.c9
  have hl := h.lt
  have f4 := h.fr 4 (by omega)
  have f5 := h.fr 5 (by omega)
  have f6 := h.fr 6 (by omega)
  have f7 := h.fr 7 (by omega)
  have f8 := h.fr 8 (by omega)
  have f9 := h.fr 9 (by omega)
  have H := Lib.hid h
  clear h hcl
  rw [h5] at c4
  go_wp2_with fail
  obtain ⟨w4, hw4⟩ : ∃ w4, w4 = w2.setCell ⟨b, 4, none⟩ (.int .i64 s.was) := ⟨_, rfl⟩
  rw [← hw4]
  have H4 := Lib.hid (show FeAt w4 b S { s with «at» := s.was } by rw [hw4]; exact H.out.wrote (by exact modC (Mod.refl _ _)) (by go_simp) (by go_simp) (by go_simp) (by go_simp) (by go_simp) (by go_simp) (by go_simp) (by go_simp) (by go_simp) (by go_simp) (fun o => by go_simp))
  have HM4 := Lib.hid (show Mod (· = b) w w4 by rw [hw4]; exact HMW.out.trans (by exact modC (Mod.refl _ _)))
  have k3 : w4.drew.cell? ⟨w.heap.size, 3, none⟩ = some (.int .i64 xpe) := by rw [hw4]; go_simp
  have k4 : w4.drew.cell? ⟨w.heap.size, 4, none⟩ = some (.slice a xls.length c) := by rw [hw4]; go_simp
  have ke : w4.drew.cell? ⟨b, 0, none⟩ = some (.int .i64 s.p.epoch) := H4.out.c0
  have hnl : w.heap.size < w4.heap.size := cell_lt k3
  have hbl : b < w4.heap.size := cell_lt ke
  have hgd := good_any S' w4.drew xpe a c xls (HL.out.mod HM4.out.drew (fun k hk _ => HS.out k hk))
  clear hw4 HMW H hlt hl hbn c0 c1 c2 c3 c4 c5 c6 c7 c8 c9 f4 f5 f6 f7 f8 f9 b0 b1 b2 b3 b4
  rw [show goodB ⟨xpe, xls⟩ = false from Hg.out] at hgd
  refine wp_region_held_drew (S := fun w' => w'.cell? ⟨w.heap.size, 3, none⟩ = some (.int .i64 xpe) ∧ w'.cell? ⟨w.heap.size, 4, none⟩ = some (.slice a xls.length c) ∧ w'.cell? ⟨b, 0, none⟩ = some (.int .i64 s.p.epoch)) (by kernel_rfl) ⟨k3, k4, ke⟩ (fun hHeld => ?_)
  refine takeL 0 ?_
  refine takeL 1 ?_
  refine takeL 2 ?_
  refine takeL 3 ?_
  refine takeL 4 ?_
  refine wpAnyH_ready (rs := [5]) (by kernel_rfl) (by simp) ?_
  refine AllReadyH.cons (o := ?_) ?_ (fun K hK => ?_) AllReadyH.nil
  rotate_left 1
  · simp only [List.getElem?_toArray, List.getElem?_cons_succ, List.getElem?_cons_zero]; rfl
  go_simp
  go_at_call 45
  with_reducible refine hgd.mono ?_
  rintro e w5 ⟨rfl, hB5'⟩
  have hB5 : Below w4.heap.size w4 w5 := below_drew hB5'
  clear hB5'
  have z3 := below_at hB5 k3 hnl
  have z4 := below_at hB5 k4 hnl
  have ze := below_at hB5 ke hbl
  have HB5 := Lib.hid hB5
  try go_wp2_with fail
  clear hHeld
  refine hK.out _ _ ⟨z3, z4, ze⟩ (fun hHeld => ?_)
  clear hK K
  try simp only [Act.put, List.setIfInBounds_toArray, List.set_cons_zero, List.set_cons_succ]
  refine takeL 6 ?_
  refine takeL 7 ?_
  refine takeU 8 ?_
  refine takeU 9 ?_
  refine takeU 10 ?_
  refine takeU 11 ?_
  refine takeU 12 ?_
  refine takeU 13 ?_
  refine takeU 14 ?_
  refine takeU 15 ?_
  refine takeU 16 ?_
  refine takeL 17 ?_
  refine wpAnyH_done (by kernel_rfl) ?_ _
  clear hHeld
  clear k3 k4 ke z3 z4 ze hgd
  go_wp2_with fail
  rw [Exit.noGoto_ret]
  go_end0
  exact ⟨rfl, (H4.out.below HB5.out).sub (fun _ _ hk => Or.inl hk), HM4.out.trans (Mod.of_below HB5.out)⟩
end
end Go.Proofs.YtghdhhbpbmhooaaGreat
/- an address that is read: its question where a unit is mended -/
namespace Go.Proofs.YtghdhhbpbmhooaaGreat
open Go.RowKit Esch

section
variable {w : World} {b : Nat} {S : Nat → Prop} {s : FeS}
set_option maxRecDepth 100000 in
set_option maxHeartbeats 4000000 in
theorem feAsk_mendW (h : FeAt w b S s) (h5 : s.at = 5) (hl1 : 0 < (chainP s.p s.addr).length) (k : Nat) (hi : s.i = k) (hk : k < (chainP s.p s.addr).length) (hkd : s.kind = 1) : Calls Tryz.prog 72 #[.pointer (some ⟨b, 0, none⟩)] w (FeAskPost w (⟨1, (chainP s.p s.addr).getD k 0, s.p.epoch, (ofP s.p s.addr).2.1, 0, 0, s.s, Esch.p0⟩, true)) := by
  have Hi := Lib.hid hi
  have Hkd := Lib.hid hkd
  clear hi hkd
  have hk' := hk
  have c0 := h.c0
  obtain ⟨ca, cc, c1, hcl⟩ := h.c1
  have c2 := h.c2
  have c4 := h.c4
  have c6 := h.c6
  have c7 := h.c7
  have c8 := h.c8
  have hl := h.lt
  rw [h5] at c4
  have hof := fun W (hM : Mod none' w W) => placeOf_any _ W s.p ca cc s.addr (hcl.mod hM (fun _ _ _ => id))
  have hch := fun W (hM : Mod none' w W) => placeChain_any _ W s.p ca cc s.addr (hcl.mod hM (fun _ _ _ => id))
  obtain ⟨l, hle⟩ : ∃ l, l = chainP s.p s.addr := ⟨_, rfl⟩
  rw [← hle] at hl1 hch ⊢
  try rw [← hle] at h64'
  try rw [← hle] at hk'
  obtain ⟨⟨r0, r1, rb⟩, hr⟩ : ∃ r, r = ofP s.p s.addr := ⟨_, rfl⟩
  rw [← hr] at hof ⊢
  have Hch := Lib.hid hch
  have Hl1 := Lib.hid hl1
  clear h hcl h5 hch hle hr hl1
  go_enter Tryz.func72, Tryz.ntmps72
  go_wp2_with fail
  obtain ⟨W1, hW1, hB1, hz1, qa⟩ := ask_box1 w
  rw [← hW1]
  have Hz1 := Lib.hid hz1
  clear hW1 hz1
  have k0 : W1.drew.cell? ⟨b, 0, none⟩ = some (.int .i64 s.p.epoch) := below_at hB1 c0 hl
  have k1 : W1.drew.cell? ⟨b, 1, none⟩ = some (.slice ca s.p.chains.length cc) := below_at hB1 c1 hl
  have k2 : W1.drew.cell? ⟨b, 2, none⟩ = some (.int .i64 s.addr) := below_at hB1 c2 hl
  have hof1 := hof W1.drew ((Mod.of_below hB1).drew)
  have hlb1 : b < W1.heap.size := by have := hB1.size; omega
  have k0a : (W1.alloc (.cells #[.int .i64 0, .int .i64 0] 127)).drew.cell? ⟨b, 0, none⟩ = some (.int .i64 s.p.epoch) := (cell_alloc_lt W1 _ b 0 hlb1).trans k0
  have k1a : (W1.alloc (.cells #[.int .i64 0, .int .i64 0] 127)).drew.cell? ⟨b, 1, none⟩ = some (.slice ca s.p.chains.length cc) := (cell_alloc_lt W1 _ b 1 hlb1).trans k1
  have k2a : (W1.alloc (.cells #[.int .i64 0, .int .i64 0] 127)).drew.cell? ⟨b, 2, none⟩ = some (.int .i64 s.addr) := (cell_alloc_lt W1 _ b 2 hlb1).trans k2
  have hof2 := hof (W1.alloc (.cells #[.int .i64 0, .int .i64 0] 127)).drew (((Mod.of_below hB1).alloc _).drew)
  have b0a : (W1.alloc (.cells #[.int .i64 0, .int .i64 0] 127)).cell? ⟨W1.heap.size, 0, none⟩ = some (.int .i64 0) := by go_simp
  have b1a : (W1.alloc (.cells #[.int .i64 0, .int .i64 0] 127)).cell? ⟨W1.heap.size, 1, none⟩ = some (.int .i64 0) := by go_simp
  have g0a : (W1.alloc (.cells #[.int .i64 0, .int .i64 0] 127)).frozen? ⟨W1.heap.size, 0, none⟩ = false := by go_simp
  have g1a : (W1.alloc (.cells #[.int .i64 0, .int .i64 0] 127)).frozen? ⟨W1.heap.size, 1, none⟩ = false := by go_simp
  clear hof
  go_region_held3 (fun w' => w'.cell? ⟨b, 0, none⟩ = some (.int .i64 s.p.epoch) ∧ w'.cell? ⟨b, 1, none⟩ = some (.slice ca s.p.chains.length cc) ∧ w'.cell? ⟨b, 2, none⟩ = some (.int .i64 s.addr))
    (first
      | with_reducible exact ⟨k0, k1, k2⟩
      | with_reducible exact ⟨k0a, k1a, k2a⟩
      | with_reducible exact ⟨z0, z1, z2⟩
      | with_reducible exact ⟨z0a _, z1a _, z2a _⟩
      | with_reducible exact ⟨z0b, z1b, z2b⟩
      | fail)
    (first
      | (go_at_call 64; (with_reducible refine hof1.mono ?_); rintro e w2 ⟨rfl, hB2'⟩
         have hB2 : Below W1.heap.size W1 w2 := below_drew hB2'
         clear hB2'
         have hlb2 : b < w2.heap.size := by have := hB2.size; omega
         have z0 := below_at hB2 k0 hlb1
         have z1 := below_at hB2 k1 hlb1
         have z2 := below_at hB2 k2 hlb1
         have z0a := fun o => (cell_alloc_lt w2 o b 0 hlb2).trans z0
         have z1a := fun o => (cell_alloc_lt w2 o b 1 hlb2).trans z1
         have z2a := fun o => (cell_alloc_lt w2 o b 2 hlb2).trans z2)
      | (go_at_call 64; (with_reducible refine hof2.mono ?_); rintro e w2 ⟨rfl, hB2'⟩
         have hB2 : Below (W1.heap.size + 1) (W1.alloc (.cells #[.int .i64 0, .int .i64 0] 127)) w2 := by have := below_drew hB2'; rwa [show (W1.alloc (.cells #[.int .i64 0, .int .i64 0] 127)).drew.heap.size = W1.heap.size + 1 from World.size_alloc ..] at this
         clear hB2'
         have z0 := below_at hB2 k0a (by omega)
         have z1 := below_at hB2 k1a (by omega)
         have z2 := below_at hB2 k2a (by omega)
         have z0b := (set2_other w2 W1.heap.size b 0 (.int .i64 r0) (.int .i64 r1) hlb1).trans z0
         have z1b := (set2_other w2 W1.heap.size b 1 (.int .i64 r0) (.int .i64 r1) hlb1).trans z1
         have z2b := (set2_other w2 W1.heap.size b 2 (.int .i64 r0) (.int .i64 r1) hlb1).trans z2
         have y0 := below_at hB2 b0a (by omega)
         have y1 := below_at hB2 b1a (by omega)
         have g0 := (hB2.frozen (p := ⟨W1.heap.size, 0, none⟩) (show W1.heap.size < W1.heap.size + 1 by omega)).trans g0a
         have g1 := (hB2.frozen (p := ⟨W1.heap.size, 1, none⟩) (show W1.heap.size < W1.heap.size + 1 by omega)).trans g1a))
  all_goals
    first
    | (obtain ⟨W9, k9, hW9, hk9, A⟩ := fePlace_one (r0 := r0) (r1 := r1) (T := 127) hB1 Hz1.out qa hB2
       rw [← hW9, ← hk9]
       clear hW9 hk9 hof1 hof2 k0 k1 k2 k0a k1a k2a b0a b1a g0a g1a hlb1 z0 z1 z2 z0a z1a z2a hlb2 hB2 hB1 qa Hz1)
    | (obtain ⟨W9, k9, hW9, hk9, A⟩ := fePlace_two (r0 := r0) (r1 := r1) (T := 127) hB1 Hz1.out qa hB2 y0 y1 g0 g1
       rw [← hW9, ← hk9]
       clear hW9 hk9 hof1 hof2 k0 k1 k2 k0a k1a k2a b0a b1a g0a g1a hlb1 z0 z1 z2 z0b z1b z2b y0 y1 g0 g1 hB2 hB1 qa Hz1)
  all_goals
    skip
    have Hkl := Lib.hid (show k < l.length from hk')
    rw [Hi.out] at c6
    have hch9 := Hch.out W9.drew ((Mod.of_below A.B).drew)
    have hlb9 : b < W9.heap.size := by have := A.B.size; omega
    have k0 : W9.drew.cell? ⟨b, 0, none⟩ = some (.int .i64 s.p.epoch) := below_at A.B c0 hl
    have k1 : W9.drew.cell? ⟨b, 1, none⟩ = some (.slice ca s.p.chains.length cc) := below_at A.B c1 hl
    have k2 : W9.drew.cell? ⟨b, 2, none⟩ = some (.int .i64 s.addr) := below_at A.B c2 hl
    have HA := Lib.hid A
    clear A Hch
    go_wp2_with fail
    go_region_held3 (fun w' => w'.cell? ⟨b, 0, none⟩ = some (.int .i64 s.p.epoch) ∧ w'.cell? ⟨b, 1, none⟩ = some (.slice ca s.p.chains.length cc) ∧ w'.cell? ⟨b, 2, none⟩ = some (.int .i64 s.addr))
      (first
        | with_reducible exact ⟨k0, k1, k2⟩
        | with_reducible exact ⟨z0, z1, z2⟩
        | fail)
      ((go_at_call 65; (with_reducible refine hch9.mono ?_); rintro e w2 ⟨a2, n2, rfl, hi2, hB2', -⟩
        have hB2 : Below W9.heap.size W9 w2 := below_drew hB2'
        clear hB2'
        have z0 := below_at hB2 k0 hlb9
        have z1 := below_at hB2 k1 hlb9
        have z2 := below_at hB2 k2 hlb9
        have HI2 := Lib.hid hi2
        have HB2 := Lib.hid hB2
        clear hi2 hB2))
    have hz2 := HB2.out.size
    have hk9 := HA.out.kl
    have hk92 := HA.out.k2
    obtain ⟨ab, af, rfl, hab, hal, hac⟩ := HI2.out.2 Hl1.out
    have hab' : W9.heap.size ≤ ab := hab
    have hBw2 : Below w.heap.size w w2 := HA.out.B.trans (HB2.out.mono HA.out.B.size)
    have hqa2 := HA.out.qa.below HB2.out (by have := HA.out.B.size; omega)
    have hl01 : (0 : Int) < l.length := by have := Hl1.out; omega
    have x0 : w2.drew.cell? ⟨ab, af, none⟩ = some (.int .i64 (l.getD 0 0)) := hac 0 Hl1.out
    have y0 : w2.drew.cell? ⟨b, 0, none⟩ = some (.int .i64 s.p.epoch) := z0
    have yp : w2.drew.cell? ⟨k9, 1, none⟩ = some (.int .i64 r1) := below_at HB2.out HA.out.p1 hk9
    obtain ⟨g0v, hg0v⟩ : ∃ g, g = l.getD 0 0 := ⟨_, rfl⟩
    rw [← hg0v] at x0
    try rw [← hg0v]
    have Hg0 := Lib.hid hg0v
    clear hg0v
    have hwl : w.heap.size < w2.heap.size := by omega
    have hbl2 : b < w2.heap.size := by omega
    have hkl2 : k9 < w2.heap.size := by omega
    have HAC := Lib.hid hac
    have Hqa2 := Lib.hid hqa2
    have HBw2 := Lib.hid hBw2
    have Hal := Lib.hid hal
    have xa : ∀ o, (w2.alloc o).drew.cell? ⟨ab, af, none⟩ = some (.int .i64 g0v) := fun o => (cell_alloc_lt w2 o ab af hal).trans x0
    have ya : ∀ o, (w2.alloc o).drew.cell? ⟨b, 0, none⟩ = some (.int .i64 s.p.epoch) := fun o => (cell_alloc_lt w2 o b 0 hbl2).trans y0
    have ypa : ∀ o, (w2.alloc o).drew.cell? ⟨k9, 1, none⟩ = some (.int .i64 r1) := fun o => (cell_alloc_lt w2 o k9 1 hkl2).trans yp
    have hl00 := Hl1.out
    clear hch9 k0 k1 k2 z1 z2 hz2 hk92 hab hac hqa2 hBw2 hab' hk9
    go_wp2_with fail
    go_region_held3 (fun w' => w'.cell? ⟨ab, af, none⟩ = some (.int .i64 g0v) ∧ w'.cell? ⟨b, 0, none⟩ = some (.int .i64 s.p.epoch) ∧ w'.cell? ⟨k9, 1, none⟩ = some (.int .i64 r1))
      (first
        | with_reducible exact ⟨x0, y0, yp⟩
        | with_reducible exact ⟨xa _, ya _, ypa _⟩
        | fail)
      (fail)
    have xl := HAC.out k Hkl.out
    obtain ⟨glv, hglv⟩ : ∃ g, g = l.getD k 0 := ⟨_, rfl⟩
    rw [← hglv] at xl
    have Hgl := Lib.hid hglv
    clear hglv
    obtain ⟨W, qb, hW, hqb, Q, hBq⟩ := feQ_new (w := w) (w2 := w2) (a0 := 3) (a1 := g0v) (a2 := s.p.epoch) (a3 := r1) HBw2.out hwl Hqa2.out
    have hW' : W = _ := hW
    rw [← hW, ← hqb]
    have d4 := below_at (HBw2.out.trans (hBq.mono HBw2.out.size)) c4 hl
    have d6 := below_at (HBw2.out.trans (hBq.mono HBw2.out.size)) c6 hl
    have d7 := below_at (HBw2.out.trans (hBq.mono HBw2.out.size)) c7 hl
    have d8 := below_at (HBw2.out.trans (hBq.mono HBw2.out.size)) c8 hl
    have HQ := Lib.hid Q
    have HBq := Lib.hid hBq
    have nqa : ab ≠ qb := by have := Hal.out; omega
    have nqa' : qb ≠ ab := fun e => nqa e.symm
    have nqb : b ≠ qb := by omega
    have nqb' : qb ≠ b := fun e => nqb e.symm
    clear hW hW' hqb Q hBq c0 c1 c2 c4 c6 c7 c8 x0 y0 yp z0 xa ya ypa hbl2 hkl2 hlb9 hwl
    obtain ⟨-, qne, ⟨ra0, ra1, ra2, ra3, ra4, ra5, ra6, ra7, ra8, rf⟩, q0, q1, q2, q3, q4, q5, q6, q7, q8, qf⟩ := HQ.out
    have rf0 := rf 0 (by omega)
    have rf1 := rf 1 (by omega)
    have rf2 := rf 2 (by omega)
    have rf3 := rf 3 (by omega)
    have rf4 := rf 4 (by omega)
    have rf5 := rf 5 (by omega)
    have rf6 := rf 6 (by omega)
    have rf7 := rf 7 (by omega)
    have rf8 := rf 8 (by omega)
    have qf0 := qf 0 (by omega)
    have qf1 := qf 1 (by omega)
    have qf2 := qf 2 (by omega)
    have qf3 := qf 3 (by omega)
    have qf4 := qf 4 (by omega)
    have qf5 := qf 5 (by omega)
    have qf6 := qf 6 (by omega)
    have qf7 := qf 7 (by omega)
    have qf8 := qf 8 (by omega)
    clear rf qf
    simp only at q0 q1 q2 q3 q6
    have xq := below_at HBq.out xl Hal.out
    clear xl
    have n0 : (0 : Int) ≤ k := by omega
    have n1 : (k : Int) < l.length := by have := Hkl.out; omega
    rw [Hkd.out] at d7
    go_wp2_with fail
    go_region
    all_goals
      skip
      go_wp2_with fail
      try go_region
      all_goals
        skip
        go_wp2_with fail
        refine bodyPost_ret (v := .tuple #[qV ⟨1, glv, s.p.epoch, r1, 0, 0, s.s, Esch.p0⟩ none 0, .bool true]) (by simp only [results, Tryz.results72, qV, Esch.p0, List.length_nil]; go_simp) rfl ?_
        refine ⟨?_, by exact belC HQ.out.B⟩
        first
        | rfl
        | (rw [← Hg0.out])
        | (rw [← Hgl.out])
        | (have hgg : l.getD (ll + 1 - 1) 0 = glv := by rw [Hgl.out, Hln.out]
           rw [← hgg]
           rfl)
set_option maxRecDepth 100000 in
set_option maxHeartbeats 4000000 in
theorem feAsk_mendF (h : FeAt w b S s) (h5 : s.at = 5) (hl1 : 0 < (chainP s.p s.addr).length) (k : Nat) (hi : s.i = k) (hk : k < (chainP s.p s.addr).length) (hkd : s.kind ≠ 1) : Calls Tryz.prog 72 #[.pointer (some ⟨b, 0, none⟩)] w (FeAskPost w (⟨2, (chainP s.p s.addr).getD k 0, s.p.epoch, (ofP s.p s.addr).2.1, 0, 0, ⟨#[]⟩, Esch.p0⟩, true)) := by
  have Hi := Lib.hid hi
  have Hkd := Lib.hid hkd
  clear hi hkd
  have hk' := hk
  have c0 := h.c0
  obtain ⟨ca, cc, c1, hcl⟩ := h.c1
  have c2 := h.c2
  have c4 := h.c4
  have c6 := h.c6
  have c7 := h.c7
  have c8 := h.c8
  have hl := h.lt
  rw [h5] at c4
  have hof := fun W (hM : Mod none' w W) => placeOf_any _ W s.p ca cc s.addr (hcl.mod hM (fun _ _ _ => id))
  have hch := fun W (hM : Mod none' w W) => placeChain_any _ W s.p ca cc s.addr (hcl.mod hM (fun _ _ _ => id))
  obtain ⟨l, hle⟩ : ∃ l, l = chainP s.p s.addr := ⟨_, rfl⟩
  rw [← hle] at hl1 hch ⊢
  try rw [← hle] at h64'
  try rw [← hle] at hk'
  obtain ⟨⟨r0, r1, rb⟩, hr⟩ : ∃ r, r = ofP s.p s.addr := ⟨_, rfl⟩
  rw [← hr] at hof ⊢
  have Hch := Lib.hid hch
  have Hl1 := Lib.hid hl1
  clear h hcl h5 hch hle hr hl1
  go_enter Tryz.func72, Tryz.ntmps72
  go_wp2_with fail
  obtain ⟨W1, hW1, hB1, hz1, qa⟩ := ask_box1 w
  rw [← hW1]
  have Hz1 := Lib.hid hz1
  clear hW1 hz1
  have k0 : W1.drew.cell? ⟨b, 0, none⟩ = some (.int .i64 s.p.epoch) := below_at hB1 c0 hl
  have k1 : W1.drew.cell? ⟨b, 1, none⟩ = some (.slice ca s.p.chains.length cc) := below_at hB1 c1 hl
  have k2 : W1.drew.cell? ⟨b, 2, none⟩ = some (.int .i64 s.addr) := below_at hB1 c2 hl
  have hof1 := hof W1.drew ((Mod.of_below hB1).drew)
  have hlb1 : b < W1.heap.size := by have := hB1.size; omega
  have k0a : (W1.alloc (.cells #[.int .i64 0, .int .i64 0] 127)).drew.cell? ⟨b, 0, none⟩ = some (.int .i64 s.p.epoch) := (cell_alloc_lt W1 _ b 0 hlb1).trans k0
  have k1a : (W1.alloc (.cells #[.int .i64 0, .int .i64 0] 127)).drew.cell? ⟨b, 1, none⟩ = some (.slice ca s.p.chains.length cc) := (cell_alloc_lt W1 _ b 1 hlb1).trans k1
  have k2a : (W1.alloc (.cells #[.int .i64 0, .int .i64 0] 127)).drew.cell? ⟨b, 2, none⟩ = some (.int .i64 s.addr) := (cell_alloc_lt W1 _ b 2 hlb1).trans k2
  have hof2 := hof (W1.alloc (.cells #[.int .i64 0, .int .i64 0] 127)).drew (((Mod.of_below hB1).alloc _).drew)
  have b0a : (W1.alloc (.cells #[.int .i64 0, .int .i64 0] 127)).cell? ⟨W1.heap.size, 0, none⟩ = some (.int .i64 0) := by go_simp
  have b1a : (W1.alloc (.cells #[.int .i64 0, .int .i64 0] 127)).cell? ⟨W1.heap.size, 1, none⟩ = some (.int .i64 0) := by go_simp
  have g0a : (W1.alloc (.cells #[.int .i64 0, .int .i64 0] 127)).frozen? ⟨W1.heap.size, 0, none⟩ = false := by go_simp
  have g1a : (W1.alloc (.cells #[.int .i64 0, .int .i64 0] 127)).frozen? ⟨W1.heap.size, 1, none⟩ = false := by go_simp
  clear hof
  go_region_held3 (fun w' => w'.cell? ⟨b, 0, none⟩ = some (.int .i64 s.p.epoch) ∧ w'.cell? ⟨b, 1, none⟩ = some (.slice ca s.p.chains.length cc) ∧ w'.cell? ⟨b, 2, none⟩ = some (.int .i64 s.addr))
    (first
      | with_reducible exact ⟨k0, k1, k2⟩
      | with_reducible exact ⟨k0a, k1a, k2a⟩
      | with_reducible exact ⟨z0, z1, z2⟩
      | with_reducible exact ⟨z0a _, z1a _, z2a _⟩
      | with_reducible exact ⟨z0b, z1b, z2b⟩
      | fail)
    (first
      | (go_at_call 64; (with_reducible refine hof1.mono ?_); rintro e w2 ⟨rfl, hB2'⟩
         have hB2 : Below W1.heap.size W1 w2 := below_drew hB2'
         clear hB2'
         have hlb2 : b < w2.heap.size := by have := hB2.size; omega
         have z0 := below_at hB2 k0 hlb1
         have z1 := below_at hB2 k1 hlb1
         have z2 := below_at hB2 k2 hlb1
         have z0a := fun o => (cell_alloc_lt w2 o b 0 hlb2).trans z0
         have z1a := fun o => (cell_alloc_lt w2 o b 1 hlb2).trans z1
         have z2a := fun o => (cell_alloc_lt w2 o b 2 hlb2).trans z2)
      | (go_at_call 64; (with_reducible refine hof2.mono ?_); rintro e w2 ⟨rfl, hB2'⟩
         have hB2 : Below (W1.heap.size + 1) (W1.alloc (.cells #[.int .i64 0, .int .i64 0] 127)) w2 := by have := below_drew hB2'; rwa [show (W1.alloc (.cells #[.int .i64 0, .int .i64 0] 127)).drew.heap.size = W1.heap.size + 1 from World.size_alloc ..] at this
         clear hB2'
         have z0 := below_at hB2 k0a (by omega)
         have z1 := below_at hB2 k1a (by omega)
         have z2 := below_at hB2 k2a (by omega)
         have z0b := (set2_other w2 W1.heap.size b 0 (.int .i64 r0) (.int .i64 r1) hlb1).trans z0
         have z1b := (set2_other w2 W1.heap.size b 1 (.int .i64 r0) (.int .i64 r1) hlb1).trans z1
         have z2b := (set2_other w2 W1.heap.size b 2 (.int .i64 r0) (.int .i64 r1) hlb1).trans z2
         have y0 := below_at hB2 b0a (by omega)
         have y1 := below_at hB2 b1a (by omega)
         have g0 := (hB2.frozen (p := ⟨W1.heap.size, 0, none⟩) (show W1.heap.size < W1.heap.size + 1 by omega)).trans g0a
         have g1 := (hB2.frozen (p := ⟨W1.heap.size, 1, none⟩) (show W1.heap.size < W1.heap.size + 1 by omega)).trans g1a))
  all_goals
    first
    | (obtain ⟨W9, k9, hW9, hk9, A⟩ := fePlace_one (r0 := r0) (r1 := r1) (T := 127) hB1 Hz1.out qa hB2
       rw [← hW9, ← hk9]
       clear hW9 hk9 hof1 hof2 k0 k1 k2 k0a k1a k2a b0a b1a g0a g1a hlb1 z0 z1 z2 z0a z1a z2a hlb2 hB2 hB1 qa Hz1)
    | (obtain ⟨W9, k9, hW9, hk9, A⟩ := fePlace_two (r0 := r0) (r1 := r1) (T := 127) hB1 Hz1.out qa hB2 y0 y1 g0 g1
       rw [← hW9, ← hk9]
       clear hW9 hk9 hof1 hof2 k0 k1 k2 k0a k1a k2a b0a b1a g0a g1a hlb1 z0 z1 z2 z0b z1b z2b y0 y1 g0 g1 hB2 hB1 qa Hz1)
  all_goals
    skip
    have Hkl := Lib.hid (show k < l.length from hk')
    rw [Hi.out] at c6
    have hch9 := Hch.out W9.drew ((Mod.of_below A.B).drew)
    have hlb9 : b < W9.heap.size := by have := A.B.size; omega
    have k0 : W9.drew.cell? ⟨b, 0, none⟩ = some (.int .i64 s.p.epoch) := below_at A.B c0 hl
    have k1 : W9.drew.cell? ⟨b, 1, none⟩ = some (.slice ca s.p.chains.length cc) := below_at A.B c1 hl
    have k2 : W9.drew.cell? ⟨b, 2, none⟩ = some (.int .i64 s.addr) := below_at A.B c2 hl
    have HA := Lib.hid A
    clear A Hch
    go_wp2_with fail
    go_region_held3 (fun w' => w'.cell? ⟨b, 0, none⟩ = some (.int .i64 s.p.epoch) ∧ w'.cell? ⟨b, 1, none⟩ = some (.slice ca s.p.chains.length cc) ∧ w'.cell? ⟨b, 2, none⟩ = some (.int .i64 s.addr))
      (first
        | with_reducible exact ⟨k0, k1, k2⟩
        | with_reducible exact ⟨z0, z1, z2⟩
        | fail)
      ((go_at_call 65; (with_reducible refine hch9.mono ?_); rintro e w2 ⟨a2, n2, rfl, hi2, hB2', -⟩
        have hB2 : Below W9.heap.size W9 w2 := below_drew hB2'
        clear hB2'
        have z0 := below_at hB2 k0 hlb9
        have z1 := below_at hB2 k1 hlb9
        have z2 := below_at hB2 k2 hlb9
        have HI2 := Lib.hid hi2
        have HB2 := Lib.hid hB2
        clear hi2 hB2))
    have hz2 := HB2.out.size
    have hk9 := HA.out.kl
    have hk92 := HA.out.k2
    obtain ⟨ab, af, rfl, hab, hal, hac⟩ := HI2.out.2 Hl1.out
    have hab' : W9.heap.size ≤ ab := hab
    have hBw2 : Below w.heap.size w w2 := HA.out.B.trans (HB2.out.mono HA.out.B.size)
    have hqa2 := HA.out.qa.below HB2.out (by have := HA.out.B.size; omega)
    have hl01 : (0 : Int) < l.length := by have := Hl1.out; omega
    have x0 : w2.drew.cell? ⟨ab, af, none⟩ = some (.int .i64 (l.getD 0 0)) := hac 0 Hl1.out
    have y0 : w2.drew.cell? ⟨b, 0, none⟩ = some (.int .i64 s.p.epoch) := z0
    have yp : w2.drew.cell? ⟨k9, 1, none⟩ = some (.int .i64 r1) := below_at HB2.out HA.out.p1 hk9
    obtain ⟨g0v, hg0v⟩ : ∃ g, g = l.getD 0 0 := ⟨_, rfl⟩
    rw [← hg0v] at x0
    try rw [← hg0v]
    have Hg0 := Lib.hid hg0v
    clear hg0v
    have hwl : w.heap.size < w2.heap.size := by omega
    have hbl2 : b < w2.heap.size := by omega
    have hkl2 : k9 < w2.heap.size := by omega
    have HAC := Lib.hid hac
    have Hqa2 := Lib.hid hqa2
    have HBw2 := Lib.hid hBw2
    have Hal := Lib.hid hal
    have xa : ∀ o, (w2.alloc o).drew.cell? ⟨ab, af, none⟩ = some (.int .i64 g0v) := fun o => (cell_alloc_lt w2 o ab af hal).trans x0
    have ya : ∀ o, (w2.alloc o).drew.cell? ⟨b, 0, none⟩ = some (.int .i64 s.p.epoch) := fun o => (cell_alloc_lt w2 o b 0 hbl2).trans y0
    have ypa : ∀ o, (w2.alloc o).drew.cell? ⟨k9, 1, none⟩ = some (.int .i64 r1) := fun o => (cell_alloc_lt w2 o k9 1 hkl2).trans yp
    have hl00 := Hl1.out
    clear hch9 k0 k1 k2 z1 z2 hz2 hk92 hab hac hqa2 hBw2 hab' hk9
    go_wp2_with fail
    go_region_held3 (fun w' => w'.cell? ⟨ab, af, none⟩ = some (.int .i64 g0v) ∧ w'.cell? ⟨b, 0, none⟩ = some (.int .i64 s.p.epoch) ∧ w'.cell? ⟨k9, 1, none⟩ = some (.int .i64 r1))
      (first
        | with_reducible exact ⟨x0, y0, yp⟩
        | with_reducible exact ⟨xa _, ya _, ypa _⟩
        | fail)
      (fail)
    have xl := HAC.out k Hkl.out
    obtain ⟨glv, hglv⟩ : ∃ g, g = l.getD k 0 := ⟨_, rfl⟩
    rw [← hglv] at xl
    have Hgl := Lib.hid hglv
    clear hglv
    obtain ⟨W, qb, hW, hqb, Q, hBq⟩ := feQ_new (w := w) (w2 := w2) (a0 := 3) (a1 := g0v) (a2 := s.p.epoch) (a3 := r1) HBw2.out hwl Hqa2.out
    have hW' : W = _ := hW
    rw [← hW, ← hqb]
    have d4 := below_at (HBw2.out.trans (hBq.mono HBw2.out.size)) c4 hl
    have d6 := below_at (HBw2.out.trans (hBq.mono HBw2.out.size)) c6 hl
    have d7 := below_at (HBw2.out.trans (hBq.mono HBw2.out.size)) c7 hl
    have d8 := below_at (HBw2.out.trans (hBq.mono HBw2.out.size)) c8 hl
    have HQ := Lib.hid Q
    have HBq := Lib.hid hBq
    have nqa : ab ≠ qb := by have := Hal.out; omega
    have nqa' : qb ≠ ab := fun e => nqa e.symm
    have nqb : b ≠ qb := by omega
    have nqb' : qb ≠ b := fun e => nqb e.symm
    clear hW hW' hqb Q hBq c0 c1 c2 c4 c6 c7 c8 x0 y0 yp z0 xa ya ypa hbl2 hkl2 hlb9 hwl
    obtain ⟨-, qne, ⟨ra0, ra1, ra2, ra3, ra4, ra5, ra6, ra7, ra8, rf⟩, q0, q1, q2, q3, q4, q5, q6, q7, q8, qf⟩ := HQ.out
    have rf0 := rf 0 (by omega)
    have rf1 := rf 1 (by omega)
    have rf2 := rf 2 (by omega)
    have rf3 := rf 3 (by omega)
    have rf4 := rf 4 (by omega)
    have rf5 := rf 5 (by omega)
    have rf6 := rf 6 (by omega)
    have rf7 := rf 7 (by omega)
    have rf8 := rf 8 (by omega)
    have qf0 := qf 0 (by omega)
    have qf1 := qf 1 (by omega)
    have qf2 := qf 2 (by omega)
    have qf3 := qf 3 (by omega)
    have qf4 := qf 4 (by omega)
    have qf5 := qf 5 (by omega)
    have qf6 := qf 6 (by omega)
    have qf7 := qf 7 (by omega)
    have qf8 := qf 8 (by omega)
    clear rf qf
    simp only at q0 q1 q2 q3 q6
    have xq := below_at HBq.out xl Hal.out
    clear xl
    have n0 : (0 : Int) ≤ k := by omega
    have n1 : (k : Int) < l.length := by have := Hkl.out; omega
    have ekd : (s.kind == 1) = false := by simpa using Hkd.out
    go_wp2_with fail
    go_region
    all_goals
      skip
      go_wp2_with fail
      try go_region
      all_goals
        skip
        go_wp2_with fail
        refine bodyPost_ret (v := .tuple #[qV ⟨2, glv, s.p.epoch, r1, 0, 0, ⟨#[]⟩, Esch.p0⟩ none 0, .bool true]) (by simp only [results, Tryz.results72, qV, Esch.p0, List.length_nil]; go_simp) rfl ?_
        refine ⟨?_, by exact belC HQ.out.B⟩
        first
        | rfl
        | (rw [← Hg0.out])
        | (rw [← Hgl.out])
        | (have hgg : l.getD (ll + 1 - 1) 0 = glv := by rw [Hgl.out, Hln.out]
           rw [← hgg]
           rfl)
end
end Go.Proofs.YtghdhhbpbmhooaaGreat
