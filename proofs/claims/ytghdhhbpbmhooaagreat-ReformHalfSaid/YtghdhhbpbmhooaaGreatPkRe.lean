import Derived.Test.YtghdhhbpbmhooaaGreatPkSp
import Derived.Test.YtghdhhbpbmhooaaGreatPkHand
import Derived.Test.YtghdhhbpbmhooaaGreatPkLay
import Derived.Test.YtghdhhbpbmhooaaGreatUnitsE
import Derived.Test.YtghdhhbpbmhooaaGreatNext
import Derived.Test.YtghdhhbpbmhooaaGreatPkApp
import Derived.Test.YtghdhhbpbmhooaaGreatTail2
/- a change of the projection: plain Lean, and how it lies -/
namespace Go.Proofs.YtghdhhbpbmhooaaGreat
open Go.RowKit Esch

structure ReS where
  q : Proj
  p : Proj
  «at» : Int
  i : Int
  t : List (Int × Int)
  err : Int
abbrev ReS.us (s : ReS) : List Int := unitsOf s.p.chains.flatten
def ReS.endd (s : ReS) (e : Int) : ReS := { s with «at» := 4, err := e }
def re0 (q : Proj) : ReS := if goodB q = false then ⟨q, Esch.p0, 4, 0, [], 11⟩ else ⟨q, Esch.p0, 0, 0, [], 0⟩
def ReS.ask (s : ReS) : QS × Bool :=
  if s.at = 4 then (qz, false) else if s.at = 0 then (⟨9, 0, 0, 0, 0, 0, ⟨#[]⟩, Esch.p0⟩, true)
  else if s.at = 1 then (⟨5, s.us.getD s.i.toNat 0, s.q.epoch, 0, 0, 0, ⟨#[]⟩, Esch.p0⟩, true)
  else if s.at = 2 then (⟨10, 0, 0, 0, 0, 0, ⟨#[]⟩, s.q⟩, true)
  else (⟨8, 0, s.q.epoch, tailP s.p s.t, 0, 0, ⟨#[]⟩, Esch.p0⟩, true)
def ReS.next (s : ReS) : ReS := { s with i := s.i + 1, «at» := if s.i + 1 = s.us.length then 2 else s.at }
def ReS.hear (s : ReS) (x : AnS) (heard : Bool) : ReS :=
  if s.at = 4 ∨ heard = false ∨ x.code = 45 then s
  else if s.at = 0 then (if x.code ≠ 0 then s.endd x.code else if nextB x.p s.q = true then { s with p := x.p, «at» := 1, i := 0 } else s.endd 48)
  else if s.at = 1 then (if x.code ≠ 0 then s.endd x.code else ({ s with t := Esch.set s.t (s.us.getD s.i.toNat 0) x.n } : ReS).next)
  else if s.at = 2 then (if x.code = 0 ∨ (x.code = 48 ∧ x.p = s.q) then { s with «at» := 3 } else s.endd x.code)
  else (if x.code = 40 ∧ x.epoch = s.q.epoch then s.endd 0 else s.endd x.code)
def ReS.skipB (s : ReS) : Bool := decide (s.at = 1) && ! decide (s.us.getD s.i.toNat 0 ∈ unitsOf s.q.chains.flatten)
def ReS.skip (s : ReS) : ReS := if s.skipB = true then s.next else s
structure ReS.ok (s : ReS) : Prop where
  wh : s.at = 0 ∨ s.at = 1 ∨ s.at = 2 ∨ s.at = 3 ∨ s.at = 4
  un : s.at = 1 → 0 ≤ s.i ∧ s.i < s.us.length
  gp : s.at ≠ 0 → s.at ≠ 4 → goodB s.p = true
theorem us_le {p : Proj} (h : goodB p = true) : 1 ≤ (unitsOf p.chains.flatten).length ∧ (unitsOf p.chains.flatten).length ≤ 16 := by
  have hg : p.good := of_decide_eq_true h
  refine ⟨?_, units_len hg.2.2.2.2.2.1⟩
  have h1 := good_units hg
  have h2 : ∀ l : List Int, l ≠ [] → 1 ≤ (unitsOf l).length := fun l hl => by
    cases l with
    | nil => exact absurd rfl hl
    | cons a l =>
      have := List.length_pos_of_mem (mem_unitsOf.2 (List.mem_cons_self (a := a) (l := l)))
      omega
  exact h2 _ h1
theorem next_good {p q : Proj} (h : nextB p q = true) : goodB p = true ∧ goodB q = true := by
  have hg : p.next q := of_decide_eq_true h
  exact ⟨decide_eq_true hg.1, decide_eq_true hg.2.1⟩
theorem re0_ok (q : Proj) : (re0 q).ok := by
  unfold re0
  by_cases e : goodB q = false
  · rw [if_pos e]; exact ⟨by simp, by simp, by simp⟩
  · rw [if_neg e]; exact ⟨by simp, by simp, by simp⟩
theorem ReS.next_ok {s : ReS} (h : s.ok) (h1 : s.at = 1) : s.next.ok := by
  obtain ⟨u0, u1⟩ := h.un h1
  have hg := h.gp (by omega) (by omega)
  unfold ReS.next
  by_cases e : s.i + 1 = s.us.length
  · rw [if_pos e]; exact ⟨by simp, by simp, fun _ _ => hg⟩
  · rw [if_neg e]; exact ⟨Or.inr (Or.inl h1), fun _ => ⟨by show 0 ≤ s.i + 1; omega, by show s.i + 1 < s.us.length; omega⟩, fun _ _ => hg⟩
theorem ReS.endd_ok (s : ReS) (e : Int) : (s.endd e).ok := ⟨by simp [ReS.endd], by simp [ReS.endd], by simp [ReS.endd]⟩
theorem ReS.hear_ok {s : ReS} (h : s.ok) (x : AnS) (b : Bool) : (s.hear x b).ok := by
  unfold ReS.hear
  by_cases e0 : s.at = 4 ∨ b = false ∨ x.code = 45
  · rw [if_pos e0]; exact h
  rw [if_neg e0]
  by_cases e1 : s.at = 0
  · rw [if_pos e1]
    by_cases e2 : x.code ≠ 0
    · rw [if_pos e2]; exact s.endd_ok _
    rw [if_neg e2]
    by_cases e3 : nextB x.p s.q = true
    · rw [if_pos e3]
      exact ⟨by simp, fun _ => ⟨by simp, by have := us_le (next_good e3).1; show (0 : Int) < ((unitsOf x.p.chains.flatten).length : Int); omega⟩, fun _ _ => (next_good e3).1⟩
    · rw [if_neg e3]; exact s.endd_ok _
  rw [if_neg e1]
  by_cases e2 : s.at = 1
  · rw [if_pos e2]
    by_cases e3 : x.code ≠ 0
    · rw [if_pos e3]; exact s.endd_ok _
    rw [if_neg e3]
    exact ReS.next_ok ⟨h.wh, h.un, h.gp⟩ e2
  rw [if_neg e2]
  have h4 : s.at ≠ 4 := fun e => e0 (Or.inl e)
  by_cases e3 : s.at = 2
  · rw [if_pos e3]
    by_cases e4 : x.code = 0 ∨ (x.code = 48 ∧ x.p = s.q)
    · rw [if_pos e4]; exact ⟨by simp, by simp, fun _ _ => h.gp e1 h4⟩
    · rw [if_neg e4]; exact s.endd_ok _
  rw [if_neg e3]
  by_cases e4 : x.code = 40 ∧ x.epoch = s.q.epoch
  · rw [if_pos e4]; exact s.endd_ok _
  · rw [if_neg e4]; exact s.endd_ok _
theorem ReS.skip_ok {s : ReS} (h : s.ok) : s.skip.ok := by
  unfold ReS.skip
  by_cases e : s.skipB = true
  · rw [if_pos e]
    refine ReS.next_ok h ?_
    unfold ReS.skipB at e
    simp at e
    exact e.1
  · rw [if_neg e]; exact h

structure ReAt (w : World) (b tb : Nat) (S : Nat → Prop) (s : ReS) : Prop where
  c0 : w.cell? ⟨b, 0, none⟩ = some (.int .i64 s.q.epoch)
  c1 : ∃ a c, w.cell? ⟨b, 1, none⟩ = some (.slice a s.q.chains.length c) ∧ ListsAt (fun k => S k ∧ k ≠ b ∧ k ≠ tb) w a s.q.chains
  c2 : w.cell? ⟨b, 2, none⟩ = some (.int .i64 s.p.epoch)
  c3 : ∃ a c, w.cell? ⟨b, 3, none⟩ = some (.slice a s.p.chains.length c) ∧ ListsAt (fun k => S k ∧ k ≠ b ∧ k ≠ tb) w a s.p.chains
  c4 : w.cell? ⟨b, 4, none⟩ = some (.int .i64 s.at)
  c5 : w.cell? ⟨b, 5, none⟩ = some (.int .i64 s.i)
  c6 : w.cell? ⟨b, 6, none⟩ = some (.map (some tb))
  c7 : w.cell? ⟨b, 7, none⟩ = some (.int .i64 s.err)
  mp : ∃ es clock, MapAt w tb κint κint s.t es clock
  fr : ∀ o, o < 8 → w.frozen? ⟨b, o, none⟩ = false
  sb : S b
  st : S tb
  ne : tb ≠ b
  smq : Small s.q.chains
  smp : Small s.p.chains
theorem ReAt.lt {w : World} {b tb : Nat} {S : Nat → Prop} {s : ReS} (h : ReAt w b tb S s) : b < w.heap.size := cell_lt h.c0
theorem ReAt.tlt {w : World} {b tb : Nat} {S : Nat → Prop} {s : ReS} (h : ReAt w b tb S s) : tb < w.heap.size := by
  obtain ⟨es, clock, h1⟩ := h.mp
  exact block_lt h1.block
theorem ReAt.mod {F S : Nat → Prop} {w w' : World} {b tb : Nat} {s : ReS} (h : ReAt w b tb S s) (hM : Mod F w w') (hF : ∀ k, S k → k < w.heap.size → ¬ F k) : ReAt w' b tb S s := by
  have hl := h.lt
  have htl := h.tlt
  have hb := hF b h.sb hl
  obtain ⟨a, c, h1, h2⟩ := h.c1
  obtain ⟨a', c', h1', h2'⟩ := h.c3
  obtain ⟨es, clock, h3⟩ := h.mp
  exact ⟨hM.at h.c0 hb, ⟨a, c, hM.at h1 hb, h2.mod hM (fun k hk hl => hF k hk.1 hl)⟩, hM.at h.c2 hb, ⟨a', c', hM.at h1' hb, h2'.mod hM (fun k hk hl => hF k hk.1 hl)⟩, hM.at h.c4 hb, hM.at h.c5 hb, hM.at h.c6 hb, hM.at h.c7 hb,
    ⟨es, clock, h3.of_block (hM.block tb htl (hF tb h.st htl))⟩, fun o ho => (hM.frozen (p := ⟨b, o, none⟩) hl hb).trans (h.fr o ho), h.sb, h.st, h.ne, h.smq, h.smp⟩
theorem ReAt.below {S : Nat → Prop} {w w' : World} {b tb : Nat} {s : ReS} (h : ReAt w b tb S s) (hB : Below w.heap.size w w') : ReAt w' b tb S s := h.mod (F := none') (Mod.of_below hB) (fun _ _ _ => id)
theorem ReAt.sub {S S' : Nat → Prop} {w : World} {b tb : Nat} {s : ReS} (h : ReAt w b tb S s) (hS : ∀ k, k < w.heap.size → S k → S' k) : ReAt w b tb S' s := by
  obtain ⟨a, c, h1, h2⟩ := h.c1
  obtain ⟨a', c', h1', h2'⟩ := h.c3
  exact ⟨h.c0, ⟨a, c, h1, h2.sub (fun k hk hs => ⟨hS k hk hs.1, hs.2⟩)⟩, h.c2, ⟨a', c', h1', h2'.sub (fun k hk hs => ⟨hS k hk hs.1, hs.2⟩)⟩, h.c4, h.c5, h.c6, h.c7, h.mp, h.fr, hS b h.lt h.sb, hS tb h.tlt h.st, h.ne, h.smq, h.smp⟩
/-- the map has been written -/
theorem ReAt.put {w w' : World} {b tb : Nat} {S : Nat → Prop} {s : ReS} (h : ReAt w b tb S s) (hM : Mod (· = tb) w w') {t : List (Int × Int)} {es : Array MapEntry} {clock : Nat} (hm : MapAt w' tb κint κint t es clock) : ReAt w' b tb S { s with t := t } := by
  have hb : b ≠ tb := fun e => h.ne e.symm
  obtain ⟨a, c, h1, h2⟩ := h.c1
  obtain ⟨a', c', h1', h2'⟩ := h.c3
  exact ⟨hM.at h.c0 hb, ⟨a, c, hM.at h1 hb, h2.mod hM (fun k hk _ => hk.2.2)⟩, hM.at h.c2 hb, ⟨a', c', hM.at h1' hb, h2'.mod hM (fun k hk _ => hk.2.2)⟩, hM.at h.c4 hb, hM.at h.c5 hb, hM.at h.c6 hb, hM.at h.c7 hb,
    ⟨es, clock, hm⟩, fun o ho => (hM.frozen (p := ⟨b, o, none⟩) h.lt hb).trans (h.fr o ho), h.sb, h.st, h.ne, h.smq, h.smp⟩
/-- where, which and the error have been written -/
theorem ReAt.wrote {w w' : World} {b tb : Nat} {S : Nat → Prop} {s : ReS} (h : ReAt w b tb S s) {v4 v5 v7 : Int} (hM : Mod (· = b) w w') (c4 : w'.cell? ⟨b, 4, none⟩ = some (.int .i64 v4)) (c5 : w'.cell? ⟨b, 5, none⟩ = some (.int .i64 v5))
    (c7 : w'.cell? ⟨b, 7, none⟩ = some (.int .i64 v7)) (c0 : w'.cell? ⟨b, 0, none⟩ = w.cell? ⟨b, 0, none⟩) (c1 : w'.cell? ⟨b, 1, none⟩ = w.cell? ⟨b, 1, none⟩) (c2 : w'.cell? ⟨b, 2, none⟩ = w.cell? ⟨b, 2, none⟩) (c3 : w'.cell? ⟨b, 3, none⟩ = w.cell? ⟨b, 3, none⟩) (c6 : w'.cell? ⟨b, 6, none⟩ = w.cell? ⟨b, 6, none⟩)
    (fr : ∀ o, w'.frozen? ⟨b, o, none⟩ = w.frozen? ⟨b, o, none⟩) : ReAt w' b tb S ⟨s.q, s.p, v4, v5, s.t, v7⟩ := by
  obtain ⟨ca, cc, h1, h2⟩ := h.c1
  obtain ⟨ca', cc', h1', h2'⟩ := h.c3
  obtain ⟨es, clock, h3⟩ := h.mp
  exact ⟨c0.trans h.c0, ⟨ca, cc, c1.trans h1, h2.mod hM (fun k hk _ => hk.2.1)⟩, c2.trans h.c2, ⟨ca', cc', c3.trans h1', h2'.mod hM (fun k hk _ => hk.2.1)⟩, c4, c5, c6.trans h.c6, c7, ⟨es, clock, h3.of_block (hM.block tb h.tlt h.ne)⟩, fun o ho => (fr o).trans (h.fr o ho), h.sb, h.st, h.ne, h.smq, h.smp⟩
end Go.Proofs.YtghdhhbpbmhooaaGreat
/- a change of the projection: New, end, next, Over, Skip -/
namespace Go.Proofs.YtghdhhbpbmhooaaGreat
open Go.RowKit Esch

def ReEndPost (w : World) (b tb : Nat) (S : Nat → Prop) (s : ReS) (e : Ending) (w' : World) : Prop := e = .returned (.tuple #[]) ∧ ReAt w' b tb S s ∧ Mod (· = b) w w'
section
variable {w : World} {b tb : Nat} {S : Nat → Prop} {s : ReS}
theorem reEnd_any (h : ReAt w b tb S s) (e : Int) : Calls Tryz.prog 46 #[.pointer (some ⟨b, 0, none⟩), .int .i64 e] w (ReEndPost w b tb S (s.endd e)) := by
  have c0 := h.c0
  obtain ⟨qa, qc, c1, hq⟩ := h.c1
  have c2 := h.c2
  obtain ⟨pa, pc, c3, hp⟩ := h.c3
  have c4 := h.c4
  have c5 := h.c5
  have c6 := h.c6
  have c7 := h.c7
  have hl := h.lt
  have f1 := h.fr 1 (by omega)
  have f2 := h.fr 2 (by omega)
  have f3 := h.fr 3 (by omega)
  have f4 := h.fr 4 (by omega)
  have f5 := h.fr 5 (by omega)
  have f7 := h.fr 7 (by omega)
  have H := Lib.hid h
  clear h hq hp
  go_enter Tryz.func46, Tryz.ntmps46
  go_wp2_with fail
  go_end0
  refine ⟨rfl, ?_, by exact modC (Mod.refl _ _)⟩
  exact H.out.wrote (by exact modC (Mod.refl _ _)) (by go_simp) (by go_simp) (by go_simp) (by go_simp) (by go_simp) (by go_simp) (by go_simp) (by go_simp) (fun o => by go_simp)
def ReS.overE (s : ReS) : Int := if s.at = 4 then s.err else 0
theorem reOver_any (h : ReAt w b tb S s) : Calls Tryz.prog 15 #[.pointer (some ⟨b, 0, none⟩)] w
    fun e w' => e = .returned (.tuple #[.int .i64 s.overE, .bool (decide (s.at = 4))]) ∧ Mod none' w w' := by
  have c0 := h.c0
  obtain ⟨qa, qc, c1, hq⟩ := h.c1
  have c2 := h.c2
  obtain ⟨pa, pc, c3, hp⟩ := h.c3
  have c4 := h.c4
  have c5 := h.c5
  have c6 := h.c6
  have c7 := h.c7
  have hl := h.lt
  have f1 := h.fr 1 (by omega)
  have f2 := h.fr 2 (by omega)
  have f3 := h.fr 3 (by omega)
  have f4 := h.fr 4 (by omega)
  have f5 := h.fr 5 (by omega)
  have f7 := h.fr 7 (by omega)
  have H := Lib.hid h
  clear h hq hp
  unfold ReS.overE
  by_cases h2 : s.at = 4
  · rw [if_pos h2, decide_eq_true h2]
    rw [h2] at c4
    clear h2
    go_enter Tryz.func15, Tryz.ntmps15
    go_wp2_with fail
    refine bodyPost_ret (v := .tuple #[.int .i64 s.err, .bool true]) (by simp only [results, Tryz.results15]; go_simp) rfl ?_
    exact ⟨rfl, by exact modC (Mod.refl _ _)⟩
  · rw [if_neg h2, decide_eq_false h2]
    have e2 : (s.at != 4) = true := by simpa using h2
    clear h2
    go_enter Tryz.func15, Tryz.ntmps15
    go_wp2_with fail
    refine bodyPost_ret (v := .tuple #[.int .i64 0, .bool false]) (by simp only [results, Tryz.results15]; go_simp) rfl ?_
    exact ⟨rfl, Mod.refl _ _⟩
/-- it goes on behind a unit -/
def ReNextPost (w : World) (b tb : Nat) (S : Nat → Prop) (s : ReS) (e : Ending) (w' : World) : Prop := e = .returned (.tuple #[]) ∧ ReAt w' b tb S s ∧ Mod (· = b) w w'
set_option maxHeartbeats 1000000 in
theorem reNext_any (h : ReAt w b tb S s) (hi : 0 ≤ s.i ∧ s.i ≤ 100) (hg : goodB s.p = true) : Calls Tryz.prog 52 #[.pointer (some ⟨b, 0, none⟩)] w (ReNextPost w b tb S s.next) := by
  have c0 := h.c0
  obtain ⟨qa, qc, c1, hq⟩ := h.c1
  have c2 := h.c2
  obtain ⟨pa, pc, c3, hp⟩ := h.c3
  have c4 := h.c4
  have c5 := h.c5
  have c6 := h.c6
  have c7 := h.c7
  have hl := h.lt
  have f1 := h.fr 1 (by omega)
  have f2 := h.fr 2 (by omega)
  have f3 := h.fr 3 (by omega)
  have f4 := h.fr 4 (by omega)
  have f5 := h.fr 5 (by omega)
  have f7 := h.fr 7 (by omega)
  have H := Lib.hid h
  obtain ⟨hi0, hi1⟩ := hi
  have hw1 : IntKind.i64.wrap (s.i + 1) = s.i + 1 := wrap64 (by omega) (by omega)
  have hM1 : Mod (· = b) w (w.setCell ⟨b, 5, none⟩ (.int .i64 (s.i + 1))).drew := by exact modC (Mod.refl _ _)
  have hus := units_all _ (w.setCell ⟨b, 5, none⟩ (.int .i64 (s.i + 1))).drew s.p.epoch pa pc s.p.chains h.smp (hp.mod hM1 (fun k hk _ => hk.2.1))
  have g1 : (w.setCell ⟨b, 5, none⟩ (.int .i64 (s.i + 1))).drew.cell? ⟨b, 2, none⟩ = some (.int .i64 s.p.epoch) := by go_simp
  have g2 : (w.setCell ⟨b, 5, none⟩ (.int .i64 (s.i + 1))).drew.cell? ⟨b, 3, none⟩ = some (.slice pa s.p.chains.length pc) := by go_simp
  have g3 : (w.setCell ⟨b, 5, none⟩ (.int .i64 (s.i + 1))).drew.cell? ⟨b, 5, none⟩ = some (.int .i64 (s.i + 1)) := by go_simp
  have g4 : (w.setCell ⟨b, 5, none⟩ (.int .i64 (s.i + 1))).drew.cell? ⟨b, 4, none⟩ = some (.int .i64 s.at) := by go_simp
  have gf4 : (w.setCell ⟨b, 5, none⟩ (.int .i64 (s.i + 1))).drew.frozen? ⟨b, 4, none⟩ = false := by go_simp
  have g0 : ReAt (w.setCell ⟨b, 5, none⟩ (.int .i64 (s.i + 1))).drew b tb S { s with i := s.i + 1 } := h.wrote hM1 g4 g3 (by go_simp) (by go_simp) (by go_simp) (by go_simp) (by go_simp) (by go_simp) (fun o => by go_simp)
  have hl1 : b < (w.setCell ⟨b, 5, none⟩ (.int .i64 (s.i + 1))).drew.heap.size := by simpa using hl
  have hul := (us_le hg).2
  have Hul := Lib.hid hul
  have HM1 := Lib.hid hM1
  clear h hq hp hg hM1 hul
  go_enter Tryz.func52, Tryz.ntmps52
  go_wp2_with fail
  obtain ⟨un, hun⟩ : ∃ un, un = (unitsOf s.p.chains.flatten).length := ⟨_, rfl⟩
  have Hun := Lib.hid hun
  clear hun
  go_region_held3 (fun w' => w'.cell? ⟨b, 2, none⟩ = some (.int .i64 s.p.epoch) ∧ w'.cell? ⟨b, 3, none⟩ = some (.slice pa s.p.chains.length pc) ∧ w'.cell? ⟨b, 5, none⟩ = some (.int .i64 (s.i + 1)))
    (first
      | with_reducible exact ⟨g1, g2, g3⟩
      | with_reducible exact ⟨z1, z2, z3⟩)
    (first
      | (go_at_call 48; (with_reducible refine hus.mono ?_); rintro e w2 ⟨ua, uc, rfl, hu2, hB2, -⟩
         rw [← Hun.out]
         have z1 := below_at hB2 g1 hl1
         have z2 := below_at hB2 g2 hl1
         have z3 := below_at hB2 g3 hl1
         have z4 := below_at hB2 g4 hl1
         have zf4 := (hB2.frozen (p := ⟨b, 4, none⟩) hl1).trans gf4
         have z0 := g0.below hB2))
  have HB2 := Lib.hid hB2
  have H0 := Lib.hid z0
  have hl2 := z0.lt
  have z7 := z0.c7
  clear hB2 hu2 hus g1 g2 g3 g4 gf4 g0 z0 c0 c1 c2 c3 c4 c5 c6 c7 f1 f2 f3 f4 f5 f7 H
  by_cases hel : s.i + 1 = un
  · have he : (s.i + 1 == (un : Int)) = true := by simpa using hel
    have Hel := Lib.hid hel
    clear hel
    go_wp2_with fail
    go_end0
    refine ⟨rfl, ?_, (HM1.out.trans (Mod.of_below HB2.out)).trans (by exact modC (Mod.refl _ _))⟩
    have hn : s.next = { s with i := s.i + 1, «at» := 2 } := by
      unfold ReS.next
      rw [if_pos (by rw [Hel.out, Hun.out])]
    rw [hn]
    exact H0.out.wrote (v4 := 2) (v5 := s.i + 1) (v7 := s.err) (by exact modC (Mod.refl _ _)) (by go_simp) (by go_simp) (by go_simp) (by go_simp) (by go_simp) (by go_simp) (by go_simp) (by go_simp) (fun o => by go_simp)
  · have he : (s.i + 1 == (un : Int)) = false := by simpa using hel
    have Hel := Lib.hid hel
    clear hel
    go_wp2_with fail
    go_end0
    refine ⟨rfl, ?_, HM1.out.trans (Mod.of_below HB2.out)⟩
    have hn : s.next = { s with i := s.i + 1 } := by
      unfold ReS.next
      rw [if_neg (by rw [← Hun.out]; exact Hel.out)]
    rw [hn]
    exact H0.out
end
def ReNewPost (w : World) (q : Proj) (e : Ending) (w' : World) : Prop := ∃ b tb, e = .returned (.pointer (some ⟨b, 0, none⟩)) ∧ ReAt w' b tb (From w.heap.size) (re0 q) ∧ Below w.heap.size w w'
theorem re_box (w : World) (x0 x1 x2 x3 x4 x5 x7 : Value) : ∃ W2, W2 = (w.alloc (.map #[] 0)).alloc (.cells #[x0, x1, x2, x3, x4, x5, .map (some w.heap.size), x7] 93) ∧ Below w.heap.size w W2 ∧ W2.heap.size = w.heap.size + 2 ∧ W2.cell? ⟨w.heap.size + 1, 0, none⟩ = some x0 ∧ W2.cell? ⟨w.heap.size + 1, 1, none⟩ = some x1 ∧ W2.cell? ⟨w.heap.size + 1, 2, none⟩ = some x2 ∧ W2.cell? ⟨w.heap.size + 1, 3, none⟩ = some x3 ∧ W2.cell? ⟨w.heap.size + 1, 4, none⟩ = some x4 ∧ W2.cell? ⟨w.heap.size + 1, 5, none⟩ = some x5 ∧ W2.cell? ⟨w.heap.size + 1, 6, none⟩ = some (.map (some w.heap.size)) ∧ W2.cell? ⟨w.heap.size + 1, 7, none⟩ = some x7 ∧
    (∀ o, o < 8 → W2.frozen? ⟨w.heap.size + 1, o, none⟩ = false) ∧ MapAt W2 w.heap.size κint κint [] #[] 0 :=
  ⟨_, rfl, by exact belC (Below.refl _ _), by simp, by go_simp, by go_simp, by go_simp, by go_simp, by go_simp, by go_simp, by go_simp, by go_simp, fun o ho => by go_simp, ⟨by
    have h := alloc_new w (.map #[] 0)
    have h2 := Below.heap_alloc (w.alloc (.map #[] 0)) (.cells #[x0, x1, x2, x3, x4, x5, .map (some w.heap.size), x7] 93) w.heap.size (by simp)
    exact h2.trans h, by simp, by simp, by simp, by simp⟩⟩
set_option maxHeartbeats 1000000 in
theorem reNew_any (S : Nat → Prop) (w : World) (q : Proj) (a : Option Addr) (c : Nat) (hs : Small q.chains) (hl : ListsAt S w a q.chains) : Calls Tryz.prog 10 #[.agg #[.int .i64 q.epoch, .slice a q.chains.length c]] w (ReNewPost w q) := by
  obtain ⟨W0, hW0, hB0, hz0, p0, p1⟩ := oneBox w 24 (.int .i64 q.epoch) (.slice a q.chains.length c)
  have hl0 := hl.mod (F := none') (Mod.of_below hB0) (fun _ _ _ => id)
  have hcp := copy_any S W0 q.epoch a c q.chains hs hl0
  have HW0 := Lib.hid hW0
  have HL0 := Lib.hid hl0
  have Hs := Lib.hid hs
  have hmm := @run_makeMap Tryz.prog
  clear hW0 hl hl0 hs
  go_enter Tryz.func10, Tryz.ntmps10
  go_wp2_with fail
  rw [← HW0.out]
  refine hcp.mono ?_
  clear hcp
  rintro e w1 ⟨a1, c1, rfl, hl1, hB1⟩
  have hz1 := hB1.size
  obtain ⟨W2, hW2, hB2, hz2, t0, t1, t2, t3, t4, t5, t6, t7, tf, tm⟩ := re_box w1 (.int .i64 q.epoch) (.slice a1 q.chains.length c1) (.int .i64 0) (.slice none 0 0) (.int .i64 0) (.int .i64 0) (.int .i64 0)
  replace p0 := below_at hB1 p0 (by omega)
  replace p1 := below_at hB1 p1 (by omega)
  have hlw1 : w.heap.size < w1.heap.size := by omega
  have hBw2 : Below W0.heap.size W0 W2 := hB1.trans (hB2.mono hz1)
  have hT2 : ReAt W2 (w1.heap.size + 1) w1.heap.size (From w.heap.size) ⟨q, Esch.p0, 0, 0, [], 0⟩ := ⟨t0, ⟨a1, c1, t1, ((hl1.sub (T := fun k => W0.heap.size ≤ k ∧ k < w1.heap.size) (fun k hk h => ⟨h, hk⟩)).mod (F := none') (Mod.of_below hB2) (fun _ _ _ => id)).sub (fun k _ hk => ⟨by show w.heap.size ≤ k; omega, by omega, by omega⟩)⟩,
    t2, ⟨none, 0, t3, ListsAt.nil _ _ _⟩, t4, t5, t6, t7, ⟨_, _, tm⟩, tf, by show w.heap.size ≤ _; omega, by show w.heap.size ≤ _; omega, by omega, Hs.out, small_nil⟩
  have hgd := good_any S W2 q.epoch a c q.chains (HL0.out.mod (F := none') (Mod.of_below hBw2) (fun _ _ _ => id))
  have HT2 := Lib.hid hT2
  have HW2 := Lib.hid hW2
  have HB0 := Lib.hid (hB0.trans (hBw2.mono (by omega)))
  clear hT2 hW2 hB0 hBw2 hB1 hl1 hB2 t0 t1 t2 t3 t4 t5 t6 t7 tf tm
  go_wp2_with fail
  rw [← HW2.out]
  refine hgd.mono ?_
  clear hgd
  rintro e w3 ⟨rfl, hB3⟩
  have hz3 := hB3.size
  have hT3 := HT2.out.below hB3
  have hen := reEnd_any hT3 11
  have HT3 := Lib.hid hT3
  have HB3 := Lib.hid (HB0.out.trans (hB3.mono (by omega)))
  obtain ⟨g, hg⟩ : ∃ g, g = goodB ⟨q.epoch, q.chains⟩ := ⟨_, rfl⟩
  rw [← hg]
  have Hg := Lib.hid hg
  clear hg hT3 hB3
  cases g
  · go_wp2_with fail
    refine hen.mono ?_
    clear hen
    rintro e w4 ⟨rfl, hA4, hM4⟩
    have HA4 := Lib.hid hA4
    have HM4 := Lib.hid hM4
    clear hA4 hM4
    go_wp2_with fail
    go_ret
    refine ⟨_, w1.heap.size, rfl, ?_, HB3.out.trans (HM4.out.below_at HB3.out.size (fun k hk e => by omega))⟩
    rw [show re0 q = (⟨q, Esch.p0, 0, 0, [], 0⟩ : ReS).endd 11 by unfold re0; rw [if_pos (show goodB q = false from Hg.out.symm)]; rfl]
    exact HA4.out
  · clear hen
    go_wp2_with fail
    go_ret
    refine ⟨_, w1.heap.size, rfl, ?_, HB3.out⟩
    rw [show re0 q = (⟨q, Esch.p0, 0, 0, [], 0⟩ : ReS) by unfold re0; rw [if_neg (by rw [show goodB q = true from Hg.out.symm]; simp)]]
    exact HT3.out
end Go.Proofs.YtghdhhbpbmhooaaGreat
/- a change of the projection: Skip, Ask -/
namespace Go.Proofs.YtghdhhbpbmhooaaGreat
open Go.RowKit Esch

def ReSkipPost (w : World) (b tb : Nat) (S : Nat → Prop) (s : ReS) (e : Ending) (w' : World) : Prop := e = .returned (.bool s.skipB) ∧ ReAt w' b tb S s.skip ∧ Mod (· = b) w w'
section
variable {w : World} {b tb : Nat} {S : Nat → Prop} {s : ReS}
theorem reSkip_no (h : ReAt w b tb S s) (h1 : s.at ≠ 1) : Calls Tryz.prog 19 #[.pointer (some ⟨b, 0, none⟩)] w (ReSkipPost w b tb S s) := by
  have c0 := h.c0
  obtain ⟨qa, qc, c1, hq⟩ := h.c1
  have c2 := h.c2
  obtain ⟨pa, pc, c3, hp⟩ := h.c3
  have c4 := h.c4
  have c5 := h.c5
  have c6 := h.c6
  have hl := h.lt
  have H := Lib.hid h
  have e1 : (s.at != 1) = true := by simpa using h1
  have hsk : s.skipB = false := by unfold ReS.skipB; simp [h1]
  have Hsk := Lib.hid hsk
  clear h hq hp h1 hsk
  go_enter Tryz.func19, Tryz.ntmps19
  go_wp2_with fail
  go_quiet (fail)
  go_wp2_with fail
  go_ret
  have hM : ∀ n, Mod none' w (w.drewN n) := fun n => (Mod.refl _ _).drewN n
  refine ⟨by rw [Hsk.out]; rfl, ?_, mod_none (hM _)⟩
  unfold ReS.skip
  rw [Hsk.out]
  exact H.out.mod (hM _) (fun _ _ _ => id)
set_option maxRecDepth 100000 in
set_option maxHeartbeats 1000000 in
theorem reSkip_yes (h : ReAt w b tb S s) (h1 : s.at = 1) (hi : 0 ≤ s.i ∧ s.i < s.us.length) (hg : goodB s.p = true) : Calls Tryz.prog 19 #[.pointer (some ⟨b, 0, none⟩)] w (ReSkipPost w b tb S s) := by
  have c0 := h.c0
  obtain ⟨qa, qc, c1, hq⟩ := h.c1
  have c2 := h.c2
  obtain ⟨pa, pc, c3, hp⟩ := h.c3
  have c4 := h.c4
  have c5 := h.c5
  have c6 := h.c6
  have hl := h.lt
  have H := Lib.hid h
  rw [h1] at c4
  have huq := fun W (hM : Mod none' w W) => units_all _ W s.q.epoch qa qc s.q.chains h.smq (hq.mod hM (fun _ _ _ => id))
  have hup := fun W (hM : Mod none' w W) => units_all _ W s.p.epoch pa pc s.p.chains h.smp (hp.mod hM (fun _ _ _ => id))
  have hul := (us_le hg).2
  obtain ⟨i, hi'⟩ : ∃ i : Nat, s.i = i := ⟨s.i.toNat, by omega⟩
  obtain ⟨up, hup'⟩ : ∃ up, up = unitsOf s.p.chains.flatten := ⟨_, rfl⟩
  obtain ⟨uq, huq'⟩ : ∃ uq, uq = unitsOf s.q.chains.flatten := ⟨_, rfl⟩
  have hilt : i < up.length := by rw [hup']; have := hi.2; rw [hi'] at this; unfold ReS.us at this; omega
  rw [← hup'] at hup
  rw [← huq'] at huq
  rw [hi'] at c5
  have Hup := Lib.hid hup'
  have Huq := Lib.hid huq'
  have Hii := Lib.hid hi'
  have Hul := Lib.hid hul
  have d0 : w.drew.cell? ⟨b, 0, none⟩ = some (.int .i64 s.q.epoch) := c0
  have d1 : w.drew.cell? ⟨b, 1, none⟩ = some (.slice qa s.q.chains.length qc) := c1
  have d2 : w.drew.cell? ⟨b, 2, none⟩ = some (.int .i64 s.p.epoch) := c2
  have d3 : w.drew.cell? ⟨b, 3, none⟩ = some (.slice pa s.p.chains.length pc) := c3
  have d4 : w.drew.cell? ⟨b, 4, none⟩ = some (.int .i64 1) := c4
  have d5 : w.drew.cell? ⟨b, 5, none⟩ = some (.int .i64 i) := c5
  have H1 := Lib.hid h1
  have Hgd := Lib.hid hg
  clear h hq hp h1 hi hg hup' huq' hi' hul
  go_enter Tryz.func19, Tryz.ntmps19
  go_wp2_with fail
  refine wp_region_held_drew (S := fun w' => w'.cell? ⟨b, 0, none⟩ = some (.int .i64 s.q.epoch) ∧ w'.cell? ⟨b, 1, none⟩ = some (.slice qa s.q.chains.length qc) ∧ w'.cell? ⟨b, 2, none⟩ = some (.int .i64 s.p.epoch) ∧ w'.cell? ⟨b, 3, none⟩ = some (.slice pa s.p.chains.length pc) ∧ w'.cell? ⟨b, 4, none⟩ = some (.int .i64 1) ∧ w'.cell? ⟨b, 5, none⟩ = some (.int .i64 i)) (by kernel_rfl) ⟨d0, d1, d2, d3, d4, d5⟩ (fun hHeld => ?_)
  refine takeL 0 ?_
  refine takeL 1 ?_
  refine takeL 2 ?_
  refine takeL 3 ?_
  refine takeL 4 ?_
  refine takeL 5 ?_
  refine takeL 6 ?_
  refine takeL 7 ?_
  refine takeL 8 ?_
  refine takeL 9 ?_
  refine takeL 10 ?_
  refine takeL 11 ?_
  refine takeL 12 ?_
  refine takeL 13 ?_
  refine takeL 15 ?_
  refine takeL 16 ?_
  refine takeL 17 ?_
  refine takeL 18 ?_
  refine takeL 20 ?_
  refine takeL 21 ?_
  refine takeL 22 ?_
  refine takeL 23 ?_
  refine wpAnyH_ready (rs := [14]) (by kernel_rfl) (by simp) ?_
  refine AllReadyH.cons (o := _) rfl (fun K hK => ?_) AllReadyH.nil
  go_simp
  go_at_call 48
  with_reducible refine (huq _ ((Mod.refl _ _).drew)).mono ?_
  rintro e w2 ⟨a2, n2, rfl, hl2, hB2', -⟩
  have hB2 : Below w.heap.size w w2 := below_drew hB2'
  have y0 := below_at hB2 d0 hl
  have y1 := below_at hB2 d1 hl
  have y2 := below_at hB2 d2 hl
  have y3 := below_at hB2 d3 hl
  have y4 := below_at hB2 d4 hl
  have y5 := below_at hB2 d5 hl
  have hup2 := hup w2 (Mod.of_below hB2)
  clear hB2'
  try go_wp2_with fail
  refine hK.out _ _ ⟨y0, y1, y2, y3, y4, y5⟩ (fun hHeld => ?_)
  clear hK K
  try simp only [Act.put, List.setIfInBounds_toArray, List.set_cons_zero, List.set_cons_succ]
  refine wpAnyH_ready (rs := [19]) (by kernel_rfl) (by simp) ?_
  refine AllReadyH.cons (o := _) rfl (fun K hK => ?_) AllReadyH.nil
  go_simp
  go_at_call 48
  with_reducible refine hup2.mono ?_
  clear hup2 hup huq
  rintro e w3 ⟨a3, n3, rfl, hl3, hB3, -⟩
  have hz2 := hB2.size
  have hl2 := hl2.mod (F := none') (Mod.of_below hB3) (fun _ _ _ => id)
  obtain ⟨b3, o3, rfl, hb3, hk3, hc3⟩ := hl3.2 (by omega)
  obtain ⟨u, hu⟩ : ∃ u, u = up.getD i 0 := ⟨_, rfl⟩
  have x0 : w3.cell? ⟨b3, o3 + i, none⟩ = some (.int .i64 u) := by rw [hu]; exact hc3 i hilt
  have hct := contains_any _ w3 a2 n2 uq u hl2
  obtain ⟨g, hg⟩ : ∃ g, g = decide (u ∈ uq) := ⟨_, rfl⟩
  rw [← hg] at hct
  have Hg := Lib.hid hg
  have Hu := Lib.hid hu
  have hB : Below w.heap.size w w3 := hB2.trans (hB3.mono hz2)
  have t0 := below_at hB d0 hl
  have t1 := below_at hB d1 hl
  have t2 := below_at hB d2 hl
  have t3 := below_at hB d3 hl
  have t4 := below_at hB d4 hl
  have t5 := below_at hB d5 hl
  have i0 : (0 : Int) ≤ i := by omega
  have i1 : (i : Int) < up.length := by omega
  have HB := Lib.hid hB
  clear hB hl3 hc3 hl2 hu hg
  try go_wp2_with fail
  refine hK.out _ _ ⟨t0, t1, t2, t3, t4, t5⟩ (fun hHeld => ?_)
  clear hK K
  try simp only [Act.put, List.setIfInBounds_toArray, List.set_cons_zero, List.set_cons_succ]
  refine wpAnyH_mono2 (S2 := fun w' => (w'.cell? ⟨b, 0, none⟩ = some (.int .i64 s.q.epoch) ∧ w'.cell? ⟨b, 1, none⟩ = some (.slice qa s.q.chains.length qc) ∧ w'.cell? ⟨b, 2, none⟩ = some (.int .i64 s.p.epoch) ∧ w'.cell? ⟨b, 3, none⟩ = some (.slice pa s.p.chains.length pc) ∧ w'.cell? ⟨b, 4, none⟩ = some (.int .i64 1) ∧ w'.cell? ⟨b, 5, none⟩ = some (.int .i64 i)) ∧ w'.cell? ⟨b3, o3 + i, none⟩ = some (.int .i64 u)) (fun _ h => h.1) ?_
  replace hHeld := And.intro hHeld x0
  refine takeL 24 ?_
  refine takeL 25 ?_
  refine wpAnyH_ready (rs := [26]) (by kernel_rfl) (by simp) ?_
  refine AllReadyH.cons (o := _) rfl (fun K hK => ?_) AllReadyH.nil
  go_simp
  go_at_call 51
  with_reducible refine hct.mono ?_
  clear hct
  rintro e w4 ⟨rfl, rfl⟩
  try go_wp2_with fail
  refine hK.out _ _ ⟨⟨t0, t1, t2, t3, t4, t5⟩, x0⟩ (fun hHeld => ?_)
  clear hK K
  try simp only [Act.put, List.setIfInBounds_toArray, List.set_cons_zero, List.set_cons_succ]
  refine takeL 27 ?_
  refine wpAnyH_done (by kernel_rfl) ?_ _
  have hT := H.out.below HB.out
  have hsk : s.skipB = !g := by
    unfold ReS.skipB
    rw [Hg.out, Hu.out, Hup.out, Huq.out, Hii.out]
    simp [H1.out]
  have hnx := reNext_any hT (by rw [Hii.out]; have := Hul.out; rw [← Hup.out] at this; omega) Hgd.out
  have Hsk := Lib.hid hsk
  have HT := Lib.hid hT
  clear hHeld hT hsk y0 y1 y2 y3 y4 y5 t0 t1 t2 t3 t4 t5 d0 d1 d2 d3 d4 d5 x0
  cases g
  · go_wp2_with fail
    refine hnx.mono ?_
    clear hnx
    rintro e w5 ⟨rfl, hA5, hM5⟩
    have HA5 := Lib.hid hA5
    have HM5 := Lib.hid hM5
    clear hA5 hM5
    go_wp2_with fail
    go_ret
    refine ⟨by rw [Hsk.out]; rfl, ?_, (Mod.of_below HB.out).trans HM5.out⟩
    unfold ReS.skip
    rw [Hsk.out]
    exact HA5.out
  · clear hnx
    go_wp2_with fail
    go_ret
    refine ⟨by rw [Hsk.out]; rfl, ?_, Mod.of_below HB.out⟩
    unfold ReS.skip
    rw [Hsk.out]
    exact HT.out
theorem reSkip_any (h : ReAt w b tb S s) (hk : s.ok) : Calls Tryz.prog 19 #[.pointer (some ⟨b, 0, none⟩)] w (ReSkipPost w b tb S s) := by
  by_cases h1 : s.at = 1
  · exact reSkip_yes h h1 (hk.un h1) (hk.gp (by omega) (by omega))
  · exact reSkip_no h h1
end
end Go.Proofs.YtghdhhbpbmhooaaGreat
/- a change of the projection: its question -/
namespace Go.Proofs.YtghdhhbpbmhooaaGreat
open Go.RowKit Esch

theorem ask9_box (w : World) : ∃ W, W = w.alloc (.cells #[.int .i64 0, .int .i64 0, .int .i64 0, .int .i64 0, .int .i64 0, .int .i64 0, .string ⟨#[]⟩, .int .i64 0, .slice none 0 0] 34) ∧ Below w.heap.size w W ∧ W.heap.size = w.heap.size + 1 ∧
    W.cell? ⟨w.heap.size, 0, none⟩ = some (.int .i64 0) ∧ W.cell? ⟨w.heap.size, 1, none⟩ = some (.int .i64 0) ∧ W.cell? ⟨w.heap.size, 2, none⟩ = some (.int .i64 0) ∧ W.cell? ⟨w.heap.size, 3, none⟩ = some (.int .i64 0) ∧ W.cell? ⟨w.heap.size, 4, none⟩ = some (.int .i64 0) ∧ W.cell? ⟨w.heap.size, 5, none⟩ = some (.int .i64 0) ∧ W.cell? ⟨w.heap.size, 6, none⟩ = some (.string ⟨#[]⟩) ∧ W.cell? ⟨w.heap.size, 7, none⟩ = some (.int .i64 0) ∧ W.cell? ⟨w.heap.size, 8, none⟩ = some (.slice none 0 0) ∧
    ∀ o, o < 9 → W.frozen? ⟨w.heap.size, o, none⟩ = false := ⟨_, rfl, by exact belC (Below.refl _ _), by simp, by go_simp, by go_simp, by go_simp, by go_simp, by go_simp, by go_simp, by go_simp, by go_simp, by go_simp, fun o ho => by go_simp⟩
def ReAskPost (w : World) (r : QS × Bool) (e : Ending) (w' : World) : Prop := ∃ a c, e = .returned (.tuple #[qV r.1 a c, .bool r.2]) ∧ ListsAt (From w.heap.size) w' a r.1.p.chains ∧ Below w.heap.size w w'
section
variable {w : World} {b tb : Nat} {S : Nat → Prop} {s : ReS}
theorem reAsk_end (h : ReAt w b tb S s) (h1 : s.at = 4) : Calls Tryz.prog 13 #[.pointer (some ⟨b, 0, none⟩)] w (ReAskPost w (qz, false)) := by
  have c0 := h.c0
  obtain ⟨qa, qc, c1, hq⟩ := h.c1
  have c2 := h.c2
  obtain ⟨pa, pc, c3, hp⟩ := h.c3
  have c4 := h.c4
  have c5 := h.c5
  have c6 := h.c6
  have hl := h.lt
  have H := Lib.hid h
  rw [h1] at c4
  clear h hq hp h1
  go_enter Tryz.func13, Tryz.ntmps13
  go_wp2_with fail
  refine bodyPost_ret (v := .tuple #[qV qz none 0, .bool false]) (by simp only [results, Tryz.results13, qV, Esch.p0, List.length_nil]; go_simp) rfl ?_
  exact ⟨none, 0, rfl, ListsAt.nil _ _ _, by exact belC (Below.refl _ _)⟩
theorem reAsk_lay (h : ReAt w b tb S s) (h1 : s.at = 0) : Calls Tryz.prog 13 #[.pointer (some ⟨b, 0, none⟩)] w (ReAskPost w (⟨9, 0, 0, 0, 0, 0, ⟨#[]⟩, Esch.p0⟩, true)) := by
  have c0 := h.c0
  obtain ⟨qa, qc, c1, hq⟩ := h.c1
  have c2 := h.c2
  obtain ⟨pa, pc, c3, hp⟩ := h.c3
  have c4 := h.c4
  have c5 := h.c5
  have c6 := h.c6
  have hl := h.lt
  have H := Lib.hid h
  rw [h1] at c4
  clear h hq hp h1
  go_enter Tryz.func13, Tryz.ntmps13
  go_wp2_with fail
  refine bodyPost_ret (v := .tuple #[qV ⟨9, 0, 0, 0, 0, 0, ⟨#[]⟩, Esch.p0⟩ none 0, .bool true]) (by simp only [results, Tryz.results13, qV, Esch.p0, List.length_nil]; go_simp) rfl ?_
  exact ⟨none, 0, rfl, ListsAt.nil _ _ _, by exact belC (Below.refl _ _)⟩
set_option maxRecDepth 100000 in
set_option maxHeartbeats 1000000 in
theorem reAsk_seal (h : ReAt w b tb S s) (h1 : s.at = 1) (hi : 0 ≤ s.i ∧ s.i < s.us.length) : Calls Tryz.prog 13 #[.pointer (some ⟨b, 0, none⟩)] w (ReAskPost w (⟨5, s.us.getD s.i.toNat 0, s.q.epoch, 0, 0, 0, ⟨#[]⟩, Esch.p0⟩, true)) := by
  have c0 := h.c0
  obtain ⟨qa, qc, c1, hq⟩ := h.c1
  have c2 := h.c2
  obtain ⟨pa, pc, c3, hp⟩ := h.c3
  have c4 := h.c4
  have c5 := h.c5
  have c6 := h.c6
  have hl := h.lt
  have H := Lib.hid h
  obtain ⟨W1, hW1, hB1, hz1, r0, r1, r2, r3, r4, r5, r6, r7, r8, rf⟩ := ask9_box w
  have hlW : b < W1.heap.size := by omega
  have lW : w.heap.size < W1.heap.size := by omega
  have rf0 := rf 0 (by omega)
  have rf1 := rf 1 (by omega)
  have rf2 := rf 2 (by omega)
  have rf3 := rf 3 (by omega)
  have rf4 := rf 4 (by omega)
  have rf5 := rf 5 (by omega)
  have rf6 := rf 6 (by omega)
  have rf7 := rf 7 (by omega)
  have rf8 := rf 8 (by omega)
  have HW1 := Lib.hid hW1
  have HB1 := Lib.hid hB1
  clear hW1 rf
  rw [h1] at c4
  have hup := units_all _ W1.drew s.p.epoch pa pc s.p.chains h.smp (hp.mod (F := none') ((Mod.of_below hB1).drew) (fun _ _ _ => id))
  obtain ⟨i, hi'⟩ : ∃ i : Nat, s.i = i := ⟨s.i.toNat, by omega⟩
  obtain ⟨up, hup'⟩ : ∃ up, up = unitsOf s.p.chains.flatten := ⟨_, rfl⟩
  have hilt : i < up.length := by rw [hup']; have := hi.2; rw [hi'] at this; unfold ReS.us at this; omega
  obtain ⟨u, hu⟩ : ∃ u, u = up.getD i 0 := ⟨_, rfl⟩
  have hus : s.us.getD s.i.toNat 0 = u := by rw [hu, hup', hi']; rfl
  rw [hus]
  rw [← hup'] at hup
  rw [hi'] at c5
  have d0 : W1.drew.cell? ⟨b, 0, none⟩ = some (.int .i64 s.q.epoch) := below_at hB1 c0 hl
  have d2 : W1.drew.cell? ⟨b, 2, none⟩ = some (.int .i64 s.p.epoch) := below_at hB1 c2 hl
  have d3 : W1.drew.cell? ⟨b, 3, none⟩ = some (.slice pa s.p.chains.length pc) := below_at hB1 c3 hl
  have d5 : W1.drew.cell? ⟨b, 5, none⟩ = some (.int .i64 i) := below_at hB1 c5 hl
  have i0 : (0 : Int) ≤ i := by omega
  have i1 : (i : Int) < up.length := by omega
  have Hu := Lib.hid hu
  clear h hq hp h1 hi hup' hi' hus hu hB1
  go_enter Tryz.func13, Tryz.ntmps13
  go_wp2_with fail
  rw [← HW1.out]
  refine wp_region_held_drew (S := fun w' => w'.cell? ⟨b, 0, none⟩ = some (.int .i64 s.q.epoch) ∧ w'.cell? ⟨b, 2, none⟩ = some (.int .i64 s.p.epoch) ∧ w'.cell? ⟨b, 3, none⟩ = some (.slice pa s.p.chains.length pc) ∧ w'.cell? ⟨b, 5, none⟩ = some (.int .i64 i)) (by kernel_rfl) ⟨d0, d2, d3, d5⟩ (fun hHeld => ?_)
  refine takeL 0 ?_
  refine takeL 1 ?_
  refine takeL 2 ?_
  refine takeL 3 ?_
  refine takeL 5 ?_
  refine takeL 6 ?_
  refine takeL 7 ?_
  refine takeL 8 ?_
  refine takeL 11 ?_
  refine takeL 12 ?_
  refine takeL 13 ?_
  refine takeL 14 ?_
  refine takeL 15 ?_
  refine wpAnyH_ready (rs := [4]) (by kernel_rfl) (by simp) ?_
  refine AllReadyH.cons (o := _) rfl (fun K hK => ?_) AllReadyH.nil
  go_simp
  go_at_call 48
  with_reducible refine hup.mono ?_
  clear hup
  rintro e w2 ⟨a2, n2, rfl, hl2, hB2', -⟩
  have hB2 : Below W1.heap.size W1 w2 := below_drew hB2'
  clear hB2'
  obtain ⟨b3, o3, rfl, hb3, hk3, hc3⟩ := hl2.2 (by omega)
  have hb3' : W1.heap.size ≤ b3 := hb3
  have x0 : w2.cell? ⟨b3, o3 + i, none⟩ = some (.int .i64 u) := by rw [Hu.out]; exact hc3 i hilt
  have y0 := below_at hB2 d0 hlW
  have y2 := below_at hB2 d2 hlW
  have y3 := below_at hB2 d3 hlW
  have y5 := below_at hB2 d5 hlW
  replace r0 := below_at hB2 r0 lW
  replace r1 := below_at hB2 r1 lW
  replace r2 := below_at hB2 r2 lW
  replace r3 := below_at hB2 r3 lW
  replace r4 := below_at hB2 r4 lW
  replace r5 := below_at hB2 r5 lW
  replace r6 := below_at hB2 r6 lW
  replace r7 := below_at hB2 r7 lW
  replace r8 := below_at hB2 r8 lW
  replace rf0 := (hB2.frozen (p := ⟨w.heap.size, 0, none⟩) lW).trans rf0
  replace rf1 := (hB2.frozen (p := ⟨w.heap.size, 1, none⟩) lW).trans rf1
  replace rf2 := (hB2.frozen (p := ⟨w.heap.size, 2, none⟩) lW).trans rf2
  replace rf3 := (hB2.frozen (p := ⟨w.heap.size, 3, none⟩) lW).trans rf3
  replace rf4 := (hB2.frozen (p := ⟨w.heap.size, 4, none⟩) lW).trans rf4
  replace rf5 := (hB2.frozen (p := ⟨w.heap.size, 5, none⟩) lW).trans rf5
  replace rf6 := (hB2.frozen (p := ⟨w.heap.size, 6, none⟩) lW).trans rf6
  replace rf7 := (hB2.frozen (p := ⟨w.heap.size, 7, none⟩) lW).trans rf7
  replace rf8 := (hB2.frozen (p := ⟨w.heap.size, 8, none⟩) lW).trans rf8
  have HB2 := Lib.hid hB2
  clear hB2 hl2 hc3 hb3
  try go_wp2_with fail
  refine hK.out _ _ ⟨y0, y2, y3, y5⟩ (fun hHeld => ?_)
  clear hK K
  try simp only [Act.put, List.setIfInBounds_toArray, List.set_cons_zero, List.set_cons_succ]
  refine wpAnyH_mono2 (S2 := fun w' => (w'.cell? ⟨b, 0, none⟩ = some (.int .i64 s.q.epoch) ∧ w'.cell? ⟨b, 2, none⟩ = some (.int .i64 s.p.epoch) ∧ w'.cell? ⟨b, 3, none⟩ = some (.slice pa s.p.chains.length pc) ∧ w'.cell? ⟨b, 5, none⟩ = some (.int .i64 i)) ∧ w'.cell? ⟨b3, o3 + i, none⟩ = some (.int .i64 u)) (fun _ h => h.1) ?_
  replace hHeld := And.intro hHeld x0
  refine takeL 9 ?_
  refine takeL 10 ?_
  refine takeL 16 ?_
  refine wpAnyH_ready (rs := [17]) (by kernel_rfl) (by simp) ?_
  refine AllReadyH.cons (o := _) rfl (fun K hK => ?_) AllReadyH.nil
  go_simp
  have hn : w.heap.size ≠ b := by omega
  have hn3 : w.heap.size ≠ b3 := by omega
  try go_wp2_with fail
  refine hK.out _ _ ⟨⟨by go_simp, by go_simp, by go_simp, by go_simp⟩, by go_simp⟩ (fun hHeld => ?_)
  clear hK K
  try simp only [Act.put, List.setIfInBounds_toArray, List.set_cons_zero, List.set_cons_succ]
  refine takeL 18 ?_
  refine wpAnyH_done (by kernel_rfl) ?_ _
  clear hHeld y0 y2 y3 y5 x0 d0 d2 d3 d5
  go_wp2_with fail
  refine bodyPost_ret (v := .tuple #[qV ⟨5, u, s.q.epoch, 0, 0, 0, ⟨#[]⟩, Esch.p0⟩ none 0, .bool true]) (by simp only [results, Tryz.results13, qV, Esch.p0, List.length_nil]; go_simp) rfl ?_
  have hB := HB1.out.trans (HB2.out.mono (by omega))
  exact ⟨none, 0, rfl, ListsAt.nil _ _ _, by exact belC hB⟩
set_option maxHeartbeats 1000000 in
theorem reAsk_change (h : ReAt w b tb S s) (h1 : s.at = 2) : Calls Tryz.prog 13 #[.pointer (some ⟨b, 0, none⟩)] w (ReAskPost w (⟨10, 0, 0, 0, 0, 0, ⟨#[]⟩, s.q⟩, true)) := by
  have c0 := h.c0
  obtain ⟨qa, qc, c1, hq⟩ := h.c1
  have c2 := h.c2
  obtain ⟨pa, pc, c3, hp⟩ := h.c3
  have c4 := h.c4
  have c5 := h.c5
  have c6 := h.c6
  have hl := h.lt
  have H := Lib.hid h
  obtain ⟨W1, hW1, hB1, hz1, r0, r1, r2, r3, r4, r5, r6, r7, r8, rf⟩ := ask9_box w
  have hlW : b < W1.heap.size := by omega
  have lW : w.heap.size < W1.heap.size := by omega
  have rf0 := rf 0 (by omega)
  have rf1 := rf 1 (by omega)
  have rf2 := rf 2 (by omega)
  have rf3 := rf 3 (by omega)
  have rf4 := rf 4 (by omega)
  have rf5 := rf 5 (by omega)
  have rf6 := rf 6 (by omega)
  have rf7 := rf 7 (by omega)
  have rf8 := rf 8 (by omega)
  have HW1 := Lib.hid hW1
  have HB1 := Lib.hid hB1
  clear hW1 rf
  rw [h1] at c4
  have hcp := copy_any _ W1 s.q.epoch qa qc s.q.chains h.smq (hq.mod (F := none') (Mod.of_below hB1) (fun _ _ _ => id))
  have d0 : W1.cell? ⟨b, 0, none⟩ = some (.int .i64 s.q.epoch) := below_at hB1 c0 hl
  have d1 : W1.cell? ⟨b, 1, none⟩ = some (.slice qa s.q.chains.length qc) := below_at hB1 c1 hl
  have d4 : W1.cell? ⟨b, 4, none⟩ = some (.int .i64 2) := below_at hB1 c4 hl
  clear h hq hp h1 hB1
  go_enter Tryz.func13, Tryz.ntmps13
  go_wp2_with fail
  rw [← HW1.out]
  refine hcp.mono ?_
  clear hcp
  rintro e w2 ⟨a2, n2, rfl, hl2, hB2⟩
  replace r0 := below_at hB2 r0 lW
  replace r1 := below_at hB2 r1 lW
  replace r2 := below_at hB2 r2 lW
  replace r3 := below_at hB2 r3 lW
  replace r4 := below_at hB2 r4 lW
  replace r5 := below_at hB2 r5 lW
  replace r6 := below_at hB2 r6 lW
  replace r7 := below_at hB2 r7 lW
  replace r8 := below_at hB2 r8 lW
  replace rf0 := (hB2.frozen (p := ⟨w.heap.size, 0, none⟩) lW).trans rf0
  replace rf1 := (hB2.frozen (p := ⟨w.heap.size, 1, none⟩) lW).trans rf1
  replace rf2 := (hB2.frozen (p := ⟨w.heap.size, 2, none⟩) lW).trans rf2
  replace rf3 := (hB2.frozen (p := ⟨w.heap.size, 3, none⟩) lW).trans rf3
  replace rf4 := (hB2.frozen (p := ⟨w.heap.size, 4, none⟩) lW).trans rf4
  replace rf5 := (hB2.frozen (p := ⟨w.heap.size, 5, none⟩) lW).trans rf5
  replace rf6 := (hB2.frozen (p := ⟨w.heap.size, 6, none⟩) lW).trans rf6
  replace rf7 := (hB2.frozen (p := ⟨w.heap.size, 7, none⟩) lW).trans rf7
  replace rf8 := (hB2.frozen (p := ⟨w.heap.size, 8, none⟩) lW).trans rf8
  have HB2 := Lib.hid hB2
  have HL2 := Lib.hid hl2
  clear hB2 hl2 d0 d1 d4
  go_wp2_with fail
  refine bodyPost_ret (v := .tuple #[qV ⟨10, 0, 0, 0, 0, 0, ⟨#[]⟩, s.q⟩ a2 n2, .bool true]) (by simp only [results, Tryz.results13, qV]; go_simp) rfl ?_
  have hB := HB1.out.trans (HB2.out.mono (by omega))
  refine ⟨a2, n2, rfl, (HL2.out.mod (F := (· = w.heap.size)) (by exact modC (Mod.refl _ _)) (fun k hk _ e => by have hk : W1.heap.size ≤ k := hk; omega)).sub (fun k _ hk => by have hk : W1.heap.size ≤ k := hk; show w.heap.size ≤ k; omega), by exact belC hB⟩
set_option maxRecDepth 100000 in
set_option maxHeartbeats 1000000 in
theorem reAsk_start (h : ReAt w b tb S s) (h1 : s.at = 3) : Calls Tryz.prog 13 #[.pointer (some ⟨b, 0, none⟩)] w (ReAskPost w (⟨8, 0, s.q.epoch, tailP s.p s.t, 0, 0, ⟨#[]⟩, Esch.p0⟩, true)) := by
  have c0 := h.c0
  obtain ⟨qa, qc, c1, hq⟩ := h.c1
  have c2 := h.c2
  obtain ⟨pa, pc, c3, hp⟩ := h.c3
  have c4 := h.c4
  have c5 := h.c5
  have c6 := h.c6
  have hl := h.lt
  have H := Lib.hid h
  obtain ⟨W1, hW1, hB1, hz1, r0, r1, r2, r3, r4, r5, r6, r7, r8, rf⟩ := ask9_box w
  have hlW : b < W1.heap.size := by omega
  have lW : w.heap.size < W1.heap.size := by omega
  have rf0 := rf 0 (by omega)
  have rf1 := rf 1 (by omega)
  have rf2 := rf 2 (by omega)
  have rf3 := rf 3 (by omega)
  have rf4 := rf 4 (by omega)
  have rf5 := rf 5 (by omega)
  have rf6 := rf 6 (by omega)
  have rf7 := rf 7 (by omega)
  have rf8 := rf 8 (by omega)
  have HW1 := Lib.hid hW1
  have HB1 := Lib.hid hB1
  clear hW1 rf
  rw [h1] at c4
  obtain ⟨es, clock, hmp⟩ := h.mp
  have hpt := plTail_any _ W1.drew s.p pa pc h.smp (hp.mod (F := none') ((Mod.of_below hB1).drew) (fun _ _ _ => id)) tb s.t es clock (hmp.of_block (((Mod.of_below (F := none') hB1).drew).block tb h.tlt id))
  have d0 : W1.drew.cell? ⟨b, 0, none⟩ = some (.int .i64 s.q.epoch) := below_at hB1 c0 hl
  have d2 : W1.drew.cell? ⟨b, 2, none⟩ = some (.int .i64 s.p.epoch) := below_at hB1 c2 hl
  have d3 : W1.drew.cell? ⟨b, 3, none⟩ = some (.slice pa s.p.chains.length pc) := below_at hB1 c3 hl
  have d6 : W1.drew.cell? ⟨b, 6, none⟩ = some (.map (some tb)) := below_at hB1 c6 hl
  obtain ⟨tt, htt⟩ : ∃ tt, tt = tailP s.p s.t := ⟨_, rfl⟩
  rw [← htt] at hpt ⊢
  clear h hq hp h1 hB1 hmp htt
  go_enter Tryz.func13, Tryz.ntmps13
  go_wp2_with fail
  rw [← HW1.out]
  refine wp_region_held_drew (S := fun w' => w'.cell? ⟨b, 0, none⟩ = some (.int .i64 s.q.epoch) ∧ w'.cell? ⟨b, 2, none⟩ = some (.int .i64 s.p.epoch) ∧ w'.cell? ⟨b, 3, none⟩ = some (.slice pa s.p.chains.length pc) ∧ w'.cell? ⟨b, 6, none⟩ = some (.map (some tb))) (by kernel_rfl) ⟨d0, d2, d3, d6⟩ (fun hHeld => ?_)
  refine takeL 0 ?_
  refine takeL 1 ?_
  refine takeL 2 ?_
  refine takeL 3 ?_
  refine takeL 4 ?_
  refine takeL 5 ?_
  refine takeL 6 ?_
  refine takeL 7 ?_
  refine takeL 8 ?_
  refine takeL 9 ?_
  refine takeL 10 ?_
  refine takeL 11 ?_
  refine takeL 12 ?_
  refine wpAnyH_ready (rs := [13]) (by kernel_rfl) (by simp) ?_
  refine AllReadyH.cons (o := _) rfl (fun K hK => ?_) AllReadyH.nil
  go_simp
  go_at_call 49
  with_reducible refine hpt.mono ?_
  clear hpt
  rintro e w2 ⟨rfl, hB2'⟩
  have hB2 : Below W1.heap.size W1 w2 := below_drew hB2'
  clear hB2'
  have y0 := below_at hB2 d0 hlW
  have y2 := below_at hB2 d2 hlW
  have y3 := below_at hB2 d3 hlW
  have y6 := below_at hB2 d6 hlW
  replace r0 := below_at hB2 r0 lW
  replace r1 := below_at hB2 r1 lW
  replace r2 := below_at hB2 r2 lW
  replace r3 := below_at hB2 r3 lW
  replace r4 := below_at hB2 r4 lW
  replace r5 := below_at hB2 r5 lW
  replace r6 := below_at hB2 r6 lW
  replace r7 := below_at hB2 r7 lW
  replace r8 := below_at hB2 r8 lW
  replace rf0 := (hB2.frozen (p := ⟨w.heap.size, 0, none⟩) lW).trans rf0
  replace rf1 := (hB2.frozen (p := ⟨w.heap.size, 1, none⟩) lW).trans rf1
  replace rf2 := (hB2.frozen (p := ⟨w.heap.size, 2, none⟩) lW).trans rf2
  replace rf3 := (hB2.frozen (p := ⟨w.heap.size, 3, none⟩) lW).trans rf3
  replace rf4 := (hB2.frozen (p := ⟨w.heap.size, 4, none⟩) lW).trans rf4
  replace rf5 := (hB2.frozen (p := ⟨w.heap.size, 5, none⟩) lW).trans rf5
  replace rf6 := (hB2.frozen (p := ⟨w.heap.size, 6, none⟩) lW).trans rf6
  replace rf7 := (hB2.frozen (p := ⟨w.heap.size, 7, none⟩) lW).trans rf7
  replace rf8 := (hB2.frozen (p := ⟨w.heap.size, 8, none⟩) lW).trans rf8
  have HB2 := Lib.hid hB2
  clear hB2
  try go_wp2_with fail
  refine hK.out _ _ ⟨y0, y2, y3, y6⟩ (fun hHeld => ?_)
  clear hK K
  try simp only [Act.put, List.setIfInBounds_toArray, List.set_cons_zero, List.set_cons_succ]
  refine takeL 14 ?_
  refine wpAnyH_ready (rs := [15]) (by kernel_rfl) (by simp) ?_
  refine AllReadyH.cons (o := _) rfl (fun K hK => ?_) AllReadyH.nil
  go_simp
  have hn : w.heap.size ≠ b := by omega
  try go_wp2_with fail
  refine hK.out _ _ ⟨by go_simp, by go_simp, by go_simp, by go_simp⟩ (fun hHeld => ?_)
  clear hK K
  try simp only [Act.put, List.setIfInBounds_toArray, List.set_cons_zero, List.set_cons_succ]
  refine takeL 16 ?_
  refine wpAnyH_done (by kernel_rfl) ?_ _
  clear hHeld y0 y2 y3 y6 d0 d2 d3 d6
  go_wp2_with fail
  refine bodyPost_ret (v := .tuple #[qV ⟨8, 0, s.q.epoch, tt, 0, 0, ⟨#[]⟩, Esch.p0⟩ none 0, .bool true]) (by simp only [results, Tryz.results13, qV, Esch.p0, List.length_nil]; go_simp) rfl ?_
  have hB := HB1.out.trans (HB2.out.mono (by omega))
  exact ⟨none, 0, rfl, ListsAt.nil _ _ _, by exact belC hB⟩
theorem reAsk_any (h : ReAt w b tb S s) (hk : s.ok) : Calls Tryz.prog 13 #[.pointer (some ⟨b, 0, none⟩)] w (ReAskPost w s.ask) := by
  unfold ReS.ask
  by_cases h4 : s.at = 4
  · rw [if_pos h4]; exact reAsk_end h h4
  rw [if_neg h4]
  by_cases h0 : s.at = 0
  · rw [if_pos h0]; exact reAsk_lay h h0
  rw [if_neg h0]
  by_cases h1 : s.at = 1
  · rw [if_pos h1]; exact reAsk_seal h h1 (hk.un h1)
  rw [if_neg h1]
  by_cases h2 : s.at = 2
  · rw [if_pos h2]; exact reAsk_change h h2
  rw [if_neg h2]
  exact reAsk_start h (by have := hk.wh; omega)
end
end Go.Proofs.YtghdhhbpbmhooaaGreat
/- a change of the projection: what it hears -/
namespace Go.Proofs.YtghdhhbpbmhooaaGreat
open Go.RowKit Esch

def ReHearPost (w : World) (b tb : Nat) (S : Nat → Prop) (s : ReS) (e : Ending) (w' : World) : Prop := e = .returned (.tuple #[]) ∧ ReAt w' b tb (fun k => S k ∨ (w.heap.size ≤ k ∧ k < w'.heap.size)) s ∧ Mod (fun k => k = b ∨ k = tb) w w'
theorem ReAt.post0 {w w' : World} {b tb : Nat} {S : Nat → Prop} {s : ReS} (h : ReAt w b tb S s) (hB : Below w.heap.size w w') {e : Ending} (he : e = .returned (.tuple #[])) : ReHearPost w b tb S s e w' := ⟨he, (h.below hB).sub (fun _ _ hk => Or.inl hk), Mod.of_below hB⟩
theorem ReAt.post1 {w w0 w' : World} {b tb : Nat} {S : Nat → Prop} {s : ReS} (hB : Below w.heap.size w w0) (h : ReAt w' b tb S s) (hM : Mod (· = b) w0 w') {e : Ending} (he : e = .returned (.tuple #[])) : ReHearPost w b tb S s e w' :=
  ⟨he, h.sub (fun _ _ hk => Or.inl hk), (Mod.of_below hB).trans (hM.mono fun _ _ h => Or.inl h)⟩
/-- another projection has been taken -/
theorem ReAt.took {w w3 w' : World} {b tb n : Nat} {S : Nat → Prop} {s : ReS} {p : Proj} {ia : Option Addr} {ic : Nat} (hB : Below w.heap.size w w3) (h : ReAt w3 b tb S s) (hl : ListsAt (From n) w3 ia p.chains) (hb : b < n) (ht : tb < n) (hn : w.heap.size ≤ n) (hsm : Small p.chains) (hM : Mod (· = b) w3 w')
    (c2 : w'.cell? ⟨b, 2, none⟩ = some (.int .i64 p.epoch)) (c3 : w'.cell? ⟨b, 3, none⟩ = some (.slice ia p.chains.length ic)) (c4 : w'.cell? ⟨b, 4, none⟩ = some (.int .i64 1)) (c5 : w'.cell? ⟨b, 5, none⟩ = some (.int .i64 0)) (c0 : w'.cell? ⟨b, 0, none⟩ = w3.cell? ⟨b, 0, none⟩) (c1 : w'.cell? ⟨b, 1, none⟩ = w3.cell? ⟨b, 1, none⟩) (c6 : w'.cell? ⟨b, 6, none⟩ = w3.cell? ⟨b, 6, none⟩) (c7 : w'.cell? ⟨b, 7, none⟩ = w3.cell? ⟨b, 7, none⟩)
    (fr : ∀ o, w'.frozen? ⟨b, o, none⟩ = w3.frozen? ⟨b, o, none⟩) : ReHearPost w b tb S { s with p := p, «at» := 1, i := 0 } (.returned (.tuple #[])) w' := by
  obtain ⟨g1a, g1c, g1, g1l⟩ := h.c1
  obtain ⟨es, clock, hm⟩ := h.mp
  refine ⟨rfl, ⟨c0.trans h.c0, ⟨g1a, g1c, c1.trans g1, (g1l.mod hM (fun k hk _ => hk.2.1)).sub (fun k hk h => ⟨Or.inl h.1, h.2⟩)⟩, c2, ⟨ia, ic, c3, ?_⟩, c4, c5, c6.trans h.c6, c7.trans h.c7, ⟨es, clock, hm.of_block (hM.block tb h.tlt h.ne)⟩, fun o ho => (fr o).trans (h.fr o ho), Or.inl h.sb, Or.inl h.st, h.ne, h.smq, hsm⟩, (Mod.of_below hB).trans (hM.mono fun _ _ h => Or.inl h)⟩
  refine (hl.mod hM (fun k hk _ e => ?_)).sub (fun k hkl hk => ?_)
  · have hk : n ≤ k := hk; omega
  · have hk : n ≤ k := hk
    exact ⟨Or.inr ⟨by omega, hkl⟩, by omega, by omega⟩
section
variable {w : World} {b tb : Nat} {S : Nat → Prop} {s : ReS} (x : AnS) (a : Option Addr) (c : Nat) (hd : Bool)
set_option maxHeartbeats 1000000 in
theorem reHear_no (h : ReAt w b tb S s) (hn : s.at = 4 ∨ hd = false ∨ x.code = 45) : Calls Tryz.prog 21 #[.pointer (some ⟨b, 0, none⟩), aV x a c, .bool hd] w (ReHearPost w b tb S s) := by
  have H := Lib.hid h
  have c4 := h.c4
  have hl := h.lt
  clear h
  by_cases h2 : s.at = 4
  · rw [h2] at c4
    clear hn h2
    simp only [aV]
    go_enter Tryz.func21, Tryz.ntmps21
    go_wp2_with fail
    go_step3
    go_wp2_with fail
    rw [Exit.noGoto_ret]
    go_end0
    exact H.out.post0 (by exact belC (Below.refl _ _)) rfl
  · have e2 : (s.at == 4) = false := by simpa using h2
    cases hd
    · clear hn h2
      simp only [aV]
      go_enter Tryz.func21, Tryz.ntmps21
      go_wp2_with fail
      go_step3
      go_wp2_with fail
      rw [Exit.noGoto_ret]
      go_end0
      exact H.out.post0 (by exact belC (Below.refl _ _)) rfl
    · have hn : x.code = 45 := by
        rcases hn with hn | hn | hn
        · exact absurd hn h2
        · cases hn
        · exact hn
      obtain ⟨xc, xn, xd, xp, xm, xs, xe⟩ := x
      simp only at hn
      subst hn
      clear h2
      simp only [aV]
      go_enter Tryz.func21, Tryz.ntmps21
      go_wp2_with fail
      go_step3
      go_wp2_with fail
      rw [Exit.noGoto_ret]
      go_end0
      exact H.out.post0 (by exact belC (Below.refl _ _)) rfl
set_option maxHeartbeats 1000000 in
theorem reHear_layE (h : ReAt w b tb S s) (h1 : s.at = 0) (hc : x.code ≠ 45) (h0 : x.code ≠ 0) : Calls Tryz.prog 21 #[.pointer (some ⟨b, 0, none⟩), aV x a c, .bool true] w (ReHearPost w b tb S (s.endd x.code)) := by
  have e5 : (x.code == 45) = false := by simpa using hc
  have ez : (x.code != 0) = true := by simpa using h0
  clear h0
  obtain ⟨xc, xn, xd, ⟨xpe, xls⟩, xm, xs, xe⟩ := x
  obtain ⟨W0, hW0, hB0, hz0, b0, b1, b2, b3, b4, b5, b6, b7⟩ := an_boxA w (.int .i64 xc) (.int .i64 xn) (.string xd) (.int .i64 xpe) (.slice a xls.length c) (.int .i64 xm) (.int .i64 xs) (.int .i64 xe)
  have lt0 : w.heap.size < W0.heap.size := by omega
  have ltb : b < W0.heap.size := by have := h.lt; omega
  have h0 := h.below hB0
  have HW0 := Lib.hid hW0
  have HB0 := Lib.hid hB0
  clear hW0
  have c4 := h.c4
  have hl := h.lt
  have k0 := h0.c0
  obtain ⟨qa, qc, k1, hq⟩ := h0.c1
  have k2 := h0.c2
  obtain ⟨pa, pc, k3, hp⟩ := h0.c3
  have k4 := h0.c4
  have k5 := h0.c5
  have k6 := h0.c6
  have k7 := h0.c7
  have H0 := Lib.hid h0
  simp only at e5 ez hc
  have hen := reEnd_any h0 xc
  rw [h1] at c4 k4
  clear h h1 hc h0 hB0 hq hp
  simp only [aV]
  go_enter Tryz.func21, Tryz.ntmps21
  go_wp2_with fail
  go_step3
  go_wp2_with fail
  rw [← HW0.out]
  with_reducible refine wp_label ?_
  go_wp2_with fail
  refine hen.mono ?_
  clear hen
  rintro e w9 ⟨rfl, hA9, hM9⟩
  have HA9 := Lib.hid hA9
  have HM9 := Lib.hid hM9
  clear hA9 hM9
  go_wp2_with fail
  rw [Exit.noGoto_normal]
  go_end0
  skip
  exact ReAt.post1 HB0.out HA9.out HM9.out rfl
set_option maxHeartbeats 1000000 in
theorem reHear_sealE (h : ReAt w b tb S s) (h1 : s.at = 1) (hc : x.code ≠ 45) (h0 : x.code ≠ 0) : Calls Tryz.prog 21 #[.pointer (some ⟨b, 0, none⟩), aV x a c, .bool true] w (ReHearPost w b tb S (s.endd x.code)) := by
  have e5 : (x.code == 45) = false := by simpa using hc
  have ez : (x.code != 0) = true := by simpa using h0
  clear h0
  obtain ⟨xc, xn, xd, ⟨xpe, xls⟩, xm, xs, xe⟩ := x
  obtain ⟨W0, hW0, hB0, hz0, b0, b1, b2, b3, b4, b5, b6, b7⟩ := an_boxA w (.int .i64 xc) (.int .i64 xn) (.string xd) (.int .i64 xpe) (.slice a xls.length c) (.int .i64 xm) (.int .i64 xs) (.int .i64 xe)
  have lt0 : w.heap.size < W0.heap.size := by omega
  have ltb : b < W0.heap.size := by have := h.lt; omega
  have h0 := h.below hB0
  have HW0 := Lib.hid hW0
  have HB0 := Lib.hid hB0
  clear hW0
  have c4 := h.c4
  have hl := h.lt
  have k0 := h0.c0
  obtain ⟨qa, qc, k1, hq⟩ := h0.c1
  have k2 := h0.c2
  obtain ⟨pa, pc, k3, hp⟩ := h0.c3
  have k4 := h0.c4
  have k5 := h0.c5
  have k6 := h0.c6
  have k7 := h0.c7
  have H0 := Lib.hid h0
  simp only at e5 ez hc
  have hen := reEnd_any h0 xc
  rw [h1] at c4 k4
  clear h h1 hc h0 hB0 hq hp
  simp only [aV]
  go_enter Tryz.func21, Tryz.ntmps21
  go_wp2_with fail
  go_step3
  go_wp2_with fail
  rw [← HW0.out]
  with_reducible refine wp_label ?_
  go_wp2_with fail
  refine hen.mono ?_
  clear hen
  rintro e w9 ⟨rfl, hA9, hM9⟩
  have HA9 := Lib.hid hA9
  have HM9 := Lib.hid hM9
  clear hA9 hM9
  go_wp2_with fail
  rw [Exit.noGoto_normal]
  go_end0
  skip
  exact ReAt.post1 HB0.out HA9.out HM9.out rfl
set_option maxHeartbeats 1000000 in
theorem reHear_chg0 (h : ReAt w b tb S s) (h1 : s.at = 2) (h0 : x.code = 0) : Calls Tryz.prog 21 #[.pointer (some ⟨b, 0, none⟩), aV x a c, .bool true] w (ReHearPost w b tb S { s with «at» := 3 }) := by
  have hx := h0
  clear h0
  obtain ⟨xc, xn, xd, ⟨xpe, xls⟩, xm, xs, xe⟩ := x
  obtain ⟨W0, hW0, hB0, hz0, b0, b1, b2, b3, b4, b5, b6, b7⟩ := an_boxA w (.int .i64 xc) (.int .i64 xn) (.string xd) (.int .i64 xpe) (.slice a xls.length c) (.int .i64 xm) (.int .i64 xs) (.int .i64 xe)
  have lt0 : w.heap.size < W0.heap.size := by omega
  have ltb : b < W0.heap.size := by have := h.lt; omega
  have h0 := h.below hB0
  have HW0 := Lib.hid hW0
  have HB0 := Lib.hid hB0
  clear hW0
  have c4 := h.c4
  have hl := h.lt
  have k0 := h0.c0
  obtain ⟨qa, qc, k1, hq⟩ := h0.c1
  have k2 := h0.c2
  obtain ⟨pa, pc, k3, hp⟩ := h0.c3
  have k4 := h0.c4
  have k5 := h0.c5
  have k6 := h0.c6
  have k7 := h0.c7
  have H0 := Lib.hid h0
  simp only at hx
  subst hx
  have f4 := h0.fr 4 (by omega)
  rw [h1] at c4 k4
  clear h h1 h0 hB0 hq hp
  simp only [aV]
  go_enter Tryz.func21, Tryz.ntmps21
  go_wp2_with fail
  go_step3
  go_wp2_with fail
  rw [← HW0.out]
  with_reducible refine wp_label ?_
  go_wp2_with fail
  go_quiet (fail)
  go_wp2_with fail
  rw [Exit.noGoto_ret]
  go_end0
  refine ReAt.post1 HB0.out (H0.out.wrote (v4 := 3) (v5 := s.i) (v7 := s.err) (by exact modC (Mod.refl _ _)) (by go_simp) (by go_simp) (by go_simp) (by go_simp) (by go_simp) (by go_simp) (by go_simp) (by go_simp) (fun o => by go_simp)) (by exact modC (Mod.refl _ _)) rfl
set_option maxHeartbeats 1000000 in
theorem reHear_chgE (h : ReAt w b tb S s) (h1 : s.at = 2) (hc : x.code ≠ 45) (h0 : x.code ≠ 0) (h8 : x.code ≠ 48) : Calls Tryz.prog 21 #[.pointer (some ⟨b, 0, none⟩), aV x a c, .bool true] w (ReHearPost w b tb S (s.endd x.code)) := by
  have e5 : (x.code == 45) = false := by simpa using hc
  have ez : (x.code == 0) = false := by simpa using h0
  have e8 : (x.code == 48) = false := by simpa using h8
  clear h0
  obtain ⟨xc, xn, xd, ⟨xpe, xls⟩, xm, xs, xe⟩ := x
  obtain ⟨W0, hW0, hB0, hz0, b0, b1, b2, b3, b4, b5, b6, b7⟩ := an_boxA w (.int .i64 xc) (.int .i64 xn) (.string xd) (.int .i64 xpe) (.slice a xls.length c) (.int .i64 xm) (.int .i64 xs) (.int .i64 xe)
  have lt0 : w.heap.size < W0.heap.size := by omega
  have ltb : b < W0.heap.size := by have := h.lt; omega
  have h0 := h.below hB0
  have HW0 := Lib.hid hW0
  have HB0 := Lib.hid hB0
  clear hW0
  have c4 := h.c4
  have hl := h.lt
  have k0 := h0.c0
  obtain ⟨qa, qc, k1, hq⟩ := h0.c1
  have k2 := h0.c2
  obtain ⟨pa, pc, k3, hp⟩ := h0.c3
  have k4 := h0.c4
  have k5 := h0.c5
  have k6 := h0.c6
  have k7 := h0.c7
  have H0 := Lib.hid h0
  simp only at e5 ez hc e8 h8
  have hen := fun n => reEnd_any (h0.mod (F := none') ((Mod.refl _ _).drewN n) (fun _ _ _ => id)) xc
  rw [h1] at c4 k4
  clear h h1 hc h0 hB0 hq hp h8
  simp only [aV]
  go_enter Tryz.func21, Tryz.ntmps21
  go_wp2_with fail
  go_step3
  go_wp2_with fail
  rw [← HW0.out]
  with_reducible refine wp_label ?_
  go_wp2_with fail
  go_quiet (fail)
  go_wp2_with fail
  replace hen := hen nq
  refine hen.mono ?_
  clear hen
  rintro e w9 ⟨rfl, hA9, hM9⟩
  have HA9 := Lib.hid hA9
  have HM9 := Lib.hid hM9
  clear hA9 hM9
  go_wp2_with fail
  rw [Exit.noGoto_normal]
  go_end0
  skip
  exact ReAt.post1 (below_drewN HB0.out nq) HA9.out HM9.out rfl
set_option maxHeartbeats 1000000 in
theorem reHear_start (h : ReAt w b tb S s) (h1 : s.at = 3) (hc : x.code ≠ 45) : Calls Tryz.prog 21 #[.pointer (some ⟨b, 0, none⟩), aV x a c, .bool true] w (ReHearPost w b tb S (if x.code = 40 ∧ x.epoch = s.q.epoch then s.endd 0 else s.endd x.code)) := by
  have e5 : (x.code == 45) = false := by simpa using hc
  obtain ⟨xc, xn, xd, ⟨xpe, xls⟩, xm, xs, xe⟩ := x
  obtain ⟨W0, hW0, hB0, hz0, b0, b1, b2, b3, b4, b5, b6, b7⟩ := an_boxA w (.int .i64 xc) (.int .i64 xn) (.string xd) (.int .i64 xpe) (.slice a xls.length c) (.int .i64 xm) (.int .i64 xs) (.int .i64 xe)
  have lt0 : w.heap.size < W0.heap.size := by omega
  have ltb : b < W0.heap.size := by have := h.lt; omega
  have h0 := h.below hB0
  have HW0 := Lib.hid hW0
  have HB0 := Lib.hid hB0
  clear hW0
  have c4 := h.c4
  have hl := h.lt
  have k0 := h0.c0
  obtain ⟨qa, qc, k1, hq⟩ := h0.c1
  have k2 := h0.c2
  obtain ⟨pa, pc, k3, hp⟩ := h0.c3
  have k4 := h0.c4
  have k5 := h0.c5
  have k6 := h0.c6
  have k7 := h0.c7
  have H0 := Lib.hid h0
  simp only at e5 hc ⊢
  have hen := fun n e => reEnd_any (h0.mod (F := none') ((Mod.refl _ _).drewN n) (fun _ _ _ => id)) e
  rw [h1] at c4 k4
  clear h h1 h0 hB0 hq hp
  by_cases h4 : xc = 40
  · subst h4
    by_cases hee : xe = s.q.epoch
    · rw [if_pos ⟨rfl, hee⟩]
      have ee : (xe == s.q.epoch) = true := by simpa using hee
      clear hee
      simp only [aV]
      go_enter Tryz.func21, Tryz.ntmps21
      go_wp2_with fail
      go_step3
      go_wp2_with fail
      rw [← HW0.out]
      with_reducible refine wp_label ?_
      go_wp2_with fail
      go_quiet (fail)
      go_wp2_with fail
      replace hen := hen nq 0
      refine hen.mono ?_
      clear hen
      rintro e w9 ⟨rfl, hA9, hM9⟩
      have HA9 := Lib.hid hA9
      have HM9 := Lib.hid hM9
      clear hA9 hM9
      go_wp2_with fail
      rw [Exit.noGoto_normal]
      go_end0
      skip
      exact ReAt.post1 (below_drewN HB0.out nq) HA9.out HM9.out rfl
    · rw [if_neg (fun e => hee e.2)]
      have ee : (xe == s.q.epoch) = false := by simpa using hee
      clear hee
      simp only [aV]
      go_enter Tryz.func21, Tryz.ntmps21
      go_wp2_with fail
      go_step3
      go_wp2_with fail
      rw [← HW0.out]
      with_reducible refine wp_label ?_
      go_wp2_with fail
      go_quiet (fail)
      go_wp2_with fail
      replace hen := hen nq 40
      refine hen.mono ?_
      clear hen
      rintro e w9 ⟨rfl, hA9, hM9⟩
      have HA9 := Lib.hid hA9
      have HM9 := Lib.hid hM9
      clear hA9 hM9
      go_wp2_with fail
      rw [Exit.noGoto_normal]
      go_end0
      skip
      exact ReAt.post1 (below_drewN HB0.out nq) HA9.out HM9.out rfl
  · rw [if_neg (fun e => h4 e.1)]
    have e4 : (xc == 40) = false := by simpa using h4
    clear h4
    simp only [aV]
    go_enter Tryz.func21, Tryz.ntmps21
    go_wp2_with fail
    go_step3
    go_wp2_with fail
    rw [← HW0.out]
    with_reducible refine wp_label ?_
    go_wp2_with fail
    go_quiet (fail)
    go_wp2_with fail
    replace hen := hen nq xc
    refine hen.mono ?_
    clear hen
    rintro e w9 ⟨rfl, hA9, hM9⟩
    have HA9 := Lib.hid hA9
    have HM9 := Lib.hid hM9
    clear hA9 hM9
    go_wp2_with fail
    rw [Exit.noGoto_normal]
    go_end0
    skip
    exact ReAt.post1 (below_drewN HB0.out nq) HA9.out HM9.out rfl
set_option maxRecDepth 100000 in
set_option maxHeartbeats 1000000 in
theorem reHear_chg8 (h : ReAt w b tb S s) (h1 : s.at = 2) (h8 : x.code = 48) (S' : Nat → Prop) (hl0 : ListsAt S' w a x.p.chains) : Calls Tryz.prog 21 #[.pointer (some ⟨b, 0, none⟩), aV x a c, .bool true] w (ReHearPost w b tb S (if x.p = s.q then { s with «at» := 3 } else s.endd 48)) := by
  obtain ⟨xc, xn, xd, ⟨xpe, xls⟩, xm, xs, xe⟩ := x
  obtain ⟨W0, hW0, hB0, hz0, b0, b1, b2, b3, b4, b5, b6, b7⟩ := an_boxA w (.int .i64 xc) (.int .i64 xn) (.string xd) (.int .i64 xpe) (.slice a xls.length c) (.int .i64 xm) (.int .i64 xs) (.int .i64 xe)
  have lt0 : w.heap.size < W0.heap.size := by omega
  have ltb : b < W0.heap.size := by have := h.lt; omega
  have h0 := h.below hB0
  have HW0 := Lib.hid hW0
  have HB0 := Lib.hid hB0
  clear hW0
  have c4 := h.c4
  have hl := h.lt
  have k0 := h0.c0
  obtain ⟨qa, qc, k1, hq⟩ := h0.c1
  have k2 := h0.c2
  obtain ⟨pa, pc, k3, hp⟩ := h0.c3
  have k4 := h0.c4
  have k5 := h0.c5
  have k6 := h0.c6
  have k7 := h0.c7
  have H0 := Lib.hid h0
  simp only at h8 hl0 ⊢
  subst h8
  have f4 := h0.fr 4 (by omega)
  have hsm := same18_any (fun _ => True) W0.drew ⟨xpe, xls⟩ s.q a qa c qc ((hl0.mod (F := none') ((Mod.of_below hB0).drew) (fun _ _ _ => id)).sub (fun _ _ _ => trivial)) ((hq.mod (F := none') ((Mod.refl _ _).drew) (fun _ _ _ => id)).sub (fun _ _ _ => trivial))
  have hd0 : W0.drew.cell? ⟨b, 0, none⟩ = some (.int .i64 s.q.epoch) := k0
  have hd1 : W0.drew.cell? ⟨b, 1, none⟩ = some (.slice qa s.q.chains.length qc) := k1
  have hd3 : W0.drew.cell? ⟨w.heap.size, 3, none⟩ = some (.int .i64 xpe) := b3
  have hd4 : W0.drew.cell? ⟨w.heap.size, 4, none⟩ = some (.slice a xls.length c) := b4
  rw [h1] at c4 k4
  obtain ⟨s', hs'⟩ : ∃ s', s' = (if (⟨xpe, xls⟩ : Proj) = s.q then { s with «at» := 3 } else s.endd 48) := ⟨_, rfl⟩
  rw [← hs']
  have Hs' := Lib.hid hs'
  obtain ⟨g, hg⟩ : ∃ g, g = decide ((⟨xpe, xls⟩ : Proj) = s.q) := ⟨_, rfl⟩
  rw [← hg] at hsm
  have Hg := Lib.hid hg
  have H1 := Lib.hid h1
  clear h h1 h0 hB0 hq hp hl0 hs' hg
  simp only [aV]
  go_enter Tryz.func21, Tryz.ntmps21
  go_wp2_with fail
  go_step3
  go_wp2_with fail
  rw [← HW0.out]
  with_reducible refine wp_label ?_
  go_wp2_with fail
  go_region_held3 (fun w' => w'.cell? ⟨b, 0, none⟩ = some (.int .i64 s.q.epoch) ∧ w'.cell? ⟨b, 1, none⟩ = some (.slice qa s.q.chains.length qc) ∧ w'.cell? ⟨w.heap.size, 3, none⟩ = some (.int .i64 xpe) ∧ w'.cell? ⟨w.heap.size, 4, none⟩ = some (.slice a xls.length c))
    (first
      | with_reducible exact ⟨hd0, hd1, hd3, hd4⟩
      | with_reducible exact ⟨z0, z1, z3, z4⟩)
    (first
      | (go_at_call 55; (with_reducible refine hsm.mono ?_); rintro e w2 ⟨rfl, hB2'⟩
         have hB2 : Below W0.heap.size W0 w2 := below_drew hB2'
         have z0 := below_at hB2 hd0 ltb
         have z1 := below_at hB2 hd1 ltb
         have z3 := below_at hB2 hd3 lt0
         have z4 := below_at hB2 hd4 lt0))
  have h2 := H0.out.below hB2
  have HB2 := Lib.hid (HB0.out.trans (hB2.mono (by omega)))
  have H2 := Lib.hid h2
  clear hsm hB2 hB2' hd0 hd1 hd3 hd4 z0 z1 z3 z4
  cases g
  · have hen := reEnd_any h2 48
    clear h2
    go_wp2_with fail
    refine hen.mono ?_
    clear hen
    rintro e w9 ⟨rfl, hA9, hM9⟩
    have HA9 := Lib.hid hA9
    have HM9 := Lib.hid hM9
    clear hA9 hM9
    go_wp2_with fail
    rw [Exit.noGoto_normal]
    go_end0
    rw [Hs'.out, if_neg (of_decide_eq_false Hg.out.symm)]
    exact ReAt.post1 HB2.out HA9.out HM9.out rfl
  · have g4 := h2.c4
    rw [show s.at = 2 from H1.out] at g4
    have gf4 := h2.fr 4 (by omega)
    have hl2 := h2.lt
    clear h2
    go_wp2_with fail
    rw [Exit.noGoto_ret]
    go_end0
    rw [Hs'.out, if_pos (of_decide_eq_true Hg.out.symm)]
    refine ReAt.post1 HB2.out (H2.out.wrote (v4 := 3) (v5 := s.i) (v7 := s.err) (by exact modC (Mod.refl _ _)) (by go_simp) (by have := H2.out.c5; go_simp) (by have := H2.out.c7; go_simp) (by go_simp) (by go_simp) (by go_simp) (by go_simp) (by go_simp) (fun o => by go_simp)) (by exact modC (Mod.refl _ _)) rfl
set_option maxRecDepth 100000 in
set_option maxHeartbeats 1000000 in
theorem reHear_lay (h : ReAt w b tb S s) (h1 : s.at = 0) (h8 : x.code = 0) (S' : Nat → Prop) (hl0 : ListsAt S' w a x.p.chains) : Calls Tryz.prog 21 #[.pointer (some ⟨b, 0, none⟩), aV x a c, .bool true] w (ReHearPost w b tb S (if nextB x.p s.q = true then { s with p := x.p, «at» := 1, i := 0 } else s.endd 48)) := by
  obtain ⟨xc, xn, xd, ⟨xpe, xls⟩, xm, xs, xe⟩ := x
  obtain ⟨W0, hW0, hB0, hz0, b0, b1, b2, b3, b4, b5, b6, b7⟩ := an_boxA w (.int .i64 xc) (.int .i64 xn) (.string xd) (.int .i64 xpe) (.slice a xls.length c) (.int .i64 xm) (.int .i64 xs) (.int .i64 xe)
  have lt0 : w.heap.size < W0.heap.size := by omega
  have ltb : b < W0.heap.size := by have := h.lt; omega
  have h0 := h.below hB0
  have HW0 := Lib.hid hW0
  have HB0 := Lib.hid hB0
  clear hW0
  have c4 := h.c4
  have hl := h.lt
  have k0 := h0.c0
  obtain ⟨qa, qc, k1, hq⟩ := h0.c1
  have k2 := h0.c2
  obtain ⟨pa, pc, k3, hp⟩ := h0.c3
  have k4 := h0.c4
  have k5 := h0.c5
  have k6 := h0.c6
  have k7 := h0.c7
  have H0 := Lib.hid h0
  simp only at h8 hl0 ⊢
  subst h8
  have HLX := Lib.hid hl0
  have hnx := next_any (fun _ => True) W0.drew xpe s.q.epoch a qa c qc xls s.q.chains ((hl0.mod (F := none') ((Mod.of_below hB0).drew) (fun _ _ _ => id)).sub (fun _ _ _ => trivial)) ((hq.mod (F := none') ((Mod.refl _ _).drew) (fun _ _ _ => id)).sub (fun _ _ _ => trivial))
  have hd0 : W0.drew.cell? ⟨b, 0, none⟩ = some (.int .i64 s.q.epoch) := k0
  have hd1 : W0.drew.cell? ⟨b, 1, none⟩ = some (.slice qa s.q.chains.length qc) := k1
  have hd3 : W0.drew.cell? ⟨w.heap.size, 3, none⟩ = some (.int .i64 xpe) := b3
  have hd4 : W0.drew.cell? ⟨w.heap.size, 4, none⟩ = some (.slice a xls.length c) := b4
  rw [h1] at c4 k4
  obtain ⟨s', hs'⟩ : ∃ s', s' = (if nextB ⟨xpe, xls⟩ s.q = true then { s with p := ⟨xpe, xls⟩, «at» := 1, i := 0 } else s.endd 48) := ⟨_, rfl⟩
  rw [← hs']
  have Hs' := Lib.hid hs'
  obtain ⟨g, hg⟩ : ∃ g, g = nextB ⟨xpe, xls⟩ s.q := ⟨_, rfl⟩
  rw [show nextB ⟨xpe, xls⟩ ⟨s.q.epoch, s.q.chains⟩ = g from hg.symm] at hnx
  have Hg := Lib.hid hg
  have H1 := Lib.hid h1
  clear h h1 h0 hB0 hq hp hl0 hs' hg
  simp only [aV]
  go_enter Tryz.func21, Tryz.ntmps21
  go_wp2_with fail
  go_step3
  go_wp2_with fail
  rw [← HW0.out]
  with_reducible refine wp_label ?_
  go_wp2_with fail
  go_region_held3 (fun w' => w'.cell? ⟨b, 0, none⟩ = some (.int .i64 s.q.epoch) ∧ w'.cell? ⟨b, 1, none⟩ = some (.slice qa s.q.chains.length qc) ∧ w'.cell? ⟨w.heap.size, 3, none⟩ = some (.int .i64 xpe) ∧ w'.cell? ⟨w.heap.size, 4, none⟩ = some (.slice a xls.length c))
    (first
      | with_reducible exact ⟨hd0, hd1, hd3, hd4⟩
      | with_reducible exact ⟨z0, z1, z3, z4⟩)
    (first
      | (go_at_call 54; (with_reducible refine hnx.mono ?_); rintro e w2 ⟨rfl, hB2'⟩
         have hB2 : Below W0.heap.size W0 w2 := below_drew hB2'
         have z0 := below_at hB2 hd0 ltb
         have z1 := below_at hB2 hd1 ltb
         have z3 := below_at hB2 hd3 lt0
         have z4 := below_at hB2 hd4 lt0))
  have h2 := H0.out.below hB2
  have HB2 := Lib.hid (HB0.out.trans (hB2.mono (by omega)))
  have H2 := Lib.hid h2
  have hz2 := hB2.size
  clear hnx hB2 hB2' hd0 hd1 hd3 hd4 z0 z1
  cases g
  · have hen := reEnd_any h2 48
    clear h2
    go_wp2_with fail
    refine hen.mono ?_
    clear hen
    rintro e w9 ⟨rfl, hA9, hM9⟩
    have HA9 := Lib.hid hA9
    have HM9 := Lib.hid hM9
    clear hA9 hM9
    go_wp2_with fail
    rw [Exit.noGoto_normal]
    go_end0
    rw [Hs'.out, if_neg (show ¬ nextB ⟨xpe, xls⟩ s.q = true from fun e => Bool.noConfusion (Hg.out.trans e))]
    exact ReAt.post1 HB2.out HA9.out HM9.out rfl
  · have hgd := (next_good Hg.out.symm).1
    have hsm := good_small (p := ⟨xpe, xls⟩) (of_decide_eq_true hgd)
    have hcp := copy_any S' w2 xpe a c xls hsm (HLX.out.mod (F := none') (Mod.of_below HB2.out) (fun _ _ _ => id))
    have Hsm := Lib.hid hsm
    clear h2 hgd hsm
    go_wp2_with fail
    refine hcp.mono ?_
    clear hcp
    rintro e w3 ⟨ia, ic, rfl, hl3, hB3⟩
    have h3 := H2.out.below hB3
    have HB3 := Lib.hid (HB2.out.trans (hB3.mono (by omega)))
    have HL3 := Lib.hid hl3
    have H3 := Lib.hid h3
    have lb3 := h3.lt
    have g0 := h3.c0
    obtain ⟨g1a, g1c, g1, g1l⟩ := h3.c1
    have HG1 := Lib.hid g1l
    have g2 := h3.c2
    obtain ⟨g3a, g3c, g3, -⟩ := h3.c3
    have g4 := h3.c4
    have g5 := h3.c5
    have g6 := h3.c6
    have g7 := h3.c7
    have hb2 : b < w2.heap.size := H2.out.lt
    have gf2 := h3.fr 2 (by omega)
    have gf3 := h3.fr 3 (by omega)
    have gf4 := h3.fr 4 (by omega)
    have gf5 := h3.fr 5 (by omega)
    have hzz := HB0.out.size
    clear h3 hl3 hB3 z3 z4 g1l
    go_wp2_with fail
    rw [Exit.noGoto_ret]
    go_end0
    rw [Hs'.out, if_pos (Hg.out.symm)]
    exact ReAt.took (ic := ic) HB3.out (n := w2.heap.size) H3.out HL3.out hb2 H2.out.tlt (by omega) Hsm.out (by exact modC (Mod.refl _ _)) (by go_simp) (by go_simp) (by go_simp) (by go_simp) (by go_simp) (by go_simp) (by go_simp) (by go_simp) (fun o => by go_simp)
set_option maxRecDepth 100000 in
set_option maxHeartbeats 1000000 in
theorem reHear_seal (h : ReAt w b tb S s) (h1 : s.at = 1) (h8 : x.code = 0) (hi : 0 ≤ s.i ∧ s.i < s.us.length) (hg : goodB s.p = true) : Calls Tryz.prog 21 #[.pointer (some ⟨b, 0, none⟩), aV x a c, .bool true] w (ReHearPost w b tb S ({ s with t := Esch.set s.t (s.us.getD s.i.toNat 0) x.n } : ReS).next) := by
  obtain ⟨xc, xn, xd, ⟨xpe, xls⟩, xm, xs, xe⟩ := x
  obtain ⟨W0, hW0, hB0, hz0, b0, b1, b2, b3, b4, b5, b6, b7⟩ := an_boxA w (.int .i64 xc) (.int .i64 xn) (.string xd) (.int .i64 xpe) (.slice a xls.length c) (.int .i64 xm) (.int .i64 xs) (.int .i64 xe)
  have lt0 : w.heap.size < W0.heap.size := by omega
  have ltb : b < W0.heap.size := by have := h.lt; omega
  have h0 := h.below hB0
  have HW0 := Lib.hid hW0
  have HB0 := Lib.hid hB0
  clear hW0
  have c4 := h.c4
  have hl := h.lt
  have k0 := h0.c0
  obtain ⟨qa, qc, k1, hq⟩ := h0.c1
  have k2 := h0.c2
  obtain ⟨pa, pc, k3, hp⟩ := h0.c3
  have k4 := h0.c4
  have k5 := h0.c5
  have k6 := h0.c6
  have k7 := h0.c7
  have H0 := Lib.hid h0
  simp only at h8 ⊢
  subst h8
  have hup := units_all _ W0.drew s.p.epoch pa pc s.p.chains h.smp (hp.mod (F := none') ((Mod.refl _ _).drew) (fun _ _ _ => id))
  have hul := (us_le hg).2
  obtain ⟨i, hi'⟩ : ∃ i : Nat, s.i = i := ⟨s.i.toNat, by omega⟩
  obtain ⟨up, hup'⟩ : ∃ up, up = unitsOf s.p.chains.flatten := ⟨_, rfl⟩
  have hilt : i < up.length := by rw [hup']; have := hi.2; rw [hi'] at this; unfold ReS.us at this; omega
  obtain ⟨u, hu⟩ : ∃ u, u = up.getD i 0 := ⟨_, rfl⟩
  have hus : s.us.getD s.i.toNat 0 = u := by rw [hu, hup', hi']; rfl
  rw [hus]
  rw [← hup'] at hup
  rw [hi'] at k5
  rw [h1] at c4 k4
  have Hu := Lib.hid hu
  have Htw := Lib.hid h.tlt
  have Hi := Lib.hid (show 0 ≤ s.i ∧ s.i ≤ 100 by rw [← hup'] at hul; omega)
  have Hgd := Lib.hid hg
  have d2 : W0.drew.cell? ⟨b, 2, none⟩ = some (.int .i64 s.p.epoch) := k2
  have d3 : W0.drew.cell? ⟨b, 3, none⟩ = some (.slice pa s.p.chains.length pc) := k3
  have d5 : W0.drew.cell? ⟨b, 5, none⟩ = some (.int .i64 i) := k5
  have d6 : W0.drew.cell? ⟨b, 6, none⟩ = some (.map (some tb)) := k6
  have dx : W0.drew.cell? ⟨w.heap.size, 1, none⟩ = some (.int .i64 xn) := b1
  have i0 : (0 : Int) ≤ i := by omega
  have i1 : (i : Int) < up.length := by omega
  clear h h1 h0 hB0 hq hp hi hg hul hup' hi' hus hu
  simp only [aV]
  go_enter Tryz.func21, Tryz.ntmps21
  go_wp2_with fail
  go_step3
  go_wp2_with fail
  rw [← HW0.out]
  with_reducible refine wp_label ?_
  go_wp2_with fail
  refine wp_region_held_drew (S := fun w' => w'.cell? ⟨b, 2, none⟩ = some (.int .i64 s.p.epoch) ∧ w'.cell? ⟨b, 3, none⟩ = some (.slice pa s.p.chains.length pc) ∧ w'.cell? ⟨b, 5, none⟩ = some (.int .i64 i) ∧ w'.cell? ⟨b, 6, none⟩ = some (.map (some tb)) ∧ w'.cell? ⟨w.heap.size, 1, none⟩ = some (.int .i64 xn)) (by kernel_rfl) ⟨d2, d3, d5, d6, dx⟩ (fun hHeld => ?_)
  refine takeL 0 ?_
  refine takeL 1 ?_
  refine takeL 2 ?_
  refine takeL 3 ?_
  refine takeL 4 ?_
  refine takeL 5 ?_
  refine takeL 6 ?_
  refine takeL 7 ?_
  refine takeL 9 ?_
  refine takeL 10 ?_
  refine takeL 11 ?_
  refine takeL 12 ?_
  refine takeL 15 ?_
  refine takeL 16 ?_
  refine wpAnyH_ready (rs := [8]) (by kernel_rfl) (by simp) ?_
  refine AllReadyH.cons (o := _) rfl (fun K hK => ?_) AllReadyH.nil
  go_simp
  go_at_call 48
  with_reducible refine hup.mono ?_
  clear hup
  rintro e w2 ⟨a2, n2, rfl, hl2, hB2', -⟩
  have hB2 : Below W0.heap.size W0 w2 := below_drew hB2'
  clear hB2'
  obtain ⟨b3', o3, rfl, hb3, hk3, hc3⟩ := hl2.2 (by omega)
  have hb3' : W0.heap.size ≤ b3' := hb3
  have x0 : w2.cell? ⟨b3', o3 + i, none⟩ = some (.int .i64 u) := by rw [Hu.out]; exact hc3 i hilt
  have y2 := below_at hB2 d2 ltb
  have y3 := below_at hB2 d3 ltb
  have y5 := below_at hB2 d5 ltb
  have y6 := below_at hB2 d6 ltb
  have yx := below_at hB2 dx lt0
  have h2 := H0.out.below hB2
  obtain ⟨es, clock, hm⟩ := h2.mp
  obtain ⟨es', clock', hup, hm'⟩ := hm.update keyInt Tryz.underlying91 u xn
  obtain ⟨W3, hW3⟩ : ∃ W3, W3 = putObj w2 tb (.map es' clock') := ⟨_, rfl⟩
  rw [← hW3] at hup hm'
  unfold κint at hup
  have hM3 : Mod (· = tb) w2 W3 := by rw [hW3]; exact (Mod.refl (· = tb) w2).putObj (b := tb) (fun _ => rfl) _
  have h3 : ReAt W3 b tb S { s with t := Esch.set s.t u xn } := h2.put hM3 hm'
  have HB2 := Lib.hid hB2
  have H3 := Lib.hid h3
  have HM3 := Lib.hid hM3
  clear hB2 hl2 hc3 hb3 hm hm' h2 hW3 h3 hM3
  try go_wp2_with fail
  refine hK.out _ _ ⟨y2, y3, y5, y6, yx⟩ (fun hHeld => ?_)
  clear hK K
  try simp only [Act.put, List.setIfInBounds_toArray, List.set_cons_zero, List.set_cons_succ]
  refine wpAnyH_mono2 (S2 := fun w' => (w'.cell? ⟨b, 2, none⟩ = some (.int .i64 s.p.epoch) ∧ w'.cell? ⟨b, 3, none⟩ = some (.slice pa s.p.chains.length pc) ∧ w'.cell? ⟨b, 5, none⟩ = some (.int .i64 i) ∧ w'.cell? ⟨b, 6, none⟩ = some (.map (some tb)) ∧ w'.cell? ⟨w.heap.size, 1, none⟩ = some (.int .i64 xn)) ∧ w'.cell? ⟨b3', o3 + i, none⟩ = some (.int .i64 u)) (fun _ h => h.1) ?_
  replace hHeld := And.intro hHeld x0
  refine takeL 13 ?_
  refine takeL 14 ?_
  refine wpAnyH_ready (rs := [17]) (by kernel_rfl) (by simp) ?_
  refine AllReadyH.cons (o := _) rfl (fun K hK => ?_) AllReadyH.nil
  go_simp
  have v2 := HM3.out.at y2 H3.out.ne.symm
  have v3 := HM3.out.at y3 H3.out.ne.symm
  have v5 := HM3.out.at y5 H3.out.ne.symm
  have v6 := HM3.out.at y6 H3.out.ne.symm
  have htw : tb < W0.heap.size := H0.out.tlt
  have htw1 : tb < w.heap.size := Htw.out
  have vx := HM3.out.at yx (by omega)
  have vu := HM3.out.at x0 (by omega)
  try go_wp2_with fail
  refine hK.out _ _ ⟨⟨v2, v3, v5, v6, vx⟩, vu⟩ (fun hHeld => ?_)
  clear hK K
  try simp only [Act.put, List.setIfInBounds_toArray, List.set_cons_zero, List.set_cons_succ]
  refine wpAnyH_done (by kernel_rfl) ?_ _
  have hnx := reNext_any H3.out Hi.out Hgd.out
  have hzz := HB0.out.size
  have hz2 := HB2.out.size
  clear hHeld y2 y3 y5 y6 yx x0 v2 v3 v5 v6 vx vu d2 d3 d5 d6 dx hup
  go_wp2_with fail
  refine hnx.mono ?_
  clear hnx
  rintro e w9 ⟨rfl, hA9, hM9⟩
  have HA9 := Lib.hid hA9
  have HM9 := Lib.hid hM9
  clear hA9 hM9
  go_wp2_with fail
  rw [Exit.noGoto_ret]
  go_end0
  exact ⟨rfl, HA9.out.sub (fun _ _ hk => Or.inl hk), ((Mod.of_below HB0.out).trans (Mod.of_below (HB2.out.mono (by omega)))).trans ((HM3.out.mono fun _ _ h => Or.inr h).trans (HM9.out.mono fun _ _ h => Or.inl h))⟩
theorem reHear_any (h : ReAt w b tb S s) (hk : s.ok) (S' : Nat → Prop) (hl0 : ListsAt S' w a x.p.chains) : Calls Tryz.prog 21 #[.pointer (some ⟨b, 0, none⟩), aV x a c, .bool hd] w (ReHearPost w b tb S (s.hear x hd)) := by
  unfold ReS.hear
  by_cases h0 : s.at = 4 ∨ hd = false ∨ x.code = 45
  · rw [if_pos h0]; exact reHear_no x a c hd h h0
  rw [if_neg h0]
  simp only [not_or] at h0
  obtain ⟨h4, hb, hc⟩ := h0
  have hb : hd = true := by cases hd <;> simp_all
  subst hb
  by_cases h1 : s.at = 0
  · rw [if_pos h1]
    by_cases e : x.code ≠ 0
    · rw [if_pos e]; exact reHear_layE x a c h h1 hc e
    · rw [if_neg e]; exact reHear_lay x a c h h1 (by omega) S' hl0
  rw [if_neg h1]
  by_cases h2 : s.at = 1
  · rw [if_pos h2]
    by_cases e : x.code ≠ 0
    · rw [if_pos e]; exact reHear_sealE x a c h h2 hc e
    · rw [if_neg e]; exact reHear_seal x a c h h2 (by omega) (hk.un h2) (hk.gp h1 h4)
  rw [if_neg h2]
  by_cases h3 : s.at = 2
  · rw [if_pos h3]
    by_cases e : x.code = 0
    · rw [if_pos (Or.inl e)]; exact reHear_chg0 x a c h h3 e
    by_cases e8 : x.code = 48
    · have := reHear_chg8 x a c h h3 e8 S' hl0
      by_cases e9 : x.p = s.q
      · rw [if_pos (Or.inr ⟨e8, e9⟩)]; rw [if_pos e9] at this; exact this
      · rw [if_neg (fun g => g.elim e (fun g => e9 g.2)), e8]; rw [if_neg e9] at this; exact this
    · rw [if_neg (fun g => g.elim e (fun g => e8 g.1))]; exact reHear_chgE x a c h h3 hc e e8
  rw [if_neg h3]
  exact reHear_start x a c h (by have := hk.wh; omega) hc
end
end Go.Proofs.YtghdhhbpbmhooaaGreat
