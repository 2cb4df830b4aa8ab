import Derived.Test.YtghdhhbpbmhooaaGreatPkBase
import Derived.Test.YtghdhhbpbmhooaaGreatUnits
import Derived.Test.YtghdhhbpbmhooaaGreatRefNext
import Derived.StillTailTactics
/- the layout, in plain Lean -/
namespace Esch
structure LayS where
  p : Proj
  used : List Int
  mark : Int
  size : Int
  n : Int
structure LayS.ok (s : LayS) : Prop where
  good : s.p.good
  used : ∀ u ∈ s.used, 0 ≤ u ∧ u ≤ 15
  has : ∀ u ∈ s.p.units, u ∈ s.used
def mayB (s : LayS) (q : Proj) : Bool := nextB s.p q && !((unitsOf q.units).any fun u => decide (u ∈ s.used) && !decide (u ∈ s.p.units))
def LayS.count (s : LayS) (q : Proj) : LayS := { s with p := q, used := s.used ++ unitsOf q.units }
/-- an answer: the code, N, the projection, Mark, Size -/
structure LayA where
  code : Int
  n : Int
  p : Proj
  mark : Int
  size : Int
def p0 : Proj := ⟨0, []⟩
def markBad (page size n : Int) : Prop := page < 0 ∨ 16384 ≤ page ∨ size < 1 ∨ 65536 < size ∨ n < 0 ∨ 16384 < n
instance (a b c : Int) : Decidable (markBad a b c) := by unfold markBad; infer_instance
def layDo (s : LayS) (k : Int) (q : Proj) (page size n : Int) : LayA × LayS :=
  if k = 9 then (⟨0, s.n, s.p, s.mark, s.size⟩, s)
  else if k = 10 then (if mayB s q then (⟨0, 0, q, 0, 0⟩, s.count q) else (⟨48, 0, s.p, 0, 0⟩, s))
  else if k = 11 then (if markBad page size n then (⟨1, 0, p0, 0, 0⟩, s) else if s.n < n then (⟨0, n, p0, page, size⟩, { s with mark := page, size := size, n := n }) else (⟨0, s.n, p0, s.mark, s.size⟩, s))
  else (⟨1, 0, p0, 0, 0⟩, s)
theorem may_good {s : LayS} {q : Proj} (h : mayB s q = true) : s.p.next q ∧ q.good := by
  unfold mayB at h
  simp only [Bool.and_eq_true] at h
  have h1 : s.p.next q := of_decide_eq_true h.1
  exact ⟨h1, h1.2.1⟩
theorem LayS.ok.count {s : LayS} {q : Proj} (h : s.ok) (hq : q.good) : (s.count q).ok := by
  refine ⟨hq, fun u hu => ?_, fun u hu => ?_⟩
  · simp only [LayS.count, List.mem_append, mem_unitsOf] at hu
    rcases hu with hu | hu
    · exact h.used u hu
    · exact hq.2.2.2.2.2.1 u hu
  · simp only [LayS.count, List.mem_append, mem_unitsOf] at hu ⊢
    exact Or.inr hu
theorem layDo_ok {s : LayS} (h : s.ok) (k : Int) (q : Proj) (page size n : Int) : (layDo s k q page size n).2.ok := by
  unfold layDo
  split
  · exact h
  · split
    · split
      · rename_i hm; exact h.count (may_good hm).2
      · exact h
    · split
      · split
        · exact h
        · split
          · exact ⟨h.good, h.used, h.has⟩
          · exact h
      · exact h
theorem rising_len : ∀ {l : List Int} {a b : Int}, l.Pairwise (· < ·) → (∀ x ∈ l, a ≤ x ∧ x < b) → (l.length : Int) ≤ (b - a).toNat
  | [], a, b, _, _ => by simp only [List.length_nil]; omega
  | x :: l, a, b, h, hx => by
    obtain ⟨h1, h2⟩ := List.pairwise_cons.1 h
    have hx0 := hx x (by simp)
    have := rising_len (l := l) (a := x + 1) (b := b) h2 (fun y hy => ⟨by have := h1 y hy; omega, (hx y (by simp [hy])).2⟩)
    simp only [List.length_cons]; omega
theorem units_len {us : List Int} (h : ∀ u ∈ us, 0 ≤ u ∧ u ≤ 15) : (unitsOf us).length ≤ 16 := by
  have := rising_len (rising_unitsOf us) (a := 0) (b := 16) (fun x hx => by have := h x (mem_unitsOf.1 hx); omega)
  simp at this; omega
theorem good_small {p : Proj} (h : p.good) : p.chains.length ≤ 50 ∧ ∀ i, i < p.chains.length → (p.chains.getD i []).length ≤ 50 := by
  obtain ⟨-, -, -, h1, h2, -⟩ := h
  refine ⟨by omega, fun i hi => ?_⟩
  have := h2 (p.chains.getD i []) (by rw [List.getD_eq_getElem?_getD, List.getElem?_eq_getElem hi, Option.getD_some]; exact List.getElem_mem hi)
  omega
theorem good_units {p : Proj} (h : p.good) : p.chains.flatten ≠ [] := by
  obtain ⟨-, -, h0, h1, h2, -⟩ := h
  intro e
  cases hc : p.chains with
  | nil => rw [hc] at h0; simp at h0
  | cons c l =>
    rw [hc] at e
    have := h2 c (by rw [hc]; simp)
    simp at e
    rw [e.1] at this; simp at this
end Esch
/- the layout: what each of its calls does -/
namespace Go.Proofs.YtghdhhbpbmhooaaGreat
open Go.RowKit Esch

/-- block mb is a map in which the units of 'used' stand, each T times at most -/
def MapU (w : World) (mb T : Nat) (used : List Int) : Prop := ∃ (m : List (Int × Int)) (es : Array MapEntry) (clock : Nat), MapAt w mb κs1 κint m es clock ∧ ∀ u, (∀ c, Esch.get m u = some c → 1 ≤ c ∧ c ≤ T) ∧ ((Esch.get m u).isSome ↔ u ∈ used)
theorem MapU.mod {F : Nat → Prop} {w w' : World} {mb T : Nat} {us : List Int} (h : MapU w mb T us) (hM : Mod F w w') (hb : ¬ F mb) : MapU w' mb T us := by
  obtain ⟨m, es, clock, h1, h2⟩ := h
  exact ⟨m, es, clock, h1.of_block (hM.block _ (block_lt h1.block) hb), h2⟩
theorem MapU.lt {w : World} {mb T : Nat} {us : List Int} (h : MapU w mb T us) : mb < w.heap.size := by
  obtain ⟨m, es, clock, h1, h2⟩ := h
  exact block_lt h1.block
theorem keyUnitL : KeyOK Tryz.prog 214 κs1 := keyOK_s1 Tryz.underlying214 (by decide) rfl Tryz.underlying3 (by kernel_rfl)
theorem cntU_step {w : World} {mb T : Nat} {us : List Int} (h : MapU w mb T us) (u : Int) : ∃ (c : Int) (st : Nat) (w2 w3 : World), 0 ≤ c ∧ c ≤ T ∧ MapU w3 mb (T + 1) (us ++ [u]) ∧ Mod (· = mb) w w3 ∧ Mod (· = mb) w w2 ∧
    (Instr.lookup 120 (.map (some mb)) (.agg #[.int .i64 u]) false).run Tryz.prog w = .ok (.int .i64 c) w ∧
    (Instr.lookup 120 (.map (some mb)) (.agg #[.int .i64 u]) false).run Tryz.prog w2 = .ok (.int .i64 c) w2 ∧
    (Instr.mapEntry 120 (.map (some mb)) (.agg #[.int .i64 u])).run Tryz.prog w = .ok (.tuple #[.int .i64 c, .int .i64 st]) w2 ∧
    (Instr.entryStore 120 (.map (some mb)) (.int .i64 st) (.int .i64 (c + 1))).run Tryz.prog w2 = .ok () w3 := by
  obtain ⟨m, es, clock, hm, hg⟩ := h
  obtain ⟨st, es1, clock1, h1, h2, h3⟩ := hm.entry keyUnitL Tryz.underlying120 (0 : Int) zeroInt u
  obtain ⟨es2, h4, h5⟩ := h3 (putObj w mb (.map es1 clock1)) ((Esch.get m u).getD 0 + 1) h2.block
  have l1 := hm.look keyUnitL Tryz.underlying120 zeroInt u false
  have l2 := h2.look keyUnitL Tryz.underlying120 zeroInt u false
  rw [get_set, if_pos rfl] at l2
  have hle : 0 ≤ (Esch.get m u).getD 0 ∧ (Esch.get m u).getD 0 ≤ T := by
    cases hgu : Esch.get m u with
    | none => simp
    | some c => have := (hg u).1 c hgu; simp; omega
  have hv : ((Esch.get m u).map κint).getD (.int .i64 0) = .int .i64 ((Esch.get m u).getD 0) := by cases Esch.get m u <;> rfl
  simp only [Bool.false_eq_true, if_false, Option.map_some, Option.getD_some, hv] at l1 l2
  refine ⟨(Esch.get m u).getD 0, st, _, _, hle.1, hle.2, ⟨_, _, _, h5, fun v => ?_⟩, ((Mod.refl (· = mb) w).putObj (fun _ => rfl) _).putObj (fun _ => rfl) _, (Mod.refl (· = mb) w).putObj (fun _ => rfl) _, l1, l2, h1, h4⟩
  rw [get_set]
  by_cases e : u = v
  · subst e
    rw [if_pos rfl]
    refine ⟨fun c hc => ?_, by simp⟩
    cases hc; omega
  · rw [if_neg e]
    refine ⟨fun c hc => by have := (hg v).1 c hc; omega, ?_⟩
    rw [(hg v).2]
    simp only [List.mem_append, List.mem_singleton]
    exact ⟨Or.inl, fun h => h.resolve_right (fun e' => e e'.symm)⟩

structure LayAt (S : Nat → Prop) (w : World) (b mb T : Nat) (s : LayS) : Prop where
  c0 : w.cell? ⟨b, 0, none⟩ = some (.int .i64 s.p.epoch)
  c1 : ∃ a c, w.cell? ⟨b, 1, none⟩ = some (.slice a s.p.chains.length c) ∧ ListsAt (fun k => S k ∧ k ≠ b ∧ k ≠ mb) w a s.p.chains
  c2 : w.cell? ⟨b, 2, none⟩ = some (.map (some mb))
  c3 : w.cell? ⟨b, 3, none⟩ = some (.int .i64 s.mark)
  c4 : w.cell? ⟨b, 4, none⟩ = some (.int .i64 s.size)
  c5 : w.cell? ⟨b, 5, none⟩ = some (.int .i64 s.n)
  fr : ∀ o, o < 6 → w.frozen? ⟨b, o, none⟩ = false
  map : MapU w mb T s.used
  ne : b ≠ mb
  sb : S b
  sm : S mb
theorem LayAt.lt {S : Nat → Prop} {w : World} {b mb T : Nat} {s : LayS} (h : LayAt S w b mb T s) : b < w.heap.size := cell_lt h.c0
theorem LayAt.mod {S F : Nat → Prop} {w w' : World} {b mb T : Nat} {s : LayS} (h : LayAt S w b mb T s) (hM : Mod F w w') (hF : ∀ k, S k → k < w.heap.size → ¬ F k) : LayAt S w' b mb T s := by
  have hl := h.lt
  have hb := hF b h.sb hl
  have hm := hF mb h.sm h.map.lt
  obtain ⟨a, c, h1, h2⟩ := h.c1
  exact ⟨hM.at h.c0 hb, ⟨a, c, hM.at h1 hb, h2.mod hM (fun k hk hkl => hF k hk.1 hkl)⟩, hM.at h.c2 hb, hM.at h.c3 hb, hM.at h.c4 hb, hM.at h.c5 hb, fun o ho => (hM.frozen (p := ⟨b, o, none⟩) hl hb).trans (h.fr o ho), h.map.mod hM hm, h.ne, h.sb, h.sm⟩
theorem LayAt.below {S : Nat → Prop} {w w' : World} {b mb T : Nat} {s : LayS} (h : LayAt S w b mb T s) (hB : Below w.heap.size w w') : LayAt S w' b mb T s := h.mod (F := none') (Mod.of_below hB) (fun _ _ _ => id)
theorem LayAt.sub {S S' : Nat → Prop} {w : World} {b mb T : Nat} {s : LayS} (h : LayAt S w b mb T s) (hS : ∀ k, k < w.heap.size → S k → S' k) : LayAt S' w b mb T s := by
  obtain ⟨a, c, h1, h2⟩ := h.c1
  exact ⟨h.c0, ⟨a, c, h1, h2.sub (fun k hk ⟨x, y⟩ => ⟨hS k hk x, y⟩)⟩, h.c2, h.c3, h.c4, h.c5, h.fr, h.map, h.ne, hS _ h.lt h.sb, hS _ h.map.lt h.sm⟩

set_option maxHeartbeats 1000000 in
theorem layNow_any (S : Nat → Prop) (w : World) (b mb T : Nat) (s : LayS) (hs : s.ok) (h : LayAt S w b mb T s) :
    Calls Tryz.prog 29 #[.pointer (some ⟨b, 0, none⟩)] w (CopyPost w s.p.epoch s.p.chains) := by
  obtain ⟨a, c, h1, h2⟩ := h.c1
  have h0 := h.c0
  have hl := h.lt
  have hcp := copy_any _ (w.alloc (.cells #[.int .i64 0, .slice none 0 0] 24)) s.p.epoch a c s.p.chains (good_small hs.good) (h2.mod ((Mod.refl none' _).alloc _) (fun _ _ _ => id))
  go_enter Tryz.func29, Tryz.ntmps29
  go_wp2_with fail
  refine hcp.mono ?_
  clear hcp
  rintro e w1 ⟨va, vc, rfl, hls, hB⟩
  have hz := hB.size
  simp only [World.size_alloc] at hz hB hls
  obtain ⟨r1, r2⟩ := bcell hB
  have hzz : w.heap.size < w1.heap.size := by omega
  go_wp2_with fail
  refine bodyPost_ret (v := .agg #[.int .i64 s.p.epoch, .slice va s.p.chains.length vc]) (by simp only [results, Tryz.results29]; go_simp) rfl ?_
  have hBw : Below w.heap.size w w1 := ((Below.refl _ w).alloc (Nat.le_refl _) _).trans (hB.mono (by omega))
  refine ⟨va, vc, rfl, (hls.mod (F := (· = w.heap.size)) (by exact modC (Mod.refl _ _)) ?_).sub ?_, by exact belC hBw⟩
  · intro k hk _ e; have : w.heap.size + 1 ≤ k := hk; omega
  · intro k _ hk; have : w.heap.size + 1 ≤ k := hk; show w.heap.size ≤ k; omega
end Go.Proofs.YtghdhhbpbmhooaaGreat
/- the layout: the units that were used; what counts -/
namespace Go.Proofs.YtghdhhbpbmhooaaGreat
open Go.RowKit Esch

end Go.Proofs.YtghdhhbpbmhooaaGreat
/- the layout: a projection counts; which may count next -/
namespace Go.Proofs.YtghdhhbpbmhooaaGreat
open Go.RowKit Esch

theorem LayAt.setMap {S : Nat → Prop} {w w' : World} {b mb T T' : Nat} {s : LayS} {used' : List Int} (h : LayAt S w b mb T s) (hM : Mod (· = mb) w w') (hU : MapU w' mb T' used') : LayAt S w' b mb T' { s with used := used' } := by
  have hl := h.lt
  have hb := h.ne
  obtain ⟨a, c, h1, h2⟩ := h.c1
  exact ⟨hM.at h.c0 hb, ⟨a, c, hM.at h1 hb, h2.mod hM (fun k hk _ e => hk.2.2 e)⟩, hM.at h.c2 hb, hM.at h.c3 hb, hM.at h.c4 hb, hM.at h.c5 hb, fun o ho => (hM.frozen (p := ⟨b, o, none⟩) hl hb).trans (h.fr o ho), hU, h.ne, h.sb, h.sm⟩
/-- the projection is stored -/
theorem LayAt.setProj {S : Nat → Prop} {w w1 : World} {b mb T : Nat} {s : LayS} {q : Proj} {a : Option Addr} {c B : Nat} (h : LayAt S w b mb T s) (hB : Below w.heap.size w w1) (hq : ListsAt (From B) w1 a q.chains) (hBw : w.heap.size ≤ B) :
    LayAt (fun k => S k ∨ w.heap.size ≤ k) ((w1.setCell ⟨b, 0, none⟩ (.int .i64 q.epoch)).setCell ⟨b, 1, none⟩ (.slice a q.chains.length c)) b mb T { s with p := q } := by
  have h1 := h.below hB
  have hl := h.lt
  have hml := h.map.lt
  obtain ⟨a0, d0, x1, -⟩ := h1.c1
  have f0 := h1.fr 0 (by omega)
  have f1 := h1.fr 1 (by omega)
  have c0 := h1.c0
  have c2 := h1.c2
  have c3 := h1.c3
  have c4 := h1.c4
  have c5 := h1.c5
  refine ⟨by go_simp, ⟨a, c, by go_simp, ?_⟩, by go_simp, by go_simp, by go_simp, by go_simp, fun o ho => ?_, ?_, h.ne, Or.inl h.sb, Or.inl h.sm⟩
  · refine (hq.mod (F := (· = b)) (by exact modC (Mod.refl _ _)) ?_).sub ?_
    · intro k hk _ e; have : B ≤ k := hk; omega
    · intro k _ hk; have : B ≤ k := hk; exact ⟨Or.inr (by omega), by omega, by omega⟩
  · have := h1.fr o ho; rw [World.frozen?_setCell, World.frozen?_setCell]; exact this
  · exact h1.map.mod (F := (· = b)) (by exact modC (Mod.refl _ _)) (fun e => h.ne e.symm)

def CountPost (S : Nat → Prop) (w : World) (b mb T : Nat) (s : LayS) (e : Ending) (w' : World) : Prop := e = .returned (.tuple #[]) ∧ LayAt (fun k => S k ∨ w.heap.size ≤ k) w' b mb T s ∧ Mod (fun k => k = b ∨ k = mb) w w'
def CountRel (W3 : World) (mb T : Nat) (used us : List Int) (g : Nat) (s14 : Value) (wr : World) : Prop :=
  ∃ k : Nat, g = us.length - k ∧ k ≤ us.length ∧ s14 = .int .i64 k ∧ MapU wr mb (T + k) (used ++ us.take k) ∧ Mod (· = mb) W3 wr
theorem MapU.mono {w : World} {mb T T' : Nat} {us : List Int} (h : MapU w mb T us) (hT : T ≤ T') : MapU w mb T' us := by
  obtain ⟨m, es, clock, h1, h2⟩ := h
  exact ⟨m, es, clock, h1, fun u => ⟨fun c hc => by have := (h2 u).1 c hc; omega, (h2 u).2⟩⟩

set_option maxRecDepth 100000 in
set_option maxHeartbeats 2000000 in
theorem layCount_any (S S' : Nat → Prop) (w : World) (b mb T : Nat) (s : LayS) (q : Proj) (a : Option Addr) (c : Nat) (hq : q.good) (hT : T ≤ 1000000000) (h : LayAt S w b mb T s) (hl : ListsAt S' w a q.chains) (hd : ∀ k, S' k → k < w.heap.size → k ≠ b ∧ k ≠ mb) :
    Calls Tryz.prog 103 #[.pointer (some ⟨b, 0, none⟩), .agg #[.int .i64 q.epoch, .slice a q.chains.length c]] w (CountPost S w b mb (T + 16) (s.count q)) := by
  obtain ⟨W0, hW0, hB0, hz0, p0, p1⟩ := oneBox w 24 (.int .i64 q.epoch) (.slice a q.chains.length c)
  have HW0 := Lib.hid hW0
  have hsm := good_small hq
  have hun := good_units hq
  have h16 := units_len hq.2.2.2.2.2.1
  clear hW0
  have hl0 := hl.mod (Mod.of_below (F := none') hB0) (fun _ _ _ => id)
  have hcp := copy_any S' W0 q.epoch a c q.chains hsm hl0
  have hbw := h.lt
  have hmw := h.map.lt
  have HUN := Lib.hid (fun (W : World) (hM : Mod (· = b) W0 W) => units_any S' W q.epoch a c q.chains hsm hun (hl.mod (F := (· = b)) ((Mod.of_below hB0).trans hM) (fun k hk hkl e => (hd k hk hkl).1 e)))
  have hL0 := h.below hB0
  have HL0 := Lib.hid hL0
  have hbne := h.ne
  have f0 := hL0.fr 0 (by omega)
  have f1 := hL0.fr 1 (by omega)
  have c0 := hL0.c0
  obtain ⟨a0, d0, c1, -⟩ := hL0.c1
  have hbz : b < W0.heap.size := by omega
  clear hsm hun h hq hl hl0 hd hL0
  go_enter Tryz.func103, Tryz.ntmps103
  go_wp2_with fail
  rw [← HW0.out]
  obtain ⟨pb, hpb⟩ : ∃ pb, pb = w.heap.size := ⟨_, rfl⟩
  rw [← hpb] at p0 p1 ⊢
  have hpz : pb < W0.heap.size := by omega
  have hpw : w.heap.size ≤ pb := by omega
  have hpne : pb ≠ b := by omega
  have hbp : b ≠ pb := by omega
  have Hpb := Lib.hid hpb
  clear hpb
  refine hcp.mono ?_
  clear hcp
  rintro e w1 ⟨va, vc, rfl, hls, hB1⟩
  replace f0 := (hB1.frozen (p := ⟨b, 0, none⟩) hbz).trans f0
  replace f1 := (hB1.frozen (p := ⟨b, 1, none⟩) hbz).trans f1
  replace c0 := below_at hB1 c0 hbz
  replace c1 := below_at hB1 c1 hbz
  replace p0 := below_at hB1 p0 hpz
  replace p1 := below_at hB1 p1 hpz
  have hz1 := hB1.size
  have hL2 := HL0.out.setProj (q := q) (c := vc) hB1 hls (by omega)
  have hM2 : Mod (· = b) W0 ((w1.setCell ⟨b, 0, none⟩ (.int .i64 q.epoch)).setCell ⟨b, 1, none⟩ (.slice va q.chains.length vc)) := (Mod.of_below hB1).trans (by exact modC (Mod.refl _ _))
  go_wp2_with fail
  have p0' : ((w1.setCell ⟨b, 0, none⟩ (.int .i64 q.epoch)).setCell ⟨b, 1, none⟩ (.slice va q.chains.length vc)).cell? ⟨pb, 0, none⟩ = some (.int .i64 q.epoch) := by go_simp
  have p1' : ((w1.setCell ⟨b, 0, none⟩ (.int .i64 q.epoch)).setCell ⟨b, 1, none⟩ (.slice va q.chains.length vc)).cell? ⟨pb, 1, none⟩ = some (.slice a q.chains.length c) := by go_simp
  generalize ((w1.setCell ⟨b, 0, none⟩ (.int .i64 q.epoch)).setCell ⟨b, 1, none⟩ (.slice va q.chains.length vc)) = W2 at *
  have hun2 := HUN.out W2 hM2
  have HL2 := Lib.hid hL2
  clear hls hL2 f0 f1 c0 c1 p0 p1
  refine hun2.mono ?_
  clear hun2
  rintro e w3 ⟨ua, uc, rfl, hU, hB3, -⟩
  have hL3 := HL2.out.below hB3
  have hz3 := hB3.size
  have hm3 := hL3.c2
  have hz2 := hM2.size
  have hb3 : b < w3.heap.size := by omega
  have hsB : ∀ k, From W2.heap.size k → k ≠ mb := fun k hk e => by have : W2.heap.size ≤ k := hk; have := HL2.out.map.lt; omega
  have HU := Lib.hid hU
  have hUl : (unitsOf q.chains.flatten).length ≤ 16 := h16
  have HUS : Hid (unitsOf q.units = unitsOf q.chains.flatten) := Lib.hid rfl
  have HL3 := Lib.hid hL3
  have HsB := Lib.hid hsB
  have hMU := hL3.map
  clear hU hL3 hsB h16
  generalize unitsOf q.chains.flatten = us at *
  go_wp2_with fail
  go_loopg [14] us.length (fun g s14 wr => CountRel w3 mb T s.used us g s14 wr)
  case atStart => exact ⟨0, rfl, Nat.zero_le _, rfl, by simpa using hMU, Mod.refl _ _⟩
  case round =>
    clear hMU
    obtain ⟨k, rfl, hk, rfl, hMU, hM⟩ := hrel
    have t2 := hM.at hm3 hbne
    have hbr : b < wr.heap.size := by have := hM.size; omega
    by_cases hlt : k < us.length
    · obtain ⟨b4, off4, e4, hS4, hb4, hc4⟩ := HU.out.2 (by omega)
      have u4 := hM.at (hc4 k hlt) (HsB.out b4 hS4)
      clear hc4
      have HX := Lib.hid (take_getD hlt)
      generalize us.getD k 0 = x at *
      have hk1 : (0 : Int) ≤ k := by omega
      have hk2 : (k : Int) < us.length := by omega
      subst e4
      obtain ⟨cc, st, w5, w6, hc0, hcl, hMU6, hM6, hM5, q1, q2, q3, q4⟩ := cntU_step (hMU.mod (F := none') ((Mod.refl _ wr).drew) id) x
      have hcb : cc ≤ 2000000000 := by omega
      have t5 := hM5.at (show wr.drew.cell? ⟨b, 2, none⟩ = _ from t2) hbne
      have hM6' : Mod (· = mb) wr w6 := ((Mod.refl (· = mb) wr).drew).trans hM6
      clear hcl hM6 hMU hM5
      go_wp2_with fail
      go_region
      all_goals go_wp2_with fail
      all_goals go_roundg (us.length - (k + 1))
      all_goals first
        | (show _ < _; omega)
        | exact ⟨k + 1, rfl, by omega, by go_num, by rw [HX.out, ← List.append_assoc]; exact hMU6, hM.trans hM6'⟩
    · have hk3 : k = us.length := by omega
      subst hk3
      rw [List.take_length] at hMU
      go_wp2_with fail
      go_end0
      have hR := HL3.out.setMap (hM) (hMU.mono (T' := T + 16) (by omega))
      have hMw : Mod (fun j => j = b ∨ j = mb) w wr := (((Mod.of_below (F := fun j => j = b ∨ j = mb) hB0).trans (hM2.mono (fun k _ h => Or.inl h))).trans (Mod.of_below hB3)).trans (hM.mono (fun k _ h => Or.inr h))
      refine ⟨rfl, ?_, hMw⟩
      have hR2 := hR.sub (S' := fun k => S k ∨ w.heap.size ≤ k) (fun k _ hk => hk.imp id (fun h => by omega))
      unfold LayS.count
      rw [HUS.out]
      exact hR2
end Go.Proofs.YtghdhhbpbmhooaaGreat
/- the layout: which may count next; a new one -/
namespace Go.Proofs.YtghdhhbpbmhooaaGreat
open Go.RowKit Esch

theorem unit_look {w : World} {mb T : Nat} {us : List Int} (h : MapU w mb T us) (u : Int) : ∃ c : Int, decide (0 < c) = decide (u ∈ us) ∧
    (Instr.lookup 120 (.map (some mb)) (.agg #[.int .i64 u]) false).run Tryz.prog w = .ok (.int .i64 c) w := by
  obtain ⟨m, es, clock, hm, hg⟩ := h
  have l1 := hm.look keyUnitL Tryz.underlying120 zeroInt u false
  have hv : ((Esch.get m u).map κint).getD (.int .i64 0) = .int .i64 ((Esch.get m u).getD 0) := by cases Esch.get m u <;> rfl
  simp only [Bool.false_eq_true, if_false, hv] at l1
  refine ⟨(Esch.get m u).getD 0, ?_, l1⟩
  have h2 := (hg u).2
  apply decide_eq_decide.2
  rw [← h2]
  cases hgu : Esch.get m u with
  | none => simp
  | some c => have := ((hg u).1 c hgu).1; simp; omega

set_option maxHeartbeats 1000000 in
theorem may1_any (S : Nat → Prop) (w : World) (lb nb b mb T : Nat) (used now : List Int) (na : Option Addr) (nc : Nat) (u : Int) (h1 : w.cell? ⟨lb, 0, none⟩ = some (.pointer (some ⟨b, 0, none⟩))) (h2 : w.cell? ⟨nb, 0, none⟩ = some (.slice na now.length nc))
    (h3 : w.cell? ⟨b, 2, none⟩ = some (.map (some mb))) (hm : MapU w mb T used) (hn : IntsAt S w na now) :
    Calls Tryz.prog 127 #[.int .i64 u, .pointer (some ⟨lb, 0, none⟩), .pointer (some ⟨nb, 0, none⟩)] w (Drawn w (.bool (decide (u ∈ used) && !decide (u ∈ now)))) := by
  obtain ⟨c, hc, hl⟩ := unit_look hm u
  have hcon := contains_any S w na nc now u hn
  rw [← hc]
  clear hc hm hn
  by_cases h0 : 0 < c
  · go_enter Tryz.func127, Tryz.ntmps127
    go_wp2_with fail
    refine hcon.mono ?_
    clear hcon
    rintro e w1 ⟨rfl, rfl⟩
    go_wp2_with fail
    go_ret
    refine ⟨?_, 0, rfl⟩
    rw [decide_eq_true h0, Bool.true_and]
    rfl
  · have h0' : c ≤ 0 := by omega
    go_enter Tryz.func127, Tryz.ntmps127
    go_wp2_with fail
    go_ret
    refine ⟨?_, 0, rfl⟩
    rw [decide_eq_false (by omega : ¬ 0 < c), Bool.false_and]
    rfl

theorem mayBox (w : World) (T1 T2 : TypeId) (x y0 y1 : Value) : ∃ W0, W0 = (w.alloc (.cells #[x] T1)).alloc (.cells #[y0, y1] T2) ∧ Below w.heap.size w W0 ∧ W0.heap.size = w.heap.size + 2 ∧
    W0.cell? ⟨w.heap.size, 0, none⟩ = some x ∧ W0.cell? ⟨w.heap.size + 1, 0, none⟩ = some y0 ∧ W0.cell? ⟨w.heap.size + 1, 1, none⟩ = some y1 :=
  ⟨_, rfl, by exact belC (Below.refl _ _), by simp, by go_simp, by go_simp, by go_simp⟩

set_option maxRecDepth 100000 in
set_option maxHeartbeats 4000000 in
theorem layMay_any (S S' : Nat → Prop) (w : World) (b mb T : Nat) (s : LayS) (q : Proj) (a : Option Addr) (c : Nat) (hs : s.ok) (h : LayAt S w b mb T s) (hl : ListsAt S' w a q.chains) :
    Calls Tryz.prog 110 #[.pointer (some ⟨b, 0, none⟩), .agg #[.int .i64 q.epoch, .slice a q.chains.length c]] w (BoolBelow w (mayB s q)) := by
  obtain ⟨W0, hW0, hB0, hz0, l0, p0, p1⟩ := mayBox w 64 24 (.pointer (some ⟨b, 0, none⟩)) (.int .i64 q.epoch) (.slice a q.chains.length c)
  have HW0 := Lib.hid hW0
  clear hW0
  have hL0 := h.below hB0
  have hbw := h.lt
  have hls0 := hl.mod (Mod.of_below (F := none') hB0) (fun _ _ _ => id)
  obtain ⟨pa, pc, c1, hlp⟩ := hL0.c1
  have c0 := hL0.c0
  have c2 := hL0.c2
  have hbz : b < W0.heap.size := by omega
  have HL0 := Lib.hid hL0
  have Hq := Lib.hid hls0
  have Hp := Lib.hid hlp
  have hnx := next_any (fun _ => True) W0.drew s.p.epoch q.epoch pa a pc c s.p.chains q.chains (hlp.sub (fun _ _ _ => trivial)) (hls0.sub (fun _ _ _ => trivial))
  have Hs := Lib.hid hs
  clear h hl hL0 hls0 hlp hs
  go_enter Tryz.func110, Tryz.ntmps110
  go_wp2_with fail
  rw [← HW0.out]
  obtain ⟨lb, hlb⟩ : ∃ lb, lb = w.heap.size := ⟨_, rfl⟩
  rw [← hlb] at l0 p0 p1 ⊢
  have hlz : lb + 1 < W0.heap.size := by omega
  have hlz1 : lb < W0.heap.size := by omega
  have hlw : w.heap.size ≤ lb := by omega
  clear hlb
  cases hn : nextB s.p q with
  | false =>
    have HR : Hid (mayB s q = false) := Lib.hid (by unfold mayB; rw [hn]; rfl)
    rw [hn] at hnx
    clear hn
    go_region_held3 (fun w' => w'.cell? ⟨lb, 0, none⟩ = some (.pointer (some ⟨b, 0, none⟩)) ∧ w'.cell? ⟨b, 0, none⟩ = some (.int .i64 s.p.epoch) ∧ w'.cell? ⟨b, 1, none⟩ = some (.slice pa s.p.chains.length pc) ∧ w'.cell? ⟨lb + 1, 0, none⟩ = some (.int .i64 q.epoch) ∧ w'.cell? ⟨lb + 1, 1, none⟩ = some (.slice a q.chains.length c))
      (first
        | exact ⟨l0, c0, c1, p0, p1⟩
        | exact ⟨below_at hB1 l0 hlz1, below_at hB1 c0 hbz, below_at hB1 c1 hbz, below_at hB1 p0 hlz, below_at hB1 p1 hlz⟩)
      (first
        | (go_at_call 54; (with_reducible refine hnx.mono ?_); rintro e w1 ⟨rfl, hB1⟩))
    have hB1' : Below W0.heap.size W0 w1 := ⟨hB1.os, hB1.tape, hB1.output, hB1.size, hB1.block⟩
    clear hnx hB1
    have hB1 := hB1'
    clear hB1'
    have hBw1 := hB0.trans (hB1.mono (by omega))
    have hz1 := hB1.size
    replace l0 := below_at hB1 l0 hlz1
    replace c0 := below_at hB1 c0 hbz
    replace c1 := below_at hB1 c1 hbz
    replace c2 := below_at hB1 c2 hbz
    replace p0 := below_at hB1 p0 hlz
    replace p1 := below_at hB1 p1 hlz
    go_wp2_with fail
    go_ret
    rw [HR.out]
    exact ⟨rfl, hBw1⟩
  | true =>
    have hgd := of_decide_eq_true hn
    have hgp := hgd.1
    have hgq := hgd.2.1
    have HR : Hid (mayB s q = !((unitsOf q.units).any fun u => decide (u ∈ s.used) && !decide (u ∈ s.p.units))) := Lib.hid (by unfold mayB; rw [hn]; rfl)
    rw [hn] at hnx
    clear hn hgd
    go_region_held3 (fun w' => w'.cell? ⟨lb, 0, none⟩ = some (.pointer (some ⟨b, 0, none⟩)) ∧ w'.cell? ⟨b, 0, none⟩ = some (.int .i64 s.p.epoch) ∧ w'.cell? ⟨b, 1, none⟩ = some (.slice pa s.p.chains.length pc) ∧ w'.cell? ⟨lb + 1, 0, none⟩ = some (.int .i64 q.epoch) ∧ w'.cell? ⟨lb + 1, 1, none⟩ = some (.slice a q.chains.length c))
      (first
        | exact ⟨l0, c0, c1, p0, p1⟩
        | exact ⟨below_at hB1 l0 hlz1, below_at hB1 c0 hbz, below_at hB1 c1 hbz, below_at hB1 p0 hlz, below_at hB1 p1 hlz⟩)
      (first
        | (go_at_call 54; (with_reducible refine hnx.mono ?_); rintro e w1 ⟨rfl, hB1⟩))
    have hB1' : Below W0.heap.size W0 w1 := ⟨hB1.os, hB1.tape, hB1.output, hB1.size, hB1.block⟩
    clear hnx hB1
    have hB1 := hB1'
    clear hB1'
    have hBw1 := hB0.trans (hB1.mono (by omega))
    have hz1 := hB1.size
    replace l0 := below_at hB1 l0 hlz1
    replace c0 := below_at hB1 c0 hbz
    replace c1 := below_at hB1 c1 hbz
    replace c2 := below_at hB1 c2 hbz
    replace p0 := below_at hB1 p0 hlz
    replace p1 := below_at hB1 p1 hlz
    have hu1 := units_any (fun _ => True) w1 s.p.epoch pa pc s.p.chains (good_small hgp) (good_units hgp) ((Hp.out.sub (fun _ _ _ => trivial)).mod (Mod.of_below (F := none') hB1) (fun _ _ _ => id))
    go_wp2_with fail
    refine hu1.mono ?_
    clear hu1
    rintro r w2 ⟨ua, uc, rfl, hU, hB2, -⟩
    have hz2 := hB2.size
    have hB02 := hB1.trans (hB2.mono (by omega))
    replace l0 := below_at hB2 l0 (by omega)
    replace p0 := below_at hB2 p0 (by omega)
    replace p1 := below_at hB2 p1 (by omega)
    have hlz2 : lb + 1 < w2.heap.size := by omega
    have hlz3 : lb < w2.heap.size := by omega
    replace c2 := below_at hB2 c2 (by omega)
    have hbz2 : b < w2.heap.size := by omega
    have HUN : Hid (unitsOf s.p.units = unitsOf s.p.chains.flatten) := Lib.hid rfl
    have HUQ : Hid (unitsOf q.units = unitsOf q.chains.flatten) := Lib.hid rfl
    have HMM : Hid (∀ x, decide (x ∈ unitsOf s.p.chains.flatten) = decide (x ∈ s.p.units)) := Lib.hid (fun x => decide_eq_decide.2 mem_unitsOf)
    have HU := Lib.hid hU
    clear hU
    generalize unitsOf s.p.chains.flatten = now at *
    go_wp2_with fail
    have nb0 : (w2.alloc (.cells #[.slice ua now.length uc] 85)).cell? ⟨w2.heap.size, 0, none⟩ = some (.slice ua now.length uc) := by go_simp
    have l3 : (w2.alloc (.cells #[.slice ua now.length uc] 85)).cell? ⟨lb, 0, none⟩ = some (.pointer (some ⟨b, 0, none⟩)) := by go_simp
    have c3 : (w2.alloc (.cells #[.slice ua now.length uc] 85)).cell? ⟨b, 2, none⟩ = some (.map (some mb)) := by go_simp
    have hB03 := hB02.alloc (by omega) (.cells #[.slice ua now.length uc] 85)
    have hU3 := HU.out.mod ((Mod.refl none' w2).alloc (.cells #[.slice ua now.length uc] 85)) (fun _ _ _ => id)
    have hz3 : (w2.alloc (.cells #[.slice ua now.length uc] 85)).heap.size = w2.heap.size + 1 := by simp
    generalize w2.alloc (.cells #[.slice ua now.length uc] 85) = W3 at *
    obtain ⟨nb, hnb⟩ : ∃ nb, nb = w2.heap.size := ⟨_, rfl⟩
    rw [← hnb] at nb0 ⊢
    have hnz : nb < W3.heap.size := by omega
    have hlz4 : lb < W3.heap.size := by omega
    have hbz4 : b < W3.heap.size := by omega
    clear hnb
    have hu2 := units_any (fun _ => True) W3 q.epoch a c q.chains (good_small hgq) (good_units hgq) ((Hq.out.sub (fun _ _ _ => trivial)).mod (Mod.of_below (F := none') hB03) (fun _ _ _ => id))
    refine hu2.mono ?_
    clear hu2
    rintro r w4 ⟨va, vc, rfl, hV, hB4, -⟩
    have hB04 := hB03.trans (hB4.mono (by omega))
    have hBw4 := hB0.trans (hB04.mono (by omega))
    have l4 := below_at hB4 l3 hlz4
    have nb4 := below_at hB4 nb0 hnz
    have c4 := below_at hB4 c3 hbz4
    have hU4 := hU3.mod (Mod.of_below (F := none') hB4) (fun _ _ _ => id)
    have hMU := (HL0.out.below hB04).map
    have hcf := containsFunc_1 _ w4 va vc (unitsOf q.chains.flatten) (fun u => decide (u ∈ s.used) && !decide (u ∈ now)) (.pointer (some ⟨lb, 0, none⟩)) (.pointer (some ⟨nb, 0, none⟩)) hV (fun m u =>
      may1_any _ (w4.drewN m) lb nb b mb T s.used now ua uc u l4 nb4 c4 (hMU.mod (F := none') ((Mod.refl _ _).drewN _) id) (hU4.mod (F := none') ((Mod.refl _ _).drewN _) (fun _ _ _ => id)))
    clear hV hU4 hMU l4 nb4 c4 hU3 nb0 l3 c3
    go_wp2_with fail
    refine hcf.mono ?_
    clear hcf
    rintro r w5 ⟨rfl, nn, rfl⟩
    go_wp2_with fail
    go_ret
    refine ⟨?_, by exact belC hBw4⟩
    rw [HR.out, HUQ.out]
    simp only [← HMM.out]
    rfl
end Go.Proofs.YtghdhhbpbmhooaaGreat
/- the layout: a new one, and its questions -/
namespace Go.Proofs.YtghdhhbpbmhooaaGreat
open Go.RowKit Esch

def lay0 (q : Proj) : LayS := ⟨q, unitsOf q.units, -1, 0, -1⟩
theorem lay0_ok {q : Proj} (h : q.good) : (lay0 q).ok := ⟨h, fun _ hu => h.2.2.2.2.2.1 _ (mem_unitsOf.1 hu), fun _ hu => mem_unitsOf.2 hu⟩
def LayNew (w : World) (q : Proj) (e : Ending) (w' : World) : Prop := ∃ b mb, e = .returned (.tuple #[.pointer (some ⟨b, 0, none⟩), .int .i64 0]) ∧ LayAt (From w.heap.size) w' b mb 16 (lay0 q) ∧ Below w.heap.size w w'
theorem layEmpty (w : World) : LayAt (From w.heap.size) ((w.alloc (.map #[] 0)).alloc (.cells #[.int .i64 0, .slice none 0 0, .map (some w.heap.size), .int .i64 (-1), .int .i64 0, .int .i64 (-1)] 122)) (w.heap.size + 1) w.heap.size 0 ⟨p0, [], -1, 0, -1⟩ := by
  refine ⟨by go_simp; rfl, ⟨none, 0, by go_simp; rfl, ListsAt.nil _ _ _⟩, by go_simp, by go_simp, by go_simp, by go_simp, fun o ho => ?_, ?_, by omega, by show w.heap.size ≤ _; omega, Nat.le_refl _⟩
  · go_simp
  · refine ⟨[], #[], 0, ⟨?_, by simp, by simp, by simp, by simp⟩, fun u => by simp [Esch.get]⟩
    rw [alloc_old _ _ _ (by simp), alloc_new]
set_option maxRecDepth 100000 in
set_option maxHeartbeats 2000000 in
theorem layNew_any (S : Nat → Prop) (w : World) (q : Proj) (a : Option Addr) (c : Nat) (hq : q.good) (hl : ListsAt S w a q.chains) :
    Calls Tryz.prog 85 #[.agg #[.int .i64 q.epoch, .slice a q.chains.length c]] w (LayNew w q) := by
  obtain ⟨W0, hW0, hB0, hz0, c0, c1⟩ := oneBox w 24 (.int .i64 q.epoch) (.slice a q.chains.length c)
  have HW0 := Lib.hid hW0
  have hmm := @run_makeMap Tryz.prog
  have hls0 := hl.mod (Mod.of_below (F := none') hB0) (fun _ _ _ => id)
  have hg := good_any S W0 q.epoch a c q.chains hls0
  rw [show goodB ⟨q.epoch, q.chains⟩ = true from decide_eq_true hq] at hg
  have Hl := Lib.hid hl
  have Hq := Lib.hid hq
  clear hW0 hls0 hl hq
  go_enter Tryz.func85, Tryz.ntmps85
  go_wp2_with fail
  rw [← HW0.out]
  refine hg.mono ?_
  clear hg
  rintro r w1 ⟨rfl, hB1⟩
  have hz1 := hB1.size
  have hBw1 := hB0.trans (hB1.mono (by omega))
  replace c0 := below_at hB1 c0 (by omega)
  replace c1 := below_at hB1 c1 (by omega)
  have hlz : w.heap.size < w1.heap.size := by omega
  have hE := layEmpty w1
  have hB2 : Below w1.heap.size w1 ((w1.alloc (.map #[] 0)).alloc (.cells #[.int .i64 0, .slice none 0 0, .map (some w1.heap.size), .int .i64 (-1), .int .i64 0, .int .i64 (-1)] 122)) := by exact belC (Below.refl _ _)
  have hz2 : ((w1.alloc (.map #[] 0)).alloc (.cells #[.int .i64 0, .slice none 0 0, .map (some w1.heap.size), .int .i64 (-1), .int .i64 0, .int .i64 (-1)] 122)).heap.size = w1.heap.size + 2 := by simp
  have hcn := layCount_any (From w1.heap.size) (fun k => k < w.heap.size) _ (w1.heap.size + 1) w1.heap.size 0 _ q a c Hq.out (by omega) hE ((Hl.out.sub (T := fun k => k < w.heap.size) (fun k hk _ => hk)).mod (Mod.of_below (F := none') (hBw1.trans (hB2.mono (by omega)))) (fun _ _ _ => id)) (fun k hk _ => by omega)
  clear hE hB1
  go_wp2_with fail
  refine hcn.mono ?_
  clear hcn
  rintro e w3 ⟨rfl, hL, hM⟩
  go_wp2_with fail
  go_ret2
  refine ⟨w1.heap.size + 1, w1.heap.size, rfl, ?_, ?_⟩
  · refine LayAt.sub (S := fun k => From w1.heap.size k ∨ ((w1.alloc (.map #[] 0)).alloc (.cells #[.int .i64 0, .slice none 0 0, .map (some w1.heap.size), .int .i64 (-1), .int .i64 0, .int .i64 (-1)] 122)).heap.size ≤ k) hL ?_
    rintro k - (hk | hk)
    · have : w1.heap.size ≤ k := hk; show w.heap.size ≤ k; omega
    · show w.heap.size ≤ k; omega
  · exact (hBw1.trans (hB2.mono (by omega))).trans (hM.below_at (by omega) (fun k hk h => by omega))
end Go.Proofs.YtghdhhbpbmhooaaGreat
