import Derived.Test.YtghdhhbpbmhooaaGreatPkNodes
import Derived.Test.YtghdhhbpbmhooaaGreatPkKeep
import Derived.Test.YtghdhhbpbmhooaaGreatRNew
import Derived.Test.YtghdhhbpbmhooaaGreatCopyK
import Derived.LaidEqlPtr
/- the hand: what is held, and its small calls -/
namespace Go.Proofs.YtghdhhbpbmhooaaGreat
open Go.RowKit Esch

structure HdS where
  nd : NdS
  held : List QS
/-- a question that is held, and where its chains lie -/
structure HeldQ where
  q : QS
  a : Option Addr
  c : Nat
def HeldQ.cells (e : HeldQ) : List Value := [.int .i64 e.q.kind, .int .i64 e.q.unit, .int .i64 e.q.epoch, .int .i64 e.q.page, .int .i64 e.q.size, .int .i64 e.q.n, .string e.q.data, .int .i64 e.q.p.epoch, .slice e.a e.q.p.chains.length e.c]
def heldCells (es : List HeldQ) : List Value := es.flatMap HeldQ.cells
theorem heldCells_one (es : List HeldQ) : ∀ u ∈ heldCells es, u.oneCell' = true := by
  intro u hu
  obtain ⟨e, -, he⟩ := List.mem_flatMap.1 hu
  simp only [HeldQ.cells, List.mem_cons, List.not_mem_nil, or_false] at he
  rcases he with rfl | rfl | rfl | rfl | rfl | rfl | rfl | rfl | rfl <;> rfl
theorem heldCells_append (es fs : List HeldQ) : heldCells (es ++ fs) = heldCells es ++ heldCells fs := by unfold heldCells; exact List.flatMap_append
/-- a hand over nodes -/
structure HandIn (w : World) (hb nb : Nat) (Un V C : Nat → Prop) (ao : Option Addr) (cap : Nat) (es : List HeldQ) (T : Nat) (s : HdS) : Prop where
  c0 : w.cell? ⟨hb, 0, none⟩ = some (.pointer (some ⟨nb, 0, none⟩))
  c1 : w.cell? ⟨hb, 1, none⟩ = some (.slice ao es.length cap)
  f1 : w.frozen? ⟨hb, 1, none⟩ = false
  nd : Nd w nb Un T s.nd
  row : GRowAt w V 9 es.length cap ao (heldCells es)
  held : es.map (·.q) = s.held
  each : ∀ e ∈ es, ListsAt C w e.a e.q.p.chains ∧ e.q.data.size ≤ 9223372036854775807 ∧ Small e.q.p.chains
  apart : ∀ k, k < w.heap.size → V k → ¬ Un k
  apartC : ∀ k, k < w.heap.size → C k → ¬ Un k
  apartV : ∀ k, k < w.heap.size → V k → ¬ C k
  hu : ¬ Un hb
  hv : ¬ V hb
  hc : ¬ C hb
  most : es.length ≤ 64
structure HandAt (w : World) (hb : Nat) (U : Nat → Prop) (T : Nat) (s : HdS) : Prop where
  at' : ∃ nb Un V C ao cap es, HandIn w hb nb Un V C ao cap es T s ∧ (∀ k, Un k → U k) ∧ (∀ k, k < w.heap.size → V k ∨ C k → U k) ∧ U hb
  lt : ∀ k, U k → k < w.heap.size
theorem HandIn.mod {F Un V C : Nat → Prop} {w w' : World} {hb nb cap T : Nat} {ao : Option Addr} {es : List HeldQ} {s : HdS} (h : HandIn w hb nb Un V C ao cap es T s) (hM : Mod F w w') (h1 : ∀ k, Un k → ¬ F k) (h2 : ∀ k, V k ∨ C k → k < w.heap.size → ¬ F k) (h3 : ¬ F hb) :
    HandIn w' hb nb Un (fun k => V k ∧ k < w.heap.size) (fun k => C k ∧ k < w.heap.size) ao cap es T s := by
  have hl := cell_lt h.c0
  refine ⟨hM.at h.c0 h3, hM.at h.c1 h3, (hM.frozen (p := ⟨hb, 1, none⟩) hl h3).trans h.f1, h.nd.mod hM h1, (h.row.sub (fun k hk hv => ⟨hv, hk⟩)).mod hM (fun k hk hl => h2 k (Or.inl hk.1) hl), h.held, fun e he => ?_, fun k _ hk => h.apart k hk.2 hk.1, fun k _ hk => h.apartC k hk.2 hk.1, fun k _ hk e => h.apartV k hk.2 hk.1 e.1, h.hu, fun hk => h.hv hk.1, fun hk => h.hc hk.1, h.most⟩
  obtain ⟨g1, g2, g3⟩ := h.each e he
  exact ⟨(g1.sub (fun k hk hv => ⟨hv, hk⟩)).mod hM (fun k hk hl => h2 k (Or.inr hk.1) hl), g2, g3⟩
theorem HandAt.mod {F U : Nat → Prop} {w w' : World} {hb T : Nat} {s : HdS} (h : HandAt w hb U T s) (hM : Mod F w w') (hF : ∀ k, U k → ¬ F k) : HandAt w' hb U T s := by
  obtain ⟨⟨nb, Un, V, C, ao, cap, es, hI, h1, h2, h3⟩, hl⟩ := h
  exact ⟨⟨nb, Un, _, _, ao, cap, es, hI.mod hM (fun k hk => hF k (h1 k hk)) (fun k hk hl => hF k (h2 k hl hk)) (hF hb h3), h1, fun k _ hk => hk.elim (fun hk => h2 k hk.2 (Or.inl hk.1)) (fun hk => h2 k hk.2 (Or.inr hk.1)), h3⟩, fun k hk => Nat.lt_of_lt_of_le (hl k hk) hM.size⟩
theorem HandAt.below {U : Nat → Prop} {w w' : World} {hb T : Nat} {s : HdS} (h : HandAt w hb U T s) (hB : Below w.heap.size w w') : HandAt w' hb U T s := h.mod (F := none') (Mod.of_below hB) (fun _ _ => id)
theorem HandAt.sub {U U' : Nat → Prop} {w : World} {hb T : Nat} {s : HdS} (h : HandAt w hb U T s) (hU : ∀ k, U k → U' k) (hl : ∀ k, U' k → k < w.heap.size) : HandAt w hb U' T s := by
  obtain ⟨⟨nb, Un, V, C, ao, cap, es, hI, h1, h2, h3⟩, -⟩ := h
  exact ⟨⟨nb, Un, V, C, ao, cap, es, hI, fun k hk => hU k (h1 k hk), fun k hk hv => hU k (h2 k hk hv), hU hb h3⟩, hl⟩
theorem HandIn.mono {Un V C : Nat → Prop} {w : World} {hb nb cap T T' : Nat} {ao : Option Addr} {es : List HeldQ} {s : HdS} (h : HandIn w hb nb Un V C ao cap es T s) (hT : T ≤ T') : HandIn w hb nb Un V C ao cap es T' s := { h with nd := h.nd.mono hT }
theorem HandAt.mono {U : Nat → Prop} {w : World} {hb T T' : Nat} {s : HdS} (h : HandAt w hb U T s) (hT : T ≤ T') : HandAt w hb U T' s := by
  obtain ⟨⟨nb, Un, V, C, ao, cap, es, hI, h1, h2, h3⟩, hl⟩ := h
  exact ⟨⟨nb, Un, V, C, ao, cap, es, hI.mono hT, h1, h2, h3⟩, hl⟩
theorem HandAt.grow {U : Nat → Prop} {w w0 : World} {hb T : Nat} {s : HdS} (h : HandAt w hb U T s) : HandAt w hb (grow U w0 w) T s := h.sub (fun _ hk => Or.inl hk) (fun k hk => hk.elim (h.lt k) (·.2))

theorem handNew_nil (w : World) : Calls Tryz.prog 58 #[.pointer none] w fun e w' => e = .returned (.pointer (some ⟨w.heap.size, 0, none⟩)) ∧ w'.cell? ⟨w.heap.size, 0, none⟩ = some (.pointer none) ∧ w'.heap.size = w.heap.size + 1 ∧ Below w.heap.size w w' := by
  go_enter Tryz.func58, Tryz.ntmps58
  go_wp2_with fail
  go_ret
  exact ⟨rfl, by go_simp, by simp, by exact belC (Below.refl _ _)⟩
theorem handNew_any {Un : Nat → Prop} {w : World} {nb T : Nat} {s : NdS} (h : Nd w nb Un T s) : Calls Tryz.prog 58 #[.pointer (some ⟨nb, 0, none⟩)] w fun e w' => e = .returned (.pointer (some ⟨w.heap.size, 0, none⟩)) ∧ HandAt w' w.heap.size (fun k => Un k ∨ k = w.heap.size) T ⟨s, []⟩ ∧ w'.cell? ⟨w.heap.size, 0, none⟩ = some (.pointer (some ⟨nb, 0, none⟩)) ∧ Below w.heap.size w w' := by
  have H := Lib.hid h
  clear h
  go_enter Tryz.func58, Tryz.ntmps58
  go_wp2_with fail
  go_ret
  obtain ⟨W, hW⟩ : ∃ W, W = w.alloc (.cells #[.pointer (some ⟨nb, 0, none⟩), .slice none 0 0] 113) := ⟨_, rfl⟩
  have hB : Below w.heap.size w W := by rw [hW]; exact belC (Below.refl _ _)
  rw [← hW]
  have hz : W.heap.size = w.heap.size + 1 := by rw [hW]; simp
  refine ⟨rfl, ⟨⟨nb, Un, none', none', none, 0, [], ⟨by rw [hW]; go_simp, by rw [hW]; go_simp, by rw [hW]; go_simp, H.out.below hB, GRowAt.nil _ _ _ _, rfl, fun e he => (by cases he), fun _ _ h => h.elim, fun _ _ h => h.elim, fun _ _ h => h.elim, fun h => by have := H.out.lt _ h; omega, id, id, by simp⟩, fun _ hk => Or.inl hk, fun _ _ h => h.elim (fun h => h.elim) (fun h => h.elim), Or.inr rfl⟩, fun k hk => ?_⟩, by rw [hW]; go_simp, hB⟩
  rcases hk with hk | hk
  · have := H.out.lt _ hk; omega
  · omega
theorem handNone_no {w : World} {hb : Nat} {a : Addr} (c0 : w.cell? ⟨hb, 0, none⟩ = some (.pointer (some a))) : Calls Tryz.prog 59 #[.pointer (some ⟨hb, 0, none⟩)] w fun e w' => e = .returned (.bool false) ∧ w' = w := by
  go_enter Tryz.func59, Tryz.ntmps59
  go_wp2_with fail
  go_ret
  exact ⟨rfl, rfl⟩
theorem handNodes_at {w : World} {hb : Nat} {v : Value} (c0 : w.cell? ⟨hb, 0, none⟩ = some v) : Calls Tryz.prog 27 #[.pointer (some ⟨hb, 0, none⟩)] w fun e w' => e = .returned v ∧ w' = w := by
  go_enter Tryz.func27, Tryz.ntmps27
  go_wp2_with fail
  go_ret
  exact ⟨rfl, rfl⟩
/-- a question in new memory -/
def OwnPostQ (w : World) (q : QS) (e : Ending) (w' : World) : Prop := ∃ a c, e = .returned (qV q a c) ∧ ListsAt (From w.heap.size) w' a q.p.chains ∧ Below w.heap.size w w'
theorem own_boxes (w : World) (x0 x1 x2 x3 x4 x5 x6 x7 x8 : Value) : ∃ W, W = (w.alloc (.cells #[x0, x1, x2, x3, x4, x5, x6, x7, x8] 34)).alloc (.cells #[.int .i64 0, .int .i64 0, .int .i64 0, .int .i64 0, .int .i64 0, .int .i64 0, .string ⟨#[]⟩, .int .i64 0, .slice none 0 0] 34) ∧ Below w.heap.size w W ∧ W.heap.size = w.heap.size + 2 ∧
    (W.cell? ⟨w.heap.size, 0, none⟩ = some x0 ∧ W.cell? ⟨w.heap.size, 1, none⟩ = some x1 ∧ W.cell? ⟨w.heap.size, 2, none⟩ = some x2 ∧ W.cell? ⟨w.heap.size, 3, none⟩ = some x3 ∧ W.cell? ⟨w.heap.size, 4, none⟩ = some x4 ∧ W.cell? ⟨w.heap.size, 5, none⟩ = some x5 ∧ W.cell? ⟨w.heap.size, 6, none⟩ = some x6 ∧ W.cell? ⟨w.heap.size, 7, none⟩ = some x7 ∧ W.cell? ⟨w.heap.size, 8, none⟩ = some x8) ∧ (W.frozen? ⟨w.heap.size, 0, none⟩ = false ∧ W.frozen? ⟨w.heap.size, 1, none⟩ = false ∧ W.frozen? ⟨w.heap.size, 2, none⟩ = false ∧ W.frozen? ⟨w.heap.size, 3, none⟩ = false ∧ W.frozen? ⟨w.heap.size, 4, none⟩ = false ∧ W.frozen? ⟨w.heap.size, 5, none⟩ = false ∧ W.frozen? ⟨w.heap.size, 6, none⟩ = false ∧ W.frozen? ⟨w.heap.size, 7, none⟩ = false ∧ W.frozen? ⟨w.heap.size, 8, none⟩ = false) ∧
    (∀ j, j < 9 → (W.cell? ⟨w.heap.size + 1, j, none⟩).isSome = true) ∧ (∀ j, j < 9 → W.frozen? ⟨w.heap.size + 1, j, none⟩ = false) :=
  ⟨_, rfl, by exact belC (Below.refl _ _), by simp, ⟨by go_simp, by go_simp, by go_simp, by go_simp, by go_simp, by go_simp, by go_simp, by go_simp, by go_simp⟩, ⟨by go_simp, by go_simp, by go_simp, by go_simp, by go_simp, by go_simp, by go_simp, by go_simp, by go_simp⟩, fun j hj => (by
    have : j = 0 ∨ j = 1 ∨ j = 2 ∨ j = 3 ∨ j = 4 ∨ j = 5 ∨ j = 6 ∨ j = 7 ∨ j = 8 := by omega
    rcases this with rfl | rfl | rfl | rfl | rfl | rfl | rfl | rfl | rfl <;> go_simp), fun j hj => (by go_simp)⟩
set_option maxRecDepth 100000 in
set_option maxHeartbeats 1000000 in
theorem handOwn_any (S : Nat → Prop) (w : World) (q : QS) (a : Option Addr) (c : Nat) (hs : Small q.p.chains) (h : ListsAt S w a q.p.chains) : Calls Tryz.prog 61 #[qV q a c] w (OwnPostQ w q) := by
  obtain ⟨W, hW, hB, hz, ⟨a0, a1, a2, a3, a4, a5, a6, a7, a8⟩, ⟨f0, f1, f2, f3, f4, f5, f6, f7, f8⟩, gc, gf⟩ := own_boxes w (.int .i64 q.kind) (.int .i64 q.unit) (.int .i64 q.epoch) (.int .i64 q.page) (.int .i64 q.size) (.int .i64 q.n) (.string q.data) (.int .i64 q.p.epoch) (.slice a q.p.chains.length c)
  have hcp := copy_any S W q.p.epoch a c q.p.chains hs (h.mod (F := none') (Mod.of_below hB) (fun _ _ _ => id))
  have HW := Lib.hid hW
  have HB := Lib.hid hB
  obtain ⟨y0, hy0⟩ := Option.isSome_iff_exists.1 (gc 0 (by omega))
  have ff0 := gf 0 (by omega)
  obtain ⟨y1, hy1⟩ := Option.isSome_iff_exists.1 (gc 1 (by omega))
  have ff1 := gf 1 (by omega)
  obtain ⟨y2, hy2⟩ := Option.isSome_iff_exists.1 (gc 2 (by omega))
  have ff2 := gf 2 (by omega)
  obtain ⟨y3, hy3⟩ := Option.isSome_iff_exists.1 (gc 3 (by omega))
  have ff3 := gf 3 (by omega)
  obtain ⟨y4, hy4⟩ := Option.isSome_iff_exists.1 (gc 4 (by omega))
  have ff4 := gf 4 (by omega)
  obtain ⟨y5, hy5⟩ := Option.isSome_iff_exists.1 (gc 5 (by omega))
  have ff5 := gf 5 (by omega)
  obtain ⟨y6, hy6⟩ := Option.isSome_iff_exists.1 (gc 6 (by omega))
  have ff6 := gf 6 (by omega)
  obtain ⟨y7, hy7⟩ := Option.isSome_iff_exists.1 (gc 7 (by omega))
  have ff7 := gf 7 (by omega)
  obtain ⟨y8, hy8⟩ := Option.isSome_iff_exists.1 (gc 8 (by omega))
  have ff8 := gf 8 (by omega)
  clear hW h hB hs gc gf
  go_enter Tryz.func61, Tryz.ntmps61
  simp only [qV]
  go_wp2_with fail
  rw [← HW.out]
  refine hcp.mono ?_
  clear hcp
  rintro e w1 ⟨ca, cc, rfl, hl1, hB1⟩
  have hz1 := hB1.size
  have l1 : w.heap.size < W.heap.size := by omega
  have l2 : w.heap.size + 1 < W.heap.size := by omega
  replace a0 := below_at hB1 a0 l1
  replace f0 := (hB1.frozen (p := ⟨w.heap.size, 0, none⟩) l1).trans f0
  replace hy0 := below_at hB1 hy0 l2
  replace ff0 := (hB1.frozen (p := ⟨w.heap.size + 1, 0, none⟩) l2).trans ff0
  replace a1 := below_at hB1 a1 l1
  replace f1 := (hB1.frozen (p := ⟨w.heap.size, 1, none⟩) l1).trans f1
  replace hy1 := below_at hB1 hy1 l2
  replace ff1 := (hB1.frozen (p := ⟨w.heap.size + 1, 1, none⟩) l2).trans ff1
  replace a2 := below_at hB1 a2 l1
  replace f2 := (hB1.frozen (p := ⟨w.heap.size, 2, none⟩) l1).trans f2
  replace hy2 := below_at hB1 hy2 l2
  replace ff2 := (hB1.frozen (p := ⟨w.heap.size + 1, 2, none⟩) l2).trans ff2
  replace a3 := below_at hB1 a3 l1
  replace f3 := (hB1.frozen (p := ⟨w.heap.size, 3, none⟩) l1).trans f3
  replace hy3 := below_at hB1 hy3 l2
  replace ff3 := (hB1.frozen (p := ⟨w.heap.size + 1, 3, none⟩) l2).trans ff3
  replace a4 := below_at hB1 a4 l1
  replace f4 := (hB1.frozen (p := ⟨w.heap.size, 4, none⟩) l1).trans f4
  replace hy4 := below_at hB1 hy4 l2
  replace ff4 := (hB1.frozen (p := ⟨w.heap.size + 1, 4, none⟩) l2).trans ff4
  replace a5 := below_at hB1 a5 l1
  replace f5 := (hB1.frozen (p := ⟨w.heap.size, 5, none⟩) l1).trans f5
  replace hy5 := below_at hB1 hy5 l2
  replace ff5 := (hB1.frozen (p := ⟨w.heap.size + 1, 5, none⟩) l2).trans ff5
  replace a6 := below_at hB1 a6 l1
  replace f6 := (hB1.frozen (p := ⟨w.heap.size, 6, none⟩) l1).trans f6
  replace hy6 := below_at hB1 hy6 l2
  replace ff6 := (hB1.frozen (p := ⟨w.heap.size + 1, 6, none⟩) l2).trans ff6
  replace a7 := below_at hB1 a7 l1
  replace f7 := (hB1.frozen (p := ⟨w.heap.size, 7, none⟩) l1).trans f7
  replace hy7 := below_at hB1 hy7 l2
  replace ff7 := (hB1.frozen (p := ⟨w.heap.size + 1, 7, none⟩) l2).trans ff7
  replace a8 := below_at hB1 a8 l1
  replace f8 := (hB1.frozen (p := ⟨w.heap.size, 8, none⟩) l1).trans f8
  replace hy8 := below_at hB1 hy8 l2
  replace ff8 := (hB1.frozen (p := ⟨w.heap.size + 1, 8, none⟩) l2).trans ff8
  have HL1 := Lib.hid hl1
  have HB1 := Lib.hid (HB.out.trans (hB1.mono (by omega)))
  clear hl1 hB1
  go_wp2_with fail
  refine bodyPost_ret (v := qV q ca cc) (by simp only [results, Tryz.results61, qV]; go_simp) rfl ?_
  refine ⟨ca, cc, rfl, (HL1.out.mod (F := fun k => k = w.heap.size ∨ k = w.heap.size + 1) ?_ (fun k hk _ e => ?_)).sub (fun k _ hk => ?_), by exact belC HB1.out⟩
  · repeat' (first | (with_reducible exact Mod.refl _ _) | (with_reducible apply Mod.setCellAt) | (with_reducible apply Mod.drew) | (intro _; first | exact Or.inl rfl | exact Or.inr rfl))
  · have hk : W.heap.size ≤ k := hk
    omega
  · have hk : W.heap.size ≤ k := hk
    show w.heap.size ≤ k
    omega
end Go.Proofs.YtghdhhbpbmhooaaGreat
/- the hand: a question and its fate -/
namespace Go.Proofs.YtghdhhbpbmhooaaGreat
open Go.RowKit Esch

def HdS.ask (s : HdS) (q : QS) (fate : Int) : (AnS × Bool) × HdS :=
  if fate = 0 then (((s.nd.do q).1, true), { s with nd := (s.nd.do q).2 })
  else if fate = 2 then ((an0, false), { s with nd := (s.nd.do q).2 })
  else if fate = 3 ∧ s.held.length < 64 then ((an0, false), { s with held := s.held ++ [q] })
  else ((an0, false), s)
def HandPost (w : World) (hb : Nat) (U : Nat → Prop) (T : Nat) (r : (AnS × Bool) × HdS) (e : Ending) (w' : World) : Prop :=
  ∃ a c, e = .returned (.tuple #[aV r.1.1 a c, .bool r.1.2]) ∧ ListsAt (From w.heap.size) w' a r.1.1.p.chains ∧ HandAt w' hb (grow U w w') (T + 16) r.2 ∧ Mod U w w'
/-- the nodes of a hand have changed -/
theorem HandIn.setNd {Un V C U : Nat → Prop} {w w' : World} {hb nb cap T : Nat} {ao : Option Addr} {es : List HeldQ} {s : HdS} {n : NdS} (h : HandIn w hb nb Un V C ao cap es T s) (h1 : ∀ k, Un k → U k) (h2 : ∀ k, k < w.heap.size → V k ∨ C k → U k) (h3 : U hb) (hl : ∀ k, U k → k < w.heap.size)
    (hn : Nd w' nb (grow Un w w') (T + 16) n) (hM : Mod Un w w') : HandAt w' hb (grow U w w') (T + 16) { s with nd := n } := by
  have hz := hM.size
  have hlb := cell_lt h.c0
  have hg : ∀ k, k < w.heap.size → ¬ Un k → ¬ grow Un w w' k := fun k hk hu e => e.elim hu (fun e => by omega)
  refine ⟨⟨nb, grow Un w w', fun k => V k ∧ k < w.heap.size, fun k => C k ∧ k < w.heap.size, ao, cap, es, ⟨hM.at h.c0 h.hu, hM.at h.c1 h.hu, (hM.frozen (p := ⟨hb, 1, none⟩) hlb h.hu).trans h.f1, hn, (h.row.sub (fun k hk hv => ⟨hv, hk⟩)).mod hM (fun k hk _ => h.apart k hk.2 hk.1), h.held, fun e he => ?_, fun k _ hk => hg k hk.2 (h.apart k hk.2 hk.1), fun k _ hk => hg k hk.2 (h.apartC k hk.2 hk.1), fun k _ hk e => h.apartV k hk.2 hk.1 e.1, hg hb hlb h.hu, fun e => h.hv e.1, fun e => h.hc e.1, h.most⟩, fun k hk => hk.elim (fun e => Or.inl (h1 k e)) Or.inr, fun k _ hk => Or.inl (hk.elim (fun hk => h2 k hk.2 (Or.inl hk.1)) (fun hk => h2 k hk.2 (Or.inr hk.1))), Or.inl h3⟩, fun k hk => hk.elim (fun e => Nat.lt_of_lt_of_le (hl k e) hz) (·.2)⟩
  obtain ⟨g1, g2, g3⟩ := h.each e he
  exact ⟨(g1.sub (fun k hk hv => ⟨hv, hk⟩)).mod hM (fun k hk _ => h.apartC k hk.2 hk.1), g2, g3⟩
/-- a question whose fate leaves the hand as it is -/
theorem HandAt.post0 {w w' : World} {hb T : Nat} {U : Nat → Prop} {s : HdS} (h : HandAt w hb U T s) (hB : Below w.heap.size w w') {e : Ending} (he : e = .returned (.tuple #[aV an0 none 0, .bool false])) : HandPost w hb U T ((an0, false), s) e w' :=
  ⟨none, 0, he, ListsAt.nil _ _ _, ((h.below hB).mono (by omega)).grow, Mod.of_below hB⟩
section
variable {w : World} {hb T : Nat} {U : Nat → Prop} {s : HdS} (q : QS) (ca : Option Addr) (cc : Nat)
set_option maxRecDepth 100000 in
set_option maxHeartbeats 2000000 in
theorem handAsk_heard (h : HandAt w hb U T s) (hT : T ≤ 1000000000) (hd : q.data.size ≤ 9223372036854775807) (S' : Nat → Prop) (hq : ListsAt S' w ca q.p.chains) (hS : ∀ k, S' k → k < w.heap.size → ¬ U k) :
    Calls Tryz.prog 26 #[.pointer (some ⟨hb, 0, none⟩), qV q ca cc, .int .i64 0] w (HandPost w hb U T (((s.nd.do q).1, true), { s with nd := (s.nd.do q).2 })) := by
  have hlU := h.lt
  obtain ⟨⟨nb, Un, V, C, ao, cap, es, hI, h1, h2, h3⟩, -⟩ := h
  obtain ⟨W, hW, ab, rb, hab, hrb, hX⟩ : ∃ W, W = _ ∧ ∃ ab rb, ab = w.heap.size ∧ rb = w.heap.size + 1 ∧ Boxed2 w W ab rb (.int .i64 q.kind) (.int .i64 q.unit) (.int .i64 q.epoch) (.int .i64 q.page) (.int .i64 q.size) (.int .i64 q.n) (.string q.data) (.int .i64 q.p.epoch) (.slice ca q.p.chains.length cc) := ⟨_, rfl, _, _, rfl, rfl, boxed2 w _ _ _ _ _ _ _ _ _⟩
  have HW := Lib.hid hW
  have HA := Lib.hid hab
  have HR := Lib.hid hrb
  have HX := Lib.hid hX
  have hzW := hX.size
  have hrb2 := hX.brb
  clear hW hab hrb hX
  have hlb := cell_lt hI.c0
  have hlN := hI.nd.lt
  have hIW := HandIn.mod hI (Mod.of_below (F := none') HX.out.below) (fun _ _ => id) (fun _ _ _ => id) id
  have c0 := hIW.c0
  have hno := handNone_no c0
  have hdo := fun W' (hW' : Mod none' W W') => rpcDo_all q ca cc (hIW.nd.mod (F := none') hW' (fun _ _ => id)) hT hd (fun k => S' k ∧ k < w.heap.size) (((hq.sub (fun k hk h => ⟨h, hk⟩)).mod (F := none') (Mod.of_below HX.out.below) (fun _ _ _ => id)).mod (F := none') hW' (fun _ _ _ => id)) (fun k hk _ e => hS k hk.1 hk.2 (h1 k e))
  generalize hr : s.nd.do q = r at hdo ⊢
  obtain ⟨x, n⟩ := r
  have HI := Lib.hid hIW
  clear hI hIW hq hS hr
  go_enter Tryz.func26, Tryz.ntmps26
  simp only [qV]
  go_wp2_with fail
  rw [← HW.out, ← HR.out, ← HA.out]
  refine hno.mono ?_
  clear hno
  rintro e w1 ⟨rfl, hw1⟩
  subst hw1
  have q0 := HX.out.q0
  have q1 := HX.out.q1
  have q2 := HX.out.q2
  have q3 := HX.out.q3
  have q4 := HX.out.q4
  have q5 := HX.out.q5
  have q6 := HX.out.q6
  have q7 := HX.out.q7
  have q8 := HX.out.q8
  go_wp2_with fail
  refine region_tail 5 (by kernel_rfl) (by kernel_rfl) (fun T hT K hK => ?_)
  simp only [List.take_succ_cons, List.take_zero]
  repeat still_step
  refine wpStill_nil (hK _ ?_)
  clear hK
  simp only [List.drop_succ_cons, List.drop_zero] at hT
  subst hT
  go_wp2_with fail
  refine (hdo _ (by exact modC (Mod.refl _ _))).mono ?_
  clear hdo q0 q1 q2 q3 q4 q5 q6 q7 q8
  rintro e w4 ⟨a4, c4, rfl, hl4, hn4, hM4⟩
  obtain ⟨g0, g1, g2, g3, g4, g5, g6, g7, f0, f1, f2, f3, f4, f5, f6, f7⟩ := HX.out.far (Mod.trans (F := Un) ((Mod.refl Un _).drew) hM4) (fun e => by have := hlN _ e; omega)
  have hz4 := hM4.size
  have HL4 := Lib.hid hl4
  have HN4 := Lib.hid hn4
  have HM4 := Lib.hid (Mod.trans (F := Un) ((Mod.refl Un w1).drew) hM4)
  clear hl4 hn4 hM4
  simp only [aV]
  go_wp2_with fail
  refine bodyPost_ret (v := .tuple #[aV x a4 c4, .bool true]) (by simp only [results, Tryz.results26, aV]; go_simp) rfl ?_
  have hH := HandIn.setNd HI.out h1 (fun k _ hk => hk.elim (fun hk => h2 k hk.2 (Or.inl hk.1)) (fun hk => h2 k hk.2 (Or.inr hk.1))) h3 (fun k hk => by have := hlU k hk; omega) HN4.out HM4.out
  have hz : w1.heap.size ≤ w4.heap.size := HM4.out.size
  refine ⟨a4, c4, rfl, (HL4.out.mod (F := (· = rb)) (by exact modC (Mod.refl _ _)) (fun k hk _ e => ?_)).sub (fun k _ hk => ?_), ((hH.mod (F := (· = rb)) (by exact modC (Mod.refl _ _)) (fun k hk e => ?_)).sub (fun k hk => ?_) (fun k hk => ?_)), ?_⟩
  · have hk : w1.heap.size ≤ k := hk
    omega
  · have hk : w1.heap.size ≤ k := hk
    show w.heap.size ≤ k
    omega
  · rcases hk with hk | hk
    · have := hlU k hk; omega
    · omega
  · rcases hk with hk | hk
    · exact Or.inl hk
    · exact Or.inr ⟨by omega, by simp only [World.size_setCell]; omega⟩
  · rcases hk with hk | hk
    · have := hlU k hk; simp only [World.size_setCell]; omega
    · exact hk.2
  · refine (mod_none (Mod.of_below HX.out.below)).trans' (show Mod (fun j => j = rb ∨ Un j) w1 _ from ?_) (fun j hj e => ?_)
    · repeat' (first | (with_reducible exact HM4.out.mono (fun _ _ h => Or.inr h)) | (with_reducible apply Mod.setCellAt) | (with_reducible apply Mod.drew) | (intro _; exact Or.inl rfl))
    · rcases e with e | e
      · omega
      · exact h1 j e
set_option maxRecDepth 100000 in
set_option maxHeartbeats 2000000 in
theorem handAsk_deaf (h : HandAt w hb U T s) (hT : T ≤ 1000000000) (hd : q.data.size ≤ 9223372036854775807) (S' : Nat → Prop) (hq : ListsAt S' w ca q.p.chains) (hS : ∀ k, S' k → k < w.heap.size → ¬ U k) :
    Calls Tryz.prog 26 #[.pointer (some ⟨hb, 0, none⟩), qV q ca cc, .int .i64 2] w (HandPost w hb U T ((an0, false), { s with nd := (s.nd.do q).2 })) := by
  have hlU := h.lt
  obtain ⟨⟨nb, Un, V, C, ao, cap, es, hI, h1, h2, h3⟩, -⟩ := h
  obtain ⟨W, hW, ab, rb, hab, hrb, hX⟩ : ∃ W, W = _ ∧ ∃ ab rb, ab = w.heap.size ∧ rb = w.heap.size + 1 ∧ Boxed2 w W ab rb (.int .i64 q.kind) (.int .i64 q.unit) (.int .i64 q.epoch) (.int .i64 q.page) (.int .i64 q.size) (.int .i64 q.n) (.string q.data) (.int .i64 q.p.epoch) (.slice ca q.p.chains.length cc) := ⟨_, rfl, _, _, rfl, rfl, boxed2 w _ _ _ _ _ _ _ _ _⟩
  have HW := Lib.hid hW
  have HA := Lib.hid hab
  have HR := Lib.hid hrb
  have HX := Lib.hid hX
  have hzW := hX.size
  have hrb2 := hX.brb
  clear hW hab hrb hX
  have hlb := cell_lt hI.c0
  have hlN := hI.nd.lt
  have hIW := HandIn.mod hI (Mod.of_below (F := none') HX.out.below) (fun _ _ => id) (fun _ _ _ => id) id
  have c0 := hIW.c0
  have hno := handNone_no c0
  have hdo := fun W' (hW' : Mod none' W W') => rpcDo_all q ca cc (hIW.nd.mod (F := none') hW' (fun _ _ => id)) hT hd (fun k => S' k ∧ k < w.heap.size) (((hq.sub (fun k hk h => ⟨h, hk⟩)).mod (F := none') (Mod.of_below HX.out.below) (fun _ _ _ => id)).mod (F := none') hW' (fun _ _ _ => id)) (fun k hk _ e => hS k hk.1 hk.2 (h1 k e))
  generalize hr : s.nd.do q = r at hdo ⊢
  obtain ⟨x, n⟩ := r
  have HI := Lib.hid hIW
  clear hI hIW hq hS hr
  go_enter Tryz.func26, Tryz.ntmps26
  simp only [qV]
  go_wp2_with fail
  rw [← HW.out, ← HR.out, ← HA.out]
  refine hno.mono ?_
  clear hno
  rintro e w1 ⟨rfl, hw1⟩
  subst hw1
  have q0 := HX.out.q0
  have q1 := HX.out.q1
  have q2 := HX.out.q2
  have q3 := HX.out.q3
  have q4 := HX.out.q4
  have q5 := HX.out.q5
  have q6 := HX.out.q6
  have q7 := HX.out.q7
  have q8 := HX.out.q8
  go_wp2_with fail
  refine region_tail 5 (by kernel_rfl) (by kernel_rfl) (fun T hT K hK => ?_)
  simp only [List.take_succ_cons, List.take_zero]
  repeat still_step
  refine wpStill_nil (hK _ ?_)
  clear hK
  simp only [List.drop_succ_cons, List.drop_zero] at hT
  subst hT
  go_wp2_with fail
  refine (hdo _ (by exact modC (Mod.refl _ _))).mono ?_
  clear hdo q0 q1 q2 q3 q4 q5 q6 q7 q8
  rintro e w4 ⟨a4, c4, rfl, hl4, hn4, hM4⟩
  obtain ⟨g0, g1, g2, g3, g4, g5, g6, g7, f0, f1, f2, f3, f4, f5, f6, f7⟩ := HX.out.far (Mod.trans (F := Un) ((Mod.refl Un _).drew) hM4) (fun e => by have := hlN _ e; omega)
  have hz4 := hM4.size
  have HL4 := Lib.hid hl4
  have HN4 := Lib.hid hn4
  have HM4 := Lib.hid (Mod.trans (F := Un) ((Mod.refl Un w1).drew) hM4)
  clear hl4 hn4 hM4
  go_wp2_with fail
  refine bodyPost_ret (v := .tuple #[aV an0 none 0, .bool false]) (by simp only [results, Tryz.results26, aV, an0, p0, List.length_nil]; go_simp) rfl ?_
  have hH := HandIn.setNd HI.out h1 (fun k _ hk => hk.elim (fun hk => h2 k hk.2 (Or.inl hk.1)) (fun hk => h2 k hk.2 (Or.inr hk.1))) h3 (fun k hk => by have := hlU k hk; omega) HN4.out HM4.out
  have hz : w1.heap.size ≤ w4.heap.size := HM4.out.size
  refine ⟨none, 0, rfl, ListsAt.nil _ _ _, ((hH.mod (F := (· = rb)) (by exact modC (Mod.refl _ _)) (fun k hk e => ?_)).sub (fun k hk => ?_) (fun k hk => ?_)), ?_⟩
  · rcases hk with hk | hk
    · have := hlU k hk; omega
    · omega
  · rcases hk with hk | hk
    · exact Or.inl hk
    · exact Or.inr ⟨by omega, by simp only [World.size_setCell]; omega⟩
  · rcases hk with hk | hk
    · have := hlU k hk; simp only [World.size_setCell]; omega
    · exact hk.2
  · refine (mod_none (Mod.of_below HX.out.below)).trans' (show Mod (fun j => j = rb ∨ Un j) w1 _ from ?_) (fun j hj e => ?_)
    · repeat' (first | (with_reducible exact HM4.out.mono (fun _ _ h => Or.inr h)) | (with_reducible apply Mod.setCellAt) | (with_reducible apply Mod.drew) | (intro _; exact Or.inl rfl))
    · rcases e with e | e
      · omega
      · exact h1 j e

theorem handAsk_no (h : HandAt w hb U T s) (f : Int) (hf : f ≠ 0 ∧ f ≠ 2 ∧ (f = 3 → 64 ≤ s.held.length)) :
    Calls Tryz.prog 26 #[.pointer (some ⟨hb, 0, none⟩), qV q ca cc, .int .i64 f] w (HandPost w hb U T ((an0, false), s)) := by
  have H := Lib.hid h
  obtain ⟨⟨nb, Un, V, C, ao, cap, es, hI, h1, h2, h3⟩, -⟩ := h
  obtain ⟨W, hW, ab, rb, hab, hrb, hX⟩ : ∃ W, W = _ ∧ ∃ ab rb, ab = w.heap.size ∧ rb = w.heap.size + 1 ∧ Boxed2 w W ab rb (.int .i64 q.kind) (.int .i64 q.unit) (.int .i64 q.epoch) (.int .i64 q.page) (.int .i64 q.size) (.int .i64 q.n) (.string q.data) (.int .i64 q.p.epoch) (.slice ca q.p.chains.length cc) := ⟨_, rfl, _, _, rfl, rfl, boxed2 w _ _ _ _ _ _ _ _ _⟩
  have HW := Lib.hid hW
  have HA := Lib.hid hab
  have HR := Lib.hid hrb
  have HX := Lib.hid hX
  have hzW := hX.size
  have hrb2 := hX.brb
  clear hW hab hrb hX
  have hlb := cell_lt hI.c0
  have hIW := HandIn.mod hI (Mod.of_below (F := none') HX.out.below) (fun _ _ => id) (fun _ _ _ => id) id
  have c0 := hIW.c0
  have c1 := hIW.c1
  have hno := handNone_no c0
  have hle := hI.held
  have hlen : es.length = s.held.length := by rw [← hle, List.length_map]
  have e0 : (f == 0) = false := by simpa using hf.1
  have e2 : (f == 2) = false := by simpa using hf.2.1
  have HF := Lib.hid hf
  clear hI hIW hle hf
  by_cases e3 : f = 3
  · have hf3 := HF.out.2.2 e3
    subst e3
    have e4 : decide ((es.length : Int) < 64) = false := decide_eq_false (by omega)
    clear hlen hf3
    go_enter Tryz.func26, Tryz.ntmps26
    simp only [qV]
    go_wp2_with fail
    rw [← HW.out, ← HR.out, ← HA.out]
    refine hno.mono ?_
    clear hno
    rintro e w1 ⟨rfl, hw1⟩
    subst hw1
    have q0 := HX.out.q0
    have q1 := HX.out.q1
    have q2 := HX.out.q2
    have q3 := HX.out.q3
    have q4 := HX.out.q4
    have q5 := HX.out.q5
    have q6 := HX.out.q6
    have q7 := HX.out.q7
    have q8 := HX.out.q8
    obtain ⟨g0, g1, g2, g3, g4, g5, g6, g7, f0, f1, f2, f3, f4, f5, f6, f7⟩ := HX.out.far (F := none') (Mod.refl _ _) id
    go_wp2_with fail
    refine bodyPost_ret (v := .tuple #[aV an0 none 0, .bool false]) (by simp only [results, Tryz.results26, aV, an0, p0, List.length_nil]; go_simp) rfl ?_
    exact H.out.post0 (by exact belC HX.out.below) rfl
  · have e3' : (f == 3) = false := by simpa using e3
    clear hlen c1 e3
    go_enter Tryz.func26, Tryz.ntmps26
    simp only [qV]
    go_wp2_with fail
    rw [← HW.out, ← HR.out, ← HA.out]
    refine hno.mono ?_
    clear hno
    rintro e w1 ⟨rfl, hw1⟩
    subst hw1
    have q0 := HX.out.q0
    have q1 := HX.out.q1
    have q2 := HX.out.q2
    have q3 := HX.out.q3
    have q4 := HX.out.q4
    have q5 := HX.out.q5
    have q6 := HX.out.q6
    have q7 := HX.out.q7
    have q8 := HX.out.q8
    obtain ⟨g0, g1, g2, g3, g4, g5, g6, g7, f0, f1, f2, f3, f4, f5, f6, f7⟩ := HX.out.far (F := none') (Mod.refl _ _) id
    go_wp2_with fail
    refine bodyPost_ret (v := .tuple #[aV an0 none 0, .bool false]) (by simp only [results, Tryz.results26, aV, an0, p0, List.length_nil]; go_simp) rfl ?_
    exact H.out.post0 (by exact belC HX.out.below) rfl
end
end Go.Proofs.YtghdhhbpbmhooaaGreat
/- the hand: a question that is held -/
namespace Go.Proofs.YtghdhhbpbmhooaaGreat
open Go.RowKit Esch

theorem src_new {P : Program} {W : World} (tx e' : TypeId) (hk : P.underlying tx = some (.slice e')) (b : Nat) (e : HeldQ) (t : TypeId) (hb : W.heap[b]? = some (.cells e.cells.toArray t)) (c : Nat) : Src P 9 tx (.slice (some ⟨b, 0, none⟩) 1 c) 1 e.cells W := by
  refine Src.ofSlice W hk _ 1 c e.cells rfl (fun j u hu => ?_) (fun u hu => ?_)
  · rw [addr_add, Nat.zero_add]
    simp [World.cell?, hb, hu]
  · have := heldCells_one [e] u
    simp only [heldCells, List.flatMap_cons, List.flatMap_nil, List.append_nil] at this
    exact this hu
/-- one question more is held -/
theorem HandIn.more {Un V C : Nat → Prop} {w1 w4 w6 : World} {hb nb cap cap6 c4 T : Nat} {ao a4 a6 : Option Addr} {es : List HeldQ} {s : HdS} {q : QS} {o : Obj} (h : HandIn w1 hb nb Un V C ao cap es T s) (hl4 : ListsAt (From w1.heap.size) w4 a4 q.p.chains) (hM4 : Mod none' w1 w4)
    (hg : GRowAt w6 (fun k => V k ∨ k = (w4.alloc o).heap.size) 9 (es.length + 1) cap6 a6 (heldCells es ++ HeldQ.cells ⟨q, a4, c4⟩)) (hM6 : Mod V (w4.alloc o) w6) (hV : ∀ k, V k ∨ C k → k < w1.heap.size) (hd : q.data.size ≤ 9223372036854775807) (hs : Small q.p.chains) (hes : es.length < 64) :
    HandIn (w6.setCell ⟨hb, 1, none⟩ (.slice a6 (es.length + 1) cap6)) hb nb Un (fun k => V k ∨ k = w4.heap.size + 1) (fun k => C k ∨ (w1.heap.size ≤ k ∧ k < w4.heap.size)) a6 cap6 (es ++ [⟨q, a4, c4⟩]) T { s with held := s.held ++ [q] } ∧ Mod (fun k => V k ∨ k = hb) w1 (w6.setCell ⟨hb, 1, none⟩ (.slice a6 (es.length + 1) cap6)) := by
  have hM14 : Mod V w1 (w4.alloc o) := (mod_none hM4).alloc o
  have hM16 : Mod V w1 w6 := hM14.trans hM6
  have hM7 : Mod (· = hb) w6 (w6.setCell ⟨hb, 1, none⟩ (.slice a6 (es.length + 1) cap6)) := (Mod.refl (· = hb) w6).setCellAt (fun _ => rfl) _
  have hz4 := hM4.size
  have hz6 := hM6.size
  have hlb := cell_lt h.c0
  have hzA : (w4.alloc o).heap.size = w4.heap.size + 1 := by simp
  have hb6 : hb < w6.heap.size := by omega
  have e0 := hM16.at h.c0 h.hv
  have e1 := hM16.at h.c1 h.hv
  have ef := (hM16.frozen (p := ⟨hb, 1, none⟩) hlb h.hv).trans h.f1
  have hlen : (es ++ [(⟨q, a4, c4⟩ : HeldQ)]).length = es.length + 1 := by simp
  have hF : ∀ k, V k → k ≠ hb := fun k hk e => h.hv (e ▸ hk)
  have hFc : ∀ k, C k → k ≠ hb := fun k hk e => h.hc (e ▸ hk)
  have HM := (hM16.mono (G := fun k => V k ∨ k = hb) (fun _ _ h => Or.inl h)).trans (hM7.mono (fun _ _ h => Or.inr h))
  refine ⟨⟨by go_simp, by rw [hlen]; go_simp, by go_simp, ?_, ?_, by simp [h.held], fun e he => ?_, fun k _ hk e => ?_, fun k _ hk e => ?_, fun k _ hk e => ?_, h.hu, fun e => ?_, fun e => ?_, by rw [hlen]; omega⟩, HM⟩
  · refine h.nd.mod HM (fun k hk e => ?_)
    rcases e with e | e
    · exact h.apart k (hV k (Or.inl e)) e hk
    · subst e; exact h.hu hk
  · rw [hlen, heldCells_append, show heldCells [(⟨q, a4, c4⟩ : HeldQ)] = HeldQ.cells ⟨q, a4, c4⟩ by simp [heldCells]]
    refine (hg.sub (T := fun k => V k ∨ k = w4.heap.size + 1) (fun k hk hv => ?_)).mod hM7 (fun k hk _ => ?_)
    · rcases hv with hv | hv
      · exact Or.inl hv
      · exact Or.inr (by omega)
    · rcases hk with hk | hk
      · exact hF k hk
      · omega
  · rcases List.mem_append.1 he with he | he
    · obtain ⟨g1, g2, g3⟩ := h.each e he
      refine ⟨(g1.mod HM (fun k hk hl e => ?_)).sub (fun k _ hk => Or.inl hk), g2, g3⟩
      rcases e with e | e
      · exact h.apartV k hl e hk
      · exact hFc k hk e
    · obtain rfl : e = ⟨q, a4, c4⟩ := by simpa using he
      refine ⟨?_, hd, hs⟩
      refine ((((hl4.sub (T := fun k => w1.heap.size ≤ k ∧ k < w4.heap.size) (fun k hk hf => ⟨hf, hk⟩)).mod (F := none') ((Mod.refl none' w4).alloc o) (fun _ _ _ => id)).mod hM6 (fun k hk _ hv => ?_)).mod hM7 (fun k hk _ e => ?_)).sub (fun k _ hk => Or.inr hk)
      · have := hV k (Or.inl hv); omega
      · omega
  · rcases hk with hk | hk
    · exact h.apart k (hV k (Or.inl hk)) hk e
    · have := h.nd.lt k e; omega
  · rcases hk with hk | hk
    · exact h.apartC k (hV k (Or.inr hk)) hk e
    · have := h.nd.lt k e; omega
  · rcases hk with hk | hk
    · rcases e with e | e
      · exact h.apartV k (hV k (Or.inl hk)) hk e
      · have := hV k (Or.inl hk); omega
    · rcases e with e | e
      · have := hV k (Or.inr e); omega
      · omega
  · rcases e with e | e
    · exact h.hv e
    · omega
  · rcases e with e | e
    · exact h.hc e
    · omega
section
variable {w : World} {hb T : Nat} {U : Nat → Prop} {s : HdS} (q : QS) (ca : Option Addr) (cc : Nat)
set_option maxRecDepth 100000 in
set_option maxHeartbeats 2000000 in
theorem handAsk_held (h : HandAt w hb U T s) (hm : s.held.length < 64) (hd : q.data.size ≤ 9223372036854775807) (hs : Small q.p.chains) (S' : Nat → Prop) (hq : ListsAt S' w ca q.p.chains) :
    Calls Tryz.prog 26 #[.pointer (some ⟨hb, 0, none⟩), qV q ca cc, .int .i64 3] w (HandPost w hb U T ((an0, false), { s with held := s.held ++ [q] })) := by
  have hlU := h.lt
  obtain ⟨⟨nb, Un, V, C, ao, cap, es, hI, h1, h2, h3⟩, -⟩ := h
  obtain ⟨W, hW, ab, rb, hab, hrb, hX⟩ : ∃ W, W = _ ∧ ∃ ab rb, ab = w.heap.size ∧ rb = w.heap.size + 1 ∧ Boxed2 w W ab rb (.int .i64 q.kind) (.int .i64 q.unit) (.int .i64 q.epoch) (.int .i64 q.page) (.int .i64 q.size) (.int .i64 q.n) (.string q.data) (.int .i64 q.p.epoch) (.slice ca q.p.chains.length cc) := ⟨_, rfl, _, _, rfl, rfl, boxed2 w _ _ _ _ _ _ _ _ _⟩
  have HW := Lib.hid hW
  have HA := Lib.hid hab
  have HR := Lib.hid hrb
  have HX := Lib.hid hX
  have hzW := hX.size
  have hrb2 := hX.brb
  clear hW hab hrb hX
  have hlb := cell_lt hI.c0
  have hIW := HandIn.mod hI (Mod.of_below (F := none') HX.out.below) (fun _ _ => id) (fun _ _ _ => id) id
  have c0 := hIW.c0
  have c1 := hIW.c1
  have hfr := hIW.f1
  have hno := handNone_no c0
  have how := fun W' (hW' : Mod none' W W') => handOwn_any S' W' q ca cc hs ((hq.mod (F := none') (Mod.of_below HX.out.below) (fun _ _ _ => id)).mod (F := none') hW' (fun _ _ _ => id))
  have hle := hI.held
  have hlen : es.length = s.held.length := by rw [← hle, List.length_map]
  have e4 : decide ((es.length : Int) < 64) = true := decide_eq_true (by omega)
  have hes : es.length < 64 := by omega
  have HI := Lib.hid hIW
  have HRW : Hid (∀ W', Mod none' W W' → GRowAt W' (fun k => V k ∧ k < w.heap.size) 9 es.length cap ao (heldCells es)) := Lib.hid (fun W' hM => hIW.row.mod hM (fun _ _ _ => id))
  have hVb : ¬ (V hb ∧ hb < w.heap.size) := hIW.hv
  have hbW : hb < W.heap.size := by omega
  obtain ⟨i0, hi, hy0, hy1, hy2⟩ := info_parts (show (Tryz.prog.info? 34).map (fun i => (i.zero, i.size, i.bytes)) = some (some (.agg #[.int .i64 0, .int .i64 0, .int .i64 0, .int .i64 0, .int .i64 0, .int .i64 0, .string ⟨#[]⟩, .int .i64 0, .slice none 0 0]), 9, 96) by kernel_rfl)
  clear hI hIW hq hle hlen hm
  go_enter Tryz.func26, Tryz.ntmps26
  simp only [qV]
  go_wp2_with fail
  rw [← HW.out, ← HR.out, ← HA.out]
  refine hno.mono ?_
  clear hno
  rintro e w1 ⟨rfl, hw1⟩
  subst hw1
  have q0 := HX.out.q0
  have q1 := HX.out.q1
  have q2 := HX.out.q2
  have q3 := HX.out.q3
  have q4 := HX.out.q4
  have q5 := HX.out.q5
  have q6 := HX.out.q6
  have q7 := HX.out.q7
  have q8 := HX.out.q8
  go_wp2_with fail
  have c1d : w1.drew.cell? ⟨hb, 1, none⟩ = some (.slice ao es.length cap) := c1
  have how1 := how w1.drew (by exact modC (Mod.refl _ _))
  simp only [qV] at how1
  obtain ⟨m4, hm4⟩ : ∃ m4 : Nat, m4 = w1.heap.size := ⟨_, rfl⟩
  have HM4 := Lib.hid hm4
  clear hm4 how
  go_region_law
    (first
      | (go_simp; go_at_call 61; (with_reducible refine how1.mono ?_); rintro e w4 ⟨a4, c4, rfl, hl4, hB4⟩
         have hz4 : w1.heap.size ≤ w4.heap.size := hB4.size
         have c14 := below_at hB4 c1d hbW
         have hbw4 : hb < w4.heap.size := by omega
         have hbA : hb < (w4.alloc (.cells (HeldQ.cells ⟨q, a4, c4⟩).toArray 34)).heap.size := by rw [World.size_alloc]; omega
         have c1b := (cell_alloc_lt w4 (.cells (HeldQ.cells ⟨q, a4, c4⟩).toArray 34) hb 1 hbw4).trans c14
         have f1b := (frozen_alloc_lt w4 (.cells (HeldQ.cells ⟨q, a4, c4⟩).toArray 34) hb 1 hbw4).trans ((hB4.frozen (p := ⟨hb, 1, none⟩) hbW).trans hfr)
         have hM4 : Mod none' w1 w4 := ((Mod.refl none' w1).drew).trans (Mod.of_below hB4))
      | (refine step_append_g (by rfl) (.tmp 40) (.tmp 43) 109 109 (by rfl) 34 i0 _ 96 Tryz.underlying109 hi hy0 hy1 hy2 (by rfl) (by rfl) (HRW.out _ (hM4.alloc _)) _ 1 (HeldQ.cells ⟨q, a4, c4⟩) (by rfl) (src_new _ _ Tryz.underlying109 w4.heap.size ⟨q, a4, c4⟩ 34 (alloc_new _ _) 1) (by omega) (by omega) ?_
         intro a6 cap6 w6 hg6 hM6 hz6
         have c16 := hM6.at c1b hVb
         have f16 := (hM6.frozen (p := ⟨hb, 1, none⟩) hbA hVb).trans f1b))
  all_goals
    obtain ⟨hI7, hM7⟩ := HI.out.more hl4 hM4 hg6 hM6 (fun k hk => by have := hbW; rcases hk with hk | hk <;> omega) hd hs hes
    have hz47 : w4.heap.size + 1 ≤ w6.heap.size := by have := hM6.size; rwa [World.size_alloc] at this
    obtain ⟨w7, hw7⟩ : ∃ w7, w7 = w6.setCell ⟨hb, 1, none⟩ (.slice a6 (es.length + 1) cap6) := ⟨_, rfl⟩
    have hz67 : w7.heap.size = w6.heap.size := by rw [hw7, World.size_setCell]
    have hg67 := hg6
    rw [← hw7] at hI7 hM7 ⊢
    obtain ⟨g0, g1, g2, g3, g4, g5, g6, g7, f0, f1, f2, f3, f4, f5, f6, f7⟩ := HX.out.far hM7 (fun e => by rcases e with e | e <;> omega)
    have HI7 := Lib.hid hI7
    have HM7 := Lib.hid hM7
    have HG6 := Lib.hid hg67
    clear hw7 hI7 hM7 hg6 hg67 hM6 c16 f16 c1b f1b hl4 hB4 hM4 c14 q0 q1 q2 q3 q4 q5 q6 q7 q8
    go_wp2_with fail
    refine bodyPost_ret (v := .tuple #[aV an0 none 0, .bool false]) (by simp only [results, Tryz.results26, aV, an0, p0, List.length_nil]; go_simp) rfl ?_
    have hH : HandAt w7 hb (fun k => U k ∨ (w1.heap.size ≤ k ∧ k < w7.heap.size)) T { s with held := s.held ++ [q] } := by
      refine ⟨⟨nb, Un, _, _, a6, cap6, _, HI7.out, fun k hk => Or.inl (h1 k hk), fun k hk hv => ?_, Or.inl h3⟩, fun k hk => ?_⟩
      · rcases hv with (hv | hv) | (hv | hv)
        · exact Or.inl (h2 k hv.2 (Or.inl hv.1))
        · exact Or.inr ⟨by omega, hk⟩
        · exact Or.inl (h2 k hv.2 (Or.inr hv.1))
        · exact Or.inr ⟨hv.1, hk⟩
      · rcases hk with hk | hk
        · have := hlU k hk; omega
        · exact hk.2
    refine ⟨none, 0, rfl, ListsAt.nil _ _ _, (((hH.mono (by omega)).mod (F := (· = rb)) (by exact modC (Mod.refl _ _)) (fun k hk e => ?_)).sub (fun k hk => ?_) (fun k hk => ?_)), ?_⟩
    · rcases hk with hk | hk
      · have := hlU k hk; omega
      · omega
    · rcases hk with hk | hk
      · exact Or.inl hk
      · exact Or.inr ⟨by omega, by simp only [World.size_setCell]; omega⟩
    · rcases hk with hk | hk
      · have := hlU k hk; simp only [World.size_setCell]; omega
      · exact hk.2
    · refine (mod_none (Mod.of_below HX.out.below)).trans' (show Mod (fun j => j = rb ∨ ((V j ∧ j < w.heap.size) ∨ j = hb)) w1 _ from ?_) (fun j hj e => ?_)
      · repeat' (first | (with_reducible exact HM7.out.mono (fun _ _ h => Or.inr h)) | (with_reducible apply Mod.setCellAt) | (with_reducible apply Mod.drew) | (intro _; exact Or.inl rfl))
      · rcases e with e | e | e
        · omega
        · exact h2 j e.2 (Or.inl e.1)
        · subst e; exact h3
end
end Go.Proofs.YtghdhhbpbmhooaaGreat
/- the hand: one that is held is taken out -/
namespace Go.Proofs.YtghdhhbpbmhooaaGreat
open Go.RowKit Esch

theorem handAsk_any {w : World} {hb T : Nat} {U : Nat → Prop} {s : HdS} (q : QS) (ca : Option Addr) (cc : Nat) (f : Int) (h : HandAt w hb U T s) (hT : T ≤ 1000000000) (hd : q.data.size ≤ 9223372036854775807) (hs : Small q.p.chains) (S' : Nat → Prop) (hq : ListsAt S' w ca q.p.chains) (hS : ∀ k, S' k → k < w.heap.size → ¬ U k) :
    Calls Tryz.prog 26 #[.pointer (some ⟨hb, 0, none⟩), qV q ca cc, .int .i64 f] w (HandPost w hb U T (s.ask q f)) := by
  unfold HdS.ask
  by_cases h0 : f = 0
  · subst h0; rw [if_pos rfl]; exact handAsk_heard q ca cc h hT hd S' hq hS
  · rw [if_neg h0]
    by_cases h2 : f = 2
    · subst h2; rw [if_pos rfl]; exact handAsk_deaf q ca cc h hT hd S' hq hS
    · rw [if_neg h2]
      by_cases h3 : f = 3 ∧ s.held.length < 64
      · rw [if_pos h3]
        obtain ⟨rfl, hm⟩ := h3
        exact handAsk_held q ca cc h hm hd hs S' hq
      · rw [if_neg h3]
        exact handAsk_no q ca cc h f ⟨h0, h2, fun e => by omega⟩
section
variable {w : World} {hb T : Nat} {U : Nat → Prop} {s : HdS}
end
end Go.Proofs.YtghdhhbpbmhooaaGreat
/- the hand: Do, Drop -/
namespace Go.Proofs.YtghdhhbpbmhooaaGreat
open Go.RowKit Esch

abbrev qz : QS := ⟨0, 0, 0, 0, 0, 0, ⟨#[]⟩, p0⟩
section
variable {w : World} {hb T : Nat} {U : Nat → Prop} {s : HdS}
theorem ask_box (w : World) (x0 x1 x2 x3 x4 x5 x6 x7 x8 : Value) : ∃ W, W = w.alloc (.cells #[x0, x1, x2, x3, x4, x5, x6, x7, x8] 34) ∧ Below w.heap.size w W ∧ W.heap.size = w.heap.size + 1 ∧ (W.cell? ⟨w.heap.size, 0, none⟩ = some x0 ∧ W.cell? ⟨w.heap.size, 1, none⟩ = some x1 ∧ W.cell? ⟨w.heap.size, 2, none⟩ = some x2 ∧ W.cell? ⟨w.heap.size, 3, none⟩ = some x3 ∧ W.cell? ⟨w.heap.size, 4, none⟩ = some x4 ∧ W.cell? ⟨w.heap.size, 5, none⟩ = some x5 ∧ W.cell? ⟨w.heap.size, 6, none⟩ = some x6 ∧ W.cell? ⟨w.heap.size, 7, none⟩ = some x7 ∧ W.cell? ⟨w.heap.size, 8, none⟩ = some x8) :=
  ⟨_, rfl, by exact belC (Below.refl _ _), by simp, by go_simp, by go_simp, by go_simp, by go_simp, by go_simp, by go_simp, by go_simp, by go_simp, by go_simp⟩
end
end Go.Proofs.YtghdhhbpbmhooaaGreat
/- a hand over new nodes; questions that ask for numbers alone -/
namespace Go.Proofs.YtghdhhbpbmhooaaGreat
open Go.RowKit Esch

@[simp] theorem eqNodes (a : Addr) (w : World) : (binOp .eql 65 (.pointer (some a)) (.pointer (some a))).run Tryz.prog w = .ok (.bool true) w := by
  obtain ⟨j0, hi, -⟩ := info_parts (show (Tryz.prog.info? 119).map (fun i => (i.zero, i.size, i.bytes)) = some (some (.agg #[.slice none 0 0, .pointer none, .pointer none]), 3, 40) by kernel_rfl)
  exact run_eql_ptr_same w a Tryz.underlying65 hi
set_option maxRecDepth 100000 in
set_option maxHeartbeats 1000000 in
theorem made_any (S : Nat → Prop) (w : World) (q : Proj) (a : Option Addr) (c room : Nat) (hq : q.good) (hl : ListsAt S w a q.chains) (h1 : 1 ≤ room) (h2 : room ≤ 4096) :
    Calls Tryz.prog 25 #[.agg #[.int .i64 q.epoch, .slice a q.chains.length c], .int .i64 room] w fun e w' => ∃ hb rb nb, e = .returned (.tuple #[.pointer (some ⟨hb, 0, none⟩), .pointer (some ⟨rb, 0, none⟩), .bool true]) ∧
      HandAt w' hb (grow none' w w') 16 ⟨nd0 q room, []⟩ ∧ w'.cell? ⟨hb, 0, none⟩ = some (.pointer (some ⟨nb, 0, none⟩)) ∧ Below w.heap.size w w' := by
  obtain ⟨W0, hW0, hB0, hz0, p0, p1⟩ := oneBox w 24 (.int .i64 q.epoch) (.slice a q.chains.length c)
  have hl0 := hl.mod (F := none') (Mod.of_below hB0) (fun _ _ _ => id)
  have hcp := copyK_any S W0 q.epoch a c q.chains (good_small hq) hl0
  have HW0 := Lib.hid hW0
  have Hq := Lib.hid hq
  have HL0 := Lib.hid hl0
  clear hW0 hl hl0 hq
  go_enter Tryz.func25, Tryz.ntmps25
  go_wp2_with fail
  rw [← HW0.out]
  refine hcp.mono ?_
  clear hcp
  rintro e w1 ⟨a1, c1, rfl, hl1, hB1⟩
  have hz1 := hB1.size
  replace p0 := below_at hB1 p0 (by omega)
  replace p1 := below_at hB1 p1 (by omega)
  have hrn := rpcNew_nd _ w1 q a1 c1 room Hq.out hl1 h1 h2
  clear hl1
  go_wp2_with fail
  refine hrn.mono ?_
  clear hrn
  rintro e w2 ⟨nb, rfl, hN2, hB2⟩
  have hz2 := hB2.size
  replace p0 := below_at hB2 p0 (by omega)
  replace p1 := below_at hB2 p1 (by omega)
  have hB02 : Below W0.heap.size W0 w2 := hB1.trans (hB2.mono hz1)
  have hrr := ref13New_any S w2 q a c room Hq.out (HL0.out.mod (F := none') (Mod.of_below hB02) (fun _ _ _ => id)) h1 h2
  have HN2 := Lib.hid hN2
  clear hN2
  go_wp2_with fail
  refine hrr.mono ?_
  clear hrr
  rintro e w3 ⟨rb, rfl, hB3⟩
  have hz3 := hB3.size
  have HN3 := Lib.hid (HN2.out.below hB3)
  have hhn := handNew_any HN3.out
  go_wp2_with fail
  refine hhn.mono ?_
  clear hhn
  rintro e w4 ⟨rfl, hH4, hc4, hB4⟩
  have hz4 := hB4.size
  have hno := fun (W : World) (hc : W.cell? ⟨w3.heap.size, 0, none⟩ = some (.pointer (some ⟨nb, 0, none⟩))) => handNodes_at hc
  have hl4 := cell_lt hc4
  have HH4 := Lib.hid hH4
  clear hH4
  have hBw : Below w.heap.size w w4 := hB0.trans ((hB02.trans ((hB3.trans (hB4.mono hz3)).mono (by omega))).mono (by omega))
  clear hB1 hB2 hB3 hB4 hB02 hB0
  go_wp2_with fail
  refine (hno _ ((cell_alloc_lt w4 _ _ 0 hl4).trans hc4)).mono ?_
  clear hno
  rintro e w5 ⟨rfl, rfl⟩
  go_wp2_with fail
  refine bodyPost_ret (v := .tuple #[.pointer (some ⟨w3.heap.size, 0, none⟩), .pointer (some ⟨w4.heap.size, 0, none⟩), .bool true]) (by simp only [results, Tryz.results25]; go_simp) rfl ?_
  have hz5 : w4.heap.size = w3.heap.size + 1 ∨ w3.heap.size < w4.heap.size := Or.inr hl4
  refine ⟨_, _, nb, rfl, (HH4.out.below (by exact belC (Below.refl _ _))).sub (fun k hk => ?_) (fun k hk => ?_), (cell_alloc_lt w4 _ _ 0 hl4).trans hc4, by exact belC hBw⟩
  · rcases hk with (hk | hk) | hk
    · exact hk.elim
    · exact Or.inr ⟨by omega, by simp only [World.size_alloc]; omega⟩
    · exact Or.inr ⟨by omega, by simp only [World.size_alloc]; omega⟩
  · rcases hk with hk | hk
    · exact hk.elim
    · exact hk.2
/-- numbers alone are asked for -/
abbrev q6 : QS := ⟨6, 0, 0, 0, 0, 0, ⟨#[]⟩, p0⟩
abbrev q7 : QS := ⟨7, 0, 0, 0, 0, 0, ⟨#[]⟩, p0⟩
theorem small_nil : Small [] := ⟨by simp, fun i hi => absurd hi (by simp)⟩
structure HO (w0 : World) (c t n hb : Nat) (U : Nat → Prop) (w : World) : Prop where
  at' : ∃ T s, HandAt w hb U T s ∧ T ≤ 16 * (c + 1) ∧ s.nd.o = ⟨0, true, t⟩ ∧ s.held = List.replicate n q6
  old : ∀ k, U k → w0.heap.size ≤ k
  below : Below w0.heap.size w0 w
section
variable {w0 w : World} {c t n hb : Nat} {U : Nat → Prop}
end
end Go.Proofs.YtghdhhbpbmhooaaGreat
/- what the laws of the hand wake them by -/
namespace Go.Proofs.YtghdhhbpbmhooaaGreat
open Go.RowKit Esch

end Go.Proofs.YtghdhhbpbmhooaaGreat
