import Derived.Test.YtpfcomepecgcmaaGreatDoorPkOpA
import Derived.Test.YtpfcomepecgcmaaGreatDoorRKnown
import Derived.Test.YtpfcomepecgcmaaGreatDoorPkOpB
import Derived.Test.YtpfcomepecgcmaaGreatDoorPkRG
/- package image: Gather of a made one -/
namespace Esch
open Go Go.RowKit
/-- pieces that are put together: plainly -/
structure GaS where
  s : ByteArray
  client : Int
  size : Int
def ga0 : GaS := ⟨⟨#[]⟩, 0, 0⟩
structure GaAt (w : World) (b : Nat) (g : GaS) : Prop where
  c0 : w.cell? ⟨b, 0, none⟩ = some (.string g.s)
  c1 : w.cell? ⟨b, 1, none⟩ = some (.int .i64 g.client)
  c2 : w.cell? ⟨b, 2, none⟩ = some (.int .i64 g.size)
  f0 : w.frozen? ⟨b, 0, none⟩ = false
  f1 : w.frozen? ⟨b, 1, none⟩ = false
  f2 : w.frozen? ⟨b, 2, none⟩ = false
  few : g.s.size ≤ 65536
theorem GaAt.mod {F : Nat → Prop} {w w' : World} {b : Nat} {g : GaS} (h : GaAt w b g) (hM : Mod F w w') (hb : ¬ F b) : GaAt w' b g :=
  have hl := cell_lt h.c0
  ⟨hM.at h.c0 hb, hM.at h.c1 hb, hM.at h.c2 hb, (hM.frozen (p := ⟨b, 0, none⟩) hl hb).trans h.f0, (hM.frozen (p := ⟨b, 1, none⟩) hl hb).trans h.f1, (hM.frozen (p := ⟨b, 2, none⟩) hl hb).trans h.f2, h.few⟩
theorem GaAt.below' {w w' : World} {b : Nat} {g : GaS} (h : GaAt w b g) (hB : Below w.heap.size w w') : GaAt w' b g := h.mod (F := none') (Mod.of_below hB) id
/-- refused? -/
def GaS.no (g : GaS) (x : OpS) (mv : List Mv) : Prop := x.kind ≠ 14 ∨ x.good mv = false ∨ x.off ≠ g.s.size ∨ (0 < g.size ∧ ((g.s.size : Int) = g.size ∨ x.client ≠ g.client ∨ x.size ≠ g.size))
def GaS.put (g : GaS) (x : OpS) : GaS := ⟨g.s ++ x.data, x.client, x.size⟩
def GaS.text (g : GaS) : ByteArray × Bool := if g.size = 0 ∨ (g.s.size : Int) < g.size then (⟨#[]⟩, false) else (g.s, true)
end Esch
namespace Go.Proofs.YtpfcomepecgcmaaGreatDoor
open Go.RowKit Esch Go.Shelf

theorem gaNew_any (w : World) : Calls Tryz.prog 9 #[] w fun e w' => e = .returned (.pointer (some ⟨w.heap.size, 0, none⟩)) ∧ GaAt w' w.heap.size ga0 ∧ Below w.heap.size w w' := by
  go_enter Tryz.func9, Tryz.ntmps9
  go_wp2_with fail
  go_ret
  exact ⟨rfl, ⟨by go_simp; rfl, by go_simp; rfl, by go_simp; rfl, by go_simp, by go_simp, by go_simp, by decide⟩, by exact belC (Below.refl _ _)⟩
def GaTextPost (g : GaS) (w : World) (e : Ending) (w' : World) : Prop := e = .returned (.tuple #[.string g.text.1, .bool g.text.2]) ∧ Below w.heap.size w w'
set_option maxRecDepth 100000 in
set_option maxHeartbeats 4000000 in
theorem gaText_any (w : World) (b : Nat) (g : GaS) (h : GaAt w b g) : Calls Tryz.prog 13 #[.pointer (some ⟨b, 0, none⟩)] w (GaTextPost g w) := by
  obtain ⟨c0, c1, c2, -, -, -, -⟩ := h
  obtain ⟨s, gc, z⟩ := g
  simp only [] at c0 c1 c2
  clear c1
  unfold GaTextPost GaS.text
  simp only
  by_cases h0 : z = 0
  · rw [if_pos (Or.inl h0)]
    subst h0
    go_enter Tryz.func13, Tryz.ntmps13
    go_wp2_with fail
    refine region_kwalk (S := fun W => (W.cell? ⟨b, 0, none⟩ = some (.string s) ∧ W.cell? ⟨b, 2, none⟩ = some (.int .i64 0)) ∧ Below w.heap.size w W) (by kernel_rfl) (by kernel_rfl) (by kernel_rfl) ⟨⟨c0, c2⟩, (Below.refl _ _).drew⟩ ?_
    repeat (first | refine kwL ?_ | refine kwU ?_)
    refine kw_nil (fun W hW => ?_)
    obtain ⟨⟨d0, d2⟩, hB⟩ := hW
    have HB := Lib.hid hB
    clear hB
    go_wp2_with fail
    go_ret2
    exact ⟨rfl, HB.out⟩
  · have q0 : (z == 0) = false := by simpa using h0
    by_cases h1 : (s.size : Int) < z
    · rw [if_pos (Or.inr h1)]
      go_enter Tryz.func13, Tryz.ntmps13
      go_wp2_with fail
      refine region_kwalk (S := fun W => (W.cell? ⟨b, 0, none⟩ = some (.string s) ∧ W.cell? ⟨b, 2, none⟩ = some (.int .i64 z)) ∧ Below w.heap.size w W) (by kernel_rfl) (by kernel_rfl) (by kernel_rfl) ⟨⟨c0, c2⟩, (Below.refl _ _).drew⟩ ?_
      repeat (first | refine kwL ?_ | refine kwU ?_)
      refine kw_nil (fun W hW => ?_)
      obtain ⟨⟨d0, d2⟩, hB⟩ := hW
      have HB := Lib.hid hB
      clear hB
      go_wp2_with fail
      go_ret2
      exact ⟨rfl, HB.out⟩
    · rw [if_neg (fun e => e.elim h0 h1)]
      have q1 : decide ((s.size : Int) < z) = false := by simpa using h1
      go_enter Tryz.func13, Tryz.ntmps13
      go_wp2_with fail
      refine region_kwalk (S := fun W => (W.cell? ⟨b, 0, none⟩ = some (.string s) ∧ W.cell? ⟨b, 2, none⟩ = some (.int .i64 z)) ∧ Below w.heap.size w W) (by kernel_rfl) (by kernel_rfl) (by kernel_rfl) ⟨⟨c0, c2⟩, (Below.refl _ _).drew⟩ ?_
      repeat (first | refine kwL ?_ | refine kwU ?_)
      refine kw_nil (fun W hW => ?_)
      obtain ⟨⟨d0, d2⟩, hB⟩ := hW
      have HB := Lib.hid hB
      clear hB
      go_wp2_with fail
      go_ret2
      exact ⟨rfl, HB.out⟩
end Go.Proofs.YtpfcomepecgcmaaGreatDoor
/- package image: Gather.Add of a made one -/
namespace Go.Proofs.YtpfcomepecgcmaaGreatDoor
open Go.RowKit Esch Go.Shelf

theorem good14 {x : OpS} {mv : List Mv} (e : x.good mv = true) (hk : x.kind = 14) : 1 ≤ x.data.size ∧ x.data.size ≤ 1024 ∧ x.off + x.data.size ≤ 65536 := by
  unfold OpS.good at e
  simp only [Bool.and_eq_true] at e
  have h := e.1.2
  unfold OpS.form at h
  rw [hk] at h
  simp [winB] at h
  omega
def GaAddPost (w : World) (b : Nat) (g : GaS) (x : OpS) (mv : List Mv) (e : Ending) (w' : World) : Prop :=
  (g.no x mv ∧ e = .returned (.bool false) ∧ Below w.heap.size w w') ∨ (¬ g.no x mv ∧ e = .returned (.bool true) ∧ GaAt w' b (g.put x) ∧ Mod (· = b) w w')
/-- what stays while it is looked through -/
structure GaIn (w W : World) (b ob : Nat) (g : GaS) (x : OpS) : Prop where
  ga : GaAt W b g
  op : OpAt W ob x
  bl : Below w.heap.size w W
theorem GaIn.next {w W W' : World} {b ob : Nat} {g : GaS} {x : OpS} (h : GaIn w W b ob g x) (hB : Below W.heap.size W W') : GaIn w W' b ob g x := by
  have hl : ob < W.heap.size := cell_lt (o := 0) (v := .int .i64 x.client) ((h.op.1 0 (by decide)).trans rfl)
  refine ⟨h.ga.below' hB, ⟨fun j hj => ?_, fun j => ?_⟩, h.bl.trans (hB.mono h.bl.size)⟩
  · exact (hB.cell (p := ⟨ob, j, none⟩) hl).trans (h.op.1 j hj)
  · exact ((Mod.of_below (F := none') hB).frozen (p := ⟨ob, j, none⟩) hl id).trans (h.op.2 j)
theorem GaIn.cells {w W : World} {b ob : Nat} {s : ByteArray} {gc z : Int} {xc xs xk : Int} {p q : Nm} {xz xh xo : Int} {xt : ByteArray} {xi xn : Int} {mp : Option Addr} {ml mc : Nat} (h : GaIn w W b ob ⟨s, gc, z⟩ ⟨xc, xs, xk, p, q, xz, xh, xo, xt, xi, xn, mp, ml, mc⟩) : W.cell? ⟨ob, 0, none⟩ = some (.int .i64 xc) ∧ W.cell? ⟨ob, 1, none⟩ = some (.int .i64 xs) ∧ W.cell? ⟨ob, 2, none⟩ = some (.int .i64 xk) ∧ W.cell? ⟨ob, 3, none⟩ = some (.string (bs p)) ∧ W.cell? ⟨ob, 4, none⟩ = some (.string (bs q)) ∧ W.cell? ⟨ob, 5, none⟩ = some (.int .i64 xz) ∧ W.cell? ⟨ob, 6, none⟩ = some (.int .i64 xh) ∧ W.cell? ⟨ob, 7, none⟩ = some (.int .i64 xo) ∧ W.cell? ⟨ob, 8, none⟩ = some (.string xt) ∧ W.cell? ⟨ob, 9, none⟩ = some (.int .i64 xi) ∧ W.cell? ⟨ob, 10, none⟩ = some (.int .i64 xn) ∧ W.cell? ⟨ob, 11, none⟩ = some (.slice mp ml mc) ∧ W.cell? ⟨b, 0, none⟩ = some (.string s) ∧ W.cell? ⟨b, 1, none⟩ = some (.int .i64 gc) ∧ W.cell? ⟨b, 2, none⟩ = some (.int .i64 z) :=
  ⟨h.op.1 0 (by decide), h.op.1 1 (by decide), h.op.1 2 (by decide), h.op.1 3 (by decide), h.op.1 4 (by decide), h.op.1 5 (by decide), h.op.1 6 (by decide), h.op.1 7 (by decide), h.op.1 8 (by decide), h.op.1 9 (by decide), h.op.1 10 (by decide), h.op.1 11 (by decide), h.ga.c0, h.ga.c1, h.ga.c2⟩
set_option maxRecDepth 100000 in
set_option maxHeartbeats 16000000 in
theorem gaAdd_any (w : World) (b : Nat) (g : GaS) (x : OpS) (mv : List Mv) (h : GaAt w b g) (hin : OpIn w x mv) (hf : FieldsAt w) (hw : 0 < w.heap.size) (h16 : mv.length ≤ 100000) :
    Calls Tryz.prog 11 #[.pointer (some ⟨b, 0, none⟩), .agg x.cells.toArray] w (GaAddPost w b g x mv) := by
  obtain ⟨gd, hgd⟩ : ∃ gd, gd = x.good mv := ⟨_, rfl⟩
  have HGD : Hid (∀ W, Below w.heap.size w W → Calls Tryz.prog 22 #[.agg x.cells.toArray] W (BoolB W gd)) := Lib.hid (fun W hB => by rw [hgd]; exact opGood_any W x mv (hin.below' hB) (hf.below hB hw) (Nat.lt_of_lt_of_le hw hB.size) h16)
  have HNO : Hid (g.no x mv → ∀ w', Below w.heap.size w w' → GaAddPost w b g x mv (.returned (.bool false)) w') := Lib.hid (fun hn w' hB => Or.inl ⟨hn, rfl, hB⟩)
  have HYES : Hid (¬ g.no x mv → ∀ w', GaAt w' b (g.put x) → Mod (· = b) w w' → GaAddPost w b g x mv (.returned (.bool true)) w') := Lib.hid (fun hn w' h1 h2 => Or.inr ⟨hn, rfl, h1, h2⟩)
  unfold GaS.no at HNO HYES
  rw [← hgd] at HNO HYES
  have hbl := cell_lt h.c0
  obtain ⟨W1, hW1⟩ : ∃ W1, W1 = w.alloc (.cells x.cells.toArray 33) := ⟨_, rfl⟩
  obtain ⟨ob, hob⟩ : ∃ ob, ob = w.heap.size := ⟨_, rfl⟩
  have hI : GaIn w W1.drew b ob g x := by
    have hB : Below w.heap.size w W1.drew := by rw [hW1]; exact belC (Below.refl _ _)
    refine ⟨h.below' hB, ?_, hB⟩
    have hh : W1.heap[ob]? = some (.cells x.cells.toArray 33) := by rw [hW1, hob]; exact heap_alloc_new _ _
    refine ⟨fun j hj => by simp [World.cell?, hh], fun j => by simp [World.frozen?, hh]⟩
  have HIN := Lib.hid hI
  have HNE : Hid (ob ≠ b) := Lib.hid (by omega)
  have HGF : Hid (gd = true → x.kind = 14 → 1 ≤ x.data.size ∧ x.data.size ≤ 1024 ∧ x.off + x.data.size ≤ 65536) := Lib.hid (fun e hk => by rw [hgd] at e; exact good14 e hk)
  have HW1 := Lib.hid hW1
  have HOB := Lib.hid hob
  obtain ⟨s, gc, z⟩ := g
  obtain ⟨xc, xs, xk, p, q, xz, xh, xo, xt, xi, xn, mp, ml, mc⟩ := x
  simp only [OpS.cells] at HGD HNO HYES HW1 HGF ⊢
  clear hI hW1 hgd hin hf hw h h16 hob
  generalize GaAddPost w b ⟨s, gc, z⟩ ⟨xc, xs, xk, p, q, xz, xh, xo, xt, xi, xn, mp, ml, mc⟩ mv = R at HNO HYES ⊢
  go_enter Tryz.func11, Tryz.ntmps11
  go_wp2_with fail
  rw [← HOB.out, ← HW1.out]
  by_cases hk : xk = 14
  · subst hk
    cases gd
    · have HNQ : Hid (∀ w', Below w.heap.size w w' → R (.returned (.bool false)) w') := Lib.hid (fun w' h => HNO.out (by simp) w' h)
      refine region_kwalk (S := fun W => (W.cell? ⟨ob, 0, none⟩ = some (.int .i64 xc) ∧ W.cell? ⟨ob, 1, none⟩ = some (.int .i64 xs) ∧ W.cell? ⟨ob, 2, none⟩ = some (.int .i64 14) ∧ W.cell? ⟨ob, 3, none⟩ = some (.string (bs p)) ∧ W.cell? ⟨ob, 4, none⟩ = some (.string (bs q)) ∧ W.cell? ⟨ob, 5, none⟩ = some (.int .i64 xz) ∧ W.cell? ⟨ob, 6, none⟩ = some (.int .i64 xh) ∧ W.cell? ⟨ob, 7, none⟩ = some (.int .i64 xo) ∧ W.cell? ⟨ob, 8, none⟩ = some (.string xt) ∧ W.cell? ⟨ob, 9, none⟩ = some (.int .i64 xi) ∧ W.cell? ⟨ob, 10, none⟩ = some (.int .i64 xn) ∧ W.cell? ⟨ob, 11, none⟩ = some (.slice mp ml mc) ∧ W.cell? ⟨b, 0, none⟩ = some (.string s) ∧ W.cell? ⟨b, 1, none⟩ = some (.int .i64 gc) ∧ W.cell? ⟨b, 2, none⟩ = some (.int .i64 z)) ∧ GaIn w W b ob ⟨s, gc, z⟩ ⟨xc, xs, 14, p, q, xz, xh, xo, xt, xi, xn, mp, ml, mc⟩) (by kernel_rfl) (by kernel_rfl) (by kernel_rfl) ⟨HIN.out.cells, HIN.out⟩ ?_
      repeat (first | refine kwL ?_ | refine kwU ?_)
      refine kw_call (v := .bool false) (f := 22) (args := #[.agg #[.int .i64 xc, .int .i64 xs, .int .i64 14, .string (bs p), .string (bs q), .int .i64 xz, .int .i64 xh, .int .i64 xo, .string xt, .int .i64 xi, .int .i64 xn, .slice mp ml mc]]) (by rfl) (by intro W hSw; go_simp; try with_reducible rfl) (fun W hS => (HGD.out W hS.2.bl).mono (fun e W2 h => ⟨h.1, (hS.2.next h.2).cells, hS.2.next h.2⟩)) (by simp only [Act.put, List.setIfInBounds_toArray, List.set_cons_zero, List.set_cons_succ]; rfl) ?_
      repeat (first | refine kwL ?_ | refine kwU ?_)
      refine kw_nil (fun W hW => ?_)
      have HI := Lib.hid hW.2
      clear hW
      go_wp2_with fail
      exact HNQ.out _ HI.out.bl
    · by_cases ho : xo = (s.size : Int)
      · subst ho
        by_cases hz : 0 < z
        · by_cases he : (s.size : Int) = z
          · have HNQ := Lib.hid (HNO.out (Or.inr (Or.inr (Or.inr ⟨hz, Or.inl he⟩))))
            have qe : ((s.size : Int) == z) = true := by simpa using he
            refine region_kwalk (S := fun W => (W.cell? ⟨ob, 0, none⟩ = some (.int .i64 xc) ∧ W.cell? ⟨ob, 1, none⟩ = some (.int .i64 xs) ∧ W.cell? ⟨ob, 2, none⟩ = some (.int .i64 14) ∧ W.cell? ⟨ob, 3, none⟩ = some (.string (bs p)) ∧ W.cell? ⟨ob, 4, none⟩ = some (.string (bs q)) ∧ W.cell? ⟨ob, 5, none⟩ = some (.int .i64 xz) ∧ W.cell? ⟨ob, 6, none⟩ = some (.int .i64 xh) ∧ W.cell? ⟨ob, 7, none⟩ = some (.int .i64 (s.size : Int)) ∧ W.cell? ⟨ob, 8, none⟩ = some (.string xt) ∧ W.cell? ⟨ob, 9, none⟩ = some (.int .i64 xi) ∧ W.cell? ⟨ob, 10, none⟩ = some (.int .i64 xn) ∧ W.cell? ⟨ob, 11, none⟩ = some (.slice mp ml mc) ∧ W.cell? ⟨b, 0, none⟩ = some (.string s) ∧ W.cell? ⟨b, 1, none⟩ = some (.int .i64 gc) ∧ W.cell? ⟨b, 2, none⟩ = some (.int .i64 z)) ∧ GaIn w W b ob ⟨s, gc, z⟩ ⟨xc, xs, 14, p, q, xz, xh, (s.size : Int), xt, xi, xn, mp, ml, mc⟩) (by kernel_rfl) (by kernel_rfl) (by kernel_rfl) ⟨HIN.out.cells, HIN.out⟩ ?_
            repeat (first | refine kwL ?_ | refine kwU ?_)
            refine kw_call (v := .bool true) (f := 22) (args := #[.agg #[.int .i64 xc, .int .i64 xs, .int .i64 14, .string (bs p), .string (bs q), .int .i64 xz, .int .i64 xh, .int .i64 (s.size : Int), .string xt, .int .i64 xi, .int .i64 xn, .slice mp ml mc]]) (by rfl) (by intro W hSw; go_simp; try with_reducible rfl) (fun W hS => (HGD.out W hS.2.bl).mono (fun e W2 h => ⟨h.1, (hS.2.next h.2).cells, hS.2.next h.2⟩)) (by simp only [Act.put, List.setIfInBounds_toArray, List.set_cons_zero, List.set_cons_succ]; rfl) ?_
            repeat (first | refine kwL ?_ | refine kwU ?_)
            refine kw_nil (fun W hW => ?_)
            have HI := Lib.hid hW.2
            clear hW
            go_wp2_with fail
            exact HNQ.out _ HI.out.bl
          · have qe : ((s.size : Int) == z) = false := by simpa using he
            by_cases hc : xc = gc
            · have qc : (xc == gc) = true := by simpa using hc
              have qcn : (xc != gc) = false := by simp [bne, qc]
              by_cases hy : xz = z
              · have HYES := Lib.hid (HYES.out (by simp [he, hc, hy]))
                have qy : (xz == z) = true := by simpa using hy
                have qyn : (xz != z) = false := by simp [bne, qy]
                clear hc hy he
                refine region_kwalk (S := fun W => (W.cell? ⟨ob, 0, none⟩ = some (.int .i64 xc) ∧ W.cell? ⟨ob, 1, none⟩ = some (.int .i64 xs) ∧ W.cell? ⟨ob, 2, none⟩ = some (.int .i64 14) ∧ W.cell? ⟨ob, 3, none⟩ = some (.string (bs p)) ∧ W.cell? ⟨ob, 4, none⟩ = some (.string (bs q)) ∧ W.cell? ⟨ob, 5, none⟩ = some (.int .i64 xz) ∧ W.cell? ⟨ob, 6, none⟩ = some (.int .i64 xh) ∧ W.cell? ⟨ob, 7, none⟩ = some (.int .i64 (s.size : Int)) ∧ W.cell? ⟨ob, 8, none⟩ = some (.string xt) ∧ W.cell? ⟨ob, 9, none⟩ = some (.int .i64 xi) ∧ W.cell? ⟨ob, 10, none⟩ = some (.int .i64 xn) ∧ W.cell? ⟨ob, 11, none⟩ = some (.slice mp ml mc) ∧ W.cell? ⟨b, 0, none⟩ = some (.string s) ∧ W.cell? ⟨b, 1, none⟩ = some (.int .i64 gc) ∧ W.cell? ⟨b, 2, none⟩ = some (.int .i64 z)) ∧ GaIn w W b ob ⟨s, gc, z⟩ ⟨xc, xs, 14, p, q, xz, xh, (s.size : Int), xt, xi, xn, mp, ml, mc⟩) (by kernel_rfl) (by kernel_rfl) (by kernel_rfl) ⟨HIN.out.cells, HIN.out⟩ ?_
                repeat (first | refine kwL ?_ | refine kwU ?_)
                refine kw_call (v := .bool true) (f := 22) (args := #[.agg #[.int .i64 xc, .int .i64 xs, .int .i64 14, .string (bs p), .string (bs q), .int .i64 xz, .int .i64 xh, .int .i64 (s.size : Int), .string xt, .int .i64 xi, .int .i64 xn, .slice mp ml mc]]) (by rfl) (by intro W hSw; go_simp; try with_reducible rfl) (fun W hS => (HGD.out W hS.2.bl).mono (fun e W2 h => ⟨h.1, (hS.2.next h.2).cells, hS.2.next h.2⟩)) (by simp only [Act.put, List.setIfInBounds_toArray, List.set_cons_zero, List.set_cons_succ]; rfl) ?_
                repeat (first | refine kwL ?_ | refine kwU ?_)
                refine kw_nil (fun W hW => ?_)
                have HI := Lib.hid hW.2
                clear hW
                obtain ⟨t0, t1, t2, t3, t4, t5, t6, t7, t8, t9, t10, t11, d0, d1, d2⟩ := HI.out.cells
                have f0 := HI.out.ga.f0
                have f1 := HI.out.ga.f1
                have f2 := HI.out.ga.f2
                have hfew : s.size ≤ 65536 := HI.out.ga.few
                obtain ⟨g1, g2, g3⟩ := HGF.out rfl rfl
                have hsm : (9223372036854775807 < s.size + xt.size) = False := by rw [eq_iff_iff, iff_false]; omega
                have hobb := HNE.out
                have hobb2 := Ne.symm hobb
                go_wp2_with fail
                refine region_tail 9 (by kernel_rfl) (by kernel_rfl) (fun T hT K hK => ?_)
                simp only [List.take_succ_cons, List.take_zero]
                repeat still_step
                refine wpStill_nil (hK _ ?_)
                clear hK
                simp only [List.drop_succ_cons, List.drop_zero] at hT
                subst hT
                go_wp2
                obtain ⟨V, hV⟩ : ∃ V, V = (W.setCell ⟨b, 0, none⟩ (.string (s ++ xt))).drew := ⟨_, rfl⟩
                rw [← hV]
                have hMV : Mod (· = b) W V := by rw [hV]; exact (Mod.setCellAt (F := (· = b)) (Mod.refl (· = b) W) (fun _ => rfl) _).drew
                have v0 := hMV.at t0 hobb
                have v5 := hMV.at t5 hobb
                have e0 : V.cell? ⟨b, 0, none⟩ = some (.string (s ++ xt)) := by rw [hV]; go_simp
                have e1 : V.cell? ⟨b, 1, none⟩ = some (.int .i64 gc) := by rw [hV]; go_simp
                have e2 : V.cell? ⟨b, 2, none⟩ = some (.int .i64 z) := by rw [hV]; go_simp
                have r0 : V.frozen? ⟨b, 0, none⟩ = false := by rw [hV]; go_simp
                have r1 : V.frozen? ⟨b, 1, none⟩ = false := by rw [hV]; go_simp
                have r2 : V.frozen? ⟨b, 2, none⟩ = false := by rw [hV]; go_simp
                have HMV := Lib.hid hMV
                clear hMV hV d0 d1 d2 f0 f1 f2 t0 t1 t2 t3 t4 t5 t6 t7 t8 t9 t10 t11
                have hKd : V.drew.cell? ⟨ob, 0, none⟩ = some (.int .i64 xc) ∧ V.drew.cell? ⟨ob, 5, none⟩ = some (.int .i64 xz) := ⟨v0, v5⟩
                have hK1 : ∀ o v, (V.drew.setCell ⟨b, o, none⟩ v).cell? ⟨ob, 0, none⟩ = some (.int .i64 xc) ∧ (V.drew.setCell ⟨b, o, none⟩ v).cell? ⟨ob, 5, none⟩ = some (.int .i64 xz) := fun o v => have hm : Mod (· = b) V.drew (V.drew.setCell ⟨b, o, none⟩ v) := (Mod.refl (· = b) V.drew).setCellAt (fun _ => rfl) _; ⟨hm.at hKd.1 hobb, hm.at hKd.2 hobb⟩
                have hK2 : ∀ o v o2 v2, ((V.drew.setCell ⟨b, o, none⟩ v).setCell ⟨b, o2, none⟩ v2).cell? ⟨ob, 0, none⟩ = some (.int .i64 xc) ∧ ((V.drew.setCell ⟨b, o, none⟩ v).setCell ⟨b, o2, none⟩ v2).cell? ⟨ob, 5, none⟩ = some (.int .i64 xz) := fun o v o2 v2 => have hm : Mod (· = b) V.drew ((V.drew.setCell ⟨b, o, none⟩ v).setCell ⟨b, o2, none⟩ v2) := ((Mod.refl (· = b) V.drew).setCellAt (fun _ => rfl) _).setCellAt (fun _ => rfl) _; ⟨hm.at hKd.1 hobb, hm.at hKd.2 hobb⟩
                go_region_held3 (fun W2 => W2.cell? ⟨ob, 0, none⟩ = some (.int .i64 xc) ∧ W2.cell? ⟨ob, 5, none⟩ = some (.int .i64 xz))
                  (first
                    | with_reducible exact hKd
                    | with_reducible exact hK1 _ _
                    | with_reducible exact hK2 _ _ _ _
                    | exact hKd
                    | exact hK1 _ _
                    | exact hK2 _ _ _ _)
                  (fail)
                go_wp2_with fail
                show R (.returned (.bool true)) _
                refine HYES.out _ ⟨by go_simp; rfl, by go_simp; rfl, by go_simp; rfl, by go_simp, by go_simp, by go_simp, ?_⟩ ?_
                · show (s ++ xt).size ≤ 65536
                  rw [ByteArray.size_append]
                  omega
                · exact modC (Mod.trans (Mod.of_below HI.out.bl) HMV.out)
              · have HNQ := Lib.hid (HNO.out (Or.inr (Or.inr (Or.inr ⟨hz, Or.inr (Or.inr hy)⟩))))
                have qy : (xz == z) = false := by simpa using hy
                have qyn : (xz != z) = true := by simp [bne, qy]
                refine region_kwalk (S := fun W => (W.cell? ⟨ob, 0, none⟩ = some (.int .i64 xc) ∧ W.cell? ⟨ob, 1, none⟩ = some (.int .i64 xs) ∧ W.cell? ⟨ob, 2, none⟩ = some (.int .i64 14) ∧ W.cell? ⟨ob, 3, none⟩ = some (.string (bs p)) ∧ W.cell? ⟨ob, 4, none⟩ = some (.string (bs q)) ∧ W.cell? ⟨ob, 5, none⟩ = some (.int .i64 xz) ∧ W.cell? ⟨ob, 6, none⟩ = some (.int .i64 xh) ∧ W.cell? ⟨ob, 7, none⟩ = some (.int .i64 (s.size : Int)) ∧ W.cell? ⟨ob, 8, none⟩ = some (.string xt) ∧ W.cell? ⟨ob, 9, none⟩ = some (.int .i64 xi) ∧ W.cell? ⟨ob, 10, none⟩ = some (.int .i64 xn) ∧ W.cell? ⟨ob, 11, none⟩ = some (.slice mp ml mc) ∧ W.cell? ⟨b, 0, none⟩ = some (.string s) ∧ W.cell? ⟨b, 1, none⟩ = some (.int .i64 gc) ∧ W.cell? ⟨b, 2, none⟩ = some (.int .i64 z)) ∧ GaIn w W b ob ⟨s, gc, z⟩ ⟨xc, xs, 14, p, q, xz, xh, (s.size : Int), xt, xi, xn, mp, ml, mc⟩) (by kernel_rfl) (by kernel_rfl) (by kernel_rfl) ⟨HIN.out.cells, HIN.out⟩ ?_
                repeat (first | refine kwL ?_ | refine kwU ?_)
                refine kw_call (v := .bool true) (f := 22) (args := #[.agg #[.int .i64 xc, .int .i64 xs, .int .i64 14, .string (bs p), .string (bs q), .int .i64 xz, .int .i64 xh, .int .i64 (s.size : Int), .string xt, .int .i64 xi, .int .i64 xn, .slice mp ml mc]]) (by rfl) (by intro W hSw; go_simp; try with_reducible rfl) (fun W hS => (HGD.out W hS.2.bl).mono (fun e W2 h => ⟨h.1, (hS.2.next h.2).cells, hS.2.next h.2⟩)) (by simp only [Act.put, List.setIfInBounds_toArray, List.set_cons_zero, List.set_cons_succ]; rfl) ?_
                repeat (first | refine kwL ?_ | refine kwU ?_)
                refine kw_nil (fun W hW => ?_)
                have HI := Lib.hid hW.2
                clear hW
                go_wp2_with fail
                exact HNQ.out _ HI.out.bl
            · have HNQ := Lib.hid (HNO.out (Or.inr (Or.inr (Or.inr ⟨hz, Or.inr (Or.inl hc)⟩))))
              have qc : (xc == gc) = false := by simpa using hc
              have qcn : (xc != gc) = true := by simp [bne, qc]
              refine region_kwalk (S := fun W => (W.cell? ⟨ob, 0, none⟩ = some (.int .i64 xc) ∧ W.cell? ⟨ob, 1, none⟩ = some (.int .i64 xs) ∧ W.cell? ⟨ob, 2, none⟩ = some (.int .i64 14) ∧ W.cell? ⟨ob, 3, none⟩ = some (.string (bs p)) ∧ W.cell? ⟨ob, 4, none⟩ = some (.string (bs q)) ∧ W.cell? ⟨ob, 5, none⟩ = some (.int .i64 xz) ∧ W.cell? ⟨ob, 6, none⟩ = some (.int .i64 xh) ∧ W.cell? ⟨ob, 7, none⟩ = some (.int .i64 (s.size : Int)) ∧ W.cell? ⟨ob, 8, none⟩ = some (.string xt) ∧ W.cell? ⟨ob, 9, none⟩ = some (.int .i64 xi) ∧ W.cell? ⟨ob, 10, none⟩ = some (.int .i64 xn) ∧ W.cell? ⟨ob, 11, none⟩ = some (.slice mp ml mc) ∧ W.cell? ⟨b, 0, none⟩ = some (.string s) ∧ W.cell? ⟨b, 1, none⟩ = some (.int .i64 gc) ∧ W.cell? ⟨b, 2, none⟩ = some (.int .i64 z)) ∧ GaIn w W b ob ⟨s, gc, z⟩ ⟨xc, xs, 14, p, q, xz, xh, (s.size : Int), xt, xi, xn, mp, ml, mc⟩) (by kernel_rfl) (by kernel_rfl) (by kernel_rfl) ⟨HIN.out.cells, HIN.out⟩ ?_
              repeat (first | refine kwL ?_ | refine kwU ?_)
              refine kw_call (v := .bool true) (f := 22) (args := #[.agg #[.int .i64 xc, .int .i64 xs, .int .i64 14, .string (bs p), .string (bs q), .int .i64 xz, .int .i64 xh, .int .i64 (s.size : Int), .string xt, .int .i64 xi, .int .i64 xn, .slice mp ml mc]]) (by rfl) (by intro W hSw; go_simp; try with_reducible rfl) (fun W hS => (HGD.out W hS.2.bl).mono (fun e W2 h => ⟨h.1, (hS.2.next h.2).cells, hS.2.next h.2⟩)) (by simp only [Act.put, List.setIfInBounds_toArray, List.set_cons_zero, List.set_cons_succ]; rfl) ?_
              repeat (first | refine kwL ?_ | refine kwU ?_)
              refine kw_nil (fun W hW => ?_)
              have HI := Lib.hid hW.2
              clear hW
              go_wp2_with fail
              exact HNQ.out _ HI.out.bl
        · have HYES := Lib.hid (HYES.out (by simp [hz]))
          have qz : decide (0 < z) = false := by simpa using hz
          refine region_kwalk (S := fun W => (W.cell? ⟨ob, 0, none⟩ = some (.int .i64 xc) ∧ W.cell? ⟨ob, 1, none⟩ = some (.int .i64 xs) ∧ W.cell? ⟨ob, 2, none⟩ = some (.int .i64 14) ∧ W.cell? ⟨ob, 3, none⟩ = some (.string (bs p)) ∧ W.cell? ⟨ob, 4, none⟩ = some (.string (bs q)) ∧ W.cell? ⟨ob, 5, none⟩ = some (.int .i64 xz) ∧ W.cell? ⟨ob, 6, none⟩ = some (.int .i64 xh) ∧ W.cell? ⟨ob, 7, none⟩ = some (.int .i64 (s.size : Int)) ∧ W.cell? ⟨ob, 8, none⟩ = some (.string xt) ∧ W.cell? ⟨ob, 9, none⟩ = some (.int .i64 xi) ∧ W.cell? ⟨ob, 10, none⟩ = some (.int .i64 xn) ∧ W.cell? ⟨ob, 11, none⟩ = some (.slice mp ml mc) ∧ W.cell? ⟨b, 0, none⟩ = some (.string s) ∧ W.cell? ⟨b, 1, none⟩ = some (.int .i64 gc) ∧ W.cell? ⟨b, 2, none⟩ = some (.int .i64 z)) ∧ GaIn w W b ob ⟨s, gc, z⟩ ⟨xc, xs, 14, p, q, xz, xh, (s.size : Int), xt, xi, xn, mp, ml, mc⟩) (by kernel_rfl) (by kernel_rfl) (by kernel_rfl) ⟨HIN.out.cells, HIN.out⟩ ?_
          repeat (first | refine kwL ?_ | refine kwU ?_)
          refine kw_call (v := .bool true) (f := 22) (args := #[.agg #[.int .i64 xc, .int .i64 xs, .int .i64 14, .string (bs p), .string (bs q), .int .i64 xz, .int .i64 xh, .int .i64 (s.size : Int), .string xt, .int .i64 xi, .int .i64 xn, .slice mp ml mc]]) (by rfl) (by intro W hSw; go_simp; try with_reducible rfl) (fun W hS => (HGD.out W hS.2.bl).mono (fun e W2 h => ⟨h.1, (hS.2.next h.2).cells, hS.2.next h.2⟩)) (by simp only [Act.put, List.setIfInBounds_toArray, List.set_cons_zero, List.set_cons_succ]; rfl) ?_
          repeat (first | refine kwL ?_ | refine kwU ?_)
          refine kw_nil (fun W hW => ?_)
          have HI := Lib.hid hW.2
          clear hW
          obtain ⟨t0, t1, t2, t3, t4, t5, t6, t7, t8, t9, t10, t11, d0, d1, d2⟩ := HI.out.cells
          have f0 := HI.out.ga.f0
          have f1 := HI.out.ga.f1
          have f2 := HI.out.ga.f2
          have hfew : s.size ≤ 65536 := HI.out.ga.few
          obtain ⟨g1, g2, g3⟩ := HGF.out rfl rfl
          have hsm : (9223372036854775807 < s.size + xt.size) = False := by rw [eq_iff_iff, iff_false]; omega
          have hobb := HNE.out
          have hobb2 := Ne.symm hobb
          go_wp2_with fail
          refine region_tail 9 (by kernel_rfl) (by kernel_rfl) (fun T hT K hK => ?_)
          simp only [List.take_succ_cons, List.take_zero]
          repeat still_step
          refine wpStill_nil (hK _ ?_)
          clear hK
          simp only [List.drop_succ_cons, List.drop_zero] at hT
          subst hT
          go_wp2
          obtain ⟨V, hV⟩ : ∃ V, V = (W.setCell ⟨b, 0, none⟩ (.string (s ++ xt))).drew := ⟨_, rfl⟩
          rw [← hV]
          have hMV : Mod (· = b) W V := by rw [hV]; exact (Mod.setCellAt (F := (· = b)) (Mod.refl (· = b) W) (fun _ => rfl) _).drew
          have v0 := hMV.at t0 hobb
          have v5 := hMV.at t5 hobb
          have e0 : V.cell? ⟨b, 0, none⟩ = some (.string (s ++ xt)) := by rw [hV]; go_simp
          have e1 : V.cell? ⟨b, 1, none⟩ = some (.int .i64 gc) := by rw [hV]; go_simp
          have e2 : V.cell? ⟨b, 2, none⟩ = some (.int .i64 z) := by rw [hV]; go_simp
          have r0 : V.frozen? ⟨b, 0, none⟩ = false := by rw [hV]; go_simp
          have r1 : V.frozen? ⟨b, 1, none⟩ = false := by rw [hV]; go_simp
          have r2 : V.frozen? ⟨b, 2, none⟩ = false := by rw [hV]; go_simp
          have HMV := Lib.hid hMV
          clear hMV hV d0 d1 d2 f0 f1 f2 t0 t1 t2 t3 t4 t5 t6 t7 t8 t9 t10 t11
          have hKd : V.drew.cell? ⟨ob, 0, none⟩ = some (.int .i64 xc) ∧ V.drew.cell? ⟨ob, 5, none⟩ = some (.int .i64 xz) := ⟨v0, v5⟩
          have hK1 : ∀ o v, (V.drew.setCell ⟨b, o, none⟩ v).cell? ⟨ob, 0, none⟩ = some (.int .i64 xc) ∧ (V.drew.setCell ⟨b, o, none⟩ v).cell? ⟨ob, 5, none⟩ = some (.int .i64 xz) := fun o v => have hm : Mod (· = b) V.drew (V.drew.setCell ⟨b, o, none⟩ v) := (Mod.refl (· = b) V.drew).setCellAt (fun _ => rfl) _; ⟨hm.at hKd.1 hobb, hm.at hKd.2 hobb⟩
          have hK2 : ∀ o v o2 v2, ((V.drew.setCell ⟨b, o, none⟩ v).setCell ⟨b, o2, none⟩ v2).cell? ⟨ob, 0, none⟩ = some (.int .i64 xc) ∧ ((V.drew.setCell ⟨b, o, none⟩ v).setCell ⟨b, o2, none⟩ v2).cell? ⟨ob, 5, none⟩ = some (.int .i64 xz) := fun o v o2 v2 => have hm : Mod (· = b) V.drew ((V.drew.setCell ⟨b, o, none⟩ v).setCell ⟨b, o2, none⟩ v2) := ((Mod.refl (· = b) V.drew).setCellAt (fun _ => rfl) _).setCellAt (fun _ => rfl) _; ⟨hm.at hKd.1 hobb, hm.at hKd.2 hobb⟩
          go_region_held3 (fun W2 => W2.cell? ⟨ob, 0, none⟩ = some (.int .i64 xc) ∧ W2.cell? ⟨ob, 5, none⟩ = some (.int .i64 xz))
            (first
              | with_reducible exact hKd
              | with_reducible exact hK1 _ _
              | with_reducible exact hK2 _ _ _ _
              | exact hKd
              | exact hK1 _ _
              | exact hK2 _ _ _ _)
            (fail)
          go_wp2_with fail
          show R (.returned (.bool true)) _
          refine HYES.out _ ⟨by go_simp; rfl, by go_simp; rfl, by go_simp; rfl, by go_simp, by go_simp, by go_simp, ?_⟩ ?_
          · show (s ++ xt).size ≤ 65536
            rw [ByteArray.size_append]
            omega
          · exact modC (Mod.trans (Mod.of_below HI.out.bl) HMV.out)
      · have HNQ := Lib.hid (HNO.out (Or.inr (Or.inr (Or.inl ho))))
        have qo : (xo == (s.size : Int)) = false := by simpa using ho
        have qon : (xo != (s.size : Int)) = true := by simp [bne, qo]
        refine region_kwalk (S := fun W => (W.cell? ⟨ob, 0, none⟩ = some (.int .i64 xc) ∧ W.cell? ⟨ob, 1, none⟩ = some (.int .i64 xs) ∧ W.cell? ⟨ob, 2, none⟩ = some (.int .i64 14) ∧ W.cell? ⟨ob, 3, none⟩ = some (.string (bs p)) ∧ W.cell? ⟨ob, 4, none⟩ = some (.string (bs q)) ∧ W.cell? ⟨ob, 5, none⟩ = some (.int .i64 xz) ∧ W.cell? ⟨ob, 6, none⟩ = some (.int .i64 xh) ∧ W.cell? ⟨ob, 7, none⟩ = some (.int .i64 xo) ∧ W.cell? ⟨ob, 8, none⟩ = some (.string xt) ∧ W.cell? ⟨ob, 9, none⟩ = some (.int .i64 xi) ∧ W.cell? ⟨ob, 10, none⟩ = some (.int .i64 xn) ∧ W.cell? ⟨ob, 11, none⟩ = some (.slice mp ml mc) ∧ W.cell? ⟨b, 0, none⟩ = some (.string s) ∧ W.cell? ⟨b, 1, none⟩ = some (.int .i64 gc) ∧ W.cell? ⟨b, 2, none⟩ = some (.int .i64 z)) ∧ GaIn w W b ob ⟨s, gc, z⟩ ⟨xc, xs, 14, p, q, xz, xh, xo, xt, xi, xn, mp, ml, mc⟩) (by kernel_rfl) (by kernel_rfl) (by kernel_rfl) ⟨HIN.out.cells, HIN.out⟩ ?_
        repeat (first | refine kwL ?_ | refine kwU ?_)
        refine kw_call (v := .bool true) (f := 22) (args := #[.agg #[.int .i64 xc, .int .i64 xs, .int .i64 14, .string (bs p), .string (bs q), .int .i64 xz, .int .i64 xh, .int .i64 xo, .string xt, .int .i64 xi, .int .i64 xn, .slice mp ml mc]]) (by rfl) (by intro W hSw; go_simp; try with_reducible rfl) (fun W hS => (HGD.out W hS.2.bl).mono (fun e W2 h => ⟨h.1, (hS.2.next h.2).cells, hS.2.next h.2⟩)) (by simp only [Act.put, List.setIfInBounds_toArray, List.set_cons_zero, List.set_cons_succ]; rfl) ?_
        repeat (first | refine kwL ?_ | refine kwU ?_)
        refine kw_nil (fun W hW => ?_)
        have HI := Lib.hid hW.2
        clear hW
        go_wp2_with fail
        exact HNQ.out _ HI.out.bl
  · have HNQ := Lib.hid (HNO.out (Or.inl hk))
    have qk : (xk == 14) = false := by simpa using hk
    have qkn : (xk != 14) = true := by simp [bne, qk]
    refine region_kwalk (S := fun W => (W.cell? ⟨ob, 0, none⟩ = some (.int .i64 xc) ∧ W.cell? ⟨ob, 1, none⟩ = some (.int .i64 xs) ∧ W.cell? ⟨ob, 2, none⟩ = some (.int .i64 xk) ∧ W.cell? ⟨ob, 3, none⟩ = some (.string (bs p)) ∧ W.cell? ⟨ob, 4, none⟩ = some (.string (bs q)) ∧ W.cell? ⟨ob, 5, none⟩ = some (.int .i64 xz) ∧ W.cell? ⟨ob, 6, none⟩ = some (.int .i64 xh) ∧ W.cell? ⟨ob, 7, none⟩ = some (.int .i64 xo) ∧ W.cell? ⟨ob, 8, none⟩ = some (.string xt) ∧ W.cell? ⟨ob, 9, none⟩ = some (.int .i64 xi) ∧ W.cell? ⟨ob, 10, none⟩ = some (.int .i64 xn) ∧ W.cell? ⟨ob, 11, none⟩ = some (.slice mp ml mc) ∧ W.cell? ⟨b, 0, none⟩ = some (.string s) ∧ W.cell? ⟨b, 1, none⟩ = some (.int .i64 gc) ∧ W.cell? ⟨b, 2, none⟩ = some (.int .i64 z)) ∧ GaIn w W b ob ⟨s, gc, z⟩ ⟨xc, xs, xk, p, q, xz, xh, xo, xt, xi, xn, mp, ml, mc⟩) (by kernel_rfl) (by kernel_rfl) (by kernel_rfl) ⟨HIN.out.cells, HIN.out⟩ ?_
    repeat (first | refine kwL ?_ | refine kwU ?_)
    refine kw_nil (fun W hW => ?_)
    have HI := Lib.hid hW.2
    clear hW
    go_wp2_with fail
    exact HNQ.out _ HI.out.bl
end Go.Proofs.YtpfcomepecgcmaaGreatDoor
/- the document's Gather -/
namespace Esch
open Go Go.RowKit
structure RGaAt (w : World) (b : Nat) (g : GaS) : Prop where
  c0 : w.cell? ⟨b, 0, none⟩ = some (.string g.s)
  c1 : w.cell? ⟨b, 1, none⟩ = some (.int .i64 g.client)
  c2 : w.cell? ⟨b, 2, none⟩ = some (.int .i64 g.size)
  c3 : w.cell? ⟨b, 3, none⟩ = some (.bool (decide (0 < g.size)))
  f0 : w.frozen? ⟨b, 0, none⟩ = false
  f1 : w.frozen? ⟨b, 1, none⟩ = false
  f2 : w.frozen? ⟨b, 2, none⟩ = false
  f3 : w.frozen? ⟨b, 3, none⟩ = false
  few : g.s.size ≤ 65536
  le : (g.s.size : Int) ≤ g.size
theorem RGaAt.mod {F : Nat → Prop} {w w' : World} {b : Nat} {g : GaS} (h : RGaAt w b g) (hM : Mod F w w') (hb : ¬ F b) : RGaAt w' b g :=
  have hl := cell_lt h.c0
  ⟨hM.at h.c0 hb, hM.at h.c1 hb, hM.at h.c2 hb, hM.at h.c3 hb, (hM.frozen (p := ⟨b, 0, none⟩) hl hb).trans h.f0, (hM.frozen (p := ⟨b, 1, none⟩) hl hb).trans h.f1, (hM.frozen (p := ⟨b, 2, none⟩) hl hb).trans h.f2, (hM.frozen (p := ⟨b, 3, none⟩) hl hb).trans h.f3, h.few, h.le⟩
theorem RGaAt.below' {w w' : World} {b : Nat} {g : GaS} (h : RGaAt w b g) (hB : Below w.heap.size w w') : RGaAt w' b g := h.mod (F := none') (Mod.of_below hB) id
end Esch
namespace Go.Proofs.YtpfcomepecgcmaaGreatDoor
open Go.RowKit Esch Go.Shelf

theorem good14z {x : OpS} {mv : List Mv} (e : x.good mv = true) (hk : x.kind = 14) : x.off + x.data.size ≤ x.size := by
  unfold OpS.good at e
  simp only [Bool.and_eq_true] at e
  have h := e.1.2
  unfold OpS.form at h
  rw [hk] at h
  simp [winB] at h
  omega
def RGaAddPost (w : World) (b : Nat) (g : GaS) (x : OpS) (mv : List Mv) (e : Ending) (w' : World) : Prop :=
  (g.no x mv ∧ e = .returned (.bool false) ∧ Below w.heap.size w w') ∨ (¬ g.no x mv ∧ e = .returned (.bool true) ∧ RGaAt w' b (g.put x) ∧ Mod (· = b) w w')
structure RGaIn (w W : World) (b ob : Nat) (g : GaS) (x : OpS) : Prop where
  ga : RGaAt W b g
  op : OpAt W ob x
  bl : Below w.heap.size w W
theorem RGaIn.next {w W W' : World} {b ob : Nat} {g : GaS} {x : OpS} (h : RGaIn w W b ob g x) (hB : Below W.heap.size W W') : RGaIn w W' b ob g x := by
  have hl : ob < W.heap.size := cell_lt (o := 0) (v := .int .i64 x.client) ((h.op.1 0 (by decide)).trans rfl)
  refine ⟨h.ga.below' hB, ⟨fun j hj => ?_, fun j => ?_⟩, h.bl.trans (hB.mono h.bl.size)⟩
  · exact (hB.cell (p := ⟨ob, j, none⟩) hl).trans (h.op.1 j hj)
  · exact ((Mod.of_below (F := none') hB).frozen (p := ⟨ob, j, none⟩) hl id).trans (h.op.2 j)
theorem RGaIn.cells {w W : World} {b ob : Nat} {s : ByteArray} {gc z : Int} {xc xs xk : Int} {p q : Nm} {xz xh xo : Int} {xt : ByteArray} {xi xn : Int} {mp : Option Addr} {ml mc : Nat} (h : RGaIn w W b ob ⟨s, gc, z⟩ ⟨xc, xs, xk, p, q, xz, xh, xo, xt, xi, xn, mp, ml, mc⟩) : W.cell? ⟨ob, 0, none⟩ = some (.int .i64 xc) ∧ W.cell? ⟨ob, 1, none⟩ = some (.int .i64 xs) ∧ W.cell? ⟨ob, 2, none⟩ = some (.int .i64 xk) ∧ W.cell? ⟨ob, 3, none⟩ = some (.string (bs p)) ∧ W.cell? ⟨ob, 4, none⟩ = some (.string (bs q)) ∧ W.cell? ⟨ob, 5, none⟩ = some (.int .i64 xz) ∧ W.cell? ⟨ob, 6, none⟩ = some (.int .i64 xh) ∧ W.cell? ⟨ob, 7, none⟩ = some (.int .i64 xo) ∧ W.cell? ⟨ob, 8, none⟩ = some (.string xt) ∧ W.cell? ⟨ob, 9, none⟩ = some (.int .i64 xi) ∧ W.cell? ⟨ob, 10, none⟩ = some (.int .i64 xn) ∧ W.cell? ⟨ob, 11, none⟩ = some (.slice mp ml mc) ∧ W.cell? ⟨b, 0, none⟩ = some (.string s) ∧ W.cell? ⟨b, 1, none⟩ = some (.int .i64 gc) ∧ W.cell? ⟨b, 2, none⟩ = some (.int .i64 z) ∧ W.cell? ⟨b, 3, none⟩ = some (.bool (decide (0 < z))) :=
  ⟨h.op.1 0 (by decide), h.op.1 1 (by decide), h.op.1 2 (by decide), h.op.1 3 (by decide), h.op.1 4 (by decide), h.op.1 5 (by decide), h.op.1 6 (by decide), h.op.1 7 (by decide), h.op.1 8 (by decide), h.op.1 9 (by decide), h.op.1 10 (by decide), h.op.1 11 (by decide), h.ga.c0, h.ga.c1, h.ga.c2, h.ga.c3⟩
set_option maxRecDepth 100000 in
set_option maxHeartbeats 16000000 in
theorem rgaAdd_any (w : World) (b : Nat) (g : GaS) (x : OpS) (mv : List Mv) (h : RGaAt w b g) (hR : RGd w x mv) :
    Calls Tryz.prog 12 #[.pointer (some ⟨b, 0, none⟩), .agg x.cells.toArray] w (RGaAddPost w b g x mv) := by
  obtain ⟨gd, hgd⟩ : ∃ gd, gd = x.good mv := ⟨_, rfl⟩
  have HGD : Hid (∀ W, Below w.heap.size w W → Calls Tryz.prog 23 #[.agg x.cells.toArray] W (BoolB W gd)) := Lib.hid (fun W hB => by rw [hgd]; exact rgood_all W x mv ⟨hR.h.below' hB, hR.l, hR.p, hR.q⟩)
  have HNO : Hid (g.no x mv → ∀ w', Below w.heap.size w w' → RGaAddPost w b g x mv (.returned (.bool false)) w') := Lib.hid (fun hn w' hB => Or.inl ⟨hn, rfl, hB⟩)
  have HYES : Hid (¬ g.no x mv → ∀ w', RGaAt w' b (g.put x) → Mod (· = b) w w' → RGaAddPost w b g x mv (.returned (.bool true)) w') := Lib.hid (fun hn w' h1 h2 => Or.inr ⟨hn, rfl, h1, h2⟩)
  unfold GaS.no at HNO HYES
  rw [← hgd] at HNO HYES
  have hbl := cell_lt h.c0
  obtain ⟨W1, hW1⟩ : ∃ W1, W1 = w.alloc (.cells x.cells.toArray 33) := ⟨_, rfl⟩
  obtain ⟨ob, hob⟩ : ∃ ob, ob = w.heap.size := ⟨_, rfl⟩
  have hI : RGaIn w W1.drew b ob g x := by
    have hB : Below w.heap.size w W1.drew := by rw [hW1]; exact belC (Below.refl _ _)
    refine ⟨h.below' hB, ?_, hB⟩
    have hh : W1.heap[ob]? = some (.cells x.cells.toArray 33) := by rw [hW1, hob]; exact heap_alloc_new _ _
    refine ⟨fun j hj => by simp [World.cell?, hh], fun j => by simp [World.frozen?, hh]⟩
  have HIN := Lib.hid hI
  have HNE : Hid (ob ≠ b) := Lib.hid (by omega)
  have HGF : Hid (gd = true → x.kind = 14 → 1 ≤ x.data.size ∧ x.data.size ≤ 1024 ∧ x.off + x.data.size ≤ 65536) := Lib.hid (fun e hk => by rw [hgd] at e; exact good14 e hk)
  have HGZ : Hid (gd = true → x.kind = 14 → x.off + x.data.size ≤ x.size) := Lib.hid (fun e hk => by rw [hgd] at e; exact good14z e hk)
  have HW1 := Lib.hid hW1
  have HOB := Lib.hid hob
  obtain ⟨s, gc, z⟩ := g
  obtain ⟨xc, xs, xk, p, q, xz, xh, xo, xt, xi, xn, mp, ml, mc⟩ := x
  simp only [OpS.cells] at HGD HNO HYES HW1 HGF HGZ ⊢
  clear hI hW1 hgd hR hbl h hob
  generalize RGaAddPost w b ⟨s, gc, z⟩ ⟨xc, xs, xk, p, q, xz, xh, xo, xt, xi, xn, mp, ml, mc⟩ mv = R at HNO HYES ⊢
  go_enter Tryz.func12, Tryz.ntmps12
  go_wp2_with fail
  rw [← HOB.out, ← HW1.out]
  by_cases hk : xk = 14
  · subst hk
    cases gd
    · have HNQ : Hid (∀ w', Below w.heap.size w w' → R (.returned (.bool false)) w') := Lib.hid (fun w' h => HNO.out (by simp) w' h)
      refine region_kwalk (S := fun W => (W.cell? ⟨ob, 0, none⟩ = some (.int .i64 xc) ∧ W.cell? ⟨ob, 1, none⟩ = some (.int .i64 xs) ∧ W.cell? ⟨ob, 2, none⟩ = some (.int .i64 14) ∧ W.cell? ⟨ob, 3, none⟩ = some (.string (bs p)) ∧ W.cell? ⟨ob, 4, none⟩ = some (.string (bs q)) ∧ W.cell? ⟨ob, 5, none⟩ = some (.int .i64 xz) ∧ W.cell? ⟨ob, 6, none⟩ = some (.int .i64 xh) ∧ W.cell? ⟨ob, 7, none⟩ = some (.int .i64 xo) ∧ W.cell? ⟨ob, 8, none⟩ = some (.string xt) ∧ W.cell? ⟨ob, 9, none⟩ = some (.int .i64 xi) ∧ W.cell? ⟨ob, 10, none⟩ = some (.int .i64 xn) ∧ W.cell? ⟨ob, 11, none⟩ = some (.slice mp ml mc) ∧ W.cell? ⟨b, 0, none⟩ = some (.string s) ∧ W.cell? ⟨b, 1, none⟩ = some (.int .i64 gc) ∧ W.cell? ⟨b, 2, none⟩ = some (.int .i64 z) ∧ W.cell? ⟨b, 3, none⟩ = some (.bool (decide (0 < z)))) ∧ RGaIn w W b ob ⟨s, gc, z⟩ ⟨xc, xs, 14, p, q, xz, xh, xo, xt, xi, xn, mp, ml, mc⟩) (by kernel_rfl) (by kernel_rfl) (by kernel_rfl) ⟨HIN.out.cells, HIN.out⟩ ?_
      repeat (first | refine kwL ?_ | refine kwU ?_)
      refine kwC (fun W hS => (HGD.out W hS.2.bl).low fun W2 hB => ⟨rfl, (hS.2.next hB).cells, hS.2.next hB⟩) ?_
      repeat (first | refine kwL ?_ | refine kwU ?_)
      refine kw_nil (fun W hW => ?_)
      have HI := Lib.hid hW.2
      clear hW
      go_wp2_with fail
      exact HNQ.out _ HI.out.bl
    · by_cases ho : xo = (s.size : Int)
      · subst ho
        by_cases hz : 0 < z
        · have qz : decide (0 < z) = true := by simpa using hz
          by_cases he : (s.size : Int) = z
          · have HNQ := Lib.hid (HNO.out (Or.inr (Or.inr (Or.inr ⟨hz, Or.inl he⟩))))
            have qe : ((s.size : Int) == z) = true := by simpa using he
            by_cases hc : xc = gc
            · have qc : (xc == gc) = true := by simpa using hc
              have qcn : (xc != gc) = false := by simp [bne, qc]
              by_cases hy : xz = z
              · have qy : (xz == z) = true := by simpa using hy
                have qyn : (xz != z) = false := by simp [bne, qy]
                clear hc hy he
                refine region_kwalk (S := fun W => (W.cell? ⟨ob, 0, none⟩ = some (.int .i64 xc) ∧ W.cell? ⟨ob, 1, none⟩ = some (.int .i64 xs) ∧ W.cell? ⟨ob, 2, none⟩ = some (.int .i64 14) ∧ W.cell? ⟨ob, 3, none⟩ = some (.string (bs p)) ∧ W.cell? ⟨ob, 4, none⟩ = some (.string (bs q)) ∧ W.cell? ⟨ob, 5, none⟩ = some (.int .i64 xz) ∧ W.cell? ⟨ob, 6, none⟩ = some (.int .i64 xh) ∧ W.cell? ⟨ob, 7, none⟩ = some (.int .i64 (s.size : Int)) ∧ W.cell? ⟨ob, 8, none⟩ = some (.string xt) ∧ W.cell? ⟨ob, 9, none⟩ = some (.int .i64 xi) ∧ W.cell? ⟨ob, 10, none⟩ = some (.int .i64 xn) ∧ W.cell? ⟨ob, 11, none⟩ = some (.slice mp ml mc) ∧ W.cell? ⟨b, 0, none⟩ = some (.string s) ∧ W.cell? ⟨b, 1, none⟩ = some (.int .i64 gc) ∧ W.cell? ⟨b, 2, none⟩ = some (.int .i64 z) ∧ W.cell? ⟨b, 3, none⟩ = some (.bool (decide (0 < z)))) ∧ RGaIn w W b ob ⟨s, gc, z⟩ ⟨xc, xs, 14, p, q, xz, xh, (s.size : Int), xt, xi, xn, mp, ml, mc⟩) (by kernel_rfl) (by kernel_rfl) (by kernel_rfl) ⟨HIN.out.cells, HIN.out⟩ ?_
                repeat (first | refine kwL ?_ | refine kwU ?_)
                refine kwC (fun W hS => (HGD.out W hS.2.bl).low fun W2 hB => ⟨rfl, (hS.2.next hB).cells, hS.2.next hB⟩) ?_
                repeat (first | refine kwL ?_ | refine kwU ?_)
                refine kw_nil (fun W hW => ?_)
                have HI := Lib.hid hW.2
                clear hW
                go_wp2_with fail
                exact HNQ.out _ HI.out.bl
              · have qy : (xz == z) = false := by simpa using hy
                have qyn : (xz != z) = true := by simp [bne, qy]
                clear hc hy he
                refine region_kwalk (S := fun W => (W.cell? ⟨ob, 0, none⟩ = some (.int .i64 xc) ∧ W.cell? ⟨ob, 1, none⟩ = some (.int .i64 xs) ∧ W.cell? ⟨ob, 2, none⟩ = some (.int .i64 14) ∧ W.cell? ⟨ob, 3, none⟩ = some (.string (bs p)) ∧ W.cell? ⟨ob, 4, none⟩ = some (.string (bs q)) ∧ W.cell? ⟨ob, 5, none⟩ = some (.int .i64 xz) ∧ W.cell? ⟨ob, 6, none⟩ = some (.int .i64 xh) ∧ W.cell? ⟨ob, 7, none⟩ = some (.int .i64 (s.size : Int)) ∧ W.cell? ⟨ob, 8, none⟩ = some (.string xt) ∧ W.cell? ⟨ob, 9, none⟩ = some (.int .i64 xi) ∧ W.cell? ⟨ob, 10, none⟩ = some (.int .i64 xn) ∧ W.cell? ⟨ob, 11, none⟩ = some (.slice mp ml mc) ∧ W.cell? ⟨b, 0, none⟩ = some (.string s) ∧ W.cell? ⟨b, 1, none⟩ = some (.int .i64 gc) ∧ W.cell? ⟨b, 2, none⟩ = some (.int .i64 z) ∧ W.cell? ⟨b, 3, none⟩ = some (.bool (decide (0 < z)))) ∧ RGaIn w W b ob ⟨s, gc, z⟩ ⟨xc, xs, 14, p, q, xz, xh, (s.size : Int), xt, xi, xn, mp, ml, mc⟩) (by kernel_rfl) (by kernel_rfl) (by kernel_rfl) ⟨HIN.out.cells, HIN.out⟩ ?_
                repeat (first | refine kwL ?_ | refine kwU ?_)
                refine kwC (fun W hS => (HGD.out W hS.2.bl).low fun W2 hB => ⟨rfl, (hS.2.next hB).cells, hS.2.next hB⟩) ?_
                repeat (first | refine kwL ?_ | refine kwU ?_)
                refine kw_nil (fun W hW => ?_)
                have HI := Lib.hid hW.2
                clear hW
                go_wp2_with fail
                exact HNQ.out _ HI.out.bl
            · have qc : (xc == gc) = false := by simpa using hc
              have qcn : (xc != gc) = true := by simp [bne, qc]
              clear hc he
              refine region_kwalk (S := fun W => (W.cell? ⟨ob, 0, none⟩ = some (.int .i64 xc) ∧ W.cell? ⟨ob, 1, none⟩ = some (.int .i64 xs) ∧ W.cell? ⟨ob, 2, none⟩ = some (.int .i64 14) ∧ W.cell? ⟨ob, 3, none⟩ = some (.string (bs p)) ∧ W.cell? ⟨ob, 4, none⟩ = some (.string (bs q)) ∧ W.cell? ⟨ob, 5, none⟩ = some (.int .i64 xz) ∧ W.cell? ⟨ob, 6, none⟩ = some (.int .i64 xh) ∧ W.cell? ⟨ob, 7, none⟩ = some (.int .i64 (s.size : Int)) ∧ W.cell? ⟨ob, 8, none⟩ = some (.string xt) ∧ W.cell? ⟨ob, 9, none⟩ = some (.int .i64 xi) ∧ W.cell? ⟨ob, 10, none⟩ = some (.int .i64 xn) ∧ W.cell? ⟨ob, 11, none⟩ = some (.slice mp ml mc) ∧ W.cell? ⟨b, 0, none⟩ = some (.string s) ∧ W.cell? ⟨b, 1, none⟩ = some (.int .i64 gc) ∧ W.cell? ⟨b, 2, none⟩ = some (.int .i64 z) ∧ W.cell? ⟨b, 3, none⟩ = some (.bool (decide (0 < z)))) ∧ RGaIn w W b ob ⟨s, gc, z⟩ ⟨xc, xs, 14, p, q, xz, xh, (s.size : Int), xt, xi, xn, mp, ml, mc⟩) (by kernel_rfl) (by kernel_rfl) (by kernel_rfl) ⟨HIN.out.cells, HIN.out⟩ ?_
              repeat (first | refine kwL ?_ | refine kwU ?_)
              refine kwC (fun W hS => (HGD.out W hS.2.bl).low fun W2 hB => ⟨rfl, (hS.2.next hB).cells, hS.2.next hB⟩) ?_
              repeat (first | refine kwL ?_ | refine kwU ?_)
              refine kw_nil (fun W hW => ?_)
              have HI := Lib.hid hW.2
              clear hW
              go_wp2_with fail
              exact HNQ.out _ HI.out.bl
          · have qe : ((s.size : Int) == z) = false := by simpa using he
            by_cases hc : xc = gc
            · have qc : (xc == gc) = true := by simpa using hc
              have qcn : (xc != gc) = false := by simp [bne, qc]
              by_cases hy : xz = z
              · have HYES := Lib.hid (HYES.out (by simp [he, hc, hy]))
                have qy : (xz == z) = true := by simpa using hy
                have qyn : (xz != z) = false := by simp [bne, qy]
                clear hc hy he
                refine region_kwalk (S := fun W => (W.cell? ⟨ob, 0, none⟩ = some (.int .i64 xc) ∧ W.cell? ⟨ob, 1, none⟩ = some (.int .i64 xs) ∧ W.cell? ⟨ob, 2, none⟩ = some (.int .i64 14) ∧ W.cell? ⟨ob, 3, none⟩ = some (.string (bs p)) ∧ W.cell? ⟨ob, 4, none⟩ = some (.string (bs q)) ∧ W.cell? ⟨ob, 5, none⟩ = some (.int .i64 xz) ∧ W.cell? ⟨ob, 6, none⟩ = some (.int .i64 xh) ∧ W.cell? ⟨ob, 7, none⟩ = some (.int .i64 (s.size : Int)) ∧ W.cell? ⟨ob, 8, none⟩ = some (.string xt) ∧ W.cell? ⟨ob, 9, none⟩ = some (.int .i64 xi) ∧ W.cell? ⟨ob, 10, none⟩ = some (.int .i64 xn) ∧ W.cell? ⟨ob, 11, none⟩ = some (.slice mp ml mc) ∧ W.cell? ⟨b, 0, none⟩ = some (.string s) ∧ W.cell? ⟨b, 1, none⟩ = some (.int .i64 gc) ∧ W.cell? ⟨b, 2, none⟩ = some (.int .i64 z) ∧ W.cell? ⟨b, 3, none⟩ = some (.bool (decide (0 < z)))) ∧ RGaIn w W b ob ⟨s, gc, z⟩ ⟨xc, xs, 14, p, q, xz, xh, (s.size : Int), xt, xi, xn, mp, ml, mc⟩) (by kernel_rfl) (by kernel_rfl) (by kernel_rfl) ⟨HIN.out.cells, HIN.out⟩ ?_
                repeat (first | refine kwL ?_ | refine kwU ?_)
                refine kwC (fun W hS => (HGD.out W hS.2.bl).low fun W2 hB => ⟨rfl, (hS.2.next hB).cells, hS.2.next hB⟩) ?_
                repeat (first | refine kwL ?_ | refine kwU ?_)
                refine kw_nil (fun W hW => ?_)
                have HI := Lib.hid hW.2
                clear hW
                obtain ⟨t0, t1, t2, t3, t4, t5, t6, t7, t8, t9, t10, t11, d0, d1, d2, d3⟩ := HI.out.cells
                have f0 := HI.out.ga.f0
                have f1 := HI.out.ga.f1
                have f2 := HI.out.ga.f2
                have f3 := HI.out.ga.f3
                have hfew : s.size ≤ 65536 := HI.out.ga.few
                obtain ⟨g1, g2, g3⟩ := HGF.out rfl rfl
                have hxz := HGZ.out rfl rfl
                have hsm : (9223372036854775807 < s.size + xt.size) = False := by rw [eq_iff_iff, iff_false]; omega
                have hobb := HNE.out
                have hobb2 := Ne.symm hobb
                obtain ⟨sz, hsz⟩ : ∃ sz, sz = decide (0 < z) := ⟨_, rfl⟩
                try rw [← hsz] at d3
                clear hsz
                have hz1 : decide ((0 : Int) < xz) = true := by rw [decide_eq_true_eq]; omega
                have HZ1 := Lib.hid hz1
                have HXZ := Lib.hid hxz
                clear hz1 hxz
                have hKd : W.drew.cell? ⟨ob, 0, none⟩ = some (.int .i64 xc) ∧ W.drew.cell? ⟨ob, 5, none⟩ = some (.int .i64 xz) := ⟨t0, t5⟩
                go_wp2_with fail
                refine wp_region_held_drew (S := fun W2 => W2.cell? ⟨ob, 0, none⟩ = some (.int .i64 xc) ∧ W2.cell? ⟨ob, 5, none⟩ = some (.int .i64 xz)) (by kernel_rfl) hKd (fun hHeld => ?_)
                clear hKd
                refine takeL 0 ?_
                refine takeL 1 ?_
                refine takeL 2 ?_
                refine takeL 3 ?_
                refine takeL 4 ?_
                refine takeL 5 ?_
                refine takeL 6 ?_
                refine takeL 7 ?_
                refine takeL 8 ?_
                refine wpAnyH_ready (rs := [9]) (by kernel_rfl) (by simp) ?_
                refine AllReadyH.cons (o := _) rfl (fun K hK => ?_) AllReadyH.nil
                go_simp
                try go_wp2_with fail
                refine hK.out _ _ ⟨by go_simp, by go_simp⟩ (fun hHeld => ?_)
                clear hK K
                try simp only [Act.put, List.setIfInBounds_toArray, List.set_cons_zero, List.set_cons_succ]
                refine takeL 10 ?_
                refine takeL 11 ?_
                refine wpAnyH_ready (rs := [12]) (by kernel_rfl) (by simp) ?_
                refine AllReadyH.cons (o := _) rfl (fun K hK => ?_) AllReadyH.nil
                go_simp
                try go_wp2_with fail
                refine hK.out _ _ ⟨by go_simp, by go_simp⟩ (fun hHeld => ?_)
                clear hK K
                try simp only [Act.put, List.setIfInBounds_toArray, List.set_cons_zero, List.set_cons_succ]
                refine takeL 13 ?_
                refine takeL 14 ?_
                refine wpAnyH_ready (rs := [15]) (by kernel_rfl) (by simp) ?_
                refine AllReadyH.cons (o := _) rfl (fun K hK => ?_) AllReadyH.nil
                go_simp
                try go_wp2_with fail
                refine hK.out _ _ ⟨by go_simp, by go_simp⟩ (fun hHeld => ?_)
                clear hK K
                try simp only [Act.put, List.setIfInBounds_toArray, List.set_cons_zero, List.set_cons_succ]
                refine wpAnyH_done (by kernel_rfl) ?_ _
                clear hHeld
                go_wp2_with fail
                refine region_tail 9 (by kernel_rfl) (by kernel_rfl) (fun T hT K hK => ?_)
                simp only [List.take_succ_cons, List.take_zero]
                repeat still_step
                refine wpStill_nil (hK _ ?_)
                clear hK
                simp only [List.drop_succ_cons, List.drop_zero] at hT
                subst hT
                go_wp2
                show R (.returned (.bool true)) _
                refine HYES.out _ ⟨by go_simp; rfl, by go_simp; rfl, by go_simp; rfl, (by show World.cell? _ _ = some (.bool (decide (0 < xz))); rw [HZ1.out]; go_simp), by go_simp, by go_simp, by go_simp, by go_simp, ?_, ?_⟩ ?_
                · show (s ++ xt).size ≤ 65536
                  rw [ByteArray.size_append]
                  omega
                · show ((s ++ xt).size : Int) ≤ xz
                  have h9 := HXZ.out
                  rw [ByteArray.size_append]
                  omega
                · exact modC (Mod.of_below HI.out.bl)
              · have HNQ := Lib.hid (HNO.out (Or.inr (Or.inr (Or.inr ⟨hz, Or.inr (Or.inr hy)⟩))))
                have qy : (xz == z) = false := by simpa using hy
                have qyn : (xz != z) = true := by simp [bne, qy]
                refine region_kwalk (S := fun W => (W.cell? ⟨ob, 0, none⟩ = some (.int .i64 xc) ∧ W.cell? ⟨ob, 1, none⟩ = some (.int .i64 xs) ∧ W.cell? ⟨ob, 2, none⟩ = some (.int .i64 14) ∧ W.cell? ⟨ob, 3, none⟩ = some (.string (bs p)) ∧ W.cell? ⟨ob, 4, none⟩ = some (.string (bs q)) ∧ W.cell? ⟨ob, 5, none⟩ = some (.int .i64 xz) ∧ W.cell? ⟨ob, 6, none⟩ = some (.int .i64 xh) ∧ W.cell? ⟨ob, 7, none⟩ = some (.int .i64 (s.size : Int)) ∧ W.cell? ⟨ob, 8, none⟩ = some (.string xt) ∧ W.cell? ⟨ob, 9, none⟩ = some (.int .i64 xi) ∧ W.cell? ⟨ob, 10, none⟩ = some (.int .i64 xn) ∧ W.cell? ⟨ob, 11, none⟩ = some (.slice mp ml mc) ∧ W.cell? ⟨b, 0, none⟩ = some (.string s) ∧ W.cell? ⟨b, 1, none⟩ = some (.int .i64 gc) ∧ W.cell? ⟨b, 2, none⟩ = some (.int .i64 z) ∧ W.cell? ⟨b, 3, none⟩ = some (.bool (decide (0 < z)))) ∧ RGaIn w W b ob ⟨s, gc, z⟩ ⟨xc, xs, 14, p, q, xz, xh, (s.size : Int), xt, xi, xn, mp, ml, mc⟩) (by kernel_rfl) (by kernel_rfl) (by kernel_rfl) ⟨HIN.out.cells, HIN.out⟩ ?_
                repeat (first | refine kwL ?_ | refine kwU ?_)
                refine kwC (fun W hS => (HGD.out W hS.2.bl).low fun W2 hB => ⟨rfl, (hS.2.next hB).cells, hS.2.next hB⟩) ?_
                repeat (first | refine kwL ?_ | refine kwU ?_)
                refine kw_nil (fun W hW => ?_)
                have HI := Lib.hid hW.2
                clear hW
                go_wp2_with fail
                exact HNQ.out _ HI.out.bl
            · have HNQ := Lib.hid (HNO.out (Or.inr (Or.inr (Or.inr ⟨hz, Or.inr (Or.inl hc)⟩))))
              have qc : (xc == gc) = false := by simpa using hc
              have qcn : (xc != gc) = true := by simp [bne, qc]
              refine region_kwalk (S := fun W => (W.cell? ⟨ob, 0, none⟩ = some (.int .i64 xc) ∧ W.cell? ⟨ob, 1, none⟩ = some (.int .i64 xs) ∧ W.cell? ⟨ob, 2, none⟩ = some (.int .i64 14) ∧ W.cell? ⟨ob, 3, none⟩ = some (.string (bs p)) ∧ W.cell? ⟨ob, 4, none⟩ = some (.string (bs q)) ∧ W.cell? ⟨ob, 5, none⟩ = some (.int .i64 xz) ∧ W.cell? ⟨ob, 6, none⟩ = some (.int .i64 xh) ∧ W.cell? ⟨ob, 7, none⟩ = some (.int .i64 (s.size : Int)) ∧ W.cell? ⟨ob, 8, none⟩ = some (.string xt) ∧ W.cell? ⟨ob, 9, none⟩ = some (.int .i64 xi) ∧ W.cell? ⟨ob, 10, none⟩ = some (.int .i64 xn) ∧ W.cell? ⟨ob, 11, none⟩ = some (.slice mp ml mc) ∧ W.cell? ⟨b, 0, none⟩ = some (.string s) ∧ W.cell? ⟨b, 1, none⟩ = some (.int .i64 gc) ∧ W.cell? ⟨b, 2, none⟩ = some (.int .i64 z) ∧ W.cell? ⟨b, 3, none⟩ = some (.bool (decide (0 < z)))) ∧ RGaIn w W b ob ⟨s, gc, z⟩ ⟨xc, xs, 14, p, q, xz, xh, (s.size : Int), xt, xi, xn, mp, ml, mc⟩) (by kernel_rfl) (by kernel_rfl) (by kernel_rfl) ⟨HIN.out.cells, HIN.out⟩ ?_
              repeat (first | refine kwL ?_ | refine kwU ?_)
              refine kwC (fun W hS => (HGD.out W hS.2.bl).low fun W2 hB => ⟨rfl, (hS.2.next hB).cells, hS.2.next hB⟩) ?_
              repeat (first | refine kwL ?_ | refine kwU ?_)
              refine kw_nil (fun W hW => ?_)
              have HI := Lib.hid hW.2
              clear hW
              go_wp2_with fail
              exact HNQ.out _ HI.out.bl
        · have HYES := Lib.hid (HYES.out (by simp [hz]))
          have qz : decide (0 < z) = false := by simpa using hz
          refine region_kwalk (S := fun W => (W.cell? ⟨ob, 0, none⟩ = some (.int .i64 xc) ∧ W.cell? ⟨ob, 1, none⟩ = some (.int .i64 xs) ∧ W.cell? ⟨ob, 2, none⟩ = some (.int .i64 14) ∧ W.cell? ⟨ob, 3, none⟩ = some (.string (bs p)) ∧ W.cell? ⟨ob, 4, none⟩ = some (.string (bs q)) ∧ W.cell? ⟨ob, 5, none⟩ = some (.int .i64 xz) ∧ W.cell? ⟨ob, 6, none⟩ = some (.int .i64 xh) ∧ W.cell? ⟨ob, 7, none⟩ = some (.int .i64 (s.size : Int)) ∧ W.cell? ⟨ob, 8, none⟩ = some (.string xt) ∧ W.cell? ⟨ob, 9, none⟩ = some (.int .i64 xi) ∧ W.cell? ⟨ob, 10, none⟩ = some (.int .i64 xn) ∧ W.cell? ⟨ob, 11, none⟩ = some (.slice mp ml mc) ∧ W.cell? ⟨b, 0, none⟩ = some (.string s) ∧ W.cell? ⟨b, 1, none⟩ = some (.int .i64 gc) ∧ W.cell? ⟨b, 2, none⟩ = some (.int .i64 z) ∧ W.cell? ⟨b, 3, none⟩ = some (.bool (decide (0 < z)))) ∧ RGaIn w W b ob ⟨s, gc, z⟩ ⟨xc, xs, 14, p, q, xz, xh, (s.size : Int), xt, xi, xn, mp, ml, mc⟩) (by kernel_rfl) (by kernel_rfl) (by kernel_rfl) ⟨HIN.out.cells, HIN.out⟩ ?_
          repeat (first | refine kwL ?_ | refine kwU ?_)
          refine kwC (fun W hS => (HGD.out W hS.2.bl).low fun W2 hB => ⟨rfl, (hS.2.next hB).cells, hS.2.next hB⟩) ?_
          repeat (first | refine kwL ?_ | refine kwU ?_)
          refine kw_nil (fun W hW => ?_)
          have HI := Lib.hid hW.2
          clear hW
          obtain ⟨t0, t1, t2, t3, t4, t5, t6, t7, t8, t9, t10, t11, d0, d1, d2, d3⟩ := HI.out.cells
          have f0 := HI.out.ga.f0
          have f1 := HI.out.ga.f1
          have f2 := HI.out.ga.f2
          have f3 := HI.out.ga.f3
          have hfew : s.size ≤ 65536 := HI.out.ga.few
          obtain ⟨g1, g2, g3⟩ := HGF.out rfl rfl
          have hxz := HGZ.out rfl rfl
          have hsm : (9223372036854775807 < s.size + xt.size) = False := by rw [eq_iff_iff, iff_false]; omega
          have hobb := HNE.out
          have hobb2 := Ne.symm hobb
          obtain ⟨sz, hsz⟩ : ∃ sz, sz = decide (0 < z) := ⟨_, rfl⟩
          try rw [← hsz] at d3
          clear hsz
          have hz1 : decide ((0 : Int) < xz) = true := by rw [decide_eq_true_eq]; omega
          have HZ1 := Lib.hid hz1
          have HXZ := Lib.hid hxz
          clear hz1 hxz
          have hKd : W.drew.cell? ⟨ob, 0, none⟩ = some (.int .i64 xc) ∧ W.drew.cell? ⟨ob, 5, none⟩ = some (.int .i64 xz) := ⟨t0, t5⟩
          go_wp2_with fail
          refine wp_region_held_drew (S := fun W2 => W2.cell? ⟨ob, 0, none⟩ = some (.int .i64 xc) ∧ W2.cell? ⟨ob, 5, none⟩ = some (.int .i64 xz)) (by kernel_rfl) hKd (fun hHeld => ?_)
          clear hKd
          refine takeL 0 ?_
          refine takeL 1 ?_
          refine takeL 2 ?_
          refine takeL 3 ?_
          refine takeL 4 ?_
          refine takeL 5 ?_
          refine takeL 6 ?_
          refine takeL 7 ?_
          refine takeL 8 ?_
          refine wpAnyH_ready (rs := [9]) (by kernel_rfl) (by simp) ?_
          refine AllReadyH.cons (o := _) rfl (fun K hK => ?_) AllReadyH.nil
          go_simp
          try go_wp2_with fail
          refine hK.out _ _ ⟨by go_simp, by go_simp⟩ (fun hHeld => ?_)
          clear hK K
          try simp only [Act.put, List.setIfInBounds_toArray, List.set_cons_zero, List.set_cons_succ]
          refine takeL 10 ?_
          refine takeL 11 ?_
          refine wpAnyH_ready (rs := [12]) (by kernel_rfl) (by simp) ?_
          refine AllReadyH.cons (o := _) rfl (fun K hK => ?_) AllReadyH.nil
          go_simp
          try go_wp2_with fail
          refine hK.out _ _ ⟨by go_simp, by go_simp⟩ (fun hHeld => ?_)
          clear hK K
          try simp only [Act.put, List.setIfInBounds_toArray, List.set_cons_zero, List.set_cons_succ]
          refine takeL 13 ?_
          refine takeL 14 ?_
          refine wpAnyH_ready (rs := [15]) (by kernel_rfl) (by simp) ?_
          refine AllReadyH.cons (o := _) rfl (fun K hK => ?_) AllReadyH.nil
          go_simp
          try go_wp2_with fail
          refine hK.out _ _ ⟨by go_simp, by go_simp⟩ (fun hHeld => ?_)
          clear hK K
          try simp only [Act.put, List.setIfInBounds_toArray, List.set_cons_zero, List.set_cons_succ]
          refine wpAnyH_done (by kernel_rfl) ?_ _
          clear hHeld
          go_wp2_with fail
          refine region_tail 9 (by kernel_rfl) (by kernel_rfl) (fun T hT K hK => ?_)
          simp only [List.take_succ_cons, List.take_zero]
          repeat still_step
          refine wpStill_nil (hK _ ?_)
          clear hK
          simp only [List.drop_succ_cons, List.drop_zero] at hT
          subst hT
          go_wp2
          show R (.returned (.bool true)) _
          refine HYES.out _ ⟨by go_simp; rfl, by go_simp; rfl, by go_simp; rfl, (by show World.cell? _ _ = some (.bool (decide (0 < xz))); rw [HZ1.out]; go_simp), by go_simp, by go_simp, by go_simp, by go_simp, ?_, ?_⟩ ?_
          · show (s ++ xt).size ≤ 65536
            rw [ByteArray.size_append]
            omega
          · show ((s ++ xt).size : Int) ≤ xz
            have h9 := HXZ.out
            rw [ByteArray.size_append]
            omega
          · exact modC (Mod.of_below HI.out.bl)
      · have HNQ := Lib.hid (HNO.out (Or.inr (Or.inr (Or.inl ho))))
        have qo : (xo == (s.size : Int)) = false := by simpa using ho
        have qon : (xo != (s.size : Int)) = true := by simp [bne, qo]
        refine region_kwalk (S := fun W => (W.cell? ⟨ob, 0, none⟩ = some (.int .i64 xc) ∧ W.cell? ⟨ob, 1, none⟩ = some (.int .i64 xs) ∧ W.cell? ⟨ob, 2, none⟩ = some (.int .i64 14) ∧ W.cell? ⟨ob, 3, none⟩ = some (.string (bs p)) ∧ W.cell? ⟨ob, 4, none⟩ = some (.string (bs q)) ∧ W.cell? ⟨ob, 5, none⟩ = some (.int .i64 xz) ∧ W.cell? ⟨ob, 6, none⟩ = some (.int .i64 xh) ∧ W.cell? ⟨ob, 7, none⟩ = some (.int .i64 xo) ∧ W.cell? ⟨ob, 8, none⟩ = some (.string xt) ∧ W.cell? ⟨ob, 9, none⟩ = some (.int .i64 xi) ∧ W.cell? ⟨ob, 10, none⟩ = some (.int .i64 xn) ∧ W.cell? ⟨ob, 11, none⟩ = some (.slice mp ml mc) ∧ W.cell? ⟨b, 0, none⟩ = some (.string s) ∧ W.cell? ⟨b, 1, none⟩ = some (.int .i64 gc) ∧ W.cell? ⟨b, 2, none⟩ = some (.int .i64 z) ∧ W.cell? ⟨b, 3, none⟩ = some (.bool (decide (0 < z)))) ∧ RGaIn w W b ob ⟨s, gc, z⟩ ⟨xc, xs, 14, p, q, xz, xh, xo, xt, xi, xn, mp, ml, mc⟩) (by kernel_rfl) (by kernel_rfl) (by kernel_rfl) ⟨HIN.out.cells, HIN.out⟩ ?_
        repeat (first | refine kwL ?_ | refine kwU ?_)
        refine kwC (fun W hS => (HGD.out W hS.2.bl).low fun W2 hB => ⟨rfl, (hS.2.next hB).cells, hS.2.next hB⟩) ?_
        repeat (first | refine kwL ?_ | refine kwU ?_)
        refine kw_nil (fun W hW => ?_)
        have HI := Lib.hid hW.2
        clear hW
        go_wp2_with fail
        exact HNQ.out _ HI.out.bl
  · have HNQ := Lib.hid (HNO.out (Or.inl hk))
    have qk : (xk == 14) = false := by simpa using hk
    have qkn : (xk != 14) = true := by simp [bne, qk]
    refine region_kwalk (S := fun W => (W.cell? ⟨ob, 0, none⟩ = some (.int .i64 xc) ∧ W.cell? ⟨ob, 1, none⟩ = some (.int .i64 xs) ∧ W.cell? ⟨ob, 2, none⟩ = some (.int .i64 xk) ∧ W.cell? ⟨ob, 3, none⟩ = some (.string (bs p)) ∧ W.cell? ⟨ob, 4, none⟩ = some (.string (bs q)) ∧ W.cell? ⟨ob, 5, none⟩ = some (.int .i64 xz) ∧ W.cell? ⟨ob, 6, none⟩ = some (.int .i64 xh) ∧ W.cell? ⟨ob, 7, none⟩ = some (.int .i64 xo) ∧ W.cell? ⟨ob, 8, none⟩ = some (.string xt) ∧ W.cell? ⟨ob, 9, none⟩ = some (.int .i64 xi) ∧ W.cell? ⟨ob, 10, none⟩ = some (.int .i64 xn) ∧ W.cell? ⟨ob, 11, none⟩ = some (.slice mp ml mc) ∧ W.cell? ⟨b, 0, none⟩ = some (.string s) ∧ W.cell? ⟨b, 1, none⟩ = some (.int .i64 gc) ∧ W.cell? ⟨b, 2, none⟩ = some (.int .i64 z) ∧ W.cell? ⟨b, 3, none⟩ = some (.bool (decide (0 < z)))) ∧ RGaIn w W b ob ⟨s, gc, z⟩ ⟨xc, xs, xk, p, q, xz, xh, xo, xt, xi, xn, mp, ml, mc⟩) (by kernel_rfl) (by kernel_rfl) (by kernel_rfl) ⟨HIN.out.cells, HIN.out⟩ ?_
    repeat (first | refine kwL ?_ | refine kwU ?_)
    refine kw_nil (fun W hW => ?_)
    have HI := Lib.hid hW.2
    clear hW
    go_wp2_with fail
    exact HNQ.out _ HI.out.bl
def RGaTextPost (g : GaS) (w : World) (e : Ending) (w' : World) : Prop := e = .returned (.agg #[.string g.text.1, .bool g.text.2]) ∧ Below w.heap.size w w'
set_option maxRecDepth 100000 in
set_option maxHeartbeats 4000000 in
theorem rgaText_any (w : World) (b : Nat) (g : GaS) (h : RGaAt w b g) : Calls Tryz.prog 14 #[.pointer (some ⟨b, 0, none⟩)] w (RGaTextPost g w) := by
  have hbl := cell_lt h.c0
  obtain ⟨c0, c1, c2, c3, -, -, -, -, -, hle⟩ := h
  obtain ⟨s, gc, z⟩ := g
  simp only [] at c0 c1 c2 c3 hle
  clear c1
  unfold RGaTextPost GaS.text
  simp only
  by_cases h0 : 0 < z
  · have q0 : decide (0 < z) = true := by simpa using h0
    by_cases h1 : (s.size : Int) = z
    · rw [if_neg (by omega)]
      have q1 : ((s.size : Int) == z) = true := by simpa using h1
      have q2 : ((s.size : Int) != z) = false := by simp [bne, q1]
      clear h1 h0 hle
      go_enter Tryz.func14, Tryz.ntmps14
      go_wp2_with fail
      refine region_kwalk (S := fun W => (W.cell? ⟨b, 0, none⟩ = some (.string s) ∧ W.cell? ⟨b, 2, none⟩ = some (.int .i64 z) ∧ W.cell? ⟨b, 3, none⟩ = some (.bool (decide (0 < z))) ∧ W.cell? ⟨w.heap.size, 0, none⟩ = some (.string ⟨#[]⟩) ∧ W.cell? ⟨w.heap.size, 1, none⟩ = some (.bool false)) ∧ (W.frozen? ⟨w.heap.size, 0, none⟩ = false ∧ W.frozen? ⟨w.heap.size, 1, none⟩ = false) ∧ Below w.heap.size w W) (by kernel_rfl) (by kernel_rfl) (by kernel_rfl) ⟨⟨by go_simp, by go_simp, by go_simp, by (go_simp; try rfl), by (go_simp; try rfl)⟩, ⟨by go_simp, by go_simp⟩, by exact belC (Below.refl _ _)⟩ ?_
      repeat (first | refine kwL ?_ | refine kwU ?_)
      refine kw_nil (fun W hW => ?_)
      obtain ⟨⟨d0, d2, d3, e0, e1⟩, ⟨f0, f1⟩, hB⟩ := hW
      have HB := Lib.hid hB
      clear hB
      go_wp2_with fail
      refine bodyPost_ret (v := .agg #[.string s, .bool true]) (by simp [results, Tryz.results14, go_sem, *]) rfl ?_
      exact ⟨rfl, by exact belC HB.out⟩
    · rw [if_pos (Or.inr (by omega))]
      have q1 : ((s.size : Int) == z) = false := by simpa using h1
      have q2 : ((s.size : Int) != z) = true := by simp [bne, q1]
      clear h1 h0 hle
      go_enter Tryz.func14, Tryz.ntmps14
      go_wp2_with fail
      refine region_kwalk (S := fun W => (W.cell? ⟨b, 0, none⟩ = some (.string s) ∧ W.cell? ⟨b, 2, none⟩ = some (.int .i64 z) ∧ W.cell? ⟨b, 3, none⟩ = some (.bool (decide (0 < z))) ∧ W.cell? ⟨w.heap.size, 0, none⟩ = some (.string ⟨#[]⟩) ∧ W.cell? ⟨w.heap.size, 1, none⟩ = some (.bool false)) ∧ (W.frozen? ⟨w.heap.size, 0, none⟩ = false ∧ W.frozen? ⟨w.heap.size, 1, none⟩ = false) ∧ Below w.heap.size w W) (by kernel_rfl) (by kernel_rfl) (by kernel_rfl) ⟨⟨by go_simp, by go_simp, by go_simp, by (go_simp; try rfl), by (go_simp; try rfl)⟩, ⟨by go_simp, by go_simp⟩, by exact belC (Below.refl _ _)⟩ ?_
      repeat (first | refine kwL ?_ | refine kwU ?_)
      refine kw_nil (fun W hW => ?_)
      obtain ⟨⟨d0, d2, d3, e0, e1⟩, ⟨f0, f1⟩, hB⟩ := hW
      have HB := Lib.hid hB
      clear hB
      go_wp2_with fail
      refine bodyPost_ret (v := .agg #[.string ⟨#[]⟩, .bool false]) (by simp [results, Tryz.results14, go_sem, *]) rfl ?_
      exact ⟨rfl, by exact belC HB.out⟩
  · rw [if_pos (Or.inl (by omega))]
    have q0 : decide (0 < z) = false := by simpa using h0
    clear h0 hle
    go_enter Tryz.func14, Tryz.ntmps14
    go_wp2_with fail
    refine region_kwalk (S := fun W => (W.cell? ⟨b, 0, none⟩ = some (.string s) ∧ W.cell? ⟨b, 2, none⟩ = some (.int .i64 z) ∧ W.cell? ⟨b, 3, none⟩ = some (.bool (decide (0 < z))) ∧ W.cell? ⟨w.heap.size, 0, none⟩ = some (.string ⟨#[]⟩) ∧ W.cell? ⟨w.heap.size, 1, none⟩ = some (.bool false)) ∧ (W.frozen? ⟨w.heap.size, 0, none⟩ = false ∧ W.frozen? ⟨w.heap.size, 1, none⟩ = false) ∧ Below w.heap.size w W) (by kernel_rfl) (by kernel_rfl) (by kernel_rfl) ⟨⟨by go_simp, by go_simp, by go_simp, by (go_simp; try rfl), by (go_simp; try rfl)⟩, ⟨by go_simp, by go_simp⟩, by exact belC (Below.refl _ _)⟩ ?_
    repeat (first | refine kwL ?_ | refine kwU ?_)
    refine kw_nil (fun W hW => ?_)
    obtain ⟨⟨d0, d2, d3, e0, e1⟩, ⟨f0, f1⟩, hB⟩ := hW
    have HB := Lib.hid hB
    clear hB
    go_wp2_with fail
    refine bodyPost_ret (v := .agg #[.string ⟨#[]⟩, .bool false]) (by simp [results, Tryz.results14, go_sem, *]) rfl ?_
    exact ⟨rfl, by exact belC HB.out⟩
end Go.Proofs.YtpfcomepecgcmaaGreatDoor
