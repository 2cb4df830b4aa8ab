/- what is laid ahead of a fetch: the walk -/
import Derived.Test.YtohmmjaikhpcfaaGreatLay16
namespace Go.Proofs.YtohmmjaikhpcfaaGreat
open Go.RowKit Esch

def LayPost (w0 : World) (c hb R : Nat) (V : Nat → Prop) (M : Pgs) (w : World) (e : Ending) (w' : World) : Prop := e = .returned (.tuple #[]) ∧ ∃ hd' M', Hd1 w0 c hb (grow V w w') hd' w' ∧ VI hd'.nd R M' ∧ PgLe M M' ∧ Mod V w w'
def LayRel (w0 : World) (c hb R : Nat) (V : Nat → Prop) (M : Pgs) (W0 : World) (n g : Nat) (s6 : Value) (wr : World) : Prop :=
  ∃ (i : Nat) (V' : Nat → Prop) (hd' : HdS) (M' : Pgs), g = n - i ∧ i ≤ n ∧ i ≤ 60 ∧ s6 = .int .i64 i ∧ Hd1 w0 (c + 3 * i) hb V' hd' wr ∧ VI hd'.nd R M' ∧ PgLe M M' ∧ (∀ k, V' k → V k ∨ W0.heap.size ≤ k) ∧ Mod V W0 wr
def tgtP (p : PutS) : Int × ByteArray := if p.fill then (2, ⟨#[]⟩) else (1, p.s)
def LayRel2 (w0 : World) (c hb R a : Nat) (V : Nat → Prop) (M : Pgs) (w9 : World) (p : PutS) (g : Nat) (s10 : Value) (wr : World) : Prop :=
  ∃ (k : Nat) (V' : Nat → Prop) (hd' : HdS) (M' : Pgs) (m : Nat) (v : Int × ByteArray), g = lenT a - k ∧ k ≤ lenT a ∧ s10 = .int .i64 k ∧ Hd1 w0 (c + k) hb V' hd' wr ∧ VI hd'.nd R M' ∧ PgLe M M' ∧ (∀ k, V' k → V k ∨ w9.heap.size ≤ k) ∧ Mod V w9 wr ∧ Pre a M' m v ∧ GoodV v ∧ (k = 0 ∨ (k ≤ m ∧ v = tgtP p))
/-- the units of an address, and its place, lie in memory -/
structure Laid9 (wr w9 : World) (gb cb : Nat) (off : Nat) (a : Nat) (r1 : Int) : Prop where
  M : Mod none' wr w9
  page : w9.cell? ⟨gb, 1, none⟩ = some (.int .i64 r1)
  units : ∀ j, j < lenT a → w9.cell? ⟨cb, off + j, none⟩ = some (.int .i64 (uT a j : Nat))
  g1 : wr.heap.size ≤ gb
  c1 : wr.heap.size ≤ cb
theorem mod_none_at {w w' : World} {b o : Nat} {v : Value} (h : Mod none' w w') (hc : w.cell? ⟨b, o, none⟩ = some v) : w'.cell? ⟨b, o, none⟩ = some v := h.at hc id
theorem ask_box9 (w : World) (x0 x1 x2 x3 x4 x5 x6 x7 x8 : Value) : ∃ W, W = w.alloc (.cells #[x0, x1, x2, x3, x4, x5, x6, x7, x8] 59) ∧ Below w.heap.size w W ∧ W.heap.size = w.heap.size + 1 ∧ (W.cell? ⟨w.heap.size, 0, none⟩ = some x0 ∧ W.cell? ⟨w.heap.size, 1, none⟩ = some x1 ∧ W.cell? ⟨w.heap.size, 2, none⟩ = some x2 ∧ W.cell? ⟨w.heap.size, 3, none⟩ = some x3 ∧ W.cell? ⟨w.heap.size, 4, none⟩ = some x4 ∧ W.cell? ⟨w.heap.size, 5, none⟩ = some x5 ∧ W.cell? ⟨w.heap.size, 6, none⟩ = some x6 ∧ W.cell? ⟨w.heap.size, 7, none⟩ = some x7 ∧ W.cell? ⟨w.heap.size, 8, none⟩ = some x8) ∧ ∀ o, o < 9 → W.frozen? ⟨w.heap.size, o, none⟩ = false :=
  ⟨_, rfl, by (repeat (first | with_reducible exact (Below.refl _ _) | with_reducible refine Below.drew ?_ | with_reducible refine Esch.below_drewN ?_ _ | with_reducible refine Below.setCell ?_ (by first | omega | (simp; done) | (simp; omega)) _ | with_reducible refine Below.alloc ?_ (by first | omega | (simp; done) | (simp; omega)) _)), by simp, ⟨by go_simp, by go_simp, by go_simp, by go_simp, by go_simp, by go_simp, by go_simp, by go_simp, by go_simp⟩, fun o ho => by go_simp⟩
theorem ask_box9d (w : World) (x0 x1 x2 x3 x4 x5 x6 x7 x8 : Value) : ∃ W, W = (w.alloc (.cells #[x0, x1, x2, x3, x4, x5, x6, x7, x8] 59)).drew ∧ Below w.heap.size w W ∧ W.heap.size = w.heap.size + 1 ∧ (W.cell? ⟨w.heap.size, 0, none⟩ = some x0 ∧ W.cell? ⟨w.heap.size, 1, none⟩ = some x1 ∧ W.cell? ⟨w.heap.size, 2, none⟩ = some x2 ∧ W.cell? ⟨w.heap.size, 3, none⟩ = some x3 ∧ W.cell? ⟨w.heap.size, 4, none⟩ = some x4 ∧ W.cell? ⟨w.heap.size, 5, none⟩ = some x5 ∧ W.cell? ⟨w.heap.size, 6, none⟩ = some x6 ∧ W.cell? ⟨w.heap.size, 7, none⟩ = some x7 ∧ W.cell? ⟨w.heap.size, 8, none⟩ = some x8) ∧ (W.frozen? ⟨w.heap.size, 0, none⟩ = false ∧ W.frozen? ⟨w.heap.size, 1, none⟩ = false ∧ W.frozen? ⟨w.heap.size, 2, none⟩ = false ∧ W.frozen? ⟨w.heap.size, 3, none⟩ = false ∧ W.frozen? ⟨w.heap.size, 4, none⟩ = false ∧ W.frozen? ⟨w.heap.size, 5, none⟩ = false ∧ W.frozen? ⟨w.heap.size, 6, none⟩ = false ∧ W.frozen? ⟨w.heap.size, 7, none⟩ = false ∧ W.frozen? ⟨w.heap.size, 8, none⟩ = false) :=
  ⟨_, rfl, by (repeat (first | with_reducible exact (Below.refl _ _) | with_reducible refine Below.drew ?_ | with_reducible refine Esch.below_drewN ?_ _ | with_reducible refine Below.setCell ?_ (by first | omega | (simp; done) | (simp; omega)) _ | with_reducible refine Below.alloc ?_ (by first | omega | (simp; done) | (simp; omega)) _)), World.size_alloc .., ⟨by go_simp, by go_simp, by go_simp, by go_simp, by go_simp, by go_simp, by go_simp, by go_simp, by go_simp⟩, ⟨by go_simp, by go_simp, by go_simp, by go_simp, by go_simp, by go_simp, by go_simp, by go_simp, by go_simp⟩⟩
theorem ask_set9 (w : World) (b : Nat) (y0 y1 y2 y3 y4 y5 y6 y7 y8 z0 z1 z2 z3 z4 z5 z6 z7 z8 : Value) (h0 : w.cell? ⟨b, 0, none⟩ = some z0) (h1 : w.cell? ⟨b, 1, none⟩ = some z1) (h2 : w.cell? ⟨b, 2, none⟩ = some z2) (h3 : w.cell? ⟨b, 3, none⟩ = some z3) (h4 : w.cell? ⟨b, 4, none⟩ = some z4) (h5 : w.cell? ⟨b, 5, none⟩ = some z5) (h6 : w.cell? ⟨b, 6, none⟩ = some z6) (h7 : w.cell? ⟨b, 7, none⟩ = some z7) (h8 : w.cell? ⟨b, 8, none⟩ = some z8) : ∃ W, W = ((((((((((w.setCell ⟨b, 0, none⟩ y0).setCell ⟨b, 1, none⟩ y1).setCell ⟨b, 2, none⟩ y2).setCell ⟨b, 3, none⟩ y3).setCell ⟨b, 4, none⟩ y4).setCell ⟨b, 5, none⟩ y5).setCell ⟨b, 6, none⟩ y6).setCell ⟨b, 7, none⟩ y7).setCell ⟨b, 8, none⟩ y8)).drew ∧ Mod (· = b) w W ∧ (W.cell? ⟨b, 0, none⟩ = some y0 ∧ W.cell? ⟨b, 1, none⟩ = some y1 ∧ W.cell? ⟨b, 2, none⟩ = some y2 ∧ W.cell? ⟨b, 3, none⟩ = some y3 ∧ W.cell? ⟨b, 4, none⟩ = some y4 ∧ W.cell? ⟨b, 5, none⟩ = some y5 ∧ W.cell? ⟨b, 6, none⟩ = some y6 ∧ W.cell? ⟨b, 7, none⟩ = some y7 ∧ W.cell? ⟨b, 8, none⟩ = some y8) := ⟨_, rfl, by (repeat' (first | (with_reducible exact (Mod.refl _ _)) | (with_reducible apply Mod.drew) | (with_reducible apply Mod.drewN) | (with_reducible apply Mod.alloc) | (with_reducible apply Mod.setCellAt) | (intro _; first | rfl | exact Or.inl rfl | exact Or.inr rfl) | (intro h; exfalso; omega))), ⟨by go_simp, by go_simp, by go_simp, by go_simp, by go_simp, by go_simp, by go_simp, by go_simp, by go_simp⟩⟩
structure GotBox (w : World) (b : Nat) : Prop where
  a0 : w.cell? ⟨b, 0, none⟩ = some (.int .i64 0)
  a1 : w.cell? ⟨b, 1, none⟩ = some (.int .i64 0)
  a2 : w.cell? ⟨b, 2, none⟩ = some (.bool false)
  f0 : w.frozen? ⟨b, 0, none⟩ = false
  f1 : w.frozen? ⟨b, 1, none⟩ = false
  f2 : w.frozen? ⟨b, 2, none⟩ = false
theorem GotBox.below {w w' : World} {b n : Nat} (h : GotBox w b) (hB : Below n w w') (hb : b < n) : GotBox w' b :=
  ⟨below_at hB h.a0 hb, below_at hB h.a1 hb, below_at hB h.a2 hb, (hB.frozen (p := ⟨b, 0, none⟩) hb).trans h.f0, (hB.frozen (p := ⟨b, 1, none⟩) hb).trans h.f1, (hB.frozen (p := ⟨b, 2, none⟩) hb).trans h.f2⟩
theorem got_alloc (w : World) : GotBox (w.alloc (.cells #[.int .i64 0, .int .i64 0, .bool false] 45)) w.heap.size := ⟨by go_simp, by go_simp, by go_simp, by go_simp, by go_simp, by go_simp⟩
def putQ (p : PutS) (a k : Nat) : QS := if p.fill then ⟨2, (uT a k : Nat), 0, ((a / 3 : Nat) : Int), 0, 0, ⟨#[]⟩, Esch.p0⟩ else ⟨1, (uT a k : Nat), 0, ((a / 3 : Nat) : Int), 0, 0, p.s, Esch.p0⟩
theorem put_step {nd : NdS} {R : Nat} {M : Pgs} (h : VI nd R M) {a : Nat} (ha : a < 40) {m : Nat} {v : Int × ByteArray} (hp : Pre a M m v) (gv : GoodV v) {k : Nat} (hk : k < lenT a) (p : PutS) (hs : p.s.size ≤ 1000) (hkm : k = 0 ∨ (k ≤ m ∧ v = tgtP p)) :
    ∃ code M3 m3 v3, (nd.do (putQ p a k)).1 = anU code ⟨#[]⟩ ∧ VI (nd.do (putQ p a k)).2 R M3 ∧ PgLe M M3 ∧ Pre a M3 m3 v3 ∧ GoodV v3 ∧ (code = 0 → k + 1 ≤ m3 ∧ v3 = tgtP p) ∧ (code = 0 ∨ code = 41) := by
  unfold tgtP at hkm ⊢
  unfold putQ
  have hM := hp.at' k hk
  have hpl := hp.le
  by_cases hf : p.fill = true
  · simp only [if_pos hf] at hkm ⊢
    by_cases hm : k < m
    · obtain ⟨r1, r2⟩ := h.fill_old ha hp hk hm
      by_cases h2 : v.1 = 2
      · rw [if_pos h2] at r1
        exact ⟨0, M, m, v, r1, r2, PgLe.refl _, hp, gv, fun _ => ⟨by omega, goodV_2 gv h2⟩, Or.inl rfl⟩
      · rw [if_neg h2] at r1
        exact ⟨41, M, m, v, r1, r2, PgLe.refl _, hp, gv, fun e => absurd e (by decide), Or.inr rfl⟩
    · obtain rfl : k = m := by omega
      have hv : k = 0 ∨ v = (2, ⟨#[]⟩) := hkm.imp id (·.2)
      obtain ⟨r1, r2⟩ := h.fill_new ha hp hk rfl hv
      rw [if_neg hm] at hM
      exact ⟨0, _, k + 1, _, r1, r2, PgLe.set _ hM, hp.more hk hv, Or.inl rfl, fun _ => ⟨by omega, rfl⟩, Or.inl rfl⟩
  · simp only [if_neg hf] at hkm ⊢
    by_cases hm : k < m
    · obtain ⟨r1, r2⟩ := h.write_old ha hp hk hm (show p.s.size ≤ 4096 by omega)
      exact ⟨41, M, m, v, r1, r2, PgLe.refl _, hp, gv, fun e => absurd e (by decide), Or.inr rfl⟩
    · obtain rfl : k = m := by omega
      have hv : k = 0 ∨ v = (1, p.s) := hkm.imp id (·.2)
      obtain ⟨r1, r2⟩ := h.write_new ha hp hk rfl (show p.s.size ≤ 4096 by omega) hv
      rw [if_neg hm] at hM
      exact ⟨0, _, k + 1, _, r1, r2, PgLe.set _ hM, hp.more hk hv, Or.inr ⟨rfl, by show p.s.size ≤ 4096; omega⟩, fun _ => ⟨by omega, rfl⟩, Or.inl rfl⟩
theorem putQ_data {p : PutS} {a k : Nat} (hs : p.s.size ≤ 1000) : (putQ p a k).data.size ≤ 9223372036854775807 := by
  unfold putQ
  by_cases e : p.fill = true
  · rw [if_pos e]; exact (by decide : (ByteArray.mk #[]).size ≤ 9223372036854775807)
  · rw [if_neg e]; show p.s.size ≤ _; omega
set_option maxRecDepth 100000 in
set_option maxHeartbeats 8000000 in
theorem lay_any {w0 w : World} {c hb R : Nat} {V : Nat → Prop} {hd : HdS} {M : Pgs} (h : Hd1 w0 c hb V hd w) (hc : c ≤ 100000) (hVI : VI hd.nd R M) (S : Nat → Prop) (pa : Option Addr) (pc : Nat) (hl : ListsAt S w pa qT.chains) (hS : ∀ k, S k → ¬ V k) (la : Option Addr) (n lc : Nat) (ps : Nat → PutS) (hps : PutsAt w la n ps) (hn : n ≤ 9223372036854775807) (hsz : ∀ i, i < n → (ps i).s.size ≤ 1000)
    (hlV : ∀ b off, la = some ⟨b, off, none⟩ → 0 < n → ¬ V b) :
    Calls Tryz.prog 35 #[.pointer (some ⟨hb, 0, none⟩), .agg #[.int .i64 0, .slice pa 3 pc], .slice la n lc] w (LayPost w0 (c + 200) hb R V M w) := by
  obtain ⟨W0, hW0, hB0, hz0, p0, p1⟩ := oneBox w 27 (.int .i64 0) (.slice pa 3 pc)
  have HW0 := Lib.hid hW0
  have HD0 := Lib.hid (h.below' hB0)
  have HLt := Lib.hid h.lt
  have HVI0 := Lib.hid hVI
  have HL0 := Lib.hid (hl.mod (F := none') (Mod.of_below hB0) (fun _ _ _ => id))
  have HSV := Lib.hid hS
  have HPS := Lib.hid hps
  have HSZ := Lib.hid hsz
  have HLV := Lib.hid hlV
  have HB0 := Lib.hid hB0
  have HBW := Lib.hid h.below
  have HOld := Lib.hid h.old
  have hpb : ¬ V w.heap.size := fun e => by have := h.lt _ e; omega
  clear hW0 h hVI hl hS hps hsz hlV hB0
  go_enter Tryz.func35, Tryz.ntmps35
  go_wp2_with fail
  rw [← HW0.out]
  go_loopg [6] n (fun g s6 wr => LayRel w0 c hb R V M W0 n g s6 wr)
  case atStart => exact ⟨0, V, hd, M, rfl, Nat.zero_le _, by omega, rfl, HD0.out, HVI0.out, PgLe.refl _, fun _ hk => Or.inl hk, Mod.refl _ _⟩
  case round =>
    obtain ⟨i, V', hd', M', rfl, hi, hi60, rfl, hD, hVI, hPG, hV, hMV⟩ := hrel
    have HD := Lib.hid hD
    have HVI := Lib.hid hVI
    have HPG := Lib.hid hPG
    have HV := Lib.hid hV
    have HMV := Lib.hid hMV
    have hzr := hMV.size
    clear hD hVI hPG hV
    have i0 : (0 : Int) ≤ i := by omega
    by_cases hin : i < n ∧ i < 60
    · have i1 : (i : Int) < n := by omega
      have i2 : (i : Int) < 60 := by omega
      obtain ⟨lb, off, rfl, hlb, hd4, c0, c1, c2, c3⟩ := HPS.out.get hin.1
      have hlbV := HLV.out lb off rfl (by omega)
      have HMW := Lib.hid ((Mod.of_below HB0.out : Mod V w W0).trans hMV)
      have d0 := HMW.out.at c0 hlbV
      have hs1000 := HSZ.out i hin.1
      obtain ⟨p, hp⟩ : ∃ p, p = ps i := ⟨_, rfl⟩
      rw [← hp] at d0 c1 c2 c3 hs1000
      have Hp := Lib.hid hp
      have Hs := Lib.hid hs1000
      clear c0 hd4 hp hs1000
      go_wp2_with fail
      refine (kmod_any p.addr wr).mono ?_
      rintro e w1 ⟨a, ha, rfl, rfl⟩
      have Ha := Lib.hid ha
      have hpbw : W0.cell? ⟨w.heap.size, 0, none⟩ = some (.int .i64 0) := p0
      have e0 : w1.cell? ⟨w.heap.size, 0, none⟩ = some (.int .i64 0) := hMV.at p0 hpb
      have e1 : w1.cell? ⟨w.heap.size, 1, none⟩ = some (.slice pa 3 pc) := hMV.at p1 hpb
      have hl1 := HL0.out.mod (F := V) hMV (fun k hk _ => HSV.out k hk)
      obtain ⟨hcl, hcu⟩ := chainP_qT ha
      have hch : ∀ W, Mod none' w1 W → Calls Tryz.prog 18 #[.agg #[.int .i64 0, .slice pa 3 pc], .int .i64 (a : Int)] W fun e w' => ∃ ca cc, e = .returned (.slice ca (lenT a) cc) ∧ IntsAt (From W.heap.size) w' ca (chainP qT (a : Int)) ∧ Below W.heap.size W w' := fun W hM => (rChain_any S W qT pa pc (a : Int) (hl1.mod hM (fun _ _ _ => id))).mono fun e w' ⟨ca, cc, he, h1, h2⟩ => ⟨ca, cc, by rw [he, hcl], h1, h2⟩
      obtain ⟨r0, hr0⟩ : ∃ r, r = ((a % 3 : Nat) : Int) := ⟨_, rfl⟩
      obtain ⟨r1, hr1⟩ : ∃ r, r = ((a / 3 : Nat) : Int) := ⟨_, rfl⟩
      have hof : ∀ W, Mod none' w1 W → Calls Tryz.prog 17 #[.agg #[.int .i64 0, .slice pa 3 pc], .int .i64 (a : Int)] W fun e w' => e = .returned (.agg #[.int .i64 r0, .int .i64 r1, .bool true]) ∧ Below W.heap.size W w' := fun W hM => (rOf_any S W qT pa pc (a : Int) (hl1.mod hM (fun _ _ _ => id))).mono fun e w' ⟨he, h1⟩ => ⟨by rw [he, ofP_qT ha, hr0, hr1]; rfl, h1⟩
      have Hr1 := Lib.hid hr1
      clear hr0 hr1
      have Hcl := Lib.hid hcl
      have Hcu := Lib.hid hcu
      have hMr : Mod none' w1 w1 := Mod.refl _ _
      clear hpbw hl1 hcl hcu ha hMV
      go_wp2_with fail
      have hch1 := hch w1.drew hMr.drew
      have hch2 := hch (w1.alloc (.cells #[.int .i64 0, .int .i64 0, .bool false] 45)).drew (hMr.alloc _).drew
      go_region_held3 (fun w' => w'.cell? ⟨w.heap.size, 0, none⟩ = some (.int .i64 0) ∧ w'.cell? ⟨w.heap.size, 1, none⟩ = some (.slice pa 3 pc))
        (exact ⟨Mod.at (F := none') (w := w1) (by repeat' (first | with_reducible exact hM6 | with_reducible exact hM5 | with_reducible exact hMr | with_reducible apply Mod.drew | with_reducible apply Mod.alloc | with_reducible apply Mod.setCellAt | (intro h; exfalso; omega))) e0 id, Mod.at (F := none') (w := w1) (by repeat' (first | with_reducible exact hM6 | with_reducible exact hM5 | with_reducible exact hMr | with_reducible apply Mod.drew | with_reducible apply Mod.alloc | with_reducible apply Mod.setCellAt | (intro h; exfalso; omega))) e1 id⟩)
        (first
          | (go_at_call 18; (with_reducible refine hch1.mono ?_); rintro e w5 ⟨ca, cc, rfl, hci, hB5'⟩
             have hB5 : Below w1.heap.size w1 w5 := below_drew hB5'
             have hM5 : Mod none' w1 w5 := Mod.of_below hB5
             have hz5 := hM5.size
             obtain ⟨cb, coff, rfl, hcb, -, hcc⟩ := hci.2 (by rw [Hcl.out]; have := (lenT_le a).1; omega)
             have Hcc := Lib.hid (show ∀ j, j < lenT a → w5.cell? ⟨cb, coff + j, none⟩ = some (.int .i64 (uT a j : Nat)) from fun j hj => by rw [← Hcu.out j hj]; exact hcc j (by rw [Hcl.out]; exact hj))
             clear hci hcc
             have hcb1 : w1.heap.size ≤ cb := hcb
             have hof1 := hof w5 hM5
             have hof2 := hof (w5.alloc (.cells #[.int .i64 0, .int .i64 0, .bool false] 45)) (hM5.alloc _)
             clear hcb hB5')
          | (go_at_call 18; (with_reducible refine hch2.mono ?_); rintro e w5 ⟨ca, cc, rfl, hci, hB5'⟩
             have hB5 : Below (w1.heap.size + 1) (w1.alloc (.cells #[.int .i64 0, .int .i64 0, .bool false] 45)) w5 := by have := below_drew hB5'; rwa [show (w1.alloc (.cells #[.int .i64 0, .int .i64 0, .bool false] 45)).drew.heap.size = w1.heap.size + 1 from World.size_alloc ..] at this
             have hM5 : Mod none' w1 w5 := (show Mod none' w1 (w1.alloc (.cells #[.int .i64 0, .int .i64 0, .bool false] 45)).drew from (hMr.alloc _).drew).trans (Mod.of_below hB5')
             have hz5 := hM5.size
             obtain ⟨cb, coff, rfl, hcb, -, hcc⟩ := hci.2 (by rw [Hcl.out]; have := (lenT_le a).1; omega)
             have Hcc := Lib.hid (show ∀ j, j < lenT a → w5.cell? ⟨cb, coff + j, none⟩ = some (.int .i64 (uT a j : Nat)) from fun j hj => by rw [← Hcu.out j hj]; exact hcc j (by rw [Hcl.out]; exact hj))
             clear hci hcc
             have hcb1 : w1.heap.size < cb := by have hcb : (w1.alloc (.cells #[.int .i64 0, .int .i64 0, .bool false] 45)).drew.heap.size ≤ cb := hcb; rw [show (w1.alloc (.cells #[.int .i64 0, .int .i64 0, .bool false] 45)).drew.heap.size = w1.heap.size + 1 from World.size_alloc ..] at hcb; omega
             obtain ⟨ga0, ga1, ga2, gf0, gf1, gf2⟩ := (got_alloc w1).below hB5 (by omega)
             have hgl : w1.heap.size < w5.heap.size := cell_lt ga0
             have hof1 := hof w5 hM5
             clear hcb hB5')
          | (go_at_call 17; (with_reducible refine hof1.mono ?_); rintro e w6 ⟨rfl, hB6⟩
             have hM6 : Mod none' w1 w6 := hM5.trans (Mod.of_below hB6)
             have hz6 := hM6.size
             try (replace ga0 := below_at hB6 ga0 hgl
                  replace ga1 := below_at hB6 ga1 hgl
                  replace ga2 := below_at hB6 ga2 hgl
                  replace gf0 := (hB6.frozen (p := ⟨w1.heap.size, 0, none⟩) hgl).trans gf0
                  replace gf1 := (hB6.frozen (p := ⟨w1.heap.size, 1, none⟩) hgl).trans gf1
                  replace gf2 := (hB6.frozen (p := ⟨w1.heap.size, 2, none⟩) hgl).trans gf2))
          | (go_at_call 17; (with_reducible refine hof2.mono ?_); rintro e w6 ⟨rfl, hB6'⟩
             have hB6 : Below (w5.heap.size + 1) (w5.alloc (.cells #[.int .i64 0, .int .i64 0, .bool false] 45)) w6 := by rwa [World.size_alloc] at hB6'
             have hM6 : Mod none' w1 w6 := (hM5.alloc _).trans (Mod.of_below hB6')
             have hz6 := hM6.size
             obtain ⟨ga0, ga1, ga2, gf0, gf1, gf2⟩ := (got_alloc w5).below hB6 (by omega)
             clear hB6'))
      all_goals
        first
        | (obtain ⟨w9, gb, hw9, hgb, HL9⟩ : ∃ w9 gb, w9 = w6.alloc (.cells #[.int .i64 r0, .int .i64 r1, .bool true] 45) ∧ gb = w6.heap.size ∧ Laid9 w1 w9 gb cb coff a r1 :=
             ⟨_, _, rfl, rfl, hM6.alloc _, by go_simp, fun j hj => (cell_alloc_lt _ _ _ _ (cell_lt (below_at hB6 (Hcc.out j hj) (cell_lt (Hcc.out j hj))))).trans (below_at hB6 (Hcc.out j hj) (cell_lt (Hcc.out j hj))), hz6, hcb1⟩
           rw [← hw9, ← hgb])
        | (obtain ⟨w9, gb, hw9, hgb, HL9⟩ : ∃ w9 gb, w9 = ((w6.setCell ⟨w5.heap.size, 0, none⟩ (.int .i64 r0)).setCell ⟨w5.heap.size, 1, none⟩ (.int .i64 r1)).setCell ⟨w5.heap.size, 2, none⟩ (.bool true) ∧ gb = w5.heap.size ∧ Laid9 w1 w9 gb cb coff a r1 := by
             refine ⟨_, _, rfl, rfl, by repeat' (first | with_reducible exact hM6 | with_reducible apply Mod.setCellAt | (intro h; exfalso; omega)), by go_simp, fun j hj => ?_, hz5, hcb1⟩
             have hu := Hcc.out j hj
             have hul := cell_lt hu
             have hne : cb ≠ w5.heap.size := by omega
             exact (set1_other _ _ cb _ 2 _ hne).trans ((set1_other _ _ cb _ 1 _ hne).trans ((set1_other _ _ cb _ 0 _ hne).trans (below_at hB6 ((cell_alloc_lt w5 _ _ _ hul).trans hu) (by omega))))
           rw [← hw9, ← hgb])
        | (obtain ⟨w9, gb, hw9, hgb, HL9⟩ : ∃ w9 gb, w9 = ((w6.setCell ⟨w1.heap.size, 0, none⟩ (.int .i64 r0)).setCell ⟨w1.heap.size, 1, none⟩ (.int .i64 r1)).setCell ⟨w1.heap.size, 2, none⟩ (.bool true) ∧ gb = w1.heap.size ∧ Laid9 w1 w9 gb cb coff a r1 := by
             refine ⟨_, _, rfl, rfl, by repeat' (first | with_reducible exact hM6 | with_reducible apply Mod.setCellAt | (intro h; exfalso; omega)), by go_simp, fun j hj => ?_, Nat.le_refl _, Nat.le_of_lt hcb1⟩
             have hu := Hcc.out j hj
             have hul := cell_lt hu
             have hne : cb ≠ w1.heap.size := by omega
             exact (set1_other _ _ cb _ 2 _ hne).trans ((set1_other _ _ cb _ 1 _ hne).trans ((set1_other _ _ cb _ 0 _ hne).trans (below_at hB6 hu hul)))
           rw [← hw9, ← hgb])
      all_goals
        try clear hw9
        try clear hgb
        try clear hof1
        try clear hof2
        try clear hch1
        try clear hch2
        try clear hch
        try clear hof
        try clear hgl
        try clear ga0
        try clear ga1
        try clear ga2
        try clear gf0
        try clear gf1
        try clear gf2
        try clear hz6
        try clear hz5
        try clear hcb1
        try clear hB6
        try clear hB5
        try clear hM6
        try clear hM5
        try clear Hcc
        try clear e0
        try clear e1
        try clear hMr
        try clear d0
        try clear p0
        try clear p1
        try clear hz0
        have HL9 := Lib.hid HL9
        have hVlt := HD.out.lt
        have hgbV : ¬ V' gb := fun e => by have := hVlt _ e; have := HL9.out.g1; omega
        have hcbV : ¬ V' cb := fun e => by have := hVlt _ e; have := HL9.out.c1; omega
        have hlbV' : ¬ V' lb := fun e => (HV.out lb e).elim hlbV (fun h => by have := HB0.out.size; omega)
        clear hVlt
        go_wp2_with fail
        go_loopg [10] (lenT a) (fun g s10 wr => LayRel2 w0 (c + 3 * i) hb R a V' M' w9 p g s10 wr)
        case atStart =>
          obtain ⟨m, v, hp0, hg0⟩ := HVI.out.inv.pre a Ha.out
          exact ⟨0, V', hd', M', m, v, rfl, Nat.zero_le _, rfl, HD.out.mod HL9.out.M (fun _ _ => id) (fun _ _ => id), HVI.out, PgLe.refl _, fun _ hk => Or.inl hk, Mod.refl _ _, hp0, hg0, Or.inl rfl⟩
        case round =>
          obtain ⟨k, V2, hd2, M2, m, v, rfl, hk, rfl, hD2, hVI2, hPG2, hV2, hM2, hpre, hgv, hkm⟩ := hrel
          have HD2 := Lib.hid hD2
          have HVI2 := Lib.hid hVI2
          have HPG2 := Lib.hid hPG2
          have HV2 := Lib.hid hV2
          have HM2 := Lib.hid hM2
          have Hpre := Lib.hid hpre
          have Hgv := Lib.hid hgv
          have Hkm := Lib.hid hkm
          clear hVI2 hPG2 hV2 hpre hgv hkm
          have k0 : (0 : Int) ≤ k := by omega
          have u1 := hM2.at (mod_none_at HL9.out.M (HMW.out.at c1 hlbV)) hlbV'
          have u2 := hM2.at (mod_none_at HL9.out.M (HMW.out.at c2 hlbV)) hlbV'
          have u3 := hM2.at (mod_none_at HL9.out.M (HMW.out.at c3 hlbV)) hlbV'
          by_cases hkl : k < lenT a
          · have k1 : (k : Int) < lenT a := by omega
            have Hkl := Lib.hid hkl
            have k2 : (k : Int) < 3 := by have := (lenT_le a).2; omega
            have y0 := hM2.at (HL9.out.units k hkl) hcbV
            have y1 := hM2.at HL9.out.page hgbV
            clear hkl hM2
            by_cases hku : (k : Int) < p.units
            · obtain ⟨un, hun⟩ : ∃ un, un = ((uT a k : Nat) : Int) := ⟨_, rfl⟩
              rw [← hun] at y0
              have Hun := Lib.hid hun
              have x0 : wr.drew.cell? ⟨cb, coff + k, none⟩ = some (.int .i64 un) := y0
              have x1 : wr.drew.cell? ⟨gb, 1, none⟩ = some (.int .i64 r1) := y1
              have x3 : wr.drew.cell? ⟨lb, off + i * 4 + 3, none⟩ = some (.string p.s) := u3
              have xa0 : ∀ o, (wr.alloc o).drew.cell? ⟨cb, coff + k, none⟩ = some (.int .i64 un) := fun o => (cell_alloc_lt wr o cb _ (cell_lt y0)).trans y0
              have xa1 : ∀ o, (wr.alloc o).drew.cell? ⟨gb, 1, none⟩ = some (.int .i64 r1) := fun o => (cell_alloc_lt wr o gb _ (cell_lt y1)).trans y1
              have xa3 : ∀ o, (wr.alloc o).drew.cell? ⟨lb, off + i * 4 + 3, none⟩ = some (.string p.s) := fun o => (cell_alloc_lt wr o lb _ (cell_lt u3)).trans u3
              clear hun
              cases hfl : p.fill
              · rw [hfl] at u2
                have Hfl := Lib.hid hfl
                clear hfl
                go_wp2_with fail
                go_region_held3 (fun w' => w'.cell? ⟨cb, coff + k, none⟩ = some (.int .i64 un) ∧ w'.cell? ⟨gb, 1, none⟩ = some (.int .i64 r1) ∧ w'.cell? ⟨lb, off + i * 4 + 3, none⟩ = some (.string p.s))
                  (first
                    | with_reducible exact ⟨x0, x1, x3⟩
                    | with_reducible exact ⟨xa0 _, xa1 _, xa3 _⟩)
                  (fail)
                obtain ⟨W3, hW3, hB3, hz3, ⟨b0, b1, b2, b3, b4, b5, b6, b7, b8⟩, -⟩ := ask_box9d wr (.int .i64 1) (.int .i64 un) (.int .i64 0) (.int .i64 r1) (.int .i64 0) (.int .i64 0) (.string p.s) (.int .i64 0) (.slice none 0 0)
                rw [← hW3]
                have hD3 := HD2.out.below' hB3
                have HB3 := Lib.hid hB3
                replace u2 := below_at hB3 u2 (cell_lt u2)
                clear hW3 hB3 hz3 u1 u3 x0 x1 x3 xa0 xa1 xa3 y0 y1 hD2
                have hpd : (putQ p a k).p = Esch.p0 := by unfold putQ; by_cases e : p.fill = true <;> simp [e]
                obtain ⟨code, M3, m3, v3, q1, q2, q3, q4, q5, q6, q7⟩ := put_step HVI2.out Ha.out Hpre.out Hgv.out Hkl.out p Hs.out Hkm.out
                have hc1 := hd1_hand hD3 (by have := (lenT_le a).2; omega) (putQ p a k) hpd (putQ_data Hs.out) 0
                obtain ⟨hd3, hhd3⟩ : ∃ hd3, hd3 = ({ hd2 with nd := (hd2.nd.do (putQ p a k)).2 } : HdS) := ⟨_, rfl⟩
                rw [show hd2.ask (putQ p a k) 0 = ((anU code ⟨#[]⟩, true), hd3) by unfold HdS.ask; rw [if_pos rfl, q1, hhd3]] at hc1
                replace q2 : VI hd3.nd R M3 := by rw [hhd3]; exact q2
                clear hhd3
                rw [show putQ p a k = (⟨1, un, 0, r1, 0, 0, p.s, Esch.p0⟩ : QS) by unfold putQ; rw [Hfl.out]; first | rw [if_pos rfl, ← Hr1.out, ← Hun.out] | rw [if_neg (by decide), ← Hr1.out, ← Hun.out]] at hc1
                unfold Hd1HPost at hc1
                simp only [qV, aV, anU, Esch.p0, List.length_nil] at hc1
                have Hq2 := Lib.hid q2
                have Hq3 := Lib.hid q3
                have Hq4 := Lib.hid q4
                have Hq5 := Lib.hid q5
                have Hq6 := Lib.hid q6
                have Hq7 := Lib.hid q7
                clear q1 q2 q3 q4 q5 q6 q7 hpd hD3
                go_wp2_with fail
                refine hc1.mono ?_
                clear hc1
                rintro e w4 ⟨xa, xcc, rfl, -, hD4, hM4⟩
                have HD4 := Lib.hid hD4
                have HM4 := Lib.hid hM4
                have hV4 : ∀ j, grow V2 W3 w4 j → V' j ∨ w9.heap.size ≤ j := fun j hj => by
                  rcases hj with hj | hj
                  · exact HV2.out j hj
                  · have := HM2.out.size; have := HB3.out.size; exact Or.inr (by omega)
                have hM24 : Mod V' w9 w4 := (HM2.out.trans (Mod.of_below HB3.out)).trans' HM4.out (fun j hj h => (HV2.out j h).resolve_right (by omega))
                have HV4 := Lib.hid hV4
                have HM24 := Lib.hid hM24
                clear hD4 hM4 hV4 hM24
                rcases Hq7.out with hcd | hcd
                · have H6 := Lib.hid (Hq6.out hcd)
                  subst hcd
                  go_wp2_with fail
                  obtain ⟨w5, hw5, hB5, -⟩ := an_boxA w4 (.int .i64 0) (.int .i64 0) (.string ⟨#[]⟩) (.int .i64 0) (.slice xa 0 xcc) (.int .i64 0) (.int .i64 0) (.int .i64 0)
                  rw [← hw5]
                  have HD5 := Lib.hid (HD4.out.below' hB5)
                  have HM25 := Lib.hid (HM24.out.trans (Mod.of_below hB5))
                  clear hw5 hB5
                  go_roundg (lenT a - (k + 1))
                  case measure => have := Hkl.out; omega
                  case rel => exact ⟨k + 1, _, _, M3, m3, v3, rfl, Hkl.out, by go_num, HD5.out, Hq2.out, HPG2.out.trans Hq3.out, HV4.out, HM25.out, Hq4.out, Hq5.out, Or.inr H6.out⟩
                · subst hcd
                  go_wp2_with fail
                  obtain ⟨w5, hw5, hB5, -⟩ := an_boxA w4 (.int .i64 41) (.int .i64 0) (.string ⟨#[]⟩) (.int .i64 0) (.slice xa 0 xcc) (.int .i64 0) (.int .i64 0) (.int .i64 0)
                  rw [← hw5]
                  have HD5 := Lib.hid (HD4.out.below' hB5)
                  have HM25 := Lib.hid (HM24.out.trans (Mod.of_below hB5))
                  have HPG5 := Lib.hid (HPG2.out.trans Hq3.out)
                  clear hw5 hB5
                  go_wp2_with fail
                  go_roundg (n - (i + 1))
                  case measure => omega
                  case rel =>
                    have hzr := HMV.out.size
                    have hz9 := HL9.out.M.size
                    exact ⟨i + 1, _, _, _, rfl, by omega, by omega, by go_num, HD5.out.more (by have := (lenT_le a).2; omega), Hq2.out, HPG.out.trans HPG5.out, fun j hj => by
                      rcases HV4.out j hj with hj | hj
                      · exact HV.out j hj
                      · exact Or.inr (by omega), (HMV.out.trans (mod_none HL9.out.M)).trans' HM25.out (fun j hj h => (HV.out j h).resolve_right (by omega))⟩
              · rw [hfl] at u2
                have Hfl := Lib.hid hfl
                clear hfl
                go_wp2_with fail
                go_region_held3 (fun w' => w'.cell? ⟨cb, coff + k, none⟩ = some (.int .i64 un) ∧ w'.cell? ⟨gb, 1, none⟩ = some (.int .i64 r1) ∧ w'.cell? ⟨lb, off + i * 4 + 3, none⟩ = some (.string p.s))
                  (first
                    | with_reducible exact ⟨x0, x1, x3⟩
                    | with_reducible exact ⟨xa0 _, xa1 _, xa3 _⟩)
                  (fail)
                obtain ⟨W2b, hW2, hB2, hz2, ⟨b0, b1, b2, b3, b4, b5, b6, b7, b8⟩, ⟨bf0, bf1, bf2, bf3, bf4, bf5, bf6, bf7, bf8⟩⟩ := ask_box9d wr (.int .i64 1) (.int .i64 un) (.int .i64 0) (.int .i64 r1) (.int .i64 0) (.int .i64 0) (.string p.s) (.int .i64 0) (.slice none 0 0)
                rw [← hW2]
                have u2b := below_at hB2 u2 (cell_lt u2)
                have y0b := below_at hB2 y0 (cell_lt y0)
                have y1b := below_at hB2 y1 (cell_lt y1)
                have ncb : cb ≠ wr.heap.size := by have := cell_lt y0; omega
                have ngb : gb ≠ wr.heap.size := by have := cell_lt y1; omega
                clear hW2 hz2 u1 u2 u3 x0 x1 x3 xa0 xa1 xa3 y0 y1
                go_wp2_with fail
                go_region
                obtain ⟨W3, hW3, hM3, ⟨g0, g1, g2, g3, g4, g5, g6, g7, g8⟩⟩ := ask_set9 W2b wr.heap.size (.int .i64 2) (.int .i64 un) (.int .i64 0) (.int .i64 r1) (.int .i64 0) (.int .i64 0) (.string ⟨#[]⟩) (.int .i64 0) (.slice none 0 0) _ _ _ _ _ _ _ _ _ b0 b1 b2 b3 b4 b5 b6 b7 b8
                rw [← hW3]
                have HB3 := Lib.hid (hB2.trans (hM3.below_at hB2.size (fun j hj e => by omega)))
                have hD3 := HD2.out.below' HB3.out
                clear hW3 hB2 hM3 hD2 b0 b1 b2 b3 b4 b5 b6 b7 b8 bf0 bf1 bf2 bf3 bf4 bf5 bf6 bf7 bf8 u2b y0b y1b
                have hpd : (putQ p a k).p = Esch.p0 := by unfold putQ; by_cases e : p.fill = true <;> simp [e]
                obtain ⟨code, M3, m3, v3, q1, q2, q3, q4, q5, q6, q7⟩ := put_step HVI2.out Ha.out Hpre.out Hgv.out Hkl.out p Hs.out Hkm.out
                have hc1 := hd1_hand hD3 (by have := (lenT_le a).2; omega) (putQ p a k) hpd (putQ_data Hs.out) 0
                obtain ⟨hd3, hhd3⟩ : ∃ hd3, hd3 = ({ hd2 with nd := (hd2.nd.do (putQ p a k)).2 } : HdS) := ⟨_, rfl⟩
                rw [show hd2.ask (putQ p a k) 0 = ((anU code ⟨#[]⟩, true), hd3) by unfold HdS.ask; rw [if_pos rfl, q1, hhd3]] at hc1
                replace q2 : VI hd3.nd R M3 := by rw [hhd3]; exact q2
                clear hhd3
                rw [show putQ p a k = (⟨2, un, 0, r1, 0, 0, ⟨#[]⟩, Esch.p0⟩ : QS) by unfold putQ; rw [Hfl.out]; first | rw [if_pos rfl, ← Hr1.out, ← Hun.out] | rw [if_neg (by decide), ← Hr1.out, ← Hun.out]] at hc1
                unfold Hd1HPost at hc1
                simp only [qV, aV, anU, Esch.p0, List.length_nil] at hc1
                have Hq2 := Lib.hid q2
                have Hq3 := Lib.hid q3
                have Hq4 := Lib.hid q4
                have Hq5 := Lib.hid q5
                have Hq6 := Lib.hid q6
                have Hq7 := Lib.hid q7
                clear q1 q2 q3 q4 q5 q6 q7 hpd hD3
                go_wp2_with fail
                refine hc1.mono ?_
                clear hc1
                rintro e w4 ⟨xa, xcc, rfl, -, hD4, hM4⟩
                have HD4 := Lib.hid hD4
                have HM4 := Lib.hid hM4
                have hV4 : ∀ j, grow V2 W3 w4 j → V' j ∨ w9.heap.size ≤ j := fun j hj => by
                  rcases hj with hj | hj
                  · exact HV2.out j hj
                  · have := HM2.out.size; have := HB3.out.size; exact Or.inr (by omega)
                have hM24 : Mod V' w9 w4 := (HM2.out.trans (Mod.of_below HB3.out)).trans' HM4.out (fun j hj h => (HV2.out j h).resolve_right (by omega))
                have HV4 := Lib.hid hV4
                have HM24 := Lib.hid hM24
                clear hD4 hM4 hV4 hM24
                rcases Hq7.out with hcd | hcd
                · have H6 := Lib.hid (Hq6.out hcd)
                  subst hcd
                  go_wp2_with fail
                  obtain ⟨w5, hw5, hB5, -⟩ := an_boxA w4 (.int .i64 0) (.int .i64 0) (.string ⟨#[]⟩) (.int .i64 0) (.slice xa 0 xcc) (.int .i64 0) (.int .i64 0) (.int .i64 0)
                  rw [← hw5]
                  have HD5 := Lib.hid (HD4.out.below' hB5)
                  have HM25 := Lib.hid (HM24.out.trans (Mod.of_below hB5))
                  clear hw5 hB5
                  go_roundg (lenT a - (k + 1))
                  case measure => have := Hkl.out; omega
                  case rel => exact ⟨k + 1, _, _, M3, m3, v3, rfl, Hkl.out, by go_num, HD5.out, Hq2.out, HPG2.out.trans Hq3.out, HV4.out, HM25.out, Hq4.out, Hq5.out, Or.inr H6.out⟩
                · subst hcd
                  go_wp2_with fail
                  obtain ⟨w5, hw5, hB5, -⟩ := an_boxA w4 (.int .i64 41) (.int .i64 0) (.string ⟨#[]⟩) (.int .i64 0) (.slice xa 0 xcc) (.int .i64 0) (.int .i64 0) (.int .i64 0)
                  rw [← hw5]
                  have HD5 := Lib.hid (HD4.out.below' hB5)
                  have HM25 := Lib.hid (HM24.out.trans (Mod.of_below hB5))
                  have HPG5 := Lib.hid (HPG2.out.trans Hq3.out)
                  clear hw5 hB5
                  go_wp2_with fail
                  go_roundg (n - (i + 1))
                  case measure => omega
                  case rel =>
                    have hzr := HMV.out.size
                    have hz9 := HL9.out.M.size
                    exact ⟨i + 1, _, _, _, rfl, by omega, by omega, by go_num, HD5.out.more (by have := (lenT_le a).2; omega), Hq2.out, HPG.out.trans HPG5.out, fun j hj => by
                      rcases HV4.out j hj with hj | hj
                      · exact HV.out j hj
                      · exact Or.inr (by omega), (HMV.out.trans (mod_none HL9.out.M)).trans' HM25.out (fun j hj h => (HV.out j h).resolve_right (by omega))⟩
            · have hku' : p.units ≤ k := by omega
              clear hku
              go_wp2_with fail
              go_roundg (n - (i + 1))
              case measure => omega
              case rel =>
                have hzr := HMV.out.size
                have hz9 := HL9.out.M.size
                exact ⟨i + 1, _, _, _, rfl, by omega, by omega, by go_num, HD2.out.more (by have := (lenT_le a).2; omega), HVI2.out, HPG.out.trans HPG2.out, fun j hj => by
                  rcases HV2.out j hj with hj | hj
                  · exact HV.out j hj
                  · exact Or.inr (by omega), (HMV.out.trans (mod_none HL9.out.M)).trans' HM2.out (fun j hj h => (HV.out j h).resolve_right (by omega))⟩
          · obtain rfl : k = lenT a := by omega
            clear hkl hM2
            go_wp2_with fail
            go_roundg (n - (i + 1))
            case measure => omega
            case rel =>
              have hzr := HMV.out.size
              have hz9 := HL9.out.M.size
              exact ⟨i + 1, _, _, _, rfl, by omega, by omega, by go_num, HD2.out.more (by have := (lenT_le a).2; omega), HVI2.out, HPG.out.trans HPG2.out, fun j hj => by
                rcases HV2.out j hj with hj | hj
                · exact HV.out j hj
                · exact Or.inr (by omega), (HMV.out.trans (mod_none HL9.out.M)).trans' HM2.out (fun j hj h => (HV.out j h).resolve_right (by omega))⟩
    · have hout : n ≤ i ∨ i = 60 := by omega
      have hBe := HMV.out
      have HBe := Lib.hid hBe
      clear hBe hMV
      rcases hout with hout | hout
      · obtain rfl : i = n := by omega
        clear hin
        go_wp2_with fail
        go_end0
        have hMe : Mod V w wr := (Mod.of_below HB0.out : Mod V w W0).trans HBe.out
        refine ⟨rfl, hd', M', ?_, HVI.out, HPG.out, hMe⟩
        obtain ⟨⟨U, T, h1, h2, h3⟩, h4, h5, h6⟩ := HD.out
        refine ⟨⟨U, T, h1, by omega, fun k hk => ?_⟩, fun k hk => ?_, fun k hk => ?_, h6⟩
        · rcases HV.out k (h3 k hk) with e | e
          · exact Or.inl e
          · exact Or.inr ⟨by have := HB0.out.size; omega, h4 k (h3 k hk)⟩
        · rcases hk with hk | hk
          · exact Nat.lt_of_lt_of_le (HLt.out k hk) hMe.size
          · exact hk.2
        · rcases hk with hk | hk
          · exact HOld.out k hk
          · have := HBW.out.size; omega
      · subst hout
        rcases Nat.lt_or_ge 60 n with hn6 | hn6
        · have hn7 : (60 : Int) < n := by omega
          go_wp2_with fail
          go_end0
          have hMe : Mod V w wr := (Mod.of_below HB0.out : Mod V w W0).trans HBe.out
          refine ⟨rfl, hd', M', ?_, HVI.out, HPG.out, hMe⟩
          obtain ⟨⟨U, T, h1, h2, h3⟩, h4, h5, h6⟩ := HD.out
          refine ⟨⟨U, T, h1, by omega, fun k hk => ?_⟩, fun k hk => ?_, fun k hk => ?_, h6⟩
          · rcases HV.out k (h3 k hk) with e | e
            · exact Or.inl e
            · exact Or.inr ⟨by have := HB0.out.size; omega, h4 k (h3 k hk)⟩
          · rcases hk with hk | hk
            · exact Nat.lt_of_lt_of_le (HLt.out k hk) hMe.size
            · exact hk.2
          · rcases hk with hk | hk
            · exact HOld.out k hk
            · have := HBW.out.size; omega
        · obtain rfl : n = 60 := by omega
          go_wp2_with fail
          go_end0
          have hMe : Mod V w wr := (Mod.of_below HB0.out : Mod V w W0).trans HBe.out
          refine ⟨rfl, hd', M', ?_, HVI.out, HPG.out, hMe⟩
          obtain ⟨⟨U, T, h1, h2, h3⟩, h4, h5, h6⟩ := HD.out
          refine ⟨⟨U, T, h1, by omega, fun k hk => ?_⟩, fun k hk => ?_, fun k hk => ?_, h6⟩
          · rcases HV.out k (h3 k hk) with e | e
            · exact Or.inl e
            · exact Or.inr ⟨by have := HB0.out.size; omega, h4 k (h3 k hk)⟩
          · rcases hk with hk | hk
            · exact Nat.lt_of_lt_of_le (HLt.out k hk) hMe.size
            · exact hk.2
          · rcases hk with hk | hk
            · exact HOld.out k hk
            · have := HBW.out.size; omega
end Go.Proofs.YtohmmjaikhpcfaaGreat
