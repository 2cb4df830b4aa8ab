/- package state: fill and Load of the dump of a new state -/
import Derived.Test.YtmnkackkeppheaaGreatStDump
import Derived.Test.YtmnkackkeppheaaGreatPkSm
import Derived.Test.YtmnkackkeppheaaGreatInoLd
import Derived.Test.YtmnkackkeppheaaGreatCheck1
namespace Esch
open Go Go.RowKit
theorem DmBox.mod {F : Nat → Prop} {w w' : World} {xb : Nat} {f : Nat → Value} (h : DmBox w xb f) (hM : Mod F w w') (hne : ¬ F xb) : DmBox w' xb f := by
  have hl := cell_lt (h.at' 0 (by decide))
  exact ⟨fun j hj => hM.at (h.at' j hj) hne, fun j => (hM.frozen (p := ⟨xb, j, none⟩) hl hne).trans (h.fz j)⟩
theorem DmBox.rangeL {w : World} {xb : Nat} {l : List Value} (h : DmBox w xb (fun j => (l[j]?).getD undef)) (hl : l.length = 37) : w.rangeAt xb 0 l := fun j v hv => by
  have hj : j < l.length := (List.getElem?_eq_some_iff.1 hv).1
  rw [Nat.zero_add, h.at' j (by omega), hv]; rfl
/-- the cells of a new state's dump -/
def dn (ia : Option Addr) (ic : Nat) (na : Option Addr) (nc : Nat) (ha : Option Addr) (hc : Nat) : List Value := dmZ (.int .i64 0) (.slice ia (1 : Nat) ic) (.int .i64 2) (.slice na (0 : Nat) nc) (.slice ha (0 : Nat) hc)
def dnC (ia : Option Addr) (ic : Nat) (c : InC) (na : Option Addr) (nc : Nat) (ha : Option Addr) (hc : Nat) : DmC := ⟨0, ia, ic, [c], 2, na, nc, [], ha, hc, [], fun _ => 0, fun _ => 0, fun _ => 0⟩
theorem dnC_cells (ia : Option Addr) (ic : Nat) (c : InC) (na : Option Addr) (nc : Nat) (ha : Option Addr) (hc : Nat) : (dnC ia ic c na nc ha hc).cells = dn ia ic na nc ha hc := rfl
theorem dnC_ok {w : World} {S : Nat → Prop} {ia : Option Addr} {ic : Nat} {c : InC} (na : Option Addr) (nc : Nat) (ha : Option Addr) (hc : Nat) (h : InosAt w S ia [c]) : DmOk w S (dnC ia ic c na nc ha hc) :=
  ⟨h, RwAt.nil _ _ _ _, RwAt.nil _ _ _ _, (by show 1 ≤ 100000; decide), Nat.zero_le _, Nat.zero_le _⟩
theorem dnC_same {ia ia2 : Option Addr} {ic ic2 : Nat} {c c2 : InC} (na na2 : Option Addr) (nc nc2 : Nat) (ha ha2 : Option Addr) (hc hc2 : Nat) (h : c.val = c2.val) : (dnC ia ic c na nc ha hc).same (dnC ia2 ic2 c2 na2 nc2 ha2 hc2) = true := by
  simp [DmC.same, dnC, h]
end Esch
namespace Go.Proofs.YtmnkackkeppheaaGreat
open Go.RowKit Esch Go.Shelf

set_option linter.unusedSimpArgs false
set_option linter.unusedVariables false
theorem dn37 (ia : Option Addr) (ic : Nat) (na : Option Addr) (nc : Nat) (ha : Option Addr) (hc : Nat) : (Tryz.prog.info? 32).map (·.size) = some (dn ia ic na nc ha hc).length := by rw [show (dn ia ic na nc ha hc).length = 37 from rfl]; kernel_rfl
theorem tr0_goodT : GoodT tr0 := ⟨fun e he => (by cases he), rfl, by decide, fun i hi h => absurd (by simpa [tr0] using hi) h⟩
/-- a new state's dump -/
def NewDump (w : World) (e : Ending) (w' : World) : Prop := ∃ ia ic c na nc ha hc, e = .returned (.agg (dn ia ic na nc ha hc).toArray) ∧ InosAt w' (From w.heap.size) ia [c] ∧ c.val = rootS ∧ Below w.heap.size w w'
theorem new_dump {w : World} {e : Ending} {w' : World} (h : Dump25Post w st0 e w') : NewDump w e w' := by
  obtain ⟨ia, ic, ik, na, nc, nl, ha, hc, hl, rfl, h1, h2, h3, -, h4, -, hB⟩ := h
  obtain rfl : nl = [] := by have := h3.1; simpa [st0, tr0] using this
  obtain rfl : hl = [] := by have := h4.1; simpa [st0, hd0] using this
  have h2 : ik.map InC.val = [rootS] := h2.trans (by simp [TabS.dump, st0, tr0, sortI, rootS, TabS.at, Esch.get])
  obtain ⟨c, rfl⟩ : ∃ c, ik = [c] := List.length_eq_one_iff.1 (by have := congrArg List.length h2; simpa using this)
  exact ⟨ia, ic, c, na, nc, ha, hc, rfl, h1, by simpa using h2, hB⟩
/-- a new state that is being filled with the dump of a new state -/
structure FlIn (lo : Nat) (w0 W : World) (b tb hb ob mb ib nb xb : Nat) (ia : Option Addr) (ic : Nat) (c : InC) (na : Option Addr) (nc : Nat) (ha : Option Addr) (hc : Nat) : Prop where
  st : ∃ S1 S2, StIn W b tb hb ob mb S1 S2 st0 ∧ (∀ k, S1 k → lo ≤ k ∧ k ≠ xb) ∧ (∀ k, S2 k → lo ≤ k ∧ k ≠ xb)
  t0 : W.cell? ⟨tb, 0, none⟩ = some (.pointer (some ⟨ib, 0, none⟩))
  t1 : W.cell? ⟨tb, 1, none⟩ = some (.pointer (some ⟨nb, 0, none⟩))
  bx : DmBox W xb (fun j => ((dn ia ic na nc ha hc)[j]?).getD undef)
  row : InosAt W (fun k => k < lo) ia [c]
  cv : c.val = rootS
  bl : lo ≤ b ∧ b ≠ xb
  fr : Below lo w0 W
  zl : lo ≤ w0.heap.size
theorem FlIn.step {lo : Nat} {w0 W : World} {b tb hb ob mb ib nb xb : Nat} {ia : Option Addr} {ic : Nat} {c : InC} {na : Option Addr} {nc : Nat} {ha : Option Addr} {hc : Nat} {W' : World} {G : Nat → Prop} (h : FlIn lo w0 W b tb hb ob mb ib nb xb ia ic c na nc ha hc) (hM : Mod G W W') (hG : ∀ k, G k → lo ≤ k ∧ k ≠ xb)
    (hst : ∃ S1 S2, StIn W' b tb hb ob mb S1 S2 st0 ∧ (∀ k, S1 k → lo ≤ k ∧ k ≠ xb) ∧ (∀ k, S2 k → lo ≤ k ∧ k ≠ xb)) (h0 : W'.cell? ⟨tb, 0, none⟩ = some (.pointer (some ⟨ib, 0, none⟩))) (h1 : W'.cell? ⟨tb, 1, none⟩ = some (.pointer (some ⟨nb, 0, none⟩))) : FlIn lo w0 W' b tb hb ob mb ib nb xb ia ic c na nc ha hc :=
  ⟨hst, h0, h1, h.bx.mod hM (fun e => (hG _ e).2 rfl), h.row.mod hM (fun k hk _ e => by have := (hG k e).1; omega), h.cv, h.bl, h.fr.trans (hM.below_at (Nat.le_trans h.zl h.fr.size) (fun k hk e => by have := (hG k e).1; omega)), h.zl⟩
theorem FlIn.below {lo : Nat} {w0 W : World} {b tb hb ob mb ib nb xb : Nat} {ia : Option Addr} {ic : Nat} {c : InC} {na : Option Addr} {nc : Nat} {ha : Option Addr} {hc : Nat} {W' : World} (h : FlIn lo w0 W b tb hb ob mb ib nb xb ia ic c na nc ha hc) (hB : Below W.heap.size W W') : FlIn lo w0 W' b tb hb ob mb ib nb xb ia ic c na nc ha hc := by
  obtain ⟨S1, S2, hi, h1, h2⟩ := h.st
  exact h.step (G := none') (Mod.of_below hB) (fun _ e => e.elim) ⟨S1, S2, hi.mod (F := none') (Mod.of_below hB) id id id (fun _ _ => id) (fun _ _ => id), h1, h2⟩ (below_at hB h.t0 (cell_lt h.t0)) (below_at hB h.t1 (cell_lt h.t1))
theorem FlIn.keys {lo : Nat} {w0 W : World} {b tb hb ob mb ib nb xb : Nat} {ia : Option Addr} {ic : Nat} {c : InC} {na : Option Addr} {nc : Nat} {ha : Option Addr} {hc : Nat} (h : FlIn lo w0 W b tb hb ob mb ib nb xb ia ic c na nc ha hc) : (W.cell? ⟨b, 0, none⟩ = some (.pointer (some ⟨tb, 0, none⟩)) ∧ W.cell? ⟨b, 1, none⟩ = some (.pointer (some ⟨hb, 0, none⟩)) ∧ W.cell? ⟨xb, 0, none⟩ = some (.int .i64 0) ∧ W.cell? ⟨xb, 1, none⟩ = some (.slice ia (1 : Nat) ic) ∧ W.cell? ⟨xb, 2, none⟩ = some (.int .i64 2) ∧ W.cell? ⟨xb, 3, none⟩ = some (.slice na (0 : Nat) nc) ∧ W.cell? ⟨xb, 4, none⟩ = some (.slice ha (0 : Nat) hc)) := by
  obtain ⟨S1, S2, hi, -, -⟩ := h.st
  exact ⟨hi.c0, hi.c1, h.bx.at' 0 (by decide), h.bx.at' 1 (by decide), h.bx.at' 2 (by decide), h.bx.at' 3 (by decide), h.bx.at' 4 (by decide)⟩
theorem FlIn.range {lo : Nat} {w0 W : World} {b tb hb ob mb ib nb xb : Nat} {ia : Option Addr} {ic : Nat} {c : InC} {na : Option Addr} {nc : Nat} {ha : Option Addr} {hc : Nat} (h : FlIn lo w0 W b tb hb ob mb ib nb xb ia ic c na nc ha hc) : W.rangeAt xb 0 (dn ia ic na nc ha hc) := h.bx.rangeL rfl
theorem FlIn.zero {lo : Nat} {w0 W : World} {b tb hb ob mb ib nb xb : Nat} {ia : Option Addr} {ic : Nat} {c : InC} {na : Option Addr} {nc : Nat} {ha : Option Addr} {hc : Nat} (h : FlIn lo w0 W b tb hb ob mb ib nb xb ia ic c na nc ha hc) (j : Nat) (hj : j < 32) : W.cell? ⟨xb, 5 + j, none⟩ = some (.int .i64 0) := by
  rw [h.bx.at' (5 + j) (by omega)]
  have e : (dn ia ic na nc ha hc)[5 + j]? = some (.int .i64 0) := by
    rw [show 5 + j = j + 5 from Nat.add_comm 5 j]
    show (List.replicate 32 (Value.int .i64 0))[j]? = _
    rw [List.getElem?_replicate, if_pos hj]
  rw [e]; rfl
theorem FlIn.tab {lo : Nat} {w0 W : World} {b tb hb ob mb ib nb xb : Nat} {ia : Option Addr} {ic : Nat} {c : InC} {na : Option Addr} {nc : Nat} {ha : Option Addr} {hc : Nat} (h : FlIn lo w0 W b tb hb ob mb ib nb xb ia ic c na nc ha hc) : ∃ S1 S2 Sa Sb, StIn W b tb hb ob mb S1 S2 st0 ∧ (∀ k, S1 k → lo ≤ k ∧ k ≠ xb) ∧ (∀ k, S2 k → lo ≤ k ∧ k ≠ xb) ∧ S1 tb ∧ (∀ k, S1 k → k < W.heap.size) ∧ TabAt W ib Sa tab0 ∧ DirAt W nb Sb tr0.n ∧
    (∀ k, Sa k → S1 k) ∧ (∀ k, Sb k → S1 k) ∧ (∀ k, Sa k → ¬ Sb k) ∧ ¬ Sa tb ∧ ¬ Sb tb := by
  obtain ⟨S1, S2, hi, h1, h2⟩ := h.st
  obtain ⟨sb, lt, ib', nb', Sa, Sb, c0, c1, ht, hn, s1, s2, d, b1, b2⟩ := hi.tr
  obtain rfl : ib' = ib := by have := h.t0; rw [c0] at this; cases this; rfl
  obtain rfl : nb' = nb := by have := h.t1; rw [c1] at this; cases this; rfl
  exact ⟨S1, S2, Sa, Sb, hi, h1, h2, sb, lt, ht, hn, s1, s2, d, b1, b2⟩
theorem FlIn.ild {lo : Nat} {w0 W : World} {b tb hb ob mb ib nb xb : Nat} {ia : Option Addr} {ic : Nat} {c : InC} {na : Option Addr} {nc : Nat} {ha : Option Addr} {hc : Nat} (h : FlIn lo w0 W b tb hb ob mb ib nb xb ia ic c na nc ha hc) : Calls Tryz.prog 90 #[.pointer (some ⟨ib, 0, none⟩), .slice ia (1 : Nat) ic, .int .i64 2] W fun e w' => e = .returned (.int .i64 0) ∧ FlIn lo w0 w' b tb hb ob mb ib nb xb ia ic c na nc ha hc := by
  obtain ⟨S1, S2, Sa, Sb, hi, h1, h2, sb, lt, ht, hn, s1, s2, d, b1, b2⟩ := h.tab
  refine (inoLoad_root W ib Sa tab0 ht _ ia ic c h.row h.cv).mono ?_
  rintro e w' ⟨rfl, hT, hM⟩
  have hMS : Mod Sa W w' := hM.mono fun k _ e => by rw [show k = ib from e]; exact ht.sb
  obtain ⟨hTr, hM1⟩ := TreeAt.tabG (s := tr0) sb lt h.t0 h.t1 hn s1 s2 d b1 b2 hT hMS
  have hb := cell_lt (h.bx.at' 0 (by decide))
  have hz := h.fr.size
  have hzl := h.zl
  refine ⟨rfl, h.step hM (fun k e => by rw [show k = ib from e]; exact h1 ib (s1 ib ht.sb)) ⟨_, _, hi.tree hTr hM1, fun k hk => hk.elim (h1 k) (fun g => ⟨by omega, fun e => by omega⟩), h2⟩ (hMS.at h.t0 b1) (hMS.at h.t1 b1)⟩
theorem FlIn.opens {lo : Nat} {w0 W : World} {b tb hb ob mb ib nb xb : Nat} {ia : Option Addr} {ic : Nat} {c : InC} {na : Option Addr} {nc : Nat} {ha : Option Addr} {hc : Nat} (h : FlIn lo w0 W b tb hb ob mb ib nb xb ia ic c na nc ha hc) : Calls Tryz.prog 94 #[.pointer (some ⟨ib, 0, none⟩), .int .i64 1] W fun e w' => e = .returned (.int .i64 0) ∧ Below W.heap.size W w' := by
  obtain ⟨S1, S2, Sa, Sb, hi, h1, h2, sb, lt, ht, -⟩ := h.tab
  exact inoOpens_any W ib Sa tab0 ht 1
theorem FlIn.all {lo : Nat} {w0 W : World} {b tb hb ob mb ib nb xb : Nat} {ia : Option Addr} {ic : Nat} {c : InC} {na : Option Addr} {nc : Nat} {ha : Option Addr} {hc : Nat} (h : FlIn lo w0 W b tb hb ob mb ib nb xb ia ic c na nc ha hc) : Calls Tryz.prog 76 #[.pointer (some ⟨ib, 0, none⟩)] W fun e w' => (∃ (bk off cp : Nat), e = .returned (.slice (some ⟨bk, off, none⟩) (1 : Nat) cp) ∧ w'.cell? ⟨bk, off, none⟩ = some (.int .i64 1)) ∧ Below W.heap.size W w' := by
  obtain ⟨S1, S2, Sa, Sb, hi, h1, h2, sb, lt, ht, -⟩ := h.tab
  refine (inoAll_any W ib Sa tab0 ht (by decide)).mono ?_
  rintro e w' ⟨a, cp, rfl, hN, -, hB⟩
  rw [show sortI (tab0.m.map (·.1)) = [1] by simp [sortI, tab0]] at hN ⊢
  obtain ⟨bk, off, rfl, -, -, hc⟩ := hN (by decide)
  exact ⟨⟨bk, off, cp, rfl, hc 0 (by decide)⟩, hB⟩
theorem FlIn.renew {lo : Nat} {w0 W : World} {b tb hb ob mb ib nb xb : Nat} {ia : Option Addr} {ic : Nat} {c : InC} {na : Option Addr} {nc : Nat} {ha : Option Addr} {hc : Nat} (h : FlIn lo w0 W b tb hb ob mb ib nb xb ia ic c na nc ha hc) (k : Nat) (hk : k < 8) : Calls Tryz.prog 95 #[.pointer (some ⟨hb, 0, none⟩), .int .i64 k, .int .i64 0] W fun e w' => e = .returned (.int .i64 0) ∧ FlIn lo w0 w' b tb hb ob mb ib nb xb ia ic c na nc ha hc := by
  obtain ⟨S1, S2, hi, h1, h2⟩ := h.st
  refine (hdlRenew_any W hb S2 st0.h hi.hd k 0).mono ?_
  have hr : st0.h.renew k 0 = (0, st0.h) := by
    match k, hk with
    | 0, _ | 1, _ | 2, _ | 3, _ | 4, _ | 5, _ | 6, _ | 7, _ => rfl
  rw [hr]
  rintro e w' ⟨rfl, hH, hM⟩
  obtain ⟨T1, T2, Sa, Sb, hi', -, -, sb, -⟩ := h.tab
  have htb : ¬ S2 tb := fun e => hi.ap tb hi.tr.sb e
  exact ⟨rfl, h.step hM (fun k e => h2 k e) ⟨S1, S2, hi.hdl hH hM, h1, h2⟩ (hM.at h.t0 htb) (hM.at h.t1 htb)⟩
theorem FlIn.nxt {lo : Nat} {w0 W : World} {b tb hb ob mb ib nb xb : Nat} {ia : Option Addr} {ic : Nat} {c : InC} {na : Option Addr} {nc : Nat} {ha : Option Addr} {hc : Nat} (h : FlIn lo w0 W b tb hb ob mb ib nb xb ia ic c na nc ha hc) : FlIn lo w0 (W.setCell ⟨b, 3, none⟩ (.int .i64 0)) b tb hb ob mb ib nb xb ia ic c na nc ha hc := by
  obtain ⟨S1, S2, hi, h1, h2⟩ := h.st
  have hM : Mod (· = b) W (W.setCell ⟨b, 3, none⟩ (.int .i64 0)) := (Mod.refl (· = b) W).setCellAt (fun _ => rfl) _
  have htb : ¬ tb = b := fun e => hi.b1 (by rw [← e]; exact hi.tr.sb)
  exact h.step hM (fun k e => by rw [show k = b from e]; exact h.bl) ⟨S1, S2, hi.nxt 0, h1, h2⟩ (hM.at h.t0 htb) (hM.at h.t1 htb)
theorem FlIn.check {lo : Nat} {w0 W : World} {b tb hb ob mb ib nb xb : Nat} {ia : Option Addr} {ic : Nat} {c : InC} {na : Option Addr} {nc : Nat} {ha : Option Addr} {hc : Nat} (h : FlIn lo w0 W b tb hb ob mb ib nb xb ia ic c na nc ha hc) : Calls Tryz.prog 97 #[.pointer (some ⟨tb, 0, none⟩)] W fun e w' => e = .returned (.bool true) ∧ Below W.heap.size W w' := by
  obtain ⟨S1, S2, hi, h1, h2⟩ := h.st
  exact check_true W tb S1 tr0 hi.tr tr0_goodT (by decide) (by decide)
theorem FlIn.at {lo : Nat} {w0 W : World} {b tb hb ob mb ib nb xb : Nat} {ia : Option Addr} {ic : Nat} {c : InC} {na : Option Addr} {nc : Nat} {ha : Option Addr} {hc : Nat} (h : FlIn lo w0 W b tb hb ob mb ib nb xb ia ic c na nc ha hc) : SttAt W b (fun k => k < W.heap.size) st0 := by
  obtain ⟨S1, S2, hi, h1, h2⟩ := h.st
  exact ⟨cell_lt hi.c0, fun k hk => hk, tb, hb, ob, mb, S1, S2, hi, hi.tr.lt, hi.hd.lt, cell_lt hi.on.1, hi.on.lt⟩
theorem FlIn.dump {lo : Nat} {w0 W : World} {b tb hb ob mb ib nb xb : Nat} {ia : Option Addr} {ic : Nat} {c : InC} {na : Option Addr} {nc : Nat} {ha : Option Addr} {hc : Nat} (h : FlIn lo w0 W b tb hb ob mb ib nb xb ia ic c na nc ha hc) : Calls Tryz.prog 15 #[.pointer (some ⟨b, 0, none⟩)] W (NewDump W) :=
  (stDump_any W b _ st0 h.at (by decide) (by decide) (by decide)).mono fun e w' h => new_dump h
def FlRel (n lo : Nat) (w0 : World) (b tb hb ob mb ib nb xb : Nat) (ia : Option Addr) (ic : Nat) (c : InC) (na : Option Addr) (nc : Nat) (ha : Option Addr) (hc : Nat) (g : Nat) (v : Value) (wr : World) : Prop := ∃ i : Nat, g = n - i ∧ i ≤ n ∧ v = .int .i64 i ∧ FlIn lo w0 wr b tb hb ob mb ib nb xb ia ic c na nc ha hc
def FlRelM (n : Nat) (w1 : World) (g : Nat) (v : Value) (wr : World) : Prop := ∃ i : Nat, g = n - i ∧ i ≤ n ∧ v = .int .i64 i ∧ Below w1.heap.size w1 wr
theorem neqRes0 (w : World) : (binOp .neq 29 (.agg #[.int .i64 0, .int .i64 0]) (.agg #[.int .i64 0, .int .i64 0])).run Tryz.prog w = .ok (.bool false) w := by
  have u3 := Tryz.underlying3
  have a3 := Tryz.isAgg3
  have z3 := Tryz.sizeOf3
  have hS : Tryz.prog.underlying 29 = some (.struct (Tryz.prog.fieldsOf 29)) := by kernel_rfl
  have hp : Tryz.prog.stoodInHeld 29 = false := by kernel_rfl
  rw [run_neq_struct, show (10000 : Nat) = 9999 + 1 from rfl, run_equalIn_agg w 9999 29 _ _ hS hp]
  simp only [Program.fieldsOf, Tryz.underlying29]
  go_simp
def FillPost (lo : Nat) (w : World) (b tb hb ob mb : Nat) (e : Ending) (w' : World) : Prop := e = .returned (.bool true) ∧ (∃ S1 S2, StIn w' b tb hb ob mb S1 S2 st0) ∧ Below lo w w'
set_option maxRecDepth 100000 in
set_option maxHeartbeats 8000000 in
theorem fill_new (w : World) (lo b tb hb ob mb : Nat) (S1 S2 : Nat → Prop) (hi : StIn w b tb hb ob mb S1 S2 st0) (h1 : ∀ k, S1 k → lo ≤ k) (h2 : ∀ k, S2 k → lo ≤ k) (hlb : lo ≤ b) (ia : Option Addr) (ic : Nat) (c : InC) (na : Option Addr) (nc : Nat) (ha : Option Addr) (hc : Nat) (hr : InosAt w (fun k => k < lo) ia [c]) (hv : c.val = rootS) :
    Calls Tryz.prog 59 #[.pointer (some ⟨b, 0, none⟩), .agg (dn ia ic na nc ha hc).toArray] w (FillPost lo w b tb hb ob mb) := by
  have hmm := @run_makeMap Tryz.prog
  have hlw : lo ≤ w.heap.size := Nat.le_of_lt (Nat.lt_of_le_of_lt hlb (cell_lt hi.c0))
  obtain ⟨W1, hW1⟩ : ∃ W1, W1 = w.alloc (.cells (dn ia ic na nc ha hc).toArray 32) := ⟨_, rfl⟩
  have hB1 : Below w.heap.size w W1 := by rw [hW1]; exact belC (Below.refl _ _)
  have hz1 : W1.heap.size = w.heap.size + 1 := by rw [hW1]; simp
  obtain ⟨ib, nb, g0, g1⟩ : ∃ ib nb, w.cell? ⟨tb, 0, none⟩ = some (.pointer (some ⟨ib, 0, none⟩)) ∧ w.cell? ⟨tb, 1, none⟩ = some (.pointer (some ⟨nb, 0, none⟩)) := by
    obtain ⟨-, -, ib, nb, T1, T2, g0, g1, -⟩ := hi.tr
    exact ⟨ib, nb, g0, g1⟩
  obtain ⟨xb, hxb⟩ : ∃ xb, xb = w.heap.size := ⟨_, rfl⟩
  obtain ⟨w0, hw0⟩ : ∃ w0, w0 = w := ⟨_, rfl⟩
  have hbl := cell_lt hi.c0
  have hFl : FlIn lo w0 W1 b tb hb ob mb ib nb xb ia ic c na nc ha hc := by
    subst hxb hw0
    refine ⟨⟨S1, S2, hi.mod (F := none') (Mod.of_below hB1) id id id (fun _ _ => id) (fun _ _ => id), fun k hk => ⟨h1 k hk, fun e => ?_⟩, fun k hk => ⟨h2 k hk, fun e => ?_⟩⟩, below_at hB1 g0 (cell_lt g0), below_at hB1 g1 (cell_lt g1), ?_, hr.below' hB1, hv, ⟨hlb, by omega⟩, hB1.mono hlw, hlw⟩
    · have := hi.tr.lt k hk; omega
    · have := hi.hd.lt k hk; omega
    · rw [hW1]; exact DmBox.new _ _ _ rfl
  have HF1 := Lib.hid hFl
  have HK : Hid (∀ W, FlIn lo w0 W b tb hb ob mb ib nb xb ia ic c na nc ha hc → (W.cell? ⟨b, 0, none⟩ = some (.pointer (some ⟨tb, 0, none⟩)) ∧ W.cell? ⟨b, 1, none⟩ = some (.pointer (some ⟨hb, 0, none⟩)) ∧ W.cell? ⟨xb, 0, none⟩ = some (.int .i64 0) ∧ W.cell? ⟨xb, 1, none⟩ = some (.slice ia (1 : Nat) ic) ∧ W.cell? ⟨xb, 2, none⟩ = some (.int .i64 2) ∧ W.cell? ⟨xb, 3, none⟩ = some (.slice na (0 : Nat) nc) ∧ W.cell? ⟨xb, 4, none⟩ = some (.slice ha (0 : Nat) hc))) := Lib.hid (fun W h => h.keys)
  have HW1 := Lib.hid hW1
  have HW0 := Lib.hid hw0
  have HXB := Lib.hid hxb
  clear hi h1 h2 hlb hr hv hlw hW1 hB1 hz1 g0 g1 hFl hbl hw0 hxb
  go_enter Tryz.func59, Tryz.ntmps59
  go_wp2_with fail
  rw [← HW1.out, ← HXB.out]
  have HFd := Lib.hid (HF1.out.below (show Below _ _ _ from (Below.refl _ _).drew))
  refine region_kwalk (S := fun W' => (W'.cell? ⟨b, 0, none⟩ = some (.pointer (some ⟨tb, 0, none⟩)) ∧ W'.cell? ⟨b, 1, none⟩ = some (.pointer (some ⟨hb, 0, none⟩)) ∧ W'.cell? ⟨xb, 0, none⟩ = some (.int .i64 0) ∧ W'.cell? ⟨xb, 1, none⟩ = some (.slice ia (1 : Nat) ic) ∧ W'.cell? ⟨xb, 2, none⟩ = some (.int .i64 2) ∧ W'.cell? ⟨xb, 3, none⟩ = some (.slice na (0 : Nat) nc) ∧ W'.cell? ⟨xb, 4, none⟩ = some (.slice ha (0 : Nat) hc)) ∧ FlIn lo w0 W' b tb hb ob mb ib nb xb ia ic c na nc ha hc) (by kernel_rfl) (by kernel_rfl) (by kernel_rfl) ⟨HK.out _ HFd.out, HFd.out⟩ ?_
  clear HFd
  repeat (first | refine kwL ?_ | refine kwU ?_)
  refine kw_call (v := .pointer (some ⟨ib, 0, none⟩)) (f := 49) (args := #[.pointer (some ⟨tb, 0, none⟩)]) (by rfl) (by intro W hSw; go_simp; try with_reducible rfl) (fun W hS => (inodes_is W tb ib hS.2.t0).mono (fun e W2 h => ⟨h.1, by rw [h.2]; exact hS⟩)) (by simp only [Act.put, List.setIfInBounds_toArray, List.set_cons_zero, List.set_cons_succ]; rfl) ?_
  repeat (first | refine kwL ?_ | refine kwU ?_)
  refine kw_call (v := .int .i64 0) (f := 90) (args := #[.pointer (some ⟨ib, 0, none⟩), .slice ia (1 : Nat) ic, .int .i64 2]) (by rfl) (by intro W hSw; go_simp; try with_reducible rfl) (fun W hS => hS.2.ild.mono (fun e W2 h => ⟨h.1, HK.out W2 h.2, h.2⟩)) (by simp only [Act.put, List.setIfInBounds_toArray, List.set_cons_zero, List.set_cons_succ]; rfl) ?_
  repeat (first | refine kwL ?_ | refine kwU ?_)
  refine kw_nil (fun W hW => ?_)
  obtain ⟨⟨b0, b1, x0, x1, x2, x3, x4⟩, hFW⟩ := hW
  have HFW := Lib.hid hFW
  clear hFW HF1 HW1
  go_wp2_with fail
  go_loopg [39] 0 (fun g s39 wr => FlRel 0 lo w0 b tb hb ob mb ib nb xb ia ic c na nc ha hc g s39 wr)
  case atStart => exact ⟨0, rfl, Nat.le_refl _, rfl, HFW.out⟩
  case round =>
    obtain ⟨i, rfl, hi, rfl, hF⟩ := hrel
    obtain rfl : i = 0 := by omega
    obtain ⟨b0, b1, x0, x1, x2, x3, x4⟩ := HK.out wr hF
    have hxl := cell_lt x0
    have HF2 := Lib.hid hF
    clear hF hi
    obtain ⟨W2, hW2⟩ : ∃ W2, W2 = wr.alloc (.map #[] 0) := ⟨_, rfl⟩
    have hB2 : Below wr.heap.size wr W2 := by rw [hW2]; exact belC (Below.refl _ _)
    have hmp : MpAt W2 wr.heap.size iV iV ([] : List (Int × Int)) := by rw [hW2]; exact ⟨#[], 0, alloc_new _ _, rfl, List.nodup_nil, List.Pairwise.nil, fun e h => by simp at h⟩
    obtain ⟨mz, hmz⟩ : ∃ mz, mz = wr.heap.size := ⟨_, rfl⟩
    rw [← hmz] at hmp
    have HMZ := Lib.hid hmz
    clear hmz
    have HF3 := Lib.hid (HF2.out.below hB2)
    have HMP := Lib.hid hmp
    have HW2 := Lib.hid hW2
    clear hB2 hmp hW2
    go_wp2_with fail
    rw [← HW2.out, ← HMZ.out]
    have HB3 := Lib.hid (Below.refl W2.heap.size W2)
    go_loopg [61] 0 (fun g s61 wr => FlRelM 0 W2 g s61 wr)
    case atStart => exact ⟨0, rfl, Nat.le_refl _, rfl, HB3.out⟩
    case round =>
      obtain ⟨i, rfl, hi, rfl, hB⟩ := hrel
      obtain rfl : i = 0 := by omega
      have hF := HF3.out.below hB
      have hmp := HMP.out.mod (F := none') (Mod.of_below hB) id
      obtain ⟨b0, b1, x0, x1, x2, x3, x4⟩ := HK.out wr hF
      have hal := hF.all
      have hin := inodes_is wr tb ib hF.t0
      have HF4 := Lib.hid hF
      have HMP4 := Lib.hid hmp
      clear hF hmp hB hi HB3
      go_wp2_with fail
      refine hin.mono ?_
      rintro e w2 ⟨rfl, rfl⟩
      go_wp2_with fail
      refine hal.mono ?_
      rintro e w3 ⟨⟨bk, off, cp, rfl, hN⟩, hB3⟩
      have HF5 := Lib.hid (HF4.out.below hB3)
      have HMP5 := Lib.hid (HMP4.out.mod (F := none') (Mod.of_below hB3) id)
      clear hB3 hal hin b0 b1 x0 x1 x2 x3 x4
      go_wp2_with fail
      go_loopg [110] 1 (fun g s110 wr => FlRelM 1 w3 g s110 wr)
      case atStart => exact ⟨0, rfl, Nat.zero_le _, rfl, Below.refl _ _⟩
      case round =>
        obtain ⟨i, rfl, hi, rfl, hB⟩ := hrel
        have hF := HF5.out.below hB
        have HF6 := Lib.hid hF
        by_cases hlt : i < 1
        · obtain rfl : i = 0 := by omega
          have f0 := below_at hB hN (cell_lt hN)
          have hmp := HMP5.out.mod (F := none') (Mod.of_below hB) id
          have HMP6 := Lib.hid hmp
          have HB6 := Lib.hid hB
          clear hF hB hmp
          go_wp2_with fail
          have hBd : Below wr.heap.size wr wr.drew := (Below.refl _ _).drew
          have HFd := Lib.hid (HF6.out.below (show Below _ _ _ from (Below.refl _ _).drew))
          refine region_kwalk (S := fun W' => (W'.cell? ⟨b, 0, none⟩ = some (.pointer (some ⟨tb, 0, none⟩)) ∧ W'.cell? ⟨b, 1, none⟩ = some (.pointer (some ⟨hb, 0, none⟩)) ∧ W'.cell? ⟨xb, 0, none⟩ = some (.int .i64 0) ∧ W'.cell? ⟨xb, 1, none⟩ = some (.slice ia (1 : Nat) ic) ∧ W'.cell? ⟨xb, 2, none⟩ = some (.int .i64 2) ∧ W'.cell? ⟨xb, 3, none⟩ = some (.slice na (0 : Nat) nc) ∧ W'.cell? ⟨xb, 4, none⟩ = some (.slice ha (0 : Nat) hc)) ∧ (FlIn lo w0 W' b tb hb ob mb ib nb xb ia ic c na nc ha hc ∧ MpAt W' mz iV iV ([] : List (Int × Int)) ∧ Below w3.heap.size w3 W')) (by kernel_rfl) (by kernel_rfl) (by kernel_rfl) ⟨HK.out _ HFd.out, HFd.out, HMP6.out.mod (F := none') (Mod.of_below hBd) id, HB6.out.trans (hBd.mono HB6.out.size)⟩ ?_
          clear HFd
          clear hBd
          repeat (first | refine kwL ?_ | refine kwU ?_)
          refine kw_call (v := .pointer (some ⟨ib, 0, none⟩)) (f := 49) (args := #[.pointer (some ⟨tb, 0, none⟩)]) (by rfl) (by intro W hSw; go_simp; try with_reducible rfl) (fun W hS => (inodes_is W tb ib hS.2.1.t0).mono (fun e W2 h => ⟨h.1, by rw [h.2]; exact hS⟩)) (by simp only [Act.put, List.setIfInBounds_toArray, List.set_cons_zero, List.set_cons_succ]; rfl) ?_
          repeat (first | refine kwL ?_ | refine kwU ?_)
          refine kw_call (v := .int .i64 0) (f := 94) (args := #[.pointer (some ⟨ib, 0, none⟩), .int .i64 1]) (by rfl) (by intro W hSw; go_simp; try with_reducible rfl) (fun W hS => hS.2.1.opens.mono (fun e W2 h => ⟨h.1, HK.out W2 (hS.2.1.below h.2), hS.2.1.below h.2, hS.2.2.1.mod (F := none') (Mod.of_below h.2) id, hS.2.2.2.trans (h.2.mono hS.2.2.2.size)⟩)) (by simp only [Act.put, List.setIfInBounds_toArray, List.set_cons_zero, List.set_cons_succ]; rfl) ?_
          repeat (first | refine kwL ?_ | refine kwU ?_)
          refine kwL ?_ (by (refine ⟨.int .i64 0, by rfl, ?_, ?_⟩; (· intro W hSw; have hk := look0 hSw.2.2.1 keyInt Tryz.underlying195 zeroI 1; rw [show val0 ([] : List (Int × Int)) 1 = 0 from rfl] at hk; clear hSw; go_simp; try with_reducible rfl); (· simp only [Act.put, List.setIfInBounds_toArray, List.set_cons_zero, List.set_cons_succ]; rfl)))
          repeat (first | refine kwL ?_ | refine kwU ?_)
          refine kw_nil (fun W hW => ?_)
          have HBW := Lib.hid hW.2.2.2
          clear hW
          go_wp2_with fail
          go_roundg (1 - (0 + 1))
          case measure => omega
          case rel => exact ⟨1, rfl, Nat.le_refl _, rfl, HBW.out⟩
        · obtain rfl : i = 1 := by omega
          clear hF hB hN
          go_wp2_with fail
          go_loopg [126] 8 (fun g s126 wr => FlRel 8 lo w0 b tb hb ob mb ib nb xb ia ic c na nc ha hc g s126 wr)
          case atStart => exact ⟨0, rfl, Nat.zero_le _, rfl, HF6.out⟩
          case round =>
            obtain ⟨i, rfl, hi, rfl, hF⟩ := hrel
            have HF7 := Lib.hid hF
            by_cases hlt : i < 8
            · have hil2 : (0 : Int) ≤ i ∧ (i : Int) < 8 := by omega
              have HZ : Hid (∀ W', FlIn lo w0 W' b tb hb ob mb ib nb xb ia ic c na nc ha hc → (W'.cell? ⟨b, 1, none⟩ = some (.pointer (some ⟨hb, 0, none⟩)) ∧ W'.cell? ⟨xb, 5 + i, none⟩ = some (.int .i64 0) ∧ W'.cell? ⟨xb, 13 + i, none⟩ = some (.int .i64 0) ∧ W'.cell? ⟨xb, 21 + i * 2, none⟩ = some (.int .i64 0) ∧ W'.cell? ⟨xb, 21 + i * 2 + 1, none⟩ = some (.int .i64 0))) := Lib.hid (fun W' h => ⟨h.keys.2.1, h.zero i (by omega), by rw [show 13 + i = 5 + (8 + i) by omega]; exact h.zero (8 + i) (by omega), by rw [show 21 + i * 2 = 5 + (16 + i * 2) by omega]; exact h.zero (16 + i * 2) (by omega), by rw [show 21 + i * 2 + 1 = 5 + (17 + i * 2) by omega]; exact h.zero (17 + i * 2) (by omega)⟩)
              have hne := neqRes0
              have hgd := fun op a b W => run_eqGuard_agg (P := Tryz.prog) W op 29 a b #[.int .i64 0, .int .i64 0] #[.int .i64 0, .int .i64 0] (by kernel_rfl)
              have hwr1 := Lib.hid (show wrap64 ((i : Int) + 1) = ((i + 1 : Nat) : Int) by unfold wrap64; omega)
              clear hF
              go_wp2_with fail
              have HFd := Lib.hid (HF7.out.below (show Below _ _ _ from (Below.refl _ _).drew))
              refine region_kwalk (S := fun W' => (W'.cell? ⟨b, 1, none⟩ = some (.pointer (some ⟨hb, 0, none⟩)) ∧ W'.cell? ⟨xb, 5 + i, none⟩ = some (.int .i64 0) ∧ W'.cell? ⟨xb, 13 + i, none⟩ = some (.int .i64 0) ∧ W'.cell? ⟨xb, 21 + i * 2, none⟩ = some (.int .i64 0) ∧ W'.cell? ⟨xb, 21 + i * 2 + 1, none⟩ = some (.int .i64 0)) ∧ FlIn lo w0 W' b tb hb ob mb ib nb xb ia ic c na nc ha hc) (by kernel_rfl) (by kernel_rfl) (by kernel_rfl) ⟨HZ.out _ HFd.out, HFd.out⟩ ?_
              clear HFd
              repeat (first | refine kwL ?_ | refine kwU ?_)
              refine kw_call (v := .int .i64 0) (f := 95) (args := #[.pointer (some ⟨hb, 0, none⟩), .int .i64 i, .int .i64 0]) (by rfl) (by intro W hSw; go_simp; try with_reducible rfl) (fun W hS => (hS.2.renew i hlt).mono (fun e W2 h => ⟨h.1, HZ.out W2 h.2, h.2⟩)) (by simp only [Act.put, List.setIfInBounds_toArray, List.set_cons_zero, List.set_cons_succ]; rfl) ?_
              repeat (first | refine kwL ?_ | refine kwU ?_)
              refine kw_nil (fun W hW => ?_)
              obtain ⟨⟨b1, x5, x13, x21, x22⟩, hFW⟩ := hW
              have HFW2 := Lib.hid hFW
              clear hFW
              go_wp2_with fail
              go_roundg (8 - (i + 1))
              case measure => omega
              case rel => exact ⟨i + 1, rfl, hlt, by first | rfl | rw [hwr1.out], HFW2.out⟩
            · obtain rfl : i = 8 := by omega
              obtain ⟨b0, b1, x0, x1, x2, x3, x4⟩ := HK.out wr hF
              obtain ⟨c3, f3⟩ : wr.cell? ⟨b, 3, none⟩ = some (.int .i64 0) ∧ wr.frozen? ⟨b, 3, none⟩ = false := by obtain ⟨S1, S2, hi, -, -⟩ := hF.st; exact ⟨hi.c3, hi.fz 3⟩
              obtain ⟨W5, hW5⟩ : ∃ W5, W5 = wr.setCell ⟨b, 3, none⟩ (.int .i64 0) := ⟨_, rfl⟩
              have hF5 : FlIn lo w0 W5 b tb hb ob mb ib nb xb ia ic c na nc ha hc := by rw [hW5]; exact hF.nxt
              have HF8 := Lib.hid hF5
              have HW5 := Lib.hid hW5
              clear hF hF5 hW5 hi
              go_wp2_with fail
              rw [← HW5.out]
              have HFd := Lib.hid (HF8.out.below (show Below _ _ _ from (Below.refl _ _).drew))
              refine wp_region_held_drew (S := fun W' => (W'.cell? ⟨b, 0, none⟩ = some (.pointer (some ⟨tb, 0, none⟩)) ∧ W'.rangeAt xb 0 (dn ia ic na nc ha hc)) ∧ FlIn lo w0 W' b tb hb ob mb ib nb xb ia ic c na nc ha hc) (by kernel_rfl) ⟨⟨HFd.out.keys.1, HFd.out.range⟩, HFd.out⟩ (fun hHeld => ?_)
              clear HFd
              refine takeL 0 ?_
              refine takeL 1 ?_
              refine takeL 2 ?_
              refine takeL 3 ?_
              refine wpAnyH_ready (rs := [4]) (by kernel_rfl) (by simp) ?_
              refine AllReadyH.cons (o := _) rfl (fun K hK => ?_) AllReadyH.nil
              go_simp
              refine hHeld.2.check.mono ?_
              rintro e w5 ⟨rfl, hBB⟩
              have HG1 := Lib.hid (hHeld.2.below hBB)
              clear hBB
              try go_wp2_with fail
              refine hK.out _ _ ⟨⟨HG1.out.keys.1, HG1.out.range⟩, HG1.out⟩ (fun hHeld => ?_)
              clear hK K
              try simp only [Act.put, List.setIfInBounds_toArray, List.set_cons_zero, List.set_cons_succ]
              refine takeL 5 ?_
              refine takeL 6 ?_ (by (simp only [opL, List.getElem?_toArray, List.getElem?_cons_succ, List.getElem?_cons_zero, Option.getD_some]; exact ⟨_, yieldsIf_load_mid (by rfl) 32 _ (by rfl) xb 0 (by rfl) (dn ia ic na nc ha hc) _ (fun W h => h.1.2) Tryz.underlying32 rfl (dn37 _ _ _ _ _ _), fun _ _ _ h => h, (by simp only [Act.put, List.setIfInBounds_toArray, List.set_cons_zero, List.set_cons_succ]; rfl), rfl⟩))
              refine takeL 7 ?_
              refine wpAnyH_ready (rs := [8]) (by kernel_rfl) (by simp) ?_
              refine AllReadyH.cons (o := _) rfl (fun K hK => ?_) AllReadyH.nil
              go_simp
              refine hHeld.2.dump.mono ?_
              rintro e w6 ⟨ia2, ic2, c2, na2, nc2, ha2, hc2, rfl, hr2, hv2, hBB⟩
              have HG2 := Lib.hid (hHeld.2.below hBB)
              clear hBB
              try go_wp2_with fail
              refine hK.out _ _ ⟨⟨HG2.out.keys.1, HG2.out.range⟩, HG2.out⟩ (fun hHeld => ?_)
              clear hK K
              try simp only [Act.put, List.setIfInBounds_toArray, List.set_cons_zero, List.set_cons_succ]
              refine wpAnyH_ready (rs := [9]) (by kernel_rfl) (by simp) ?_
              refine AllReadyH.cons (o := _) rfl (fun K hK => ?_) AllReadyH.nil
              go_simp
              have hsm := stSame_any w6 _ _ (dnC ia ic c na nc ha hc) (dnC ia2 ic2 c2 na2 nc2 ha2 hc2) (dnC_ok na nc ha hc HG2.out.row) (dnC_ok na2 nc2 ha2 hc2 hr2)
              rw [dnC_cells, dnC_cells, dnC_same na na2 nc nc2 ha ha2 hc hc2 (HG2.out.cv.trans hv2.symm)] at hsm
              refine hsm.mono ?_
              clear hsm
              rintro e w7 ⟨rfl, hBB⟩
              have HG3 := Lib.hid (HG2.out.below hBB)
              clear hBB hr2 hv2
              try go_wp2_with fail
              refine hK.out _ _ ⟨⟨HG3.out.keys.1, HG3.out.range⟩, HG3.out⟩ (fun hHeld => ?_)
              clear hK K
              try simp only [Act.put, List.setIfInBounds_toArray, List.set_cons_zero, List.set_cons_succ]
              refine takeL 10 ?_
              refine takeL 11 ?_
              refine wpAnyH_done (by kernel_rfl) ?_ _
              clear hHeld
              go_wp2_with fail
              go_ret
              obtain ⟨S1, S2, hi, -, -⟩ := HG3.out.st
              exact ⟨rfl, ⟨S1, S2, hi⟩, by rw [← HW0.out]; exact HG3.out.fr⟩
set_option maxRecDepth 100000 in
set_option maxHeartbeats 4000000 in
theorem load_new (w : World) (b : Nat) (S T : Nat → Prop) (s : StS) (h : SttAt w b S s) (ia : Option Addr) (ic : Nat) (c : InC) (na : Option Addr) (nc : Nat) (ha : Option Addr) (hc : Nat) (hr : InosAt w T ia [c]) (hv : c.val = rootS) :
    Calls Tryz.prog 22 #[.pointer (some ⟨b, 0, none⟩), .agg (dn ia ic na nc ha hc).toArray] w fun e w' => e = .returned (.int .i64 0) ∧ Mod (· = b) w w' := by
  obtain ⟨sb, lt, tb, hb, ob, mb, S1, S2, hi, -, -, -, -⟩ := h
  have c0 := hi.c0
  have c1 := hi.c1
  have c2 := hi.c2
  have c3 := hi.c3
  have f0 := hi.fz 0
  have f1 := hi.fz 1
  have f2 := hi.fz 2
  have f3 := hi.fz 3
  have hbl := cell_lt c0
  obtain ⟨W1, hW1⟩ : ∃ W1, W1 = w.alloc (.cells (dn ia ic na nc ha hc).toArray 32) := ⟨_, rfl⟩
  have hB1 : Below w.heap.size w W1 := by rw [hW1]; exact belC (Below.refl _ _)
  have hz1 : W1.heap.size = w.heap.size + 1 := by rw [hW1]; simp
  have hbx : DmBox W1 w.heap.size (fun j => ((dn ia ic na nc ha hc)[j]?).getD undef) := by rw [hW1]; exact DmBox.new _ _ _ rfl
  have hr1 : InosAt W1 (fun k => k < W1.heap.size) ia [c] := (hr.sub (T := fun k => k < W1.heap.size) (fun k hk _ => by omega)).below' hB1
  have hnew := stNew_any W1
  have HR1 := Lib.hid hr1
  have HBX := Lib.hid hbx
  have HW1 := Lib.hid hW1
  have HB1 := Lib.hid hB1
  clear hi lt sb hr hr1 hbx hW1 hB1
  go_enter Tryz.func22, Tryz.ntmps22
  go_wp2_with fail
  rw [← HW1.out]
  refine hnew.mono ?_
  clear hnew
  rintro e w2 ⟨xb, rfl, hS2, hB2⟩
  obtain ⟨sb2, lt2, tb2, hb2, ob2, mb2, T1, T2, hi2, t1, t2, -, -⟩ := hS2
  have hfl := fill_new w2 W1.heap.size xb tb2 hb2 ob2 mb2 T1 T2 hi2 (fun k hk => (t1 k hk).1) (fun k hk => (t2 k hk).1) sb2.1 ia ic c na nc ha hc (HR1.out.below' hB2) hv
  have HRG := Lib.hid ((HBX.out.below hB2).rangeL rfl)
  have HB2 := Lib.hid (HB1.out.trans (hB2.mono HB1.out.size))
  have HXL := Lib.hid sb2.1
  clear hi2 t1 t2 sb2 lt2 hB2 HR1 HBX HW1 HB1
  go_wp2_with (refine wpList_load_mid (by rfl) 32 _ (by rfl) w.heap.size 0 (by rfl) (dn ia ic na nc ha hc) _ HRG.out Tryz.underlying32 rfl (dn37 _ _ _ _ _ _) ?_)
  refine hfl.mono ?_
  clear hfl
  rintro e w3 ⟨rfl, ⟨U1, U2, hi3⟩, hB3⟩
  have x0 := hi3.c0
  have x1 := hi3.c1
  have x2 := hi3.c2
  have x3 := hi3.c3
  have hB := HB2.out.trans (hB3.mono (by omega))
  have c0 := below_at hB c0 hbl
  have c1 := below_at hB c1 hbl
  have c2 := below_at hB c2 hbl
  have c3 := below_at hB c3 hbl
  have f0 := ((Mod.of_below (F := none') hB).frozen (p := ⟨b, 0, none⟩) hbl id).trans f0
  have f1 := ((Mod.of_below (F := none') hB).frozen (p := ⟨b, 1, none⟩) hbl id).trans f1
  have f2 := ((Mod.of_below (F := none') hB).frozen (p := ⟨b, 2, none⟩) hbl id).trans f2
  have f3 := ((Mod.of_below (F := none') hB).frozen (p := ⟨b, 3, none⟩) hbl id).trans f3
  have HB := Lib.hid hB
  clear hi3 hB3 hB HB2 HRG
  go_wp2_with fail
  go_ret
  exact ⟨rfl, (Mod.of_below (F := (· = b)) HB.out).trans (Mod.setCellAt (F := (· = b)) (Mod.setCellAt (F := (· = b)) (Mod.setCellAt (F := (· = b)) (Mod.setCellAt (F := (· = b)) (Mod.refl _ _) (fun _ => rfl) _) (fun _ => rfl) _) (fun _ => rfl) _) (fun _ => rfl) _)⟩
end Go.Proofs.YtmnkackkeppheaaGreat
