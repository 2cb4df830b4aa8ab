import Derived.Test.YtmnkackkeppheaaGreatPkByt
import Derived.Test.YtmnkackkeppheaaGreatPkSm
import Derived.Test.YtmnkackkeppheaaGreatStDump
import Derived.Test.YtmnkackkeppheaaGreatPkHdl
import Derived.Test.YtmnkackkeppheaaGreatInoDmp
/- package image: the reader of a state's text; plain readers -/
namespace Go.Proofs.YtmnkackkeppheaaGreat
open Go.RowKit Esch

abbrev USt := ByteArray × Bool
def uLeft (s : USt) : Nat := if s.2 = true then 0 else s.1.size
/-- the next number; none: the reader gives up -/
def rNum (n : Nat) (s : USt) : Option (Nat × USt) := if uLeft s < n then none else some (unNum s.1 s.2 n)
def rRep {α : Type} (f : USt → Option (α × USt)) : Nat → USt → Option (List α × USt)
  | 0, s => some ([], s)
  | k + 1, s => (f s).bind fun r => (rRep f k r.2).bind fun q => some (r.1 :: q.1, q.2)
def rPart (s : USt) : Option (PtS × USt) := (rNum 2 s).bind fun a => (rNum 2 a.2).bind fun b => (rNum 2 b.2).bind fun c => (rNum 2 c.2).bind fun d => some (⟨a.1, b.1, c.1, d.1⟩, d.2)
def rIno (s : USt) : Option (InS × USt) := (rNum 4 s).bind fun a => (rNum 1 a.2).bind fun b => (rNum 1 b.2).bind fun c => (rNum 1 c.2).bind fun d => (rNum 2 d.2).bind fun e => (rNum 1 e.2).bind fun k => (rRep rPart k.1 k.2).bind fun l => some (⟨a.1, b.1, c.1, d.1, e.1, l.1⟩, l.2)
def rEnt (s : USt) : Option (EqK × USt) := (rNum 4 s).bind fun a => (rNum 4 (unText a.2.1 a.2.2 8).2).bind fun c => some ((a.1, (unText a.2.1 a.2.2 8).1.data.toList, c.1), c.2)
def rHd (s : USt) : Option (Hd × USt) := (rNum 1 s).bind fun a => (rNum 2 a.2).bind fun b => (rNum 4 b.2).bind fun c => some (((a.1, b.1), c.1), c.2)
abbrev RowV := (Int × Int) × (Int × Int)
def rRow (s : USt) : Option (RowV × USt) := (rNum 8 s).bind fun a => (rNum 4 a.2).bind fun b => (rNum 2 b.2).bind fun c => (rNum 2 c.2).bind fun d => some (((a.1, b.1), (c.1, d.1)), d.2)
/-- a dump's values -/
structure DVal where
  n : Int
  ik : List InS
  m : Int
  nl : List EqK
  hl : List Hd
  rows : List RowV
deriving DecidableEq
def rDump (s : USt) : Option (DVal × USt) := (rNum 2 s).bind fun n => (rNum 1 n.2).bind fun k => (rRep rIno k.1 k.2).bind fun ik => (rNum 4 ik.2).bind fun m => (rNum 2 m.2).bind fun k2 => (rRep rEnt k2.1 k2.2).bind fun nl => (rNum 1 nl.2).bind fun k3 => (rRep rHd k3.1 k3.2).bind fun hl => (rRep rRow 8 hl.2).bind fun rw => some (⟨n.1, ik.1, m.1, nl.1, hl.1, rw.1⟩, rw.2)
/-- of a list the k-th is taken, and so on -/
theorem rRep_bind {α β : Type} (f : USt → Option (α × USt)) (k : Nat) (s : USt) (K : List α → USt → Option β) (acc : List α) :
    ((rRep f (k + 1) s).bind fun q => K (acc ++ q.1) q.2) = (f s).bind fun r => (rRep f k r.2).bind fun q => K ((acc ++ [r.1]) ++ q.1) q.2 := by
  show (((f s).bind fun r => (rRep f k r.2).bind fun q => some (r.1 :: q.1, q.2)).bind fun q => K (acc ++ q.1) q.2) = _
  cases f s with
  | none => rfl
  | some r =>
    show (((rRep f k r.2).bind fun q => some (r.1 :: q.1, q.2)).bind fun q => K (acc ++ q.1) q.2) = (rRep f k r.2).bind fun q => K ((acc ++ [r.1]) ++ q.1) q.2
    cases rRep f k r.2 with
    | none => rfl
    | some q => show K (acc ++ (r.1 :: q.1)) q.2 = K ((acc ++ [r.1]) ++ q.1) q.2; rw [List.append_assoc]; rfl
def peB : List PanicEntry := [{ v := .iface 60 (.agg #[]), recovered := false }]
def NumR (w : World) (b n : Nat) (s : USt) (e : Ending) (w' : World) : Prop := Mod (· = b) w w' ∧ ((rNum n s = none ∧ e = .panicked peB) ∨ ∃ r, rNum n s = some r ∧ e = .returned (.int .i64 r.1) ∧ UnpAt w' b r.2.1 r.2.2)
set_option maxRecDepth 100000 in
set_option maxHeartbeats 2000000 in
theorem rdNum_any (w : World) (b n : Nat) (s : USt) (hn : sizedB n = true) (h : UnpAt w b s.1 s.2) : Calls Tryz.prog 57 #[.agg #[.pointer (some ⟨b, 0, none⟩)], .int .i64 n] w (NumR w b n s) := by
  have hl := unLeft_any
  have hn1 : 1 ≤ n := by simp only [sizedB, Bool.or_eq_true, beq_iff_eq] at hn; omega
  have hnn := fun W hU => unNum_any W b s.1 s.2 n hn hU
  obtain ⟨s, bad⟩ := s
  simp only at h hnn
  have hbl := cell_lt h.c0
  obtain ⟨lf, hlf⟩ : ∃ lf : Nat, lf = if bad = true then 0 else s.size := ⟨_, rfl⟩
  have hl := fun W hU => unLeft_any W b s bad hU
  have HU := Lib.hid h
  have e1 : uLeft (s, bad) = lf := hlf.symm
  have e2 : rNum n (s, bad) = if lf < n then none else some (unNum s bad n) := by unfold rNum; rw [e1]
  have hc : (if bad = true then (0 : Int) else (s.size : Int)) = (lf : Int) := by rw [hlf]; split <;> rfl
  have hl2 : ∀ W, UnpAt W b s bad → Calls Tryz.prog 86 #[.pointer (some ⟨b, 0, none⟩)] W fun e w' => e = .returned (.int .i64 lf) ∧ w' = W := fun W hU => by
    have := hl W hU
    first
    | exact this.mono fun e w' h => ⟨by rw [h.1, hlf]; split <;> rfl, h.2⟩
  obtain ⟨rs, hrs⟩ : ∃ rs, rs = unNum s bad n := ⟨_, rfl⟩
  rw [← hrs] at hnn e2
  have HE := Lib.hid e2
  clear h hl hlf e1 e2 hc hrs hn
  obtain ⟨W1, hW1⟩ : ∃ W1, W1 = w.alloc (.cells #[.pointer (some ⟨b, 0, none⟩)] 64) := ⟨_, rfl⟩
  have hB1 : Below w.heap.size w W1 := by rw [hW1]; exact belC (Below.refl _ _)
  have c1 : W1.cell? ⟨w.heap.size, 0, none⟩ = some (.pointer (some ⟨b, 0, none⟩)) := by rw [hW1]; go_simp
  have hU1 : UnpAt W1 b s bad := ⟨below_at hB1 HU.out.c0 hbl, below_at hB1 HU.out.c1 hbl, ((Mod.of_below (F := none') hB1).frozen (p := ⟨b, 0, none⟩) hbl id).trans HU.out.f0, ((Mod.of_below (F := none') hB1).frozen (p := ⟨b, 1, none⟩) hbl id).trans HU.out.f1, HU.out.size⟩
  have hll := hl2 W1 hU1
  have hn2 := hnn W1 hU1
  have HW1 := Lib.hid hW1
  have HB1 := Lib.hid hB1
  have hne : w.heap.size ≠ b := by omega
  clear hl2 hnn hU1 hW1 hB1
  by_cases hlt : lf < n
  · have hlt' : (lf : Int) < n := by omega
    go_enter Tryz.func57, Tryz.ntmps57
    go_wp2_with fail
    rw [← HW1.out]
    refine hll.mono ?_
    clear hll
    rintro e w2 ⟨rfl, rfl⟩
    go_wp2_with fail
    refine hn2.mono ?_
    clear hn2
    rintro e w3 ⟨rfl, hU3, hM3⟩
    go_wp2_with fail
    exact ⟨rfl, (Mod.of_below HB1.out).trans hM3, Or.inl ⟨by rw [HE.out, if_pos hlt], rfl⟩⟩
  · have hlt' : ¬ (lf : Int) < n := by omega
    have hlt2 : decide ((lf : Int) < n) = false := decide_eq_false hlt'
    go_enter Tryz.func57, Tryz.ntmps57
    go_wp2_with fail
    rw [← HW1.out]
    refine hll.mono ?_
    clear hll
    rintro e w2 ⟨rfl, rfl⟩
    go_wp2_with fail
    refine hn2.mono ?_
    clear hn2
    rintro e w3 ⟨rfl, hU3, hM3⟩
    go_wp2_with fail
    go_ret
    exact ⟨(Mod.of_below HB1.out).trans hM3, Or.inr ⟨rs, by rw [HE.out, if_neg hlt], rfl, hU3⟩⟩
end Go.Proofs.YtmnkackkeppheaaGreat
/- package image: what lies in memory while a dump is read -/
namespace Go.Proofs.YtmnkackkeppheaaGreat
open Go.RowKit Esch

theorem step_some {β : Type} {r0 : Option β} {n : Nat} {s : USt} {G : Nat × USt → Option β} (h : r0 = (rNum n s).bind G) {r : Nat × USt} (hr : rNum n s = some r) : r0 = G r := by rw [h, hr]; rfl
theorem step_none {β : Type} {r0 : Option β} {n : Nat} {s : USt} {G : Nat × USt → Option β} (h : r0 = (rNum n s).bind G) (hr : rNum n s = none) : r0 = none := by rw [h, hr]; rfl
theorem rNum_lt8 {n : Nat} {s : USt} {r : Nat × USt} (h : rNum n s = some r) : r.1 < 256 ^ n := by
  unfold rNum at h
  split at h
  · cases h
  · cases h
    have h0 : 0 < 256 ^ n := Nat.pow_pos (by decide)
    unfold unNum
    split
    · exact h0
    · split
      · exact h0
      · refine Nat.lt_of_lt_of_le (getB_lt _) (Nat.pow_le_pow_right (by decide) ?_)
        unfold cutB
        have := List.length_take_le n (s.1.data.toList.drop 0)
        omega
/-- a dump is being read: the reader's box, the result's, the dump's own at db, the text that is left -/
structure DIn (w : World) (b db : Nat) (f : Nat → Value) (s : USt) (W : World) : Prop where
  tb : W.cell? ⟨w.heap.size, 0, none⟩ = some (.pointer (some ⟨b, 0, none⟩))
  bx : DmBox W db f
  un : UnpAt W b s.1 s.2
  rs : DmBox W (w.heap.size + 1) (fun j => (dumpZ[j]?).getD undef)
  md : Mod (· = b) w W
  bl : b < w.heap.size
  dl : w.heap.size + 1 < db
theorem _root_.Esch.DmBox.mods {F : Nat → Prop} {w w' : World} {xb : Nat} {f : Nat → Value} (h : DmBox w xb f) (hM : Mod F w w') (hne : ¬ F xb) : DmBox w' xb f := by
  have hl := cell_lt (h.at' 0 (by decide))
  exact ⟨fun j hj => hM.at (h.at' j hj) hne, fun j => (hM.frozen (p := ⟨xb, j, none⟩) hl hne).trans (h.fz j)⟩
theorem UnpAt.mods {F : Nat → Prop} {w w' : World} {b : Nat} {s : ByteArray} {bad : Bool} (h : UnpAt w b s bad) (hM : Mod F w w') (hne : ¬ F b) : UnpAt w' b s bad := by
  have hl := cell_lt h.c0
  exact ⟨hM.at h.c0 hne, hM.at h.c1 hne, (hM.frozen (p := ⟨b, 0, none⟩) hl hne).trans h.f0, (hM.frozen (p := ⟨b, 1, none⟩) hl hne).trans h.f1, h.size⟩
theorem DIn.num {w W W' : World} {b db : Nat} {f : Nat → Value} {s s' : USt} (h : DIn w b db f s W) (hM : Mod (· = b) W W') (hU : UnpAt W' b s'.1 s'.2) : DIn w b db f s' W' :=
  ⟨hM.at h.tb (by have := h.bl; omega), h.bx.mods hM (by have := h.bl; have := h.dl; omega), hU, h.rs.mods hM (by have := h.bl; omega), h.md.trans hM, h.bl, h.dl⟩
/-- other blocks, or new ones -/
theorem DIn.oth {w W W' : World} {b db : Nat} {f : Nat → Value} {s : USt} {F : Nat → Prop} (h : DIn w b db f s W) (hM : Mod F W W') (hF : ∀ k, k < W.heap.size → F k → w.heap.size + 1 < k ∧ k ≠ db) : DIn w b db f s W' := by
  have l1 := cell_lt h.tb
  have l2 := cell_lt (h.rs.at' 0 (by decide))
  have l3 := cell_lt (h.bx.at' 0 (by decide))
  have l4 := cell_lt h.un.c0
  have hz := h.md.size
  have hb := h.bl
  exact ⟨hM.at h.tb (fun e => by have := hF _ l1 e; omega), h.bx.mods hM (fun e => (hF _ l3 e).2 rfl), h.un.mods hM (fun e => by have := hF _ l4 e; omega), h.rs.mods hM (fun e => by have := hF _ l2 e; omega),
    ⟨hM.os.trans h.md.os, hM.tape.trans h.md.tape, hM.output.trans h.md.output, Nat.le_trans hz hM.size, fun k hk hne => (hM.block k (by omega) (fun e => by have := (hF k (by omega) e).1; omega)).trans (h.md.block k hk hne)⟩, h.bl, h.dl⟩
theorem DIn.set {w W : World} {b db : Nat} {f : Nat → Value} {s : USt} (h : DIn w b db f s W) {k : Nat} (hk : k < 37) (v : Value) : DIn w b db (upd f k v) s (W.setCell ⟨db, k, none⟩ v) := by
  have hM : Mod (· = db) W (W.setCell ⟨db, k, none⟩ v) := (Mod.refl (· = db) W).setCellAt (fun _ => rfl) _
  have hb := h.bl
  have hd := h.dl
  exact ⟨hM.at h.tb (by omega), h.bx.set hk v, h.un.mods hM (by omega), h.rs.mods hM (by omega),
    ⟨hM.os.trans h.md.os, hM.tape.trans h.md.tape, hM.output.trans h.md.output, Nat.le_trans h.md.size hM.size, fun k hk hne => (hM.block k (Nat.lt_of_lt_of_le hk h.md.size) (fun e => by omega)).trans (h.md.block k hk hne)⟩, h.bl, h.dl⟩
/-- the dump's values as they lie -/
def DmIs (x : DmC) (v : DVal) : Prop := x.n = v.n ∧ x.ik.map InC.val = v.ik ∧ x.m = v.m ∧ x.nl = v.nl ∧ x.hl = v.hl ∧ v.rows.length = 8 ∧ ∀ k, k < 8 → x.l k = (v.rows.getD k default).1.1 ∧ x.s k = (v.rows.getD k default).1.2 ∧ x.r (2 * k) = (v.rows.getD k default).2.1 ∧ x.r (2 * k + 1) = (v.rows.getD k default).2.2
def DumpQ (r0 : Option (DVal × USt)) (w : World) (b : Nat) (e : Ending) (w' : World) : Prop := Mod (· = b) w w' ∧ ((r0 = none ∧ e = .panicked peB) ∨ ∃ x v st, r0 = some (v, st) ∧ e = .returned (.agg x.cells.toArray) ∧ DmOk w' (From w.heap.size) x ∧ DmIs x v ∧ UnpAt w' b st.1 st.2)
/-- the text's reader, and other blocks -/
theorem DIn.gen {w W W' : World} {b db : Nat} {f : Nat → Value} {s s' : USt} {F : Nat → Prop} (h : DIn w b db f s W) (hM : Mod F W W') (hF : ∀ k, k < W.heap.size → F k → k = b ∨ (w.heap.size + 1 < k ∧ k ≠ db)) (hU : UnpAt W' b s'.1 s'.2) : DIn w b db f s' W' := by
  have l1 := cell_lt h.tb
  have l2 := cell_lt (h.rs.at' 0 (by decide))
  have l3 := cell_lt (h.bx.at' 0 (by decide))
  have hz := h.md.size
  have hb := h.bl
  have hd := h.dl
  exact ⟨hM.at h.tb (fun e => by have := hF _ l1 e; omega), h.bx.mods hM (fun e => by have := hF _ l3 e; omega), hU, h.rs.mods hM (fun e => by have := hF _ l2 e; omega),
    ⟨hM.os.trans h.md.os, hM.tape.trans h.md.tape, hM.output.trans h.md.output, Nat.le_trans hz hM.size, fun k hk hne => (hM.block k (by omega) (fun e => by have := hF k (by omega) e; omega)).trans (h.md.block k hk hne)⟩, h.bl, h.dl⟩
theorem step_some2 {α β : Type} {r0 : Option β} {n : Nat} {s : USt} {f : Nat × USt → Option α} {g : α → Option β} (h : r0 = ((rNum n s).bind f).bind g) {r : Nat × USt} (hr : rNum n s = some r) : r0 = (f r).bind g := by rw [h, hr]; rfl
theorem step_none2 {α β : Type} {r0 : Option β} {n : Nat} {s : USt} {f : Nat × USt → Option α} {g : α → Option β} (h : r0 = ((rNum n s).bind f).bind g) (hr : rNum n s = none) : r0 = none := by rw [h, hr]; rfl
/-- a dump's cells: five, and zeros -/
def dmf (a b c d e : Value) : Nat → Value := fun j => ((dmZ a b c d e)[j]?).getD undef
theorem dmf1 (a b c d e v : Value) : upd (dmf a b c d e) 1 v = dmf a v c d e := by
  funext j
  match j with
  | 0 | 1 | 2 | 3 | 4 => rfl
  | j + 5 => unfold upd dmf dmZ; rw [if_neg (by omega)]; rfl
theorem dmf2 (a b c d e v : Value) : upd (dmf a b c d e) 2 v = dmf a b v d e := by
  funext j
  match j with
  | 0 | 1 | 2 | 3 | 4 => rfl
  | j + 5 => unfold upd dmf dmZ; rw [if_neg (by omega)]; rfl
theorem dmf3 (a b c d e v : Value) : upd (dmf a b c d e) 3 v = dmf a b c v e := by
  funext j
  match j with
  | 0 | 1 | 2 | 3 | 4 => rfl
  | j + 5 => unfold upd dmf dmZ; rw [if_neg (by omega)]; rfl
theorem dmf4 (a b c d e v : Value) : upd (dmf a b c d e) 4 v = dmf a b c d v := by
  funext j
  match j with
  | 0 | 1 | 2 | 3 | 4 => rfl
  | j + 5 => unfold upd dmf dmZ; rw [if_neg (by omega)]; rfl
theorem there_mods {F : Nat → Prop} {w w' : World} {b o n : Nat} (h : w.there b o n) (hM : Mod F w w') (hne : ¬ F b) (hl : b < w.heap.size) : w'.there b o n := fun j hj => by
  obtain ⟨h1, h2⟩ := h j hj
  exact ⟨by rw [hM.cell (p := ⟨b, o + j, none⟩) hl hne]; exact h1, (hM.frozen (p := ⟨b, o + j, none⟩) hl hne).trans h2⟩
theorem there_new (w : World) (T : TypeId) (l : List Value) : (w.alloc (.cells l.toArray T)).there w.heap.size 0 l.length := fun j hj => by
  have hb : (w.alloc (.cells l.toArray T)).heap[w.heap.size]? = some (.cells l.toArray T) := heap_alloc_new _ _
  refine ⟨?_, by go_simp⟩
  rw [Nat.zero_add]
  have h2 : l[j]? = some (l[j]'hj) := List.getElem?_eq_getElem _
  unfold World.cell?
  simp only [hb]
  simp [h2]
def KI (n0 : Nat) (ik : List InS) (s : USt) : Option (DVal × USt) := (rNum 4 s).bind fun m => (rNum 2 m.2).bind fun k2 => (rRep rEnt k2.1 k2.2).bind fun nl => (rNum 1 nl.2).bind fun k3 => (rRep rHd k3.1 k3.2).bind fun hl => (rRep rRow 8 hl.2).bind fun rw => some (⟨n0, ik, m.1, nl.1, hl.1, rw.1⟩, rw.2)
def KP (n0 : Nat) (pre : List InS) (rest : Nat) (a b c d e : Nat) (l : List PtS) (st : USt) : Option (DVal × USt) := (rRep rIno rest st).bind fun q => KI n0 ((pre ++ [(⟨a, b, c, d, e, l⟩ : InS)]) ++ q.1) q.2
theorem kp_part {β : Type} {r0 : Option β} {p : PtS} {st : USt} {g : PtS × USt → Option β} (h : r0 = (some (p, st)).bind g) : r0 = g (p, st) := h
theorem kp_start {n0 : Nat} {pre : List InS} {rest a b c d e : Nat} (m : Nat) (s : USt) : (((rRep rPart m s).bind fun l => some ((⟨a, b, c, d, e, l.1⟩ : InS), l.2)).bind fun r => (rRep rIno rest r.2).bind fun q => KI n0 ((pre ++ [r.1]) ++ q.1) q.2) = (rRep rPart m s).bind fun q => KP n0 pre rest a b c d e ([] ++ q.1) q.2 := by
  cases rRep rPart m s with
  | none => rfl
  | some q => rfl
def nilV : Value := .slice none 0 0
/-- inodes as they are read, all below z -/
structure InosR (w : World) (z : Nat) (W : World) (db : Nat) (R : Nat → Prop) (ao : Option Addr) (cap : Nat) (k : List InC) : Prop where
  row : GRowAt W R 6 k.length cap ao (k.flatMap InC.cells)
  lo : ∀ c, R c → w.heap.size + 1 < c ∧ c < z ∧ c ≠ db
  pc : ∀ x ∈ k, PcOk W (fun c => w.heap.size + 1 < c ∧ c < z ∧ c ≠ db ∧ ¬ R c) x
  zl : z ≤ W.heap.size
theorem InosR.mods {w W W' : World} {z db : Nat} {R F : Nat → Prop} {ao : Option Addr} {cap : Nat} {k : List InC} (h : InosR w z W db R ao cap k) (hM : Mod F W W') (hF : ∀ c, c < z → F c → c = db ∨ c ≤ w.heap.size + 1) : InosR w z W' db R ao cap k :=
  ⟨h.row.mod hM (fun c hc hl e => by have := h.lo c hc; rcases hF c (by omega) e with h1 | h1 <;> omega), h.lo, fun x hx => (h.pc x hx).mod hM (fun c hc hl e => by rcases hF c hc.2.1 e with h1 | h1 <;> omega), Nat.le_trans h.zl hM.size⟩
theorem InosR.top {w W : World} {z db : Nat} {R : Nat → Prop} {ao : Option Addr} {cap : Nat} {k : List InC} (h : InosR w z W db R ao cap k) : InosR w W.heap.size W db R ao cap k :=
  ⟨h.row, fun c hc => by have := h.lo c hc; have := h.zl; omega, fun x hx => (h.pc x hx).sub (fun c hl hc => ⟨hc.1, hl, hc.2.2⟩), Nat.le_refl _⟩
def L1Rel (w : World) (b db n0 n1 : Nat) (r0 : Option (DVal × USt)) (g : Nat) (v : Value) (wr : World) : Prop :=
  ∃ (i : Nat) (s : USt) (ao : Option Addr) (cap : Nat) (k : List InC) (R : Nat → Prop), g = n1 - i ∧ i ≤ n1 ∧ v = .int .i64 i ∧ k.length = i ∧ DIn w b db (dmf (.int .i64 n0) (.slice ao i cap) (.int .i64 0) nilV nilV) s wr ∧ (∃ z, InosR w z wr db R ao cap k) ∧ r0 = (rRep rIno (n1 - i) s).bind fun q => KI n0 (k.map InC.val ++ q.1) q.2
/-- an inode that is read: its box -/
structure XIn (W : World) (xb : Nat) (x0 x1 x2 x3 x4 : Nat) (v : Value) : Prop where
  c0 : W.cell? ⟨xb, 0, none⟩ = some (.int .i64 x0)
  c1 : W.cell? ⟨xb, 1, none⟩ = some (.int .i64 x1)
  c2 : W.cell? ⟨xb, 2, none⟩ = some (.int .i64 x2)
  c3 : W.cell? ⟨xb, 3, none⟩ = some (.int .i64 x3)
  c4 : W.cell? ⟨xb, 4, none⟩ = some (.int .i64 x4)
  c5 : W.cell? ⟨xb, 5, none⟩ = some v
  f5 : W.frozen? ⟨xb, 5, none⟩ = false
theorem XIn.mods {F : Nat → Prop} {W W' : World} {xb x0 x1 x2 x3 x4 : Nat} {v : Value} (h : XIn W xb x0 x1 x2 x3 x4 v) (hM : Mod F W W') (hne : ¬ F xb) : XIn W' xb x0 x1 x2 x3 x4 v :=
  ⟨hM.at h.c0 hne, hM.at h.c1 hne, hM.at h.c2 hne, hM.at h.c3 hne, hM.at h.c4 hne, hM.at h.c5 hne, (hM.frozen (p := ⟨xb, 5, none⟩) (cell_lt h.c5) hne).trans h.f5⟩
theorem XIn.set {W : World} {xb x0 x1 x2 x3 x4 : Nat} {v : Value} (h : XIn W xb x0 x1 x2 x3 x4 v) (u : Value) : XIn (W.setCell ⟨xb, 5, none⟩ u) xb x0 x1 x2 x3 x4 u := by
  have hl := cell_lt h.c5
  obtain ⟨h0, h1, h2, h3, h4, h5, hf⟩ := h
  exact ⟨by go_simp, by go_simp, by go_simp, by go_simp, by go_simp, by go_simp, (World.frozen?_setCell _ _ _ _).trans hf⟩
theorem xin_new {W : World} {xb x0 x1 x2 x3 x4 : Nat} (h : W.there xb 0 6) : XIn (W.setCells xb 0 [.int .i64 x0, .int .i64 x1, .int .i64 x2, .int .i64 x3, .int .i64 x4, .slice none 0 0]) xb x0 x1 x2 x3 x4 (.slice none 0 0) := by
  have hr := World.rangeAt_setCells_same W xb 0 [.int .i64 x0, .int .i64 x1, .int .i64 x2, .int .i64 x3, .int .i64 x4, .slice none 0 0] h
  have k := fun j v hv => by have := hr j v hv; rwa [Nat.zero_add] at this
  exact ⟨k 0 _ rfl, k 1 _ rfl, k 2 _ rfl, k 3 _ rfl, k 4 _ rfl, k 5 _ rfl, (frozen_setCells _ _ _ _ _).trans (h 5 (by decide)).2⟩
def PRel (W5 : World) (b xb x0 x1 x2 x3 x4 m : Nat) (K : List PtS → USt → Option (DVal × USt)) (r0 : Option (DVal × USt)) (g : Nat) (v : Value) (wr : World) : Prop :=
  ∃ (j : Nat) (s : USt) (ap : Option Addr) (cp : Nat) (lp : List PtS), g = m - j ∧ j ≤ m ∧ v = .int .i64 j ∧ lp.length = j ∧ UnpAt wr b s.1 s.2 ∧ XIn wr xb x0 x1 x2 x3 x4 (.slice ap j cp) ∧ GRowAt wr (fun c => W5.heap.size ≤ c) 4 j cp ap (lp.flatMap ptC) ∧ Mod (fun c => c = b ∨ c = xb) W5 wr ∧ r0 = (rRep rPart (m - j) s).bind fun q => K (lp ++ q.1) q.2
theorem rd_results (w : World) (rb : Nat) (cs : List Value) (tmps : Array Value) (h : tmps.getD 2 undef = .pointer (some ⟨rb, 0, none⟩)) (hc : w.rangeAt rb 0 cs) (hl : cs.length = 37) : (results Tryz.f20 tmps).run Tryz.prog w = .ok (.agg cs.toArray) w := by
  have h2 := run_loadVar_mid (P := Tryz.prog) w rb 0 32 cs _ hc Tryz.underlying32 rfl (by rw [hl]; kernel_rfl)
  have h3 : tmps[2]?.getD undef = .pointer (some ⟨rb, 0, none⟩) := by simpa using h
  unfold results
  rw [Tryz.results20]
  simp [h3, asAddr, h2]
theorem srcR {α : Type} {P : Program} {W : World} (tx e' : TypeId) (hk : P.underlying tx = some (.slice e')) (b : Nat) (f : α → List Value) (x : α) (hf : ∀ x, (f x).length = 3) (h1 : ∀ x, ∀ u ∈ f x, u.oneCell' = true) (t : TypeId) (hb : W.heap[b]? = some (.cells (f x).toArray t)) (c : Nat) : Src P 3 tx (.slice (some ⟨b, 0, none⟩) 1 c) 1 (f x) W := by
  refine Src.ofSlice W hk _ 1 c (f x) (by rw [hf]) (fun j u hu => ?_) (h1 x)
  rw [addr_add, Nat.zero_add]
  simp [World.cell?, hb, hu]
theorem enC_oneR (x : EqK) : ∀ u ∈ enC x, u.oneCell' = true := fun u hu => by
  simp only [enC, List.mem_cons, List.not_mem_nil, or_false] at hu
  rcases hu with rfl | rfl | rfl <;> rfl
theorem hdC_oneR (x : Hd) : ∀ u ∈ hdC x, u.oneCell' = true := fun u hu => by
  simp only [hdC, List.mem_cons, List.not_mem_nil, or_false] at hu
  rcases hu with rfl | rfl | rfl <;> rfl
/-- the dump's rows by client -/
def rw0 : RowV := ((0, 0), (0, 0))
def dmR (n : Nat) (iv : Value) (m : Nat) (nv hv : Value) (l : List RowV) : Nat → Value := fun j =>
  if j < 5 then dmf (.int .i64 n) iv (.int .i64 m) nv hv j else if j < 13 then .int .i64 (l.getD (j - 5) rw0).1.1 else if j < 21 then .int .i64 (l.getD (j - 13) rw0).1.2
  else if (j - 21) % 2 = 0 then .int .i64 (l.getD ((j - 21) / 2) rw0).2.1 else .int .i64 (l.getD ((j - 21) / 2) rw0).2.2
theorem dmR_nil (n : Nat) (iv : Value) (m : Nat) (nv hv : Value) : ∀ j, j < 37 → dmf (.int .i64 n) iv (.int .i64 m) nv hv j = dmR n iv m nv hv [] j := fun j hj => by
  unfold dmR
  by_cases h : j < 5
  · rw [if_pos h]
  · rw [if_neg h]
    obtain ⟨i, rfl⟩ : ∃ i, j = i + 5 := ⟨j - 5, by omega⟩
    have e : dmf (.int .i64 n) iv (.int .i64 m) nv hv (i + 5) = .int .i64 0 := by
      unfold dmf dmZ
      show ((List.replicate 32 (Value.int .i64 0))[i]?).getD undef = _
      rw [List.getElem?_replicate, if_pos (by omega)]; rfl
    rw [e]
    repeat' split
    all_goals rfl
theorem getD_snoc (l : List RowV) (r : RowV) (i : Nat) : (l ++ [r]).getD i rw0 = if i = l.length then r else l.getD i rw0 := by
  rw [List.getD_eq_getElem?_getD, List.getD_eq_getElem?_getD]
  by_cases h : i = l.length
  · rw [if_pos h, h, List.getElem?_concat_length]; rfl
  · rw [if_neg h]
    by_cases h2 : i < l.length
    · rw [List.getElem?_append_left h2]
    · rw [List.getElem?_eq_none (by rw [List.length_append, List.length_singleton]; omega), List.getElem?_eq_none (by omega)]
theorem dmR_snoc (n : Nat) (iv : Value) (m : Nat) (nv hv : Value) (l : List RowV) (a b c d : Int) (hl : l.length < 8) :
    ∀ j, j < 37 → upd (upd (upd (upd (dmR n iv m nv hv l) (5 + l.length) (.int .i64 a)) (13 + l.length) (.int .i64 b)) (21 + l.length * 2) (.int .i64 c)) (21 + l.length * 2 + 1) (.int .i64 d) j = dmR n iv m nv hv (l ++ [((a, b), (c, d))]) j := fun j hj => by
  unfold upd dmR
  simp only [getD_snoc]
  by_cases h1 : j = 21 + l.length * 2 + 1
  · rw [if_pos h1, if_neg (by omega), if_neg (by omega), if_neg (by omega), if_neg (by omega), if_pos (by omega)]
  rw [if_neg h1]
  by_cases h2 : j = 21 + l.length * 2
  · rw [if_pos h2, if_neg (by omega), if_neg (by omega), if_neg (by omega), if_pos (by omega), if_pos (by omega)]
  rw [if_neg h2]
  by_cases h3 : j = 13 + l.length
  · rw [if_pos h3, if_neg (by omega), if_neg (by omega), if_pos (by omega), if_pos (by omega)]
  rw [if_neg h3]
  by_cases h4 : j = 5 + l.length
  · rw [if_pos h4, if_neg (by omega), if_pos (by omega), if_pos (by omega)]
  rw [if_neg h4]
  by_cases h5 : j < 5
  · rw [if_pos h5, if_pos h5]
  rw [if_neg h5, if_neg h5]
  by_cases h6 : j < 13
  · rw [if_pos h6, if_pos h6, if_neg (by omega)]
  rw [if_neg h6, if_neg h6]
  by_cases h7 : j < 21
  · rw [if_pos h7, if_pos h7, if_neg (by omega)]
  have h8 : ¬ (j - 21) / 2 = l.length := by omega
  rw [if_neg h7, if_neg h7]
  simp only [if_neg h8]
theorem dm_at (n m : Nat) (ao an ah : Option Addr) (cap cn ch : Nat) (k : List InC) (nl : List EqK) (hl : List Hd) (rl : List RowV) (x : DmC) (hx : x = ⟨n, ao, cap, k, m, an, cn, nl, ah, ch, hl, fun i => (rl.getD i rw0).1.1, fun i => (rl.getD i rw0).1.2, fun i => if i % 2 = 0 then (rl.getD (i / 2) rw0).2.1 else (rl.getD (i / 2) rw0).2.2⟩) :
    ∀ j v, x.cells[j]? = some v → dmR n (.slice ao k.length cap) m (.slice an nl.length cn) (.slice ah hl.length ch) rl j = v := by
  subst hx
  intro j v h
  match j, h with
  | 0, h | 1, h | 2, h | 3, h | 4, h | 5, h | 6, h | 7, h | 8, h | 9, h | 10, h | 11, h | 12, h | 13, h | 14, h | 15, h | 16, h | 17, h | 18, h | 19, h | 20, h | 21, h | 22, h | 23, h | 24, h | 25, h | 26, h | 27, h | 28, h | 29, h | 30, h | 31, h | 32, h | 33, h | 34, h | 35, h | 36, h => exact Option.some.inj h
  | j + 37, h => cases h
def KN (n0 : Nat) (ik : List InS) (m : Nat) (nl : List EqK) (s : USt) : Option (DVal × USt) := (rNum 1 s).bind fun k3 => (rRep rHd k3.1 k3.2).bind fun hl => (rRep rRow 8 hl.2).bind fun rw => some (⟨n0, ik, m, nl, hl.1, rw.1⟩, rw.2)
def KH (n0 : Nat) (ik : List InS) (m : Nat) (nl : List EqK) (hl : List Hd) (s : USt) : Option (DVal × USt) := (rRep rRow 8 s).bind fun rw => some (⟨n0, ik, m, nl, hl, rw.1⟩, rw.2)
def KR (n0 : Nat) (ik : List InS) (m : Nat) (nl : List EqK) (hl : List Hd) (l : List RowV) (s : USt) : Option (DVal × USt) := some (⟨n0, ik, m, nl, hl, l⟩, s)
theorem _root_.Esch.GRowAt.nilA {w : World} {S : Nat → Prop} {size len cap : Nat} {ao : Option Addr} {xs : List Value} (h : GRowAt w S size len cap ao xs) (e : ao = none) : cap = 0 := by
  by_cases h0 : cap = 0
  · exact h0
  · obtain ⟨b, off, e2, -⟩ := h.at' (by omega)
    rw [e] at e2; cases e2
def L3Rel (w W0 : World) (b db n0 n2 m0 : Nat) (iv : Value) (ik : List InS) (r0 : Option (DVal × USt)) (g : Nat) (v : Value) (wr : World) : Prop :=
  ∃ (i : Nat) (s : USt) (ao : Option Addr) (cap : Nat) (l : List EqK), g = n2 - i ∧ i ≤ n2 ∧ v = .int .i64 i ∧ l.length = i ∧ DIn w b db (dmf (.int .i64 n0) iv (.int .i64 m0) (.slice ao i cap) nilV) s wr ∧ GRowAt wr (fun c => W0.heap.size ≤ c) 3 i cap ao (l.flatMap enC) ∧ Mod (fun c => c = b ∨ c = db) W0 wr ∧ r0 = (rRep rEnt (n2 - i) s).bind fun q => KN n0 ik m0 (l ++ q.1) q.2
def L4Rel (w W0 : World) (b db n0 n3 m0 : Nat) (iv nv : Value) (ik : List InS) (nl : List EqK) (r0 : Option (DVal × USt)) (g : Nat) (v : Value) (wr : World) : Prop :=
  ∃ (i : Nat) (s : USt) (ao : Option Addr) (cap : Nat) (l : List Hd), g = n3 - i ∧ i ≤ n3 ∧ v = .int .i64 i ∧ l.length = i ∧ DIn w b db (dmf (.int .i64 n0) iv (.int .i64 m0) nv (.slice ao i cap)) s wr ∧ GRowAt wr (fun c => W0.heap.size ≤ c) 3 i cap ao (l.flatMap hdC) ∧ Mod (fun c => c = b ∨ c = db) W0 wr ∧ r0 = (rRep rHd (n3 - i) s).bind fun q => KH n0 ik m0 nl (l ++ q.1) q.2
def L5Rel (w W0 : World) (b db n0 m0 : Nat) (iv nv hv : Value) (ik : List InS) (nl : List EqK) (hl : List Hd) (r0 : Option (DVal × USt)) (g : Nat) (v : Value) (wr : World) : Prop :=
  ∃ (i : Nat) (s : USt) (l : List RowV), g = 8 - i ∧ i ≤ 8 ∧ v = .int .i64 i ∧ l.length = i ∧ DIn w b db (dmR n0 iv m0 nv hv l) s wr ∧ Mod (fun c => c = b ∨ c = db) W0 wr ∧ r0 = (rRep rRow (8 - i) s).bind fun q => KR n0 ik m0 nl hl (l ++ q.1) q.2
end Go.Proofs.YtmnkackkeppheaaGreat
