/- package image: Encode of any dump -/
import Derived.Test.YtmnkackkeppheaaGreatPkPck
import Derived.Test.YtmnkackkeppheaaGreatImDec
namespace Esch
open Go Go.RowKit
theorem rangeAt_keep {w w' : World} {b : Nat} {l : List Value} (h : w.rangeAt b 0 l) (hB : Below w.heap.size w w') : w'.rangeAt b 0 l := fun j v hv => below_at hB (h j v hv) (cell_lt (h j v hv))
end Esch
namespace Go.Proofs.YtmnkackkeppheaaGreat
open Go.RowKit Esch Go.Shelf

set_option linter.unusedSimpArgs false
set_option linter.unusedVariables false
/-- is it an int64? -/
abbrev I64 (v : Int) : Prop := -9223372036854775808 ≤ v ∧ v < 9223372036854775808
def encPart (s : PkS) (p : PtS) : PkS := pkL s [p.off, p.len, p.addr, p.at'] 2
def encIno (s : PkS) (y : InC) : PkS := y.ps.foldl encPart (pkL (pkL (pkL (pkL s [y.ino] 4) [y.kind, y.links, y.opens] 1) [y.size] 2) [(y.ps.length : Int)] 1)
def encEnt (s : PkS) (e : EqK) : PkS := pkL (pkT (pkL s [e.1] 4) e.2.1) [e.2.2] 4
def encHd (s : PkS) (h : Hd) : PkS := pkL (pkL (pkL s [h.1.1] 1) [h.1.2] 2) [h.2] 4
def encRow (x : DmC) (s : PkS) (k : Nat) : PkS := pkL (pkL (pkL s [x.l k] 8) [x.s k] 4) [x.r (2 * k), x.r (2 * k + 1)] 2
def encA (x : DmC) : PkS := pkL (pkL ([], false) [x.n] 2) [(x.ik.length : Int)] 1
def encB (x : DmC) : PkS := pkL (pkL (x.ik.foldl encIno (encA x)) [x.m] 4) [(x.nl.length : Int)] 2
def encC (x : DmC) : PkS := pkL (x.nl.foldl encEnt (encB x)) [(x.hl.length : Int)] 1
def encD (x : DmC) : PkS := (List.range 8).foldl (encRow x) (x.hl.foldl encHd (encC x))
/-- the text of a dump -/
def encP (ld : Int) (x : DmC) : ByteArray × Int := if ld ≠ 0 then (⟨#[]⟩, 11) else if (doneP (encD x)).2 ≠ 0 then (⟨#[]⟩, 11) else ((doneP (encD x)).1, 0)
/-- a dump whose numbers are int64, and that is not too great -/
structure DmFit (x : DmC) : Prop where
  n : I64 x.n
  m : I64 x.m
  ik : ∀ y ∈ x.ik, I64 y.ino ∧ I64 y.kind ∧ I64 y.links ∧ I64 y.opens ∧ I64 y.size ∧ y.ps.length ≤ 64 ∧ ∀ p ∈ y.ps, I64 p.off ∧ I64 p.len ∧ I64 p.addr ∧ I64 p.at'
  il : x.ik.length ≤ 100
  nl : ∀ e ∈ x.nl, I64 e.1 ∧ e.2.1.length ≤ 255 ∧ I64 e.2.2
  ll : (x.nl.flatMap fun e => e.2.1).length + 10 * x.nl.length ≤ 500000
  hl : ∀ h ∈ x.hl, I64 h.1.1 ∧ I64 h.1.2 ∧ I64 h.2
  hn : x.hl.length ≤ 1000
  rw : ∀ k, k < 16 → I64 (x.l k) ∧ I64 (x.s k) ∧ I64 (x.r k)
theorem encParts_len (l : List PtS) : ∀ s : PkS, (l.foldl encPart s).1.length ≤ s.1.length + 8 * l.length := by
  induction l with
  | nil => intro s; simp
  | cons p l ih =>
    intro s
    have h1 := ih (encPart s p)
    have h2 : (encPart s p).1.length ≤ s.1.length + 8 := pkL_len _ _ _
    rw [List.foldl_cons, List.length_cons]
    omega
theorem encIno_len (s : PkS) (y : InC) (h : y.ps.length ≤ 64) : (encIno s y).1.length ≤ s.1.length + 600 := by
  unfold encIno
  have h0 := encParts_len y.ps (pkL (pkL (pkL (pkL s [y.ino] 4) [y.kind, y.links, y.opens] 1) [y.size] 2) [(y.ps.length : Int)] 1)
  have h1 := pkL_len [(y.ps.length : Int)] 1 (pkL (pkL (pkL s [y.ino] 4) [y.kind, y.links, y.opens] 1) [y.size] 2)
  have h2 := pkL_len [y.size] 2 (pkL (pkL s [y.ino] 4) [y.kind, y.links, y.opens] 1)
  have h3 := pkL_len [y.kind, y.links, y.opens] 1 (pkL s [y.ino] 4)
  have h4 := pkL_len [y.ino] 4 s
  simp only [List.length_cons, List.length_nil] at h1 h2 h3 h4
  omega
theorem encInos_len : ∀ (l : List InC) (s : PkS), (∀ y ∈ l, y.ps.length ≤ 64) → (l.foldl encIno s).1.length ≤ s.1.length + 600 * l.length
  | [], s, _ => by simp
  | y :: l, s, h => by
    have h1 := encInos_len l (encIno s y) (fun z hz => h z (List.mem_cons_of_mem _ hz))
    have h2 := encIno_len s y (h y (by simp))
    rw [List.foldl_cons, List.length_cons]
    omega
theorem encEnts_len : ∀ (l : List EqK) (s : PkS), (l.foldl encEnt s).1.length ≤ s.1.length + ((l.flatMap fun e => e.2.1).length + 10 * l.length)
  | [], s => by simp
  | e :: l, s => by
    have h1 := encEnts_len l (encEnt s e)
    have h2 : (encEnt s e).1.length ≤ s.1.length + 10 + e.2.1.length := by
      unfold encEnt
      have g1 := pkL_len [e.2.2] 4 (pkT (pkL s [e.1] 4) e.2.1)
      have g2 := pkT_len (pkL s [e.1] 4) e.2.1
      have g3 := pkL_len [e.1] 4 s
      simp only [List.length_cons, List.length_nil] at g1 g3
      omega
    rw [List.foldl_cons, List.length_cons, List.flatMap_cons, List.length_append]
    omega
theorem encHds_len : ∀ (l : List Hd) (s : PkS), (l.foldl encHd s).1.length ≤ s.1.length + 7 * l.length
  | [], s => by simp
  | e :: l, s => by
    have h1 := encHds_len l (encHd s e)
    have h2 : (encHd s e).1.length ≤ s.1.length + 7 := by
      unfold encHd
      have g1 := pkL_len [e.2] 4 (pkL (pkL s [e.1.1] 1) [e.1.2] 2)
      have g2 := pkL_len [e.1.2] 2 (pkL s [e.1.1] 1)
      have g3 := pkL_len [e.1.1] 1 s
      simp only [List.length_cons, List.length_nil] at g1 g2 g3
      omega
    rw [List.foldl_cons, List.length_cons]
    omega
theorem encRow_len (x : DmC) (s : PkS) (k : Nat) : (encRow x s k).1.length ≤ s.1.length + 16 := by
  unfold encRow
  have g1 := pkL_len [x.r (2 * k), x.r (2 * k + 1)] 2 (pkL (pkL s [x.l k] 8) [x.s k] 4)
  have g2 := pkL_len [x.s k] 4 (pkL s [x.l k] 8)
  have g3 := pkL_len [x.l k] 8 s
  simp only [List.length_cons, List.length_nil] at g1 g2 g3
  omega
theorem encRows_len (x : DmC) : ∀ (l : List Nat) (s : PkS), (l.foldl (encRow x) s).1.length ≤ s.1.length + 16 * l.length
  | [], s => by simp
  | k :: l, s => by
    have h1 := encRows_len x l (encRow x s k)
    have h2 := encRow_len x s k
    rw [List.foldl_cons, List.length_cons]
    omega
/-- something was packed, if nothing spoilt it -/
theorem pkL_ne (s : PkS) (l : List Int) (n : Nat) (h : (pkL s l n).2 = false) (h2 : s.2 = false → s.1 ≠ []) : (pkL s l n).1 ≠ [] := by
  induction l generalizing s with
  | nil => exact h2 h
  | cons a l ih =>
    refine ih (pkN s a n) h (fun e => ?_)
    unfold pkN at e ⊢
    split at e
    · rename_i hf; rw [if_pos hf]; simp only at e ⊢
      exact fun e2 => h2 e (List.append_eq_nil_iff.1 e2).1
    · cases e
theorem ne_fold {α : Type} (f : PkS → α → PkS) (hf : ∀ s a, (s.2 = false → s.1 ≠ []) → (f s a).2 = false → (f s a).1 ≠ []) : ∀ (l : List α) (s : PkS), (s.2 = false → s.1 ≠ []) → (l.foldl f s).2 = false → (l.foldl f s).1 ≠ []
  | [], s, h, h2 => h h2
  | a :: l, s, h, h2 => ne_fold f hf l (f s a) (hf s a h) h2
theorem pkL_one (s : PkS) (v : Int) (n : Nat) : pkL s [v] n = pkN s v n := rfl
theorem pkT_ne (s : PkS) (t : Nm) (h2 : s.2 = false → s.1 ≠ []) (h : (pkT s t).2 = false) : (pkT s t).1 ≠ [] := by
  have h3 := pkL_ne s [(t.length : Int)] 2
  rw [pkL_one] at h3
  have e0 : ∀ r : PkS, r = pkN s (t.length : Int) 2 → pkT s t = (r.1 ++ t, r.2) := fun r hr => by rw [hr]; unfold pkT; exact rfl
  obtain ⟨r, hr⟩ : ∃ r, r = pkN s (t.length : Int) 2 := ⟨_, rfl⟩
  rw [← hr] at h3
  rw [e0 r hr] at h ⊢
  exact fun e => h3 h h2 (List.append_eq_nil_iff.1 e).1
theorem encA_ne (x : DmC) (h : (encA x).2 = false) : (encA x).1 ≠ [] := by
  unfold encA at h ⊢
  refine pkL_ne _ _ _ h (fun e => ?_)
  unfold pkL at e ⊢
  simp only [List.foldl_cons, List.foldl_nil] at e ⊢
  unfold pkN at e ⊢
  split at e
  · rename_i hf
    rw [if_pos hf]
    intro e2
    have := congrArg List.length e2
    simp [putB_length] at this
  · cases e
theorem encD_ne (x : DmC) (h : (encD x).2 = false) : (encD x).1 ≠ [] := by
  unfold encD at h ⊢
  refine ne_fold (encRow x) (fun s k hs hk => ?_) _ _ (fun h1 => ?_) h
  · unfold encRow at hk ⊢
    exact pkL_ne _ _ _ hk fun e => pkL_ne _ _ _ e fun e => pkL_ne _ _ _ e hs
  · refine ne_fold encHd (fun s k hs hk => ?_) _ _ (fun h2 => ?_) h1
    · unfold encHd at hk ⊢
      exact pkL_ne _ _ _ hk fun e => pkL_ne _ _ _ e fun e => pkL_ne _ _ _ e hs
    · unfold encC at h2 ⊢
      refine pkL_ne _ _ _ h2 fun h3 => ne_fold encEnt (fun s k hs hk => ?_) _ _ (fun h4 => ?_) h3
      · unfold encEnt at hk ⊢
        exact pkL_ne _ _ _ hk fun e => pkT_ne _ _ (fun e => pkL_ne _ _ _ e hs) e
      · unfold encB at h4 ⊢
        refine pkL_ne _ _ _ h4 fun h5 => pkL_ne _ _ _ h5 fun h6 => ne_fold encIno (fun s k hs hk => ?_) _ _ (encA_ne x) h6
        unfold encIno at hk ⊢
        exact ne_fold encPart (fun s p hs hp => pkL_ne _ _ _ hp hs) _ _ (fun e => pkL_ne _ _ _ e fun e => pkL_ne _ _ _ e fun e => pkL_ne _ _ _ e fun e => pkL_ne _ _ _ e hs) hk
theorem dm_rows (x : DmC) (i : Nat) (h : i < 8) : x.cells[5 + i]? = some (.int .i64 (x.l i)) ∧ x.cells[13 + i]? = some (.int .i64 (x.s i)) ∧ x.cells[21 + i * 2]? = some (.int .i64 (x.r (2 * i))) ∧ x.cells[21 + i * 2 + 1]? = some (.int .i64 (x.r (2 * i + 1))) := by
  match i, h with
  | 0, _ | 1, _ | 2, _ | 3, _ | 4, _ | 5, _ | 6, _ | 7, _ => exact ⟨rfl, rfl, rfl, rfl⟩
/-- packed so far: no block ahead of B is touched -/
structure EnIn (B p : Nat) (wB : World) (X : Nat → Prop) (s : PkS) (W : World) : Prop where
  pk : PkV X B p s W
  md : Below B wB W
theorem EnIn.put {B p : Nat} {wB W W' : World} {X : Nat → Prop} {s s' : PkS} (h : EnIn B p wB X s W) (hP : PkV X B p s' W') (hM : Mod (FX X B) W W') (hB : B ≤ W.heap.size) : EnIn B p wB X s' W' := ⟨hP, h.md.trans (hM.below_at hB (fun k hk e => by have := e.1; omega))⟩
theorem PkX.of {X : Nat → Prop} {B b : Nat} {bs : List UInt8} {bad : Bool} {w : World} (h : PkAt B b bs bad w) : PkX none' B b bs bad w := ⟨h, id, fun _ h => h.elim, fun _ _ _ _ => id⟩
def E1Rel (B p : Nat) (wB : World) (l : List InC) (s : PkS) (g : Nat) (v : Value) (wr : World) : Prop := ∃ i : Nat, g = l.length - i ∧ i ≤ l.length ∧ v = .int .i64 i ∧ EnIn B p wB none' ((l.take i).foldl encIno s) wr
def E2Rel (B p : Nat) (wB : World) (q : Nat) (W0 : World) (l : List PtS) (s : PkS) (g : Nat) (v : Value) (wr : World) : Prop := ∃ i : Nat, g = l.length - i ∧ i ≤ l.length ∧ v = .int .i64 i ∧ EnIn B p wB (· = q) ((l.take i).foldl encPart s) wr ∧ Mod (FX (· = q) B) W0 wr
def E3Rel (B p : Nat) (wB : World) (l : List EqK) (s : PkS) (g : Nat) (v : Value) (wr : World) : Prop := ∃ i : Nat, g = l.length - i ∧ i ≤ l.length ∧ v = .int .i64 i ∧ EnIn B p wB none' ((l.take i).foldl encEnt s) wr
def E4Rel (B p : Nat) (wB : World) (l : List Hd) (s : PkS) (g : Nat) (v : Value) (wr : World) : Prop := ∃ i : Nat, g = l.length - i ∧ i ≤ l.length ∧ v = .int .i64 i ∧ EnIn B p wB none' ((l.take i).foldl encHd s) wr
def E5Rel (B p : Nat) (wB : World) (x : DmC) (s : PkS) (g : Nat) (v : Value) (wr : World) : Prop := ∃ i : Nat, g = 8 - i ∧ i ≤ 8 ∧ v = .int .i64 i ∧ EnIn B p wB none' ((List.range i).foldl (encRow x) s) wr
def EncPost (r : ByteArray × Int) (w : World) (e : Ending) (w' : World) : Prop := e = .returned (.tuple #[.string r.1, .int .i64 r.2]) ∧ Below w.heap.size w w'
theorem takeFold {α β : Type} (f : β → α → β) (l : List α) (d : α) {i : Nat} (h : i < l.length) (s : β) : (l.take (i + 1)).foldl f s = f ((l.take i).foldl f s) (l.getD i d) := by
  rw [take_one l d h, List.foldl_append]; rfl
set_option maxRecDepth 100000 in
set_option maxHeartbeats 16000000 in
theorem imgEncode_any (w : World) (T : Nat → Prop) (x : DmC) (hx : DmOk w T x) (ld : Int) (hf : ld = 0 → DmFit x) (hld : ∀ (W : World) (sb : Nat) (S U : Nat → Prop), SttAt W sb S st0 → DmOk W U x → Calls Tryz.prog 22 #[.pointer (some ⟨sb, 0, none⟩), .agg x.cells.toArray] W fun e w' => e = .returned (.int .i64 ld) ∧ Mod (· = sb) W w') :
    Calls Tryz.prog 12 #[.agg x.cells.toArray] w (EncPost (encP ld x) w) := by
  obtain ⟨W1, hW1⟩ : ∃ W1, W1 = w.alloc (.cells x.cells.toArray 32) := ⟨_, rfl⟩
  have hB1 : Below w.heap.size w W1 := by rw [hW1]; exact belC (Below.refl _ _)
  have hz1 : W1.heap.size = w.heap.size + 1 := by rw [hW1]; simp
  have hr1 : W1.rangeAt w.heap.size 0 x.cells := by
    have h := DmBox.new w 32 x.cells rfl
    rw [hW1]; exact h.rangeL rfl
  have hS0 : W1.drew.rangeAt w.heap.size 0 x.cells ∧ Below W1.heap.size W1 W1.drew := ⟨rangeAt_keep hr1 (Below.refl _ _).drew, (Below.refl _ _).drew⟩
  have HX1 := Lib.hid (dmOk_mod (dmOk_sub hx (fun k hl _ => (hl : k < w.heap.size))) (Mod.of_below (F := none') hB1) (fun k _ _ e => e))
  have HF := Lib.hid hf
  have HLD := Lib.hid hld
  have HB1 := Lib.hid hB1
  have HZ1 := Lib.hid hz1
  have HW1 := Lib.hid hW1
  have HS0 := Lib.hid hS0
  have HR1 := Lib.hid hr1
  clear hx hf hld hB1 hz1 hW1 hS0 hr1
  go_enter Tryz.func12, Tryz.ntmps12
  go_wp2_with fail
  rw [← HW1.out]
  refine wp_region_held_drew (S := fun W => W.rangeAt w.heap.size 0 x.cells ∧ Below W1.heap.size W1 W) (by kernel_rfl) HS0.out (fun hHeld => ?_)
  refine takeL 1 ?_ (by (simp only [opL, List.getElem?_toArray, List.getElem?_cons_succ, List.getElem?_cons_zero, Option.getD_some]; exact ⟨_, yieldsIf_load_mid (by rfl) 32 _ (by rfl) w.heap.size 0 (by rfl) x.cells _ (fun W h => h.1) Tryz.underlying32 rfl (by kernel_rfl), fun _ _ _ h => h, (by simp only [Act.put, List.setIfInBounds_toArray, List.set_cons_zero, List.set_cons_succ]; rfl), rfl⟩))
  refine wpAnyH_ready (rs := [0]) (by kernel_rfl) (by simp) ?_
  refine AllReadyH.cons (o := _) rfl (fun K hK => ?_) AllReadyH.nil
  go_simp
  refine (stNew_any _).mono ?_
  rintro e w2 ⟨sb, rfl, hS, hBB⟩
  have HG1 := Lib.hid (And.intro (rangeAt_keep hHeld.1 hBB) (hHeld.2.trans (hBB.mono hHeld.2.size)))
  have hsl : W1.heap.size ≤ sb := Nat.le_trans hHeld.2.size hS.sb.1
  clear hBB
  try go_wp2_with fail
  refine hK.out _ _ HG1.out (fun hHeld => ?_)
  clear hK K
  try simp only [Act.put, List.setIfInBounds_toArray, List.set_cons_zero, List.set_cons_succ]
  refine wpAnyH_ready (rs := [2]) (by kernel_rfl) (by simp) ?_
  refine AllReadyH.cons (o := _) rfl (fun K hK => ?_) AllReadyH.nil
  go_simp
  have hl2 := HLD.out w2 sb _ _ hS (dmOk_mod HX1.out (Mod.of_below (F := none') HG1.out.2) (fun k _ _ e => e))
  refine hl2.mono ?_
  clear hl2
  rintro e w3 ⟨rfl, hM⟩
  have HG2 : Hid (w3.rangeAt w.heap.size 0 x.cells ∧ Below W1.heap.size W1 w3) := Lib.hid ⟨fun j v hv => hM.at (HG1.out.1 j v hv) (fun e => by have := HZ1.out; omega), HG1.out.2.trans (hM.below_at HG1.out.2.size (fun k hk e => by have e : k = sb := e; omega))⟩
  clear hM hS
  try go_wp2_with fail
  refine hK.out _ _ HG2.out (fun hHeld => ?_)
  clear hK K
  try simp only [Act.put, List.setIfInBounds_toArray, List.set_cons_zero, List.set_cons_succ]
  refine takeL 3 ?_
  refine wpAnyH_done (by kernel_rfl) ?_ _
  clear hHeld hsl
  by_cases hz : ld = 0
  rotate_left 1
  · have hz2 : (ld != 0) = true := by simpa using hz
    have he : encP ld x = (⟨#[]⟩, 11) := by unfold encP; rw [if_pos hz]
    have HE := Lib.hid he
    have HB3 := Lib.hid (HB1.out.trans (HG2.out.2.mono HB1.out.size))
    clear he hz
    go_wp2_with fail
    refine bodyPost_ret (v := .tuple #[.string ⟨#[]⟩, .int .i64 11]) (by simp [results, Tryz.results12, go_sem]) rfl ?_
    show Ending.returned (.tuple #[.string ⟨#[]⟩, .int .i64 11]) = Ending.returned (.tuple #[.string (encP ld x).1, .int .i64 (encP ld x).2]) ∧ _
    rw [HE.out]
    exact ⟨rfl, HB3.out⟩
  have HFT := Lib.hid (HF.out hz)
  have HRR : Hid (encP ld x = if (doneP (encD x)).2 ≠ 0 then (⟨#[]⟩, 11) else ((doneP (encD x)).1, 0)) := Lib.hid (by unfold encP; rw [if_neg (by simpa using hz)])
  subst hz
  go_wp2_with fail
  refine (packNew_any w3).mono ?_
  rintro e wB ⟨p, rfl, hP, hBB⟩
  obtain ⟨B, hB⟩ : ∃ B, B = w3.heap.size := ⟨_, rfl⟩
  rw [← hB] at hP hBB
  have hz3 := HG2.out.2.size
  have hz1 := HZ1.out
  have HDB : Hid (w.heap.size + 1 ≤ B ∧ B ≤ wB.heap.size) := Lib.hid ⟨by omega, by have := hBB.size; omega⟩
  have hBw3 : Below w3.heap.size w3 wB := by rw [← hB]; exact hBB
  have HBW : Hid (Below w.heap.size w wB) := Lib.hid ((HB1.out.trans (HG2.out.2.mono HB1.out.size)).trans (hBw3.mono (by omega)))
  have HXF : Hid (∀ W, Below B wB W → W.rangeAt w.heap.size 0 x.cells) := Lib.hid (fun W hW j v hv => below_at hW (below_at hBw3 (HG2.out.1 j v hv) (by omega)) (by omega))
  have HXB : Hid (DmOk wB (fun k => k < B) x) := Lib.hid (by
    have h1 := dmOk_mod HX1.out (Mod.of_below (F := none') HG2.out.2) (fun k _ _ e => e)
    exact dmOk_mod (dmOk_sub h1 (fun k _ hk => show k < B by have hk : k < w.heap.size := hk; omega)) (Mod.of_below (F := none') hBw3) (fun k _ _ e => e))
  have HEN : Hid (EnIn B p wB none' ([], false) wB) := Lib.hid ⟨PkX.of (X := none') hP, Below.refl _ _⟩
  clear hP hBB hB hz3 hz1 hBw3 HG1 HG2 HS0 HR1 HX1 HB1 HW1 HLD HF
  obtain ⟨ia, hia⟩ : ∃ ia, ia = x.ia := ⟨_, rfl⟩
  have HIA := Lib.hid hia
  clear hia
  obtain ⟨s0, hs0⟩ : ∃ s0 : PkS, s0 = ([], false) := ⟨_, rfl⟩
  have HLs0 : Hid (s0.1.length ≤ 0) := Lib.hid (by rw [hs0]; decide)
  rw [← hs0] at HEN
  have Hs0 := Lib.hid hs0
  clear hs0
  have c0 : wB.cell? ⟨w.heap.size, 0, none⟩ = some (.int .i64 x.n) := by have := HXF.out wB (Below.refl _ _) 0 _ rfl; rwa [Nat.zero_add] at this
  have hdl := cell_lt c0
  go_wp2_with fail
  refine (rowVI none' wB B p 2 _ _ _ s0 [x.n] rfl (by decide) HEN.out.pk (fun v hv => by rw [List.mem_singleton] at hv; rw [hv]; exact HFT.out.n) ⟨by have := HLs0.out; omega, by simp⟩ (Nat.le_trans HDB.out.2 HEN.out.md.size)).mono ?_
  rintro e u1 ⟨rfl, hP, hM⟩
  have HM1 := Lib.hid hM
  have HEN := Lib.hid (HEN.out.put hP hM (Nat.le_trans HDB.out.2 HEN.out.md.size))
  clear hP hM
  have hl2 := pkL_len [x.n] 2 s0
  obtain ⟨s1, hs2⟩ : ∃ s2, s2 = pkL s0 [x.n] 2 := ⟨_, rfl⟩
  rw [← hs2] at HEN hl2
  have Hs1 := Lib.hid hs2
  have HLs1 : Hid (s1.1.length ≤ 2) := Lib.hid (by have := HLs0.out; simp only [List.length_cons, List.length_nil] at hl2; omega)
  clear hs2 hl2
  clear c0 hdl
  have c1 : u1.cell? ⟨w.heap.size, 1, none⟩ = some (.slice ia x.ik.length x.ic) := by have := HXF.out u1 HEN.out.md 1 _ rfl; rwa [Nat.zero_add, ← HIA.out] at this
  have hdl := cell_lt c1
  go_wp2_with fail
  refine (rowVI none' u1 B p 1 _ _ _ s1 [(x.ik.length : Int)] rfl (by decide) HEN.out.pk (fun v hv => by rw [List.mem_singleton] at hv; rw [hv]; exact (by have := HFT.out.il; constructor <;> omega)) ⟨by have := HLs1.out; omega, by simp⟩ (Nat.le_trans HDB.out.2 HEN.out.md.size)).mono ?_
  rintro e u2 ⟨rfl, hP, hM⟩
  have HM1 := Lib.hid hM
  have HEN := Lib.hid (HEN.out.put hP hM (Nat.le_trans HDB.out.2 HEN.out.md.size))
  clear hP hM
  have hl2 := pkL_len [(x.ik.length : Int)] 1 s1
  obtain ⟨sA, hs2⟩ : ∃ s2, s2 = pkL s1 [(x.ik.length : Int)] 1 := ⟨_, rfl⟩
  rw [← hs2] at HEN hl2
  have HsA := Lib.hid hs2
  have HLsA : Hid (sA.1.length ≤ 3) := Lib.hid (by have := HLs1.out; simp only [List.length_cons, List.length_nil] at hl2; omega)
  clear hs2 hl2
  clear c1 hdl
  have c1 : u2.cell? ⟨w.heap.size, 1, none⟩ = some (.slice ia x.ik.length x.ic) := by have := HXF.out u2 HEN.out.md 1 _ rfl; rwa [Nat.zero_add, ← HIA.out] at this
  have hdl := cell_lt c1
  go_wp2_with fail
  go_loopg [35] x.ik.length (fun g v wr => E1Rel B p wB x.ik sA g v wr)
  case atStart => exact ⟨0, rfl, Nat.zero_le _, rfl, HEN.out⟩
  case round =>
    obtain ⟨i, rfl, hi, rfl, hE⟩ := hrel
    have HEN := Lib.hid hE
    clear hE c1 hdl
    by_cases hlt : i < x.ik.length
    · skip
      obtain ⟨xb, xo, hxa, hxs, hxl, hxc⟩ := HXB.out.ino.row.elem InC.cells_len default hlt
      have hxB : xb < B := hxs
      have hmem := getDmem x.ik default hlt
      have hpc := HXB.out.ino.pts _ hmem
      have hfy := HFT.out.ik _ hmem
      have HSN : Hid ((x.ik.take (i + 1)).foldl encIno sA = encIno ((x.ik.take i).foldl encIno sA) (x.ik.getD i default)) := Lib.hid (takeFold encIno x.ik default hlt sA)
      have hln := encInos_len (x.ik.take i) sA (fun y hy => (HFT.out.ik y (List.mem_of_mem_take hy)).2.2.2.2.2.1)
      rw [List.length_take] at hln
      have hil := HFT.out.il
      have HLT := Lib.hid hlt
      have hil2 : (0 : Int) ≤ i ∧ (i : Int) < x.ik.length := by omega
      have hwr := Lib.hid (show wrap64 ((i : Int) + 1) = ((i + 1 : Nat) : Int) by unfold wrap64; omega)
      have hms : x.ik.length - (i + 1) < x.ik.length - i := Nat.sub_lt_sub_left hlt (Nat.lt_succ_self i)
      obtain ⟨sI, hsI⟩ : ∃ sI, sI = (x.ik.take i).foldl encIno sA := ⟨_, rfl⟩
      rw [← hsI] at HSN HEN hln
      have HLsI : Hid (sI.1.length ≤ 61000) := Lib.hid (by have := HLsA.out; omega)
      have hxw : xb < wB.heap.size := hxl
      generalize x.ik.getD i default = y at *
      obtain ⟨y0, y1, y2, y3, y4, pa, pc, lp⟩ := y
      have HFY := Lib.hid hfy
      have HPC := Lib.hid hpc
      have HA := Lib.hid hxa
      have g0 : wr.cell? ⟨xb, xo + i * 6, none⟩ = some (.int .i64 y0) := below_at HEN.out.md (hxc 0 (by decide)) hxB
      have g1 : wr.cell? ⟨xb, xo + i * 6 + 1, none⟩ = some (.int .i64 y1) := below_at HEN.out.md (hxc 1 (by decide)) hxB
      have g2 : wr.cell? ⟨xb, xo + i * 6 + 2, none⟩ = some (.int .i64 y2) := below_at HEN.out.md (hxc 2 (by decide)) hxB
      have g3 : wr.cell? ⟨xb, xo + i * 6 + 3, none⟩ = some (.int .i64 y3) := below_at HEN.out.md (hxc 3 (by decide)) hxB
      have g4 : wr.cell? ⟨xb, xo + i * 6 + 4, none⟩ = some (.int .i64 y4) := below_at HEN.out.md (hxc 4 (by decide)) hxB
      have g5 : wr.cell? ⟨xb, xo + i * 6 + 5, none⟩ = some (.slice pa lp.length pc) := below_at HEN.out.md (hxc 5 (by decide)) hxB
      obtain ⟨q, hq⟩ : ∃ q, q = wr.heap.size := ⟨_, rfl⟩
      obtain ⟨V1, hV1⟩ : ∃ V1, V1 = wr.alloc (.cells #[.int .i64 y0, .int .i64 y1, .int .i64 y2, .int .i64 y3, .int .i64 y4, .slice pa lp.length pc] 102) := ⟨_, rfl⟩
      have hBV : Below wr.heap.size wr V1 := by rw [hV1]; exact belC (Below.refl _ _)
      have e0 : V1.cell? ⟨q, 0, none⟩ = some (.int .i64 y0) := by rw [hV1, hq]; go_simp
      have e1 : V1.cell? ⟨q, 1, none⟩ = some (.int .i64 y1) := by rw [hV1, hq]; go_simp
      have e2 : V1.cell? ⟨q, 2, none⟩ = some (.int .i64 y2) := by rw [hV1, hq]; go_simp
      have e3 : V1.cell? ⟨q, 3, none⟩ = some (.int .i64 y3) := by rw [hV1, hq]; go_simp
      have e4 : V1.cell? ⟨q, 4, none⟩ = some (.int .i64 y4) := by rw [hV1, hq]; go_simp
      have e5 : V1.cell? ⟨q, 5, none⟩ = some (.slice pa lp.length pc) := by rw [hV1, hq]; go_simp
      have hzB : B ≤ wr.heap.size := Nat.le_trans HDB.out.2 HEN.out.md.size
      have HZV : Hid (q + 1 = V1.heap.size) := Lib.hid (by rw [hV1, hq]; simp)
      have HQ : Hid (B ≤ q ∧ q < V1.heap.size) := Lib.hid ⟨by omega, cell_lt e0⟩
      have HEN0 := HEN
      have HEN : Hid (EnIn B p wB (· = q) sI V1) := Lib.hid ⟨HEN.out.pk.more hBV _ (fun k hk => Or.inr (by have e : k = q := hk; have := HQ.out.2; omega)), HEN.out.md.trans (hBV.mono hzB)⟩
      have HK : Hid (∀ W, Mod (FX (· = q) B) V1 W → W.cell? ⟨q, 0, none⟩ = some (.int .i64 y0) ∧ W.cell? ⟨q, 1, none⟩ = some (.int .i64 y1) ∧ W.cell? ⟨q, 2, none⟩ = some (.int .i64 y2) ∧ W.cell? ⟨q, 3, none⟩ = some (.int .i64 y3) ∧ W.cell? ⟨q, 4, none⟩ = some (.int .i64 y4) ∧ W.cell? ⟨q, 5, none⟩ = some (.slice pa lp.length pc)) := Lib.hid (fun W hW => ⟨hW.at e0 (fun e => e.2 rfl), hW.at e1 (fun e => e.2 rfl), hW.at e2 (fun e => e.2 rfl), hW.at e3 (fun e => e.2 rfl), hW.at e4 (fun e => e.2 rfl), hW.at e5 (fun e => e.2 rfl)⟩)
      have HMV := Lib.hid (Mod.refl (FX (· = q) B) V1)
      have HV1 := Lib.hid hV1
      have HQQ := Lib.hid hq
      have HMW : Hid (Mod (FX none' B) wr V1) := Lib.hid (Mod.of_below hBV)
      have HSI := Lib.hid hsI
      clear hV1 hq hBV hfy hpc hxc hln hil hsI hxs hmem hxa e0 e1 e2 e3 e4 e5
      have hxa2 : ia = some ⟨xb, xo, none⟩ := by rw [HIA.out, HA.out]
      subst hxa2
      have c1 : wr.cell? ⟨w.heap.size, 1, none⟩ = some (.slice (some ⟨xb, xo, none⟩) x.ik.length x.ic) := by have := HXF.out wr HEN0.out.md 1 _ rfl; rw [Nat.zero_add, HA.out] at this; exact this
      clear hlt
      go_wp2_with fail
      rw [← HV1.out, ← HQQ.out]
      refine (rowVI (· = q) V1 B p 4 _ _ _ sI [y0] HZV.out (by decide) HEN.out.pk (fun v hv => by rw [List.mem_singleton] at hv; rw [hv]; exact HFY.out.1) ⟨by have := HLsI.out; omega, by simp⟩ (Nat.le_trans HDB.out.2 HEN.out.md.size)).mono ?_
      rintro e v1 ⟨rfl, hP, hM⟩
      have HM1 := Lib.hid hM
      have HEN := Lib.hid (HEN.out.put hP hM (Nat.le_trans HDB.out.2 HEN.out.md.size))
      clear hP hM
      have hl2 := pkL_len [y0] 4 sI
      obtain ⟨sI1, hs2⟩ : ∃ s2, s2 = pkL sI [y0] 4 := ⟨_, rfl⟩
      rw [← hs2] at HEN hl2
      have HsI1 := Lib.hid hs2
      have HLsI1 : Hid (sI1.1.length ≤ 61004) := Lib.hid (by have := HLsI.out; simp only [List.length_cons, List.length_nil] at hl2; omega)
      clear hs2 hl2
      have HMV := Lib.hid (HMV.out.trans HM1.out)
      have HMW := Lib.hid (HMW.out.trans (HM1.out.mono fun k _ e => ⟨e.1, id⟩))
      obtain ⟨e0, e1, e2, e3, e4, e5⟩ := HK.out v1 HMV.out
      have hql := cell_lt e0
      go_wp2_with fail
      refine (rowVI (· = q) v1 B p 1 _ _ _ sI1 [y1, y2, y3] rfl (by decide) HEN.out.pk (fun v hv => by simp only [List.mem_cons, List.not_mem_nil, or_false] at hv; rcases hv with rfl | rfl | rfl; (· exact HFY.out.2.1); (· exact HFY.out.2.2.1); (· exact HFY.out.2.2.2.1)) ⟨by have := HLsI1.out; omega, by simp⟩ (Nat.le_trans HDB.out.2 HEN.out.md.size)).mono ?_
      rintro e v2 ⟨rfl, hP, hM⟩
      have HM1 := Lib.hid hM
      have HEN := Lib.hid (HEN.out.put hP hM (Nat.le_trans HDB.out.2 HEN.out.md.size))
      clear hP hM
      have hl2 := pkL_len [y1, y2, y3] 1 sI1
      obtain ⟨sI2, hs2⟩ : ∃ s2, s2 = pkL sI1 [y1, y2, y3] 1 := ⟨_, rfl⟩
      rw [← hs2] at HEN hl2
      have HsI2 := Lib.hid hs2
      have HLsI2 : Hid (sI2.1.length ≤ 61007) := Lib.hid (by have := HLsI1.out; simp only [List.length_cons, List.length_nil] at hl2; omega)
      clear hs2 hl2
      clear e0 e1 e2 e3 e4 e5 hql
      have HMV := Lib.hid (HMV.out.trans HM1.out)
      have HMW := Lib.hid (HMW.out.trans (HM1.out.mono fun k _ e => ⟨e.1, id⟩))
      obtain ⟨e0, e1, e2, e3, e4, e5⟩ := HK.out v2 HMV.out
      have hql := cell_lt e0
      go_wp2_with fail
      refine (rowVI (· = q) v2 B p 2 _ _ _ sI2 [y4] rfl (by decide) HEN.out.pk (fun v hv => by rw [List.mem_singleton] at hv; rw [hv]; exact HFY.out.2.2.2.2.1) ⟨by have := HLsI2.out; omega, by simp⟩ (Nat.le_trans HDB.out.2 HEN.out.md.size)).mono ?_
      rintro e v3 ⟨rfl, hP, hM⟩
      have HM1 := Lib.hid hM
      have HEN := Lib.hid (HEN.out.put hP hM (Nat.le_trans HDB.out.2 HEN.out.md.size))
      clear hP hM
      have hl2 := pkL_len [y4] 2 sI2
      obtain ⟨sI3, hs2⟩ : ∃ s2, s2 = pkL sI2 [y4] 2 := ⟨_, rfl⟩
      rw [← hs2] at HEN hl2
      have HsI3 := Lib.hid hs2
      have HLsI3 : Hid (sI3.1.length ≤ 61009) := Lib.hid (by have := HLsI2.out; simp only [List.length_cons, List.length_nil] at hl2; omega)
      clear hs2 hl2
      clear e0 e1 e2 e3 e4 e5 hql
      have HMV := Lib.hid (HMV.out.trans HM1.out)
      have HMW := Lib.hid (HMW.out.trans (HM1.out.mono fun k _ e => ⟨e.1, id⟩))
      obtain ⟨e0, e1, e2, e3, e4, e5⟩ := HK.out v3 HMV.out
      have hql := cell_lt e0
      go_wp2_with fail
      refine (rowVI (· = q) v3 B p 1 _ _ _ sI3 [(lp.length : Int)] rfl (by decide) HEN.out.pk (fun v hv => by rw [List.mem_singleton] at hv; rw [hv]; exact (by have h := HFY.out.2.2.2.2.2.1; have h : lp.length ≤ 64 := h; constructor <;> omega)) ⟨by have := HLsI3.out; omega, by simp⟩ (Nat.le_trans HDB.out.2 HEN.out.md.size)).mono ?_
      rintro e v4 ⟨rfl, hP, hM⟩
      have HM1 := Lib.hid hM
      have HEN := Lib.hid (HEN.out.put hP hM (Nat.le_trans HDB.out.2 HEN.out.md.size))
      clear hP hM
      have hl2 := pkL_len [(lp.length : Int)] 1 sI3
      obtain ⟨sI4, hs2⟩ : ∃ s2, s2 = pkL sI3 [(lp.length : Int)] 1 := ⟨_, rfl⟩
      rw [← hs2] at HEN hl2
      have HsI4 := Lib.hid hs2
      have HLsI4 : Hid (sI4.1.length ≤ 61010) := Lib.hid (by have := HLsI3.out; simp only [List.length_cons, List.length_nil] at hl2; omega)
      clear hs2 hl2
      clear e0 e1 e2 e3 e4 e5 hql
      have HMV := Lib.hid (HMV.out.trans HM1.out)
      have HMW := Lib.hid (HMW.out.trans (HM1.out.mono fun k _ e => ⟨e.1, id⟩))
      obtain ⟨e0, e1, e2, e3, e4, e5⟩ := HK.out v4 HMV.out
      have hql := cell_lt e0
      go_wp2_with fail
      go_loopg [67] lp.length (fun g v wr => E2Rel B p wB q v4 lp sI4 g v wr)
      case atStart => exact ⟨0, rfl, Nat.zero_le _, rfl, HEN.out, Mod.refl _ _⟩
      case round =>
        obtain ⟨j, rfl, hj, rfl, hE, hM⟩ := hrel
        have HEN := Lib.hid hE
        have HMJ := Lib.hid hM
        clear hE hM e0 e1 e2 e3 e4 e5 hql
        by_cases hjt : j < lp.length
        · skip
          obtain ⟨yb, yo, hya, hys, hyl, hyc⟩ := HPC.out.row.elem ptC_len default hjt
          have hyB : yb < B := hys
          have hmem := getDmem lp default hjt
          have hfp := HFY.out.2.2.2.2.2.2 _ hmem
          have HSN2 : Hid ((lp.take (j + 1)).foldl encPart sI4 = encPart ((lp.take j).foldl encPart sI4) (lp.getD j default)) := Lib.hid (takeFold encPart lp default hjt sI4)
          have hln := encParts_len (lp.take j) sI4
          rw [List.length_take] at hln
          have hjl : lp.length ≤ 64 := HFY.out.2.2.2.2.2.1
          have HJT := Lib.hid hjt
          have hjl2 : (0 : Int) ≤ j ∧ (j : Int) < lp.length := by omega
          have hwrj := Lib.hid (show wrap64 ((j : Int) + 1) = ((j + 1 : Nat) : Int) by unfold wrap64; omega)
          have hmsj : lp.length - (j + 1) < lp.length - j := Nat.sub_lt_sub_left hjt (Nat.lt_succ_self j)
          obtain ⟨sJ, hsJ⟩ : ∃ sJ, sJ = (lp.take j).foldl encPart sI4 := ⟨_, rfl⟩
          rw [← hsJ] at HSN2 HEN hln
          have HLsJ : Hid (sJ.1.length ≤ 62000) := Lib.hid (by have := HLsI4.out; omega)
          generalize lp.getD j default = z at *
          obtain ⟨z0, z1, z2, z3⟩ := z
          have HFP := Lib.hid hfp
          have h0 : wr.cell? ⟨yb, yo + j * 4, none⟩ = some (.int .i64 z0) := below_at HEN.out.md (hyc 0 (by decide)) hyB
          have h1 : wr.cell? ⟨yb, yo + j * 4 + 1, none⟩ = some (.int .i64 z1) := below_at HEN.out.md (hyc 1 (by decide)) hyB
          have h2 : wr.cell? ⟨yb, yo + j * 4 + 2, none⟩ = some (.int .i64 z2) := below_at HEN.out.md (hyc 2 (by decide)) hyB
          have h3 : wr.cell? ⟨yb, yo + j * 4 + 3, none⟩ = some (.int .i64 z3) := below_at HEN.out.md (hyc 3 (by decide)) hyB
          obtain ⟨q2, hq2⟩ : ∃ q2, q2 = wr.heap.size := ⟨_, rfl⟩
          obtain ⟨V2, hV2⟩ : ∃ V2, V2 = wr.alloc (.cells #[.int .i64 z0, .int .i64 z1, .int .i64 z2, .int .i64 z3] 94) := ⟨_, rfl⟩
          have hBV : Below wr.heap.size wr V2 := by rw [hV2]; exact belC (Below.refl _ _)
          have k0 : V2.cell? ⟨q2, 0, none⟩ = some (.int .i64 z0) := by rw [hV2, hq2]; go_simp
          have k1 : V2.cell? ⟨q2, 1, none⟩ = some (.int .i64 z1) := by rw [hV2, hq2]; go_simp
          have k2 : V2.cell? ⟨q2, 2, none⟩ = some (.int .i64 z2) := by rw [hV2, hq2]; go_simp
          have k3 : V2.cell? ⟨q2, 3, none⟩ = some (.int .i64 z3) := by rw [hV2, hq2]; go_simp
          have hzB : B ≤ wr.heap.size := Nat.le_trans HDB.out.2 HEN.out.md.size
          have hq2l := cell_lt k0
          have HZV2 : Hid (q2 + 1 = V2.heap.size) := Lib.hid (by rw [hV2, hq2]; simp)
          have HEN1 := HEN
          have HEN : Hid (EnIn B p wB (fun k => k = q ∨ k = q2) sJ V2) := Lib.hid ⟨HEN.out.pk.more hBV _ (fun k hk => hk.imp id (fun e => ⟨by omega, by omega⟩)), HEN.out.md.trans (hBV.mono hzB)⟩
          have HMJ2 := Lib.hid (HMJ.out.trans (Mod.of_below (F := FX (· = q) B) hBV))
          have HV2 := Lib.hid hV2
          have HQ2 := Lib.hid hq2
          have HSJ := Lib.hid hsJ
          clear hV2 hq2 hBV hfp hyc hln hjl hsJ hys hmem
          subst hya
          clear hjt
          go_wp2_with fail
          rw [← HV2.out, ← HQ2.out]
          refine (rowVI (fun k => k = q ∨ k = q2) V2 B p 2 _ _ _ sJ [z0, z1, z2, z3] HZV2.out (by decide) HEN.out.pk (fun v hv => by simp only [List.mem_cons, List.not_mem_nil, or_false] at hv; rcases hv with rfl | rfl | rfl | rfl; (· exact HFP.out.1); (· exact HFP.out.2.1); (· exact HFP.out.2.2.1); (· exact HFP.out.2.2.2)) ⟨by have := HLsJ.out; omega, by simp⟩ (Nat.le_trans HDB.out.2 HEN.out.md.size)).mono ?_
          rintro e v5 ⟨rfl, hP, hM⟩
          have HM1 := Lib.hid hM
          have HEN := Lib.hid (HEN.out.put hP hM (Nat.le_trans HDB.out.2 HEN.out.md.size))
          clear hP hM
          have hl2 := pkL_len [z0, z1, z2, z3] 2 sJ
          obtain ⟨sJ1, hs2⟩ : ∃ s2, s2 = pkL sJ [z0, z1, z2, z3] 2 := ⟨_, rfl⟩
          rw [← hs2] at HEN hl2
          have HsJ1 := Lib.hid hs2
          have HLsJ1 : Hid (sJ1.1.length ≤ 62008) := Lib.hid (by have := HLsJ.out; simp only [List.length_cons, List.length_nil] at hl2; omega)
          clear hs2 hl2
          go_wp2_with fail
          go_roundg (lp.length - (j + 1))
          case measure => exact hmsj
          case rel => exact ⟨j + 1, rfl, HJT.out, by first | rfl | rw [hwrj.out], ⟨by rw [HSN2.out]; show PkV _ _ _ (pkL sJ [z0, z1, z2, z3] 2) _; rw [← HsJ1.out]; exact HEN.out.pk.less (fun k hk => Or.inl hk), HEN.out.md⟩, HMJ2.out.trans (HM1.out.mono fun k _ e => ⟨e.1, fun h => e.2 (Or.inl h)⟩)⟩
        · skip
          obtain rfl : j = lp.length := by omega
          have hk := HEN.out
          rw [List.take_length] at hk
          have HFIN : Hid (PkV none' B p (encIno sI ⟨y0, y1, y2, y3, y4, pa, pc, lp⟩) wr) := Lib.hid (by
            have e : encIno sI ⟨y0, y1, y2, y3, y4, pa, pc, lp⟩ = lp.foldl encPart sI4 := by rw [HsI4.out, HsI3.out, HsI2.out, HsI1.out]; rfl
            rw [e]; exact hk.pk.less (fun k h => h.elim))
          have HMD := Lib.hid hk.md
          clear hk hjt hj
          go_wp2_with fail
          go_roundg (x.ik.length - (i + 1))
          case measure => exact hms
          case rel => exact ⟨i + 1, rfl, HLT.out, by first | rfl | rw [hwr.out], by rw [HSN.out]; exact HFIN.out, HMD.out⟩
    · skip
      obtain rfl : i = x.ik.length := by omega
      have hk := HEN.out
      rw [List.take_length] at hk
      have HEN := Lib.hid hk
      obtain ⟨t0, ht0⟩ : ∃ t0, t0 = x.ik.foldl encIno sA := ⟨_, rfl⟩
      have hln := encInos_len x.ik sA (fun y hy => (HFT.out.ik y hy).2.2.2.2.2.1)
      rw [← ht0] at HEN hln
      have HLt0 : Hid (t0.1.length ≤ 61000) := Lib.hid (by have := HLsA.out; have := HFT.out.il; omega)
      have Ht0 := Lib.hid ht0
      clear hk hlt hi ht0 hln
      obtain ⟨wi, hwi⟩ : ∃ wi, wi = wr := ⟨_, rfl⟩
      rw [← hwi] at HEN ⊢
      clear hwi
      obtain ⟨na, hna⟩ : ∃ na, na = x.na := ⟨_, rfl⟩
      have HNA := Lib.hid hna
      obtain ⟨ha, hha⟩ : ∃ ha, ha = x.ha := ⟨_, rfl⟩
      have HHA := Lib.hid hha
      clear hna hha
      have c2 : wi.cell? ⟨w.heap.size, 2, none⟩ = some (.int .i64 x.m) := by have := HXF.out wi HEN.out.md 2 _ rfl; rwa [Nat.zero_add] at this
      have hdl := cell_lt c2
      go_wp2_with fail
      refine (rowVI none' wi B p 4 _ _ _ t0 [x.m] rfl (by decide) HEN.out.pk (fun v hv => by rw [List.mem_singleton] at hv; rw [hv]; exact HFT.out.m) ⟨by have := HLt0.out; omega, by simp⟩ (Nat.le_trans HDB.out.2 HEN.out.md.size)).mono ?_
      rintro e a1 ⟨rfl, hP, hM⟩
      have HM1 := Lib.hid hM
      have HEN := Lib.hid (HEN.out.put hP hM (Nat.le_trans HDB.out.2 HEN.out.md.size))
      clear hP hM
      have hl2 := pkL_len [x.m] 4 t0
      obtain ⟨t1, hs2⟩ : ∃ s2, s2 = pkL t0 [x.m] 4 := ⟨_, rfl⟩
      rw [← hs2] at HEN hl2
      have Ht1 := Lib.hid hs2
      have HLt1 : Hid (t1.1.length ≤ 61004) := Lib.hid (by have := HLt0.out; simp only [List.length_cons, List.length_nil] at hl2; omega)
      clear hs2 hl2
      clear c2 hdl
      have c3 : a1.cell? ⟨w.heap.size, 3, none⟩ = some (.slice na x.nl.length x.nc) := by have := HXF.out a1 HEN.out.md 3 _ rfl; rwa [Nat.zero_add, ← HNA.out] at this
      have hdl := cell_lt c3
      have hnn : x.nl.length ≤ 50000 := by have := HFT.out.ll; omega
      have HNN := Lib.hid hnn
      clear hnn
      go_wp2_with fail
      refine (rowVI none' a1 B p 2 _ _ _ t1 [(x.nl.length : Int)] rfl (by decide) HEN.out.pk (fun v hv => by rw [List.mem_singleton] at hv; rw [hv]; exact (by have := HNN.out; constructor <;> omega)) ⟨by have := HLt1.out; omega, by simp⟩ (Nat.le_trans HDB.out.2 HEN.out.md.size)).mono ?_
      rintro e a2 ⟨rfl, hP, hM⟩
      have HM1 := Lib.hid hM
      have HEN := Lib.hid (HEN.out.put hP hM (Nat.le_trans HDB.out.2 HEN.out.md.size))
      clear hP hM
      have hl2 := pkL_len [(x.nl.length : Int)] 2 t1
      obtain ⟨t2, hs2⟩ : ∃ s2, s2 = pkL t1 [(x.nl.length : Int)] 2 := ⟨_, rfl⟩
      rw [← hs2] at HEN hl2
      have Ht2 := Lib.hid hs2
      have HLt2 : Hid (t2.1.length ≤ 61006) := Lib.hid (by have := HLt1.out; simp only [List.length_cons, List.length_nil] at hl2; omega)
      clear hs2 hl2
      clear c3 hdl
      have c3 : a2.cell? ⟨w.heap.size, 3, none⟩ = some (.slice na x.nl.length x.nc) := by have := HXF.out a2 HEN.out.md 3 _ rfl; rwa [Nat.zero_add, ← HNA.out] at this
      have hdl := cell_lt c3
      go_wp2_with fail
      go_loopg [98] x.nl.length (fun g v wr => E3Rel B p wB x.nl t2 g v wr)
      case atStart => exact ⟨0, rfl, Nat.zero_le _, rfl, HEN.out⟩
      case round =>
        obtain ⟨i, rfl, hi, rfl, hE⟩ := hrel
        have HEN := Lib.hid hE
        clear hE c3 hdl
        by_cases hlt : i < x.nl.length
        · skip
          obtain ⟨xb, xo, hxa, hxs, hxl, hxc⟩ := HXB.out.nam.elem enC_len default hlt
          have hxB : xb < B := hxs
          have hmem := getDmem x.nl default hlt
          have hfy := HFT.out.nl _ hmem
          have HSN : Hid ((x.nl.take (i + 1)).foldl encEnt t2 = encEnt ((x.nl.take i).foldl encEnt t2) (x.nl.getD i default)) := Lib.hid (takeFold encEnt x.nl default hlt t2)
          have hln := encEnts_len (x.nl.take i) t2
          have hlq : ((x.nl.take i).flatMap fun e => e.2.1).length ≤ (x.nl.flatMap fun e => e.2.1).length := by
            have h := congrArg (fun l : List EqK => (l.flatMap fun e => e.2.1).length) (List.take_append_drop i x.nl)
            simp only [List.flatMap_append, List.length_append] at h
            omega
          rw [List.length_take] at hln
          have HLT := Lib.hid hlt
          have hil2 : (0 : Int) ≤ i ∧ (i : Int) < x.nl.length := by omega
          have hwr := Lib.hid (show wrap64 ((i : Int) + 1) = ((i + 1 : Nat) : Int) by have := HNN.out; unfold wrap64; omega)
          have hms : x.nl.length - (i + 1) < x.nl.length - i := Nat.sub_lt_sub_left hlt (Nat.lt_succ_self i)
          obtain ⟨sI, hsI⟩ : ∃ sI, sI = (x.nl.take i).foldl encEnt t2 := ⟨_, rfl⟩
          rw [← hsI] at HSN HEN hln
          have HLsI : Hid (sI.1.length ≤ 600000) := Lib.hid (by have := HLt2.out; have := HFT.out.ll; omega)
          generalize x.nl.getD i default = y at *
          obtain ⟨y0, y1, y2⟩ := y
          have HFY := Lib.hid hfy
          have g0 : wr.cell? ⟨xb, xo + i * 3, none⟩ = some (.int .i64 y0) := below_at HEN.out.md (hxc 0 (by decide)) hxB
          have g1 : wr.cell? ⟨xb, xo + i * 3 + 1, none⟩ = some (.string (bs y1)) := below_at HEN.out.md (hxc 1 (by decide)) hxB
          have g2 : wr.cell? ⟨xb, xo + i * 3 + 2, none⟩ = some (.int .i64 y2) := below_at HEN.out.md (hxc 2 (by decide)) hxB
          obtain ⟨q, hq⟩ : ∃ q, q = wr.heap.size := ⟨_, rfl⟩
          obtain ⟨V1, hV1⟩ : ∃ V1, V1 = wr.alloc (.cells #[.int .i64 y0, .string (bs y1), .int .i64 y2] 106) := ⟨_, rfl⟩
          have hBV : Below wr.heap.size wr V1 := by rw [hV1]; exact belC (Below.refl _ _)
          have e0 : V1.cell? ⟨q, 0, none⟩ = some (.int .i64 y0) := by rw [hV1, hq]; go_simp
          have e1 : V1.cell? ⟨q, 1, none⟩ = some (.string (bs y1)) := by rw [hV1, hq]; go_simp
          have e2 : V1.cell? ⟨q, 2, none⟩ = some (.int .i64 y2) := by rw [hV1, hq]; go_simp
          have hzB : B ≤ wr.heap.size := Nat.le_trans HDB.out.2 HEN.out.md.size
          have HZV : Hid (q + 1 = V1.heap.size) := Lib.hid (by rw [hV1, hq]; simp)
          have hql := cell_lt e0
          have HEN : Hid (EnIn B p wB (· = q) sI V1) := Lib.hid ⟨HEN.out.pk.more hBV _ (fun k hk => Or.inr (by have e : k = q := hk; omega)), HEN.out.md.trans (hBV.mono hzB)⟩
          have HK : Hid (∀ W, Mod (FX (· = q) B) V1 W → W.cell? ⟨q, 0, none⟩ = some (.int .i64 y0) ∧ W.cell? ⟨q, 1, none⟩ = some (.string (bs y1)) ∧ W.cell? ⟨q, 2, none⟩ = some (.int .i64 y2)) := Lib.hid (fun W hW => ⟨hW.at e0 (fun e => e.2 rfl), hW.at e1 (fun e => e.2 rfl), hW.at e2 (fun e => e.2 rfl)⟩)
          have HMV := Lib.hid (Mod.refl (FX (· = q) B) V1)
          have HV1 := Lib.hid hV1
          have HQQ := Lib.hid hq
          have hxa2 : na = some ⟨xb, xo, none⟩ := by rw [HNA.out, hxa]
          subst hxa2
          clear hV1 hq hBV hfy hxc hln hlq hsI hxs hmem hxa e0 e1 e2 hlt
          go_wp2_with fail
          rw [← HV1.out, ← HQQ.out]
          refine (rowVI (· = q) V1 B p 4 _ _ _ sI [y0] HZV.out (by decide) HEN.out.pk (fun v hv => by rw [List.mem_singleton] at hv; rw [hv]; exact HFY.out.1) ⟨by have := HLsI.out; omega, by simp⟩ (Nat.le_trans HDB.out.2 HEN.out.md.size)).mono ?_
          rintro e v1 ⟨rfl, hP, hM⟩
          have HM1 := Lib.hid hM
          have HEN := Lib.hid (HEN.out.put hP hM (Nat.le_trans HDB.out.2 HEN.out.md.size))
          clear hP hM
          have hl2 := pkL_len [y0] 4 sI
          obtain ⟨sI1, hs2⟩ : ∃ s2, s2 = pkL sI [y0] 4 := ⟨_, rfl⟩
          rw [← hs2] at HEN hl2
          have HsI1 := Lib.hid hs2
          have HLsI1 : Hid (sI1.1.length ≤ 600004) := Lib.hid (by have := HLsI.out; simp only [List.length_cons, List.length_nil] at hl2; omega)
          clear hs2 hl2
          have HMV := Lib.hid (HMV.out.trans HM1.out)
          obtain ⟨e0, e1, e2⟩ := HK.out v1 HMV.out
          have hql := cell_lt e0
          go_wp2_with fail
          refine (pkTextV (· = q) v1 B p sI1 y1 HFY.out.2.1 HEN.out.pk (by have := HLsI1.out; omega) (Nat.le_trans HDB.out.2 HEN.out.md.size)).mono ?_
          rintro e v2 ⟨rfl, hP, hM⟩
          have HM1 := Lib.hid hM
          have HEN := Lib.hid (HEN.out.put hP hM (Nat.le_trans HDB.out.2 HEN.out.md.size))
          have hl2 := pkT_len sI1 y1
          obtain ⟨sI2, hs2⟩ : ∃ s2, s2 = pkT sI1 y1 := ⟨_, rfl⟩
          rw [← hs2] at HEN hl2
          have HsI2 := Lib.hid hs2
          have HLsI2 : Hid (sI2.1.length ≤ 600261) := Lib.hid (by have := HLsI1.out; have := HFY.out.2.1; have h : y1.length ≤ 255 := this; omega)
          clear hP hM hs2 hl2 e0 e1 e2 hql
          have HMV := Lib.hid (HMV.out.trans HM1.out)
          obtain ⟨e0, e1, e2⟩ := HK.out v2 HMV.out
          have hql := cell_lt e0
          go_wp2_with fail
          refine (rowVI (· = q) v2 B p 4 _ _ _ sI2 [y2] rfl (by decide) HEN.out.pk (fun v hv => by rw [List.mem_singleton] at hv; rw [hv]; exact HFY.out.2.2) ⟨by have := HLsI2.out; omega, by simp⟩ (Nat.le_trans HDB.out.2 HEN.out.md.size)).mono ?_
          rintro e v3 ⟨rfl, hP, hM⟩
          have HM1 := Lib.hid hM
          have HEN := Lib.hid (HEN.out.put hP hM (Nat.le_trans HDB.out.2 HEN.out.md.size))
          clear hP hM
          have hl2 := pkL_len [y2] 4 sI2
          obtain ⟨sI3, hs2⟩ : ∃ s2, s2 = pkL sI2 [y2] 4 := ⟨_, rfl⟩
          rw [← hs2] at HEN hl2
          have HsI3 := Lib.hid hs2
          have HLsI3 : Hid (sI3.1.length ≤ 600265) := Lib.hid (by have := HLsI2.out; simp only [List.length_cons, List.length_nil] at hl2; omega)
          clear hs2 hl2
          clear e0 e1 e2 hql
          go_wp2_with fail
          go_roundg (x.nl.length - (i + 1))
          case measure => exact hms
          case rel => exact ⟨i + 1, rfl, HLT.out, by first | rfl | rw [hwr.out], by
            rw [HSN.out]
            have e : encEnt sI (y0, y1, y2) = sI3 := by rw [HsI3.out, HsI2.out, HsI1.out]; rfl
            rw [e]
            exact ⟨HEN.out.pk.less (fun k h => h.elim), HEN.out.md⟩⟩
        · skip
          obtain rfl : i = x.nl.length := by omega
          have hk := HEN.out
          rw [List.take_length] at hk
          have HEN := Lib.hid hk
          obtain ⟨r0, hr0⟩ : ∃ r0, r0 = x.nl.foldl encEnt t2 := ⟨_, rfl⟩
          have hln := encEnts_len x.nl t2
          rw [← hr0] at HEN hln
          have HLr0 : Hid (r0.1.length ≤ 600000) := Lib.hid (by have := HLt2.out; have := HFT.out.ll; omega)
          have Hr0 := Lib.hid hr0
          clear hk hlt hi hr0 hln
          obtain ⟨wi2, hwi⟩ : ∃ wi2, wi2 = wr := ⟨_, rfl⟩
          rw [← hwi] at HEN ⊢
          clear hwi
          have c4 : wi2.cell? ⟨w.heap.size, 4, none⟩ = some (.slice ha x.hl.length x.hc) := by have := HXF.out wi2 HEN.out.md 4 _ rfl; rwa [Nat.zero_add, ← HHA.out] at this
          have hdl := cell_lt c4
          go_wp2_with fail
          refine (rowVI none' wi2 B p 1 _ _ _ r0 [(x.hl.length : Int)] rfl (by decide) HEN.out.pk (fun v hv => by rw [List.mem_singleton] at hv; rw [hv]; exact (by have := HFT.out.hn; constructor <;> omega)) ⟨by have := HLr0.out; omega, by simp⟩ (Nat.le_trans HDB.out.2 HEN.out.md.size)).mono ?_
          rintro e b1 ⟨rfl, hP, hM⟩
          have HM1 := Lib.hid hM
          have HEN := Lib.hid (HEN.out.put hP hM (Nat.le_trans HDB.out.2 HEN.out.md.size))
          clear hP hM
          have hl2 := pkL_len [(x.hl.length : Int)] 1 r0
          obtain ⟨r1, hs2⟩ : ∃ s2, s2 = pkL r0 [(x.hl.length : Int)] 1 := ⟨_, rfl⟩
          rw [← hs2] at HEN hl2
          have Hr1 := Lib.hid hs2
          have HLr1 : Hid (r1.1.length ≤ 600001) := Lib.hid (by have := HLr0.out; simp only [List.length_cons, List.length_nil] at hl2; omega)
          clear hs2 hl2
          clear c4 hdl
          have c4 : b1.cell? ⟨w.heap.size, 4, none⟩ = some (.slice ha x.hl.length x.hc) := by have := HXF.out b1 HEN.out.md 4 _ rfl; rwa [Nat.zero_add, ← HHA.out] at this
          have hdl := cell_lt c4
          go_wp2_with fail
          go_loopg [126] x.hl.length (fun g v wr => E4Rel B p wB x.hl r1 g v wr)
          case atStart => exact ⟨0, rfl, Nat.zero_le _, rfl, HEN.out⟩
          case round =>
            obtain ⟨i, rfl, hi, rfl, hE⟩ := hrel
            have HEN := Lib.hid hE
            clear hE c4 hdl
            by_cases hlt : i < x.hl.length
            · skip
              obtain ⟨xb, xo, hxa, hxs, hxl, hxc⟩ := HXB.out.hdl.elem hdC_len default hlt
              have hxB : xb < B := hxs
              have hmem := getDmem x.hl default hlt
              have hfy := HFT.out.hl _ hmem
              have HSN : Hid ((x.hl.take (i + 1)).foldl encHd r1 = encHd ((x.hl.take i).foldl encHd r1) (x.hl.getD i default)) := Lib.hid (takeFold encHd x.hl default hlt r1)
              have hln := encHds_len (x.hl.take i) r1
              rw [List.length_take] at hln
              have hil := HFT.out.hn
              have HLT := Lib.hid hlt
              have hil2 : (0 : Int) ≤ i ∧ (i : Int) < x.hl.length := by omega
              have hwr := Lib.hid (show wrap64 ((i : Int) + 1) = ((i + 1 : Nat) : Int) by unfold wrap64; omega)
              have hms : x.hl.length - (i + 1) < x.hl.length - i := Nat.sub_lt_sub_left hlt (Nat.lt_succ_self i)
              obtain ⟨sI, hsI⟩ : ∃ sI, sI = (x.hl.take i).foldl encHd r1 := ⟨_, rfl⟩
              rw [← hsI] at HSN HEN hln
              have HLsI : Hid (sI.1.length ≤ 610000) := Lib.hid (by have := HLr1.out; omega)
              generalize x.hl.getD i default = y at *
              obtain ⟨⟨y0, y1⟩, y2⟩ := y
              have HFY := Lib.hid hfy
              have g0 : wr.cell? ⟨xb, xo + i * 3, none⟩ = some (.int .i64 y0) := below_at HEN.out.md (hxc 0 (by decide)) hxB
              have g1 : wr.cell? ⟨xb, xo + i * 3 + 1, none⟩ = some (.int .i64 y1) := below_at HEN.out.md (hxc 1 (by decide)) hxB
              have g2 : wr.cell? ⟨xb, xo + i * 3 + 2, none⟩ = some (.int .i64 y2) := below_at HEN.out.md (hxc 2 (by decide)) hxB
              obtain ⟨q, hq⟩ : ∃ q, q = wr.heap.size := ⟨_, rfl⟩
              obtain ⟨V1, hV1⟩ : ∃ V1, V1 = wr.alloc (.cells #[.int .i64 y0, .int .i64 y1, .int .i64 y2] 108) := ⟨_, rfl⟩
              have hBV : Below wr.heap.size wr V1 := by rw [hV1]; exact belC (Below.refl _ _)
              have e0 : V1.cell? ⟨q, 0, none⟩ = some (.int .i64 y0) := by rw [hV1, hq]; go_simp
              have e1 : V1.cell? ⟨q, 1, none⟩ = some (.int .i64 y1) := by rw [hV1, hq]; go_simp
              have e2 : V1.cell? ⟨q, 2, none⟩ = some (.int .i64 y2) := by rw [hV1, hq]; go_simp
              have hzB : B ≤ wr.heap.size := Nat.le_trans HDB.out.2 HEN.out.md.size
              have HZV : Hid (q + 1 = V1.heap.size) := Lib.hid (by rw [hV1, hq]; simp)
              have hql := cell_lt e0
              have HEN : Hid (EnIn B p wB (· = q) sI V1) := Lib.hid ⟨HEN.out.pk.more hBV _ (fun k hk => Or.inr (by have e : k = q := hk; omega)), HEN.out.md.trans (hBV.mono hzB)⟩
              have HK : Hid (∀ W, Mod (FX (· = q) B) V1 W → W.cell? ⟨q, 0, none⟩ = some (.int .i64 y0) ∧ W.cell? ⟨q, 1, none⟩ = some (.int .i64 y1) ∧ W.cell? ⟨q, 2, none⟩ = some (.int .i64 y2)) := Lib.hid (fun W hW => ⟨hW.at e0 (fun e => e.2 rfl), hW.at e1 (fun e => e.2 rfl), hW.at e2 (fun e => e.2 rfl)⟩)
              have HMV := Lib.hid (Mod.refl (FX (· = q) B) V1)
              have HV1 := Lib.hid hV1
              have HQQ := Lib.hid hq
              have hxa2 : ha = some ⟨xb, xo, none⟩ := by rw [HHA.out, hxa]
              subst hxa2
              clear hV1 hq hBV hfy hxc hln hil hsI hxs hmem hxa e0 e1 e2 hlt
              go_wp2_with fail
              rw [← HV1.out, ← HQQ.out]
              refine (rowVI (· = q) V1 B p 1 _ _ _ sI [y0] HZV.out (by decide) HEN.out.pk (fun v hv => by rw [List.mem_singleton] at hv; rw [hv]; exact HFY.out.1) ⟨by have := HLsI.out; omega, by simp⟩ (Nat.le_trans HDB.out.2 HEN.out.md.size)).mono ?_
              rintro e v1 ⟨rfl, hP, hM⟩
              have HM1 := Lib.hid hM
              have HEN := Lib.hid (HEN.out.put hP hM (Nat.le_trans HDB.out.2 HEN.out.md.size))
              clear hP hM
              have hl2 := pkL_len [y0] 1 sI
              obtain ⟨sI1, hs2⟩ : ∃ s2, s2 = pkL sI [y0] 1 := ⟨_, rfl⟩
              rw [← hs2] at HEN hl2
              have HsI1 := Lib.hid hs2
              have HLsI1 : Hid (sI1.1.length ≤ 610001) := Lib.hid (by have := HLsI.out; simp only [List.length_cons, List.length_nil] at hl2; omega)
              clear hs2 hl2
              have HMV := Lib.hid (HMV.out.trans HM1.out)
              obtain ⟨e0, e1, e2⟩ := HK.out v1 HMV.out
              have hql := cell_lt e0
              go_wp2_with fail
              refine (rowVI (· = q) v1 B p 2 _ _ _ sI1 [y1] rfl (by decide) HEN.out.pk (fun v hv => by rw [List.mem_singleton] at hv; rw [hv]; exact HFY.out.2.1) ⟨by have := HLsI1.out; omega, by simp⟩ (Nat.le_trans HDB.out.2 HEN.out.md.size)).mono ?_
              rintro e v2 ⟨rfl, hP, hM⟩
              have HM1 := Lib.hid hM
              have HEN := Lib.hid (HEN.out.put hP hM (Nat.le_trans HDB.out.2 HEN.out.md.size))
              clear hP hM
              have hl2 := pkL_len [y1] 2 sI1
              obtain ⟨sI2, hs2⟩ : ∃ s2, s2 = pkL sI1 [y1] 2 := ⟨_, rfl⟩
              rw [← hs2] at HEN hl2
              have HsI2 := Lib.hid hs2
              have HLsI2 : Hid (sI2.1.length ≤ 610003) := Lib.hid (by have := HLsI1.out; simp only [List.length_cons, List.length_nil] at hl2; omega)
              clear hs2 hl2
              clear e0 e1 e2 hql
              have HMV := Lib.hid (HMV.out.trans HM1.out)
              obtain ⟨e0, e1, e2⟩ := HK.out v2 HMV.out
              have hql := cell_lt e0
              go_wp2_with fail
              refine (rowVI (· = q) v2 B p 4 _ _ _ sI2 [y2] rfl (by decide) HEN.out.pk (fun v hv => by rw [List.mem_singleton] at hv; rw [hv]; exact HFY.out.2.2) ⟨by have := HLsI2.out; omega, by simp⟩ (Nat.le_trans HDB.out.2 HEN.out.md.size)).mono ?_
              rintro e v3 ⟨rfl, hP, hM⟩
              have HM1 := Lib.hid hM
              have HEN := Lib.hid (HEN.out.put hP hM (Nat.le_trans HDB.out.2 HEN.out.md.size))
              clear hP hM
              have hl2 := pkL_len [y2] 4 sI2
              obtain ⟨sI3, hs2⟩ : ∃ s2, s2 = pkL sI2 [y2] 4 := ⟨_, rfl⟩
              rw [← hs2] at HEN hl2
              have HsI3 := Lib.hid hs2
              have HLsI3 : Hid (sI3.1.length ≤ 610007) := Lib.hid (by have := HLsI2.out; simp only [List.length_cons, List.length_nil] at hl2; omega)
              clear hs2 hl2
              clear e0 e1 e2 hql
              go_wp2_with fail
              go_roundg (x.hl.length - (i + 1))
              case measure => exact hms
              case rel => exact ⟨i + 1, rfl, HLT.out, by first | rfl | rw [hwr.out], by
                rw [HSN.out]
                have e : encHd sI ((y0, y1), y2) = sI3 := by rw [HsI3.out, HsI2.out, HsI1.out]; rfl
                rw [e]
                exact ⟨HEN.out.pk.less (fun k h => h.elim), HEN.out.md⟩⟩
            · skip
              obtain rfl : i = x.hl.length := by omega
              have hk := HEN.out
              rw [List.take_length] at hk
              have HEN := Lib.hid hk
              obtain ⟨q0, hq0⟩ : ∃ q0, q0 = x.hl.foldl encHd r1 := ⟨_, rfl⟩
              have hln := encHds_len x.hl r1
              rw [← hq0] at HEN hln
              have HLq0 : Hid (q0.1.length ≤ 610000) := Lib.hid (by have := HLr1.out; have := HFT.out.hn; omega)
              have Hq0 := Lib.hid hq0
              clear hk hlt hi hq0 hln
              go_wp2_with fail
              go_loopg [146] 8 (fun g v wr => E5Rel B p wB x q0 g v wr)
              case atStart => exact ⟨0, rfl, Nat.zero_le _, rfl, HEN.out⟩
              case round =>
                obtain ⟨i, rfl, hi, rfl, hE⟩ := hrel
                have HEN := Lib.hid hE
                clear hE
                by_cases hlt : i < 8
                · skip
                  have HSN : Hid ((List.range (i + 1)).foldl (encRow x) q0 = encRow x ((List.range i).foldl (encRow x) q0) i) := Lib.hid (by rw [List.range_succ, List.foldl_append]; rfl)
                  have hln := encRows_len x (List.range i) q0
                  rw [List.length_range] at hln
                  have HLT := Lib.hid hlt
                  have hil2 : (0 : Int) ≤ i ∧ (i : Int) < 8 := by omega
                  have hwr := Lib.hid (show wrap64 ((i : Int) + 1) = ((i + 1 : Nat) : Int) by unfold wrap64; omega)
                  have hms : 8 - (i + 1) < 8 - i := by omega
                  obtain ⟨sI, hsI⟩ : ∃ sI, sI = (List.range i).foldl (encRow x) q0 := ⟨_, rfl⟩
                  rw [← hsI] at HSN HEN hln
                  have HLsI : Hid (sI.1.length ≤ 611000) := Lib.hid (by have := HLq0.out; omega)
                  have HZZ : Hid (∀ W, Below B wB W → W.cell? ⟨w.heap.size, 5 + i, none⟩ = some (.int .i64 (x.l i)) ∧ W.cell? ⟨w.heap.size, 13 + i, none⟩ = some (.int .i64 (x.s i)) ∧ W.cell? ⟨w.heap.size, 21 + i * 2, none⟩ = some (.int .i64 (x.r (2 * i))) ∧ W.cell? ⟨w.heap.size, 21 + i * 2 + 1, none⟩ = some (.int .i64 (x.r (2 * i + 1)))) := Lib.hid (fun W hW => by
                    have h := HXF.out W hW
                    have k := dm_rows x i HLT.out
                    exact ⟨by have := h _ _ k.1; rwa [Nat.zero_add] at this, by have := h _ _ k.2.1; rwa [Nat.zero_add] at this, by have := h _ _ k.2.2.1; rwa [Nat.zero_add] at this, by have := h _ _ k.2.2.2; rwa [Nat.zero_add] at this⟩)
                  have HFR : Hid (I64 (x.l i) ∧ I64 (x.s i) ∧ I64 (x.r (2 * i)) ∧ I64 (x.r (2 * i + 1))) := Lib.hid ⟨(HFT.out.rw i (by omega)).1, (HFT.out.rw i (by omega)).2.1, (HFT.out.rw (2 * i) (by omega)).2.2, (HFT.out.rw (2 * i + 1) (by omega)).2.2⟩
                  obtain ⟨z0, z1, z2, z3⟩ := HZZ.out wr HEN.out.md
                  have hdl := cell_lt z0
                  clear hln hsI hlt
                  go_wp2_with fail
                  refine (rowVL none' wr B p 8 _ _ _ sI [x.l i] rfl (by decide) HEN.out.pk (fun v hv => by rw [List.mem_singleton] at hv; rw [hv]; exact HFR.out.1) ⟨by have := HLsI.out; omega, by simp⟩ (Nat.le_trans HDB.out.2 HEN.out.md.size)).mono ?_
                  rintro e d1 ⟨rfl, hP, hM⟩
                  have HM1 := Lib.hid hM
                  have HEN := Lib.hid (HEN.out.put hP hM (Nat.le_trans HDB.out.2 HEN.out.md.size))
                  clear hP hM
                  have hl2 := pkL_len [x.l i] 8 sI
                  obtain ⟨sI1, hs2⟩ : ∃ s2, s2 = pkL sI [x.l i] 8 := ⟨_, rfl⟩
                  rw [← hs2] at HEN hl2
                  have HsI1 := Lib.hid hs2
                  have HLsI1 : Hid (sI1.1.length ≤ 611008) := Lib.hid (by have := HLsI.out; simp only [List.length_cons, List.length_nil] at hl2; omega)
                  clear hs2 hl2
                  clear z0 z1 z2 z3 hdl
                  obtain ⟨z0, z1, z2, z3⟩ := HZZ.out d1 HEN.out.md
                  have hdl := cell_lt z0
                  go_wp2_with fail
                  refine (rowVI none' d1 B p 4 _ _ _ sI1 [x.s i] rfl (by decide) HEN.out.pk (fun v hv => by rw [List.mem_singleton] at hv; rw [hv]; exact HFR.out.2.1) ⟨by have := HLsI1.out; omega, by simp⟩ (Nat.le_trans HDB.out.2 HEN.out.md.size)).mono ?_
                  rintro e d2 ⟨rfl, hP, hM⟩
                  have HM1 := Lib.hid hM
                  have HEN := Lib.hid (HEN.out.put hP hM (Nat.le_trans HDB.out.2 HEN.out.md.size))
                  clear hP hM
                  have hl2 := pkL_len [x.s i] 4 sI1
                  obtain ⟨sI2, hs2⟩ : ∃ s2, s2 = pkL sI1 [x.s i] 4 := ⟨_, rfl⟩
                  rw [← hs2] at HEN hl2
                  have HsI2 := Lib.hid hs2
                  have HLsI2 : Hid (sI2.1.length ≤ 611012) := Lib.hid (by have := HLsI1.out; simp only [List.length_cons, List.length_nil] at hl2; omega)
                  clear hs2 hl2
                  clear z0 z1 z2 z3 hdl
                  obtain ⟨z0, z1, z2, z3⟩ := HZZ.out d2 HEN.out.md
                  have hdl := cell_lt z0
                  have HEN := Lib.hid (show EnIn B p wB none' sI2 d2.drew from ⟨HEN.out.pk.below (Below.refl _ _).drew, HEN.out.md.drew⟩)
                  go_wp2_with fail
                  refine wp_region_held_drew (S := fun W => W.cell? ⟨w.heap.size, 21 + i * 2, none⟩ = some (.int .i64 (x.r (2 * i))) ∧ W.cell? ⟨w.heap.size, 21 + i * 2 + 1, none⟩ = some (.int .i64 (x.r (2 * i + 1)))) (by kernel_rfl) ⟨z2, z3⟩ (fun hHeld => ?_)
                  refine takeL 0 ?_
                  refine takeL 1 ?_
                  refine takeL 2 ?_
                  refine takeL 3 ?_
                  refine takeL 4 ?_
                  refine takeL 5 ?_
                  refine takeL 6 ?_
                  refine takeL 7 ?_
                  refine takeL 8 ?_
                  refine takeL 9 ?_
                  refine takeL 10 ?_
                  refine wpAnyH_ready (rs := [11]) (by kernel_rfl) (by simp) ?_
                  refine AllReadyH.cons (o := _) rfl (fun K hK => ?_) AllReadyH.nil
                  go_simp
                  have hzA := HZZ.out (d2.drew.alloc (.cells #[.int .i64 (x.r (2 * i)), .int .i64 (x.r (2 * i + 1))] 3)) (HEN.out.md.trans (((Below.refl _ _).alloc (Nat.le_refl _) _).mono (Nat.le_trans HDB.out.2 HEN.out.md.size)))
                  try go_wp2_with fail
                  refine hK.out _ _ ⟨hzA.2.2.1, hzA.2.2.2⟩ (fun hHeld => ?_)
                  clear hK K
                  try simp only [Act.put, List.setIfInBounds_toArray, List.set_cons_zero, List.set_cons_succ]
                  refine wpAnyH_ready (rs := [12]) (by kernel_rfl) (by simp) ?_
                  refine AllReadyH.cons (o := _) rfl (fun K hK => ?_) AllReadyH.nil
                  go_simp
                  refine (rowVI none' d2.drew B p 2 _ _ _ sI2 [x.r (2 * i), x.r (2 * i + 1)] rfl (by decide) HEN.out.pk (fun v hv => by simp only [List.mem_cons, List.not_mem_nil, or_false] at hv; rcases hv with rfl | rfl; (· exact HFR.out.2.2.1); (· exact HFR.out.2.2.2)) ⟨by have := HLsI2.out; omega, by simp⟩ (Nat.le_trans HDB.out.2 HEN.out.md.size)).mono ?_
                  rintro e d3 ⟨rfl, hP, hM⟩
                  have HM1 := Lib.hid hM
                  have HEN := Lib.hid (HEN.out.put hP hM (Nat.le_trans HDB.out.2 HEN.out.md.size))
                  clear hP hM
                  have hl2 := pkL_len [x.r (2 * i), x.r (2 * i + 1)] 2 sI2
                  obtain ⟨sI3, hs2⟩ : ∃ s2, s2 = pkL sI2 [x.r (2 * i), x.r (2 * i + 1)] 2 := ⟨_, rfl⟩
                  rw [← hs2] at HEN hl2
                  have HsI3 := Lib.hid hs2
                  have HLsI3 : Hid (sI3.1.length ≤ 611016) := Lib.hid (by have := HLsI2.out; simp only [List.length_cons, List.length_nil] at hl2; omega)
                  clear hs2 hl2
                  have hz3 := HZZ.out d3 HEN.out.md
                  try go_wp2_with fail
                  refine hK.out _ _ ⟨hz3.2.2.1, hz3.2.2.2⟩ (fun hHeld => ?_)
                  clear hK K
                  try simp only [Act.put, List.setIfInBounds_toArray, List.set_cons_zero, List.set_cons_succ]
                  refine wpAnyH_done (by kernel_rfl) ?_ _
                  clear hHeld z0 z1 z2 z3 hdl hzA hz3
                  go_wp2_with fail
                  go_roundg (8 - (i + 1))
                  case measure => exact hms
                  case rel => exact ⟨i + 1, rfl, HLT.out, by first | rfl | rw [hwr.out], by
                    rw [HSN.out]
                    have e : encRow x sI i = sI3 := by rw [HsI3.out, HsI2.out, HsI1.out]; rfl
                    rw [e]
                    exact HEN.out⟩
                · skip
                  obtain rfl : i = 8 := by omega
                  have HD : Hid (encD x = (List.range 8).foldl (encRow x) q0) := Lib.hid (by rw [Hq0.out, Hr1.out, Hr0.out, Ht2.out, Ht1.out, Ht0.out, HsA.out, Hs1.out, Hs0.out]; rfl)
                  rw [← HD.out] at HEN
                  obtain ⟨dn, hdn⟩ : ∃ dn, dn = doneP (encD x) := ⟨_, rfl⟩
                  have hcall := pkDoneV wr B p (encD x) HEN.out.pk.at' (encD_ne x) (Nat.le_trans HDB.out.2 HEN.out.md.size)
                  rw [← hdn] at hcall HRR
                  obtain ⟨d1, d2⟩ := dn
                  simp only at hcall HRR
                  have HB9 := Lib.hid (HBW.out.trans (HEN.out.md.mono (by have := HDB.out; omega)))
                  clear hdn hlt hi
                  go_wp2_with fail
                  refine hcall.mono ?_
                  clear hcall
                  rintro e wE ⟨rfl, hBE⟩
                  have HBE := Lib.hid (HB9.out.trans (hBE.mono (by have := HDB.out; omega)))
                  clear hBE
                  by_cases hz : d2 = 0
                  · subst hz
                    have HRE : Hid (encP 0 x = (d1, 0)) := Lib.hid (by rw [HRR.out, if_neg (by simp)])
                    go_wp2_with fail
                    refine bodyPost_ret (v := .tuple #[.string d1, .int .i64 0]) (by simp [results, Tryz.results12, go_sem]) rfl ?_
                    show Ending.returned (.tuple #[.string d1, .int .i64 0]) = Ending.returned (.tuple #[.string (encP 0 x).1, .int .i64 (encP 0 x).2]) ∧ _
                    rw [HRE.out]
                    exact ⟨rfl, HBE.out⟩
                  · have hz2 : (d2 != 0) = true := by simpa using hz
                    have HRE : Hid (encP 0 x = (⟨#[]⟩, 11)) := Lib.hid (by rw [HRR.out, if_pos hz])
                    clear hz
                    go_wp2_with fail
                    refine bodyPost_ret (v := .tuple #[.string ⟨#[]⟩, .int .i64 11]) (by simp [results, Tryz.results12, go_sem]) rfl ?_
                    show Ending.returned (.tuple #[.string ⟨#[]⟩, .int .i64 11]) = Ending.returned (.tuple #[.string (encP 0 x).1, .int .i64 (encP 0 x).2]) ∧ _
                    rw [HRE.out]
                    exact ⟨rfl, HBE.out⟩
end Go.Proofs.YtmnkackkeppheaaGreat
