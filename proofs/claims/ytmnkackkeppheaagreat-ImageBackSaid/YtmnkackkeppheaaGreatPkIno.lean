import Derived.Test.YtmnkackkeppheaaGreatPkDir
import Derived.Test.YtmnkackkeppheaaGreatPkBase
import Derived.StillTailTactics
import Derived.Deep.RegionHeld3
import Derived.Test.YtmnkackkeppheaaGreatPkOpM
import Derived.Test.YtmnkackkeppheaaGreatPkPath
/- inodes with their parts, plain and as they lie -/
namespace Esch
open Go Go.RowKit
/-- an inode, whole -/
structure InS where
  ino : Int
  kind : Int
  links : Int
  opens : Int
  size : Int
  ps : List PtS
deriving DecidableEq
instance : Inhabited InS := ⟨⟨0, 0, 0, 0, 0, []⟩⟩
def in0 : InS := ⟨0, 0, 0, 0, 0, []⟩
/-- an inode as it lies: its numbers, and where its parts lie -/
structure InC where
  ino : Int
  kind : Int
  links : Int
  opens : Int
  size : Int
  pa : Option Addr
  pc : Nat
  ps : List PtS
instance : Inhabited InC := ⟨⟨0, 0, 0, 0, 0, none, 0, []⟩⟩
def inC0 : InC := ⟨0, 0, 0, 0, 0, none, 0, []⟩
def InC.cells (x : InC) : List Value := [.int .i64 x.ino, .int .i64 x.kind, .int .i64 x.links, .int .i64 x.opens, .int .i64 x.size, .slice x.pa x.ps.length x.pc]
def inCV (x : InC) : Value := .agg #[.int .i64 x.ino, .int .i64 x.kind, .int .i64 x.links, .int .i64 x.opens, .int .i64 x.size, .slice x.pa x.ps.length x.pc]
def InC.val (x : InC) : InS := ⟨x.ino, x.kind, x.links, x.opens, x.size, x.ps⟩
theorem InC.cells_len (x : InC) : x.cells.length = 6 := rfl
/-- an inode's parts lie in blocks of S -/
structure PcOk (w : World) (S : Nat → Prop) (x : InC) : Prop where
  row : PtsAt w S x.pa x.ps
  nil : x.pa = none → x.pc = 0
  cap : x.ps.length ≤ x.pc ∧ x.pc ≤ 9223372036854775807
  few : x.ps.length ≤ 100000
theorem PcOk.mod {S F : Nat → Prop} {w w' : World} {x : InC} (h : PcOk w S x) (hM : Mod F w w') (hS : ∀ k, S k → k < w.heap.size → ¬ F k) : PcOk w' S x := ⟨h.row.mod hM hS, h.nil, h.cap, h.few⟩
theorem PcOk.below' {S : Nat → Prop} {w w' : World} {x : InC} (h : PcOk w S x) (hB : Below w.heap.size w w') : PcOk w' S x := h.mod (F := none') (Mod.of_below hB) fun _ _ _ => id
theorem PcOk.sub {S T : Nat → Prop} {w : World} {x : InC} (h : PcOk w S x) (hS : ∀ k, k < w.heap.size → S k → T k) : PcOk w T x := ⟨h.row.sub hS, h.nil, h.cap, h.few⟩
theorem pcOk0 (w : World) (S : Nat → Prop) {x : InC} (h1 : x.pa = none) (h2 : x.pc = 0) (h3 : x.ps = []) : PcOk w S x := by
  obtain ⟨a, b, c, d, e, pa, pc, ps⟩ := x
  simp only at h1 h2 h3
  subst h1 h2 h3
  exact ⟨RwAt.nil _ _ _ _, fun _ => rfl, ⟨Nat.le_refl _, Nat.zero_le _⟩, Nat.zero_le _⟩
theorem get_mapv {K V U : Type} [DecidableEq K] (f : V → U) : ∀ (m : List (K × V)) (k : K), get (m.map fun p => (p.1, f p.2)) k = (get m k).map f
  | [], _ => rfl
  | p :: m, k => by
    have ih := get_mapv f m k
    simp only [List.map_cons]
    unfold get
    split
    · rfl
    · exact ih
theorem set_mem {K V : Type} [DecidableEq K] {m : List (K × V)} {k : K} {v : V} {p : K × V} (h : p ∈ set m k v) : p = (k, v) ∨ p ∈ m := by
  induction m with
  | nil =>
    unfold set at h
    exact Or.inl (List.mem_singleton.1 h)
  | cons q m ih =>
    unfold set at h
    split at h
    · rename_i e
      rcases List.mem_cons.1 h with h | h
      · exact Or.inl h
      · exact Or.inr (List.mem_cons_of_mem _ h)
    · rcases List.mem_cons.1 h with h | h
      · exact Or.inr (by rw [h]; exact List.mem_cons_self ..)
      · exact (ih h).imp id (List.mem_cons_of_mem _)
end Esch
/- package inode: the table; get, Stat, Opens, Next, New -/
namespace Esch
open Go Go.RowKit
structure TabS where
  m : List (Int × InS)
  next : Int
def TabS.at (s : TabS) (i : Int) : InS := (get s.m i).getD in0
def TabS.has (s : TabS) (i : Int) : Bool := (get s.m i).isSome
/-- the table's blocks b (and its map's) are in S, and its inodes' parts in others of S -/
structure TabAt (w : World) (b : Nat) (S : Nat → Prop) (s : TabS) : Prop where
  sb : S b
  lt : ∀ k, S k → k < w.heap.size
  ex : ∃ mb m, w.cell? ⟨b, 0, none⟩ = some (.map (some mb)) ∧ w.cell? ⟨b, 1, none⟩ = some (.int .i64 s.next) ∧ (∀ j, w.frozen? ⟨b, j, none⟩ = false) ∧ MpAt w mb iV inCV m ∧ S mb ∧ mb ≠ b ∧ (m.map fun p => (p.1, p.2.val)) = s.m ∧ ∀ p ∈ m, PcOk w (fun k => S k ∧ k ≠ b ∧ k ≠ mb) p.2
theorem TabAt.mod {w w' : World} {b : Nat} {S F : Nat → Prop} {s : TabS} (h : TabAt w b S s) (hM : Mod F w w') (hF : ∀ k, S k → ¬ F k) : TabAt w' b S s := by
  obtain ⟨sb, lt, mb, m, c0, c1, f1, hm, sm, n1, hv, hp⟩ := h
  exact ⟨sb, fun k hk => Nat.lt_of_lt_of_le (lt k hk) hM.size, mb, m, hM.at c0 (hF b sb), hM.at c1 (hF b sb), fun j => (hM.frozen (p := ⟨b, j, none⟩) (cell_lt c1) (hF b sb)).trans (f1 j), hm.mod hM (hF mb sm), sm, n1, hv, fun p hx => (hp p hx).mod hM fun k hk _ => hF k hk.1⟩
theorem TabAt.below' {w w' : World} {b : Nat} {S : Nat → Prop} {s : TabS} (h : TabAt w b S s) (hB : Below w.heap.size w w') : TabAt w' b S s := h.mod (F := none') (Mod.of_below hB) fun _ _ => id
/-- what of the table's blocks is neither its own nor its map's -/
def NotMut (w : World) (b : Nat) (k : Nat) : Prop := k ≠ b ∧ w.cell? ⟨b, 0, none⟩ ≠ some (.map (some k))
end Esch
namespace Go.Proofs.YtmnkackkeppheaaGreat
open Go.RowKit Esch Go.Shelf

theorem MapAt.upz {P : Program} {K V : Type} [DecidableEq K] {κ : K → Value} {ν : V → Value} {m : List (K × V)} {w : World} {b : Nat} {mt kt et : TypeId} (h : MpAt w b κ ν m) (hK : KeyOK P kt κ) (ht : P.underlying mt = some (.map kt et)) (k : K) (u : V) :
    ∃ W, (Instr.mapUpdate mt (.map (some b)) (κ k) (ν u)).run P w = .ok () W ∧ MpAt W b κ ν (Esch.set m k u) ∧ Mod (· = b) w W ∧ W.heap.size = w.heap.size := by
  obtain ⟨es, c, h⟩ := h
  obtain ⟨es', c', h1, h2⟩ := h.update hK ht k u
  exact ⟨_, h1, ⟨_, _, h2⟩, (Mod.refl (· = b) w).putObj (fun _ => rfl) _, putObj_size _ _ _⟩
theorem zeroIn (w : World) : (zeroValue 102).run Tryz.prog w = .ok (inCV inC0) w := Tryz.zeroValue102 w
set_option maxRecDepth 100000 in
set_option maxHeartbeats 1000000 in
theorem inoNew_any (w : World) : Calls Tryz.prog 74 #[] w fun e w' => ∃ b, e = .returned (.pointer (some ⟨b, 0, none⟩)) ∧ TabAt w' b (fun k => w.heap.size ≤ k ∧ k < w'.heap.size) ⟨[(1, ⟨1, 1, 1, 0, 0, []⟩)], 2⟩ ∧ Below w.heap.size w w' := by
  have hmm := @run_makeMap Tryz.prog
  have h0 : MpAt (w.alloc (.map #[] 0)) w.heap.size iV inCV ([] : List (Int × InC)) := ⟨#[], 0, alloc_new _ _, rfl, List.nodup_nil, List.Pairwise.nil, fun e h => by simp at h⟩
  obtain ⟨W1, hu, hm, hM, hz⟩ := MapAt.upz h0 keyInt Tryz.underlying176 1 ⟨1, 1, 1, 0, 0, none, 0, []⟩
  simp only [iV, inCV, List.length_nil] at hu
  have hB1 : Below w.heap.size w W1 := ((Below.refl _ w).alloc (Nat.le_refl _) _).trans (hM.below_at (by simp) (fun k hk e => by omega))
  simp only [World.size_alloc] at hz
  have HZ := Lib.hid hz
  clear hz h0
  go_enter Tryz.func74, Tryz.ntmps74
  go_wp2_with fail
  go_ret
  have hz := HZ.out
  have hm2 := hm.mod (F := none') (w' := W1.alloc (.cells #[.map (some w.heap.size), .int .i64 2] 178)) (by exact modC (Mod.refl _ _)) id
  refine ⟨W1.heap.size, rfl, ⟨⟨by omega, by simp⟩, fun k hk => hk.2, w.heap.size, _, by go_simp, by go_simp, fun j => by go_simp, hm2, ⟨Nat.le_refl _, by simp; omega⟩, by omega, rfl, fun p hp => ?_⟩, by exact belC hB1⟩
  obtain rfl : p = (1, ⟨1, 1, 1, 0, 0, none, 0, []⟩) := by simpa [Esch.set] using hp
  exact pcOk0 _ _ rfl rfl rfl
/-- the inode that get finds -/
def IGetPost (w : World) (b : Nat) (S : Nat → Prop) (x : InS) (y : Bool) (e : Ending) (w' : World) : Prop := ∃ c : InC, c.val = x ∧ e = .returned (.tuple #[inCV c, .bool y]) ∧ PcOk w' (fun k => S k ∧ NotMut w b k) c ∧ Below w.heap.size w w'
theorem atC {m : List (Int × InC)} {s : TabS} (hv : (m.map fun p => (p.1, p.2.val)) = s.m) (i : Int) : ((get m i).getD inC0).val = s.at i ∧ (get m i).isSome = s.has i := by
  unfold TabS.at TabS.has
  rw [← hv, get_mapv InC.val]
  cases get m i <;> exact ⟨rfl, rfl⟩
set_option maxRecDepth 100000 in
set_option maxHeartbeats 1000000 in
theorem inoGet_any (w : World) (b : Nat) (S : Nat → Prop) (s : TabS) (h : TabAt w b S s) (i : Int) :
    Calls Tryz.prog 124 #[.pointer (some ⟨b, 0, none⟩), .int .i64 i] w (IGetPost w b S (s.at i) (s.has i)) := by
  obtain ⟨sb, lt, mb, m, c0, c1, f1, ⟨es, ck, hm⟩, sm, n1, hv, hp⟩ := h
  have hl0 := cell_lt c0
  obtain ⟨W1, hW1⟩ : ∃ W1, W1 = w.alloc (.cells #[.int .i64 0, .int .i64 0, .int .i64 0, .int .i64 0, .int .i64 0, .slice none 0 0] 102) := ⟨_, rfl⟩
  have hB1 : Below w.heap.size w W1 := by rw [hW1]; exact belC (Below.refl _ _)
  have hl := (hm.of_block (hB1.block mb (block_lt hm.block))).look keyInt Tryz.underlying176 zeroIn i true
  rw [show ((get m i).map inCV).getD (inCV inC0) = inCV ((get m i).getD inC0) by cases get m i <;> rfl] at hl
  simp only [if_true] at hl
  have hpc : PcOk w (fun k => S k ∧ NotMut w b k) ((get m i).getD inC0) := by
    have hh : ∀ k, S k ∧ k ≠ b ∧ k ≠ mb → S k ∧ NotMut w b k := fun k hk => ⟨hk.1, hk.2.1, fun e => hk.2.2 (by rw [c0] at e; cases e; rfl)⟩
    cases e : get m i with
    | none => exact pcOk0 _ _ rfl rfl rfl
    | some c =>
      obtain ⟨pre, post, hmm, -⟩ := get_some e
      exact (hp (i, c) (by rw [hmm]; simp)).sub fun k _ hk => hh k hk
  obtain ⟨hc1, hc2⟩ := atC hv i
  rw [← hc2, ← hc1]
  have d0 := below_at hB1 c0 hl0
  obtain ⟨c, hc⟩ : ∃ c, c = (get m i).getD inC0 := ⟨_, rfl⟩
  rw [← hc] at hl hpc ⊢
  have HPC := Lib.hid hpc
  generalize (get m i).isSome = y at hl ⊢
  obtain ⟨x0, x1, x2, x3, x4, pa, pc, lp⟩ := c
  simp only [inCV, iV] at hl
  rw [hW1] at hl d0
  clear hm hc hW1 hB1 c1 f1 hp hpc hv hc1 hc2
  go_enter Tryz.func124, Tryz.ntmps124
  go_wp2_with fail
  refine bodyPost_ret (v := .tuple #[.agg #[.int .i64 x0, .int .i64 x1, .int .i64 x2, .int .i64 x3, .int .i64 x4, .slice pa lp.length pc], .bool y]) (by simp [results, Tryz.results124, go_sem]) rfl ?_
  have hB : Below w.heap.size w _ := (show Below w.heap.size w (w.alloc (.cells #[.int .i64 0, .int .i64 0, .int .i64 0, .int .i64 0, .int .i64 0, .slice none 0 0] 102)) by exact belC (Below.refl _ _))
  exact ⟨⟨x0, x1, x2, x3, x4, pa, pc, lp⟩, rfl, rfl, HPC.out.below' (by exact belC (Below.refl _ _)), by exact belC (Below.refl _ _)⟩
theorem inoGet_nil (w : World) (i : Int) : Calls Tryz.prog 124 #[.pointer none, .int .i64 i] w fun e w' => e = .returned (.tuple #[inCV inC0, .bool false]) ∧ Below w.heap.size w w' := by
  go_enter Tryz.func124, Tryz.ntmps124
  go_wp2_with fail
  refine bodyPost_ret (v := .tuple #[inCV inC0, .bool false]) (by simp [results, Tryz.results124, go_sem, inCV, inC0]) rfl ?_
  exact ⟨rfl, by exact belC (Below.refl _ _)⟩
def statV (x : InS) : Value := .agg #[.int .i64 x.ino, .int .i64 x.kind, .int .i64 x.links, .int .i64 x.size]
set_option maxRecDepth 100000 in
set_option maxHeartbeats 1000000 in
theorem inoStat_any (w : World) (b : Nat) (S : Nat → Prop) (s : TabS) (h : TabAt w b S s) (i : Int) :
    Calls Tryz.prog 92 #[.pointer (some ⟨b, 0, none⟩), .int .i64 i] w fun e w' => e = .returned (.tuple #[statV (s.at i), .bool (s.has i)]) ∧ Below w.heap.size w w' := by
  obtain ⟨W1, hW1⟩ : ∃ W1, W1 = w.alloc (.cells #[.int .i64 0, .int .i64 0, .int .i64 0, .int .i64 0] 197) := ⟨_, rfl⟩
  have hB1 : Below w.heap.size w W1 := by rw [hW1]; exact belC (Below.refl _ _)
  have hg := inoGet_any W1 b S s (h.below' hB1) i
  have c0 : W1.cell? ⟨w.heap.size, 0, none⟩ = some (.int .i64 0) := by rw [hW1]; go_simp
  have c1 : W1.cell? ⟨w.heap.size, 1, none⟩ = some (.int .i64 0) := by rw [hW1]; go_simp
  have c2 : W1.cell? ⟨w.heap.size, 2, none⟩ = some (.int .i64 0) := by rw [hW1]; go_simp
  have c3 : W1.cell? ⟨w.heap.size, 3, none⟩ = some (.int .i64 0) := by rw [hW1]; go_simp
  have f0 : W1.frozen? ⟨w.heap.size, 0, none⟩ = false := by rw [hW1]; go_simp
  have f1 : W1.frozen? ⟨w.heap.size, 1, none⟩ = false := by rw [hW1]; go_simp
  have f2 : W1.frozen? ⟨w.heap.size, 2, none⟩ = false := by rw [hW1]; go_simp
  have f3 : W1.frozen? ⟨w.heap.size, 3, none⟩ = false := by rw [hW1]; go_simp
  generalize s.at i = X at *
  generalize s.has i = y at hg ⊢
  have HW1 := Lib.hid hW1
  have HB1 := Lib.hid hB1
  clear hW1 hB1 h
  go_enter Tryz.func92, Tryz.ntmps92
  go_wp2_with fail
  rw [← HW1.out]
  refine hg.mono ?_
  clear hg
  rintro e W2 ⟨⟨x0, x1, x2, x3, x4, pa, pc, lp⟩, rfl, rfl, -, hB2⟩
  simp only [inCV]
  have hl : w.heap.size < W1.heap.size := cell_lt c0
  have c0 := below_at hB2 c0 hl
  have c1 := below_at hB2 c1 hl
  have c2 := below_at hB2 c2 hl
  have c3 := below_at hB2 c3 hl
  have f0 := (hB2.frozen (p := ⟨w.heap.size, 0, none⟩) hl).trans f0
  have f1 := (hB2.frozen (p := ⟨w.heap.size, 1, none⟩) hl).trans f1
  have f2 := (hB2.frozen (p := ⟨w.heap.size, 2, none⟩) hl).trans f2
  have f3 := (hB2.frozen (p := ⟨w.heap.size, 3, none⟩) hl).trans f3
  have hlt := cell_lt c0
  have HB2 := Lib.hid (HB1.out.trans (hB2.mono HB1.out.size))
  clear hB2
  go_wp2_with fail
  refine bodyPost_ret (v := .tuple #[.agg #[.int .i64 x0, .int .i64 x1, .int .i64 x2, .int .i64 x4], .bool y]) (by simp [results, Tryz.results92, go_sem, *]) rfl ?_
  exact ⟨rfl, by exact belC HB2.out⟩
theorem inoOpens_any (w : World) (b : Nat) (S : Nat → Prop) (s : TabS) (h : TabAt w b S s) (i : Int) :
    Calls Tryz.prog 94 #[.pointer (some ⟨b, 0, none⟩), .int .i64 i] w fun e w' => e = .returned (.int .i64 (s.at i).opens) ∧ Below w.heap.size w w' := by
  have hg := inoGet_any w b S s h i
  generalize s.at i = X at *
  generalize s.has i = y at hg
  clear h
  go_enter Tryz.func94, Tryz.ntmps94
  go_wp2_with fail
  refine hg.mono ?_
  clear hg
  rintro e W2 ⟨⟨x0, x1, x2, x3, x4, pa, pc, lp⟩, rfl, rfl, -, hB2⟩
  simp only [inCV]
  go_wp2_with fail
  go_ret
  have hz := hB2.size
  exact ⟨rfl, by exact belC hB2⟩
theorem inoNext_any (w : World) (b : Nat) (S : Nat → Prop) (s : TabS) (h : TabAt w b S s) :
    Calls Tryz.prog 51 #[.pointer (some ⟨b, 0, none⟩)] w fun e w' => e = .returned (.int .i64 s.next) ∧ w' = w := by
  obtain ⟨sb, lt, mb, m, c0, c1, f1, hm, sm, n1⟩ := h
  go_enter Tryz.func51, Tryz.ntmps51
  go_wp2_with fail
  go_ret
  exact ⟨rfl, rfl⟩
end Go.Proofs.YtmnkackkeppheaaGreat
/- parts of a file, plain -/
namespace Esch
open Go
def wholeB (a n most : Int) : Bool := decide (0 ≤ a) && decide (1 ≤ n) && decide (n ≤ most) && decide (a ≤ most - n)
def PtS.one (x : PtS) : Bool := wholeB x.off x.len 8192 && wholeB x.at' x.len 1024 && decide (0 ≤ x.addr) && decide (x.addr < 16384)
def joinsB (a b : PtS) : Bool := decide (a.off + a.len = b.off) && decide (a.addr = b.addr) && decide (a.at' + a.len = b.at')
def stepB (a b : PtS) : Bool := decide (a.off + a.len ≤ b.off) && !joinsB a b
def okAt (l : List PtS) (j : Nat) : Bool := (l.getD j default).one && (decide (j = 0) || stepB (l.getD (j - 1) default) (l.getD j default))
def goodP (l : List PtS) : Bool := decide (l.length ≤ 64) && (List.range l.length).all (okAt l)
theorem goodP_one {l : List PtS} (h : goodP l = true) {x : PtS} (hx : x ∈ l) : x.one = true := by
  unfold goodP at h
  rw [Bool.and_eq_true] at h
  obtain ⟨j, hj, rfl⟩ := List.mem_iff_getElem.1 hx
  have := List.all_eq_true.1 h.2 j (List.mem_range.2 hj)
  unfold okAt at this
  rw [Bool.and_eq_true, List.getD_eq_getElem?_getD, List.getElem?_eq_getElem hj] at this
  exact this.1
theorem goodP_len {l : List PtS} (h : goodP l = true) : l.length ≤ 64 := by
  unfold goodP at h
  rw [Bool.and_eq_true] at h
  exact of_decide_eq_true h.1
structure PtS.In (x : PtS) : Prop where
  o0 : 0 ≤ x.off
  l1 : 1 ≤ x.len
  l2 : x.len ≤ 1024
  ol : x.off + x.len ≤ 8192
  a0 : 0 ≤ x.at'
  al : x.at' + x.len ≤ 1024
  d0 : 0 ≤ x.addr
  d1 : x.addr < 16384
theorem one_in {x : PtS} : x.one = true ↔ x.In := by
  unfold PtS.one wholeB
  simp only [Bool.and_eq_true, decide_eq_true_eq]
  constructor
  · rintro ⟨⟨⟨⟨⟨⟨h1, h2⟩, h3⟩, h4⟩, ⟨⟨h5, h6⟩, h7⟩, h8⟩, h9⟩, h10⟩
    exact ⟨h1, h2, h7, by omega, h5, by omega, h9, h10⟩
  · rintro ⟨h1, h2, h3, h4, h5, h6, h7, h8⟩
    exact ⟨⟨⟨⟨⟨⟨h1, h2⟩, by omega⟩, by omega⟩, ⟨⟨h5, h2⟩, h3⟩, by omega⟩, h7⟩, h8⟩
end Esch
/- package inode: what changes a file, plain -/
namespace Esch
open Go
end Esch
/- package inode: keep -/
namespace Esch
open Go Go.RowKit
end Esch
namespace Go.Proofs.YtmnkackkeppheaaGreat
open Go.RowKit Esch Go.Shelf

end Go.Proofs.YtmnkackkeppheaaGreat
/- package inode: Make, Link, Truncate -/
namespace Esch
/-- what Link and Truncate want of an inode -/
structure InS.ok (x : InS) : Prop where
  l0 : 0 ≤ x.links
  l1 : x.links ≤ 8
  o0 : 0 ≤ x.opens
  o1 : x.opens ≤ 128
end Esch
namespace Go.Proofs.YtmnkackkeppheaaGreat
open Go.RowKit Esch Go.Shelf

end Go.Proofs.YtmnkackkeppheaaGreat
/- the tree, plain: what each call comes to; and what stays true -/
namespace Esch
open Go

structure TrS where
  t : TabS
  n : DirS
def TrS.kind (s : TrS) (i : Int) : Int := (s.t.at i).kind
def tr0 : TrS := ⟨⟨[(1, ⟨1, 1, 1, 0, 0, []⟩)], 2⟩, ⟨[], []⟩⟩

/-- counts are what they count -/
structure DirS.ok (s : DirS) : Prop where
  nd : (s.m.map (·.1)).Nodup
  cnt : ∀ d, s.count d = ((s.m.filter (fun e => e.1.1 == d)).length : Nat)
  le : ∀ d, s.count d ≤ 64
theorem DirS.ok.nn {s : DirS} (h : s.ok) (d : Int) : 0 ≤ s.count d := by rw [h.cnt d]; omega
theorem count_set (s : DirS) (m : List Ent) (d d' v : Int) : (⟨m, set s.c d v⟩ : DirS).count d' = if d = d' then v else s.count d' := by
  unfold DirS.count
  simp only [get_set]
  split <;> rfl
theorem DirS.ok.add {s : DirS} (h : s.ok) (d : Int) (n : Nm) (i : Int) : ((s.add d n i).2).ok := by
  unfold DirS.add
  split
  · exact h
  split
  · exact h
  split
  · exact h
  split
  · exact h
  · rename_i h1 h2 h3 h4
    have hg : get s.m (d, n) = none := by
      unfold DirS.find at h3
      cases e : get s.m (d, n)
      · rfl
      · rw [e] at h3; simp at h3
    refine ⟨set_nodup _ _ h.nd, fun d' => ?_, fun d' => ?_⟩
    · rw [count_set, set_miss _ _ _ (get_none.1 hg)]
      simp only [List.filter_append, List.length_append]
      by_cases e : d = d'
      · subst e
        have h5 : ([((d, n), i)].filter (fun e : Ent => e.1.1 == d)).length = 1 := by simp
        rw [if_pos rfl, h.cnt d, h5]
        rfl
      · have h5 : ([((d, n), i)].filter (fun e : Ent => e.1.1 == d')).length = 0 := by simp [e]
        rw [if_neg e, h.cnt d', h5]
        omega
    · rw [count_set]
      split
      · omega
      · exact h.le d'
structure TabS.ok (s : TabS) : Prop where
  x : ∀ i, (s.at i).ok
  next : 0 ≤ s.next
theorem in0_ok : in0.ok := ⟨by decide, by decide, by decide, by decide⟩
structure TrS.ok (s : TrS) : Prop where
  t : s.t.ok
  n : s.n.ok
theorem tr0_ok : tr0.ok := by
  refine ⟨⟨fun i => ?_, by decide⟩, ⟨List.nodup_nil, fun d => rfl, fun d => by show (0 : Int) ≤ 64; decide⟩⟩
  show (((get [((1 : Int), (⟨1, 1, 1, 0, 0, []⟩ : InS))] i).getD in0)).ok
  unfold get
  split
  · exact ⟨by decide, by decide, by decide, by decide⟩
  · exact in0_ok
end Esch
/- bytes of a file lie elsewhere, plain -/
namespace Esch
open Go
end Esch
/- the counts stay what they count, whatever is called -/
namespace Esch
open Go
end Esch
