import Derived.Test.YtajbooppoohplaaGreatDoorMac
import Derived.Test.YtajbooppoohplaaGreatDoorPkDir
import Derived.Test.YtajbooppoohplaaGreatDoorPkBase
import Derived.StillTailTactics
import Derived.Deep.RegionHeld3
import Derived.Test.YtajbooppoohplaaGreatDoorPkOpM
import Derived.Test.YtajbooppoohplaaGreatDoorPkPath
/- inodes with their parts, plain and as they lie -/
set_option maxRecDepth 100000
set_option maxHeartbeats 4000000
namespace Esch
open Go Go.RowKit
/-- an inode, whole -/
structure InS where
  ino : Int
  kind : Int
  links : Int
  opens : Int
  size : Int
  ps : List PtS
deriving DecidableEq
instance : Inhabited InS := ⟨⟨0, 0, 0, 0, 0, []⟩⟩
def in0 : InS := ⟨0, 0, 0, 0, 0, []⟩
/-- an inode as it lies: its numbers, and where its parts lie -/
structure InC where
  ino : Int
  kind : Int
  links : Int
  opens : Int
  size : Int
  pa : Option Addr
  pc : Nat
  ps : List PtS
instance : Inhabited InC := ⟨⟨0, 0, 0, 0, 0, none, 0, []⟩⟩
def inC0 : InC := ⟨0, 0, 0, 0, 0, none, 0, []⟩
def InC.cells (x : InC) : List Value := [.int .i64 x.ino, .int .i64 x.kind, .int .i64 x.links, .int .i64 x.opens, .int .i64 x.size, .slice x.pa x.ps.length x.pc]
def inCV (x : InC) : Value := .agg #[.int .i64 x.ino, .int .i64 x.kind, .int .i64 x.links, .int .i64 x.opens, .int .i64 x.size, .slice x.pa x.ps.length x.pc]
def InC.val (x : InC) : InS := ⟨x.ino, x.kind, x.links, x.opens, x.size, x.ps⟩
theorem InC.cells_len (x : InC) : x.cells.length = 6 := rfl
/-- an inode's parts lie in blocks of S -/
structure PcOk (w : World) (S : Nat → Prop) (x : InC) : Prop where
  row : PtsAt w S x.pa x.ps
  nil : x.pa = none → x.pc = 0
  cap : x.ps.length ≤ x.pc ∧ x.pc ≤ 9223372036854775807
  few : x.ps.length ≤ 100000
theorem PcOk.mod {S F : Nat → Prop} {w w' : World} {x : InC} (h : PcOk w S x) (hM : Mod F w w') (hS : ∀ k, S k → k < w.heap.size → ¬ F k) : PcOk w' S x := ⟨h.row.mod hM hS, h.nil, h.cap, h.few⟩
theorem PcOk.below' {S : Nat → Prop} {w w' : World} {x : InC} (h : PcOk w S x) (hB : Below w.heap.size w w') : PcOk w' S x := h.mod (F := none') (Mod.of_below hB) fun _ _ _ => id
theorem PcOk.sub {S T : Nat → Prop} {w : World} {x : InC} (h : PcOk w S x) (hS : ∀ k, k < w.heap.size → S k → T k) : PcOk w T x := ⟨h.row.sub hS, h.nil, h.cap, h.few⟩
/-- as PcOk, of an inode with other numbers -/
theorem PcOk.like {S : Nat → Prop} {w : World} {x y : InC} (h : PcOk w S x) (h1 : y.pa = x.pa) (h2 : y.pc = x.pc) (h3 : y.ps = x.ps) : PcOk w S y := ⟨by rw [h1, h3]; exact h.row, by rw [h1, h2]; exact h.nil, by rw [h2, h3]; exact h.cap, by rw [h3]; exact h.few⟩
theorem pcOk0 (w : World) (S : Nat → Prop) {x : InC} (h1 : x.pa = none) (h2 : x.pc = 0) (h3 : x.ps = []) : PcOk w S x := by
 obtain ⟨a, b, c, d, e, pa, pc, ps⟩ := x
 simp only at h1 h2 h3
 subst h1 h2 h3
 exact ⟨RwAt.nil _ _ _ _, fun _ => rfl, ⟨Nat.le_refl _, Nat.zero_le _⟩, Nat.zero_le _⟩
theorem get_mapv {K V U : Type} [DecidableEq K] (f : V → U) : ∀ (m : List (K × V)) (k : K), get (m.map fun p => (p.1, f p.2)) k = (get m k).map f
  | [], _ => rfl
  | p :: m, k => by
    have ih := get_mapv f m k
    simp only [List.map_cons]
    unfold get
    split
    · rfl
    · exact ih
theorem set_mapv {K V U : Type} [DecidableEq K] (f : V → U) : ∀ (m : List (K × V)) (k : K) (v : V), (set m k v).map (fun p => (p.1, f p.2)) = set (m.map fun p => (p.1, f p.2)) k (f v)
  | [], _, _ => rfl
  | p :: m, k, v => by
    have ih := set_mapv f m k v
    simp only [List.map_cons]
    unfold set
    split
    · rfl
    · rw [List.map_cons, ih]
theorem del_mapv {K V U : Type} [DecidableEq K] (f : V → U) (m : List (K × V)) (k : K) : (del m k).map (fun p => (p.1, f p.2)) = del (m.map fun p => (p.1, f p.2)) k := by
 unfold del
 rw [List.filter_map]
 rfl
theorem set_mem {K V : Type} [DecidableEq K] {m : List (K × V)} {k : K} {v : V} {p : K × V} (h : p ∈ set m k v) : p = (k, v) ∨ p ∈ m := by
 induction m with
 | nil =>
   unfold set at h
   exact Or.inl (List.mem_singleton.1 h)
 | cons q m ih =>
   unfold set at h
   split at h
   · rename_i e
     rcases List.mem_cons.1 h with h | h
     · exact Or.inl h
     · exact Or.inr (List.mem_cons_of_mem _ h)
   · rcases List.mem_cons.1 h with h | h
     · exact Or.inr (by rw [h]; exact List.mem_cons_self ..)
     · exact (ih h).imp id (List.mem_cons_of_mem _)
theorem del_mem {K V : Type} [DecidableEq K] {m : List (K × V)} {k : K} {p : K × V} (h : p ∈ del m k) : p ∈ m := (List.mem_filter.1 h).1
end Esch
/- package inode: the table; get, Stat, Opens, Next, New -/
namespace Esch
open Go Go.RowKit
structure TabS where
  m : List (Int × InS)
  next : Int
def TabS.at (s : TabS) (i : Int) : InS := (get s.m i).getD in0
def TabS.has (s : TabS) (i : Int) : Bool := (get s.m i).isSome
def TabS.make (s : TabS) (kind : Int) : (Int × Int) × TabS :=
  if kind ≠ 1 ∧ kind ≠ 2 then ((0, 1), s) else if 64 ≤ s.m.length ∨ 2147483647 ≤ s.next then ((0, 67), s) else ((s.next, 0), ⟨set s.m s.next ⟨s.next, kind, 0, 0, 0, []⟩, s.next + 1⟩)
def TabS.keep (s : TabS) (x : InS) (may : Bool) : TabS := if may = true ∧ x.links + x.opens = 0 then { s with m := del (set s.m x.ino x) x.ino } else { s with m := set s.m x.ino x }
def TabS.link (s : TabS) (i by' : Int) : Int × TabS :=
  if s.has i = false then (60, s) else if (by' ≠ 1 ∧ by' ≠ -1) ∨ i = 1 then (1, s) else if (s.at i).links + by' < 0 ∨ 8 < (s.at i).links + by' then (66, s)
  else (0, s.keep { s.at i with links := (s.at i).links + by' } (decide (by' < 0)))
/-- the table's blocks b (and its map's) are in S, and its inodes' parts in others of S -/
structure TabAt (w : World) (b : Nat) (S : Nat → Prop) (s : TabS) : Prop where
  sb : S b
  lt : ∀ k, S k → k < w.heap.size
  ex : ∃ mb m, w.cell? ⟨b, 0, none⟩ = some (.map (some mb)) ∧ w.cell? ⟨b, 1, none⟩ = some (.int .i64 s.next) ∧ (∀ j, w.frozen? ⟨b, j, none⟩ = false) ∧ MpAt w mb iV inCV m ∧ S mb ∧ mb ≠ b ∧ (m.map fun p => (p.1, p.2.val)) = s.m ∧ ∀ p ∈ m, PcOk w (fun k => S k ∧ k ≠ b ∧ k ≠ mb) p.2
theorem TabAt.mod {w w' : World} {b : Nat} {S F : Nat → Prop} {s : TabS} (h : TabAt w b S s) (hM : Mod F w w') (hF : ∀ k, S k → ¬ F k) : TabAt w' b S s := by
 obtain ⟨sb, lt, mb, m, c0, c1, f1, hm, sm, n1, hv, hp⟩ := h
 exact ⟨sb, fun k hk => Nat.lt_of_lt_of_le (lt k hk) hM.size, mb, m, hM.at c0 (hF b sb), hM.at c1 (hF b sb), fun j => (hM.frozen (p := ⟨b, j, none⟩) (cell_lt c1) (hF b sb)).trans (f1 j), hm.mod hM (hF mb sm), sm, n1, hv, fun p hx => (hp p hx).mod hM fun k hk _ => hF k hk.1⟩
theorem TabAt.below' {w w' : World} {b : Nat} {S : Nat → Prop} {s : TabS} (h : TabAt w b S s) (hB : Below w.heap.size w w') : TabAt w' b S s := h.mod (F := none') (Mod.of_below hB) fun _ _ => id
theorem TabAt.wide {w : World} {b : Nat} {S T : Nat → Prop} {s : TabS} (h : TabAt w b S s) (hS : ∀ k, S k → T k) (hl : ∀ k, T k → k < w.heap.size) : TabAt w b T s := by
 obtain ⟨sb, lt, mb, m, c0, c1, f1, hm, sm, n1, hv, hp⟩ := h
 exact ⟨hS b sb, hl, mb, m, c0, c1, f1, hm, hS mb sm, n1, hv, fun p hx => (hp p hx).sub fun k _ hk => ⟨hS k hk.1, hk.2⟩⟩
/-- what of the table's blocks is neither its own nor its map's -/
def NotMut (w : World) (b : Nat) (k : Nat) : Prop := k ≠ b ∧ w.cell? ⟨b, 0, none⟩ ≠ some (.map (some k))
end Esch
namespace Go.Proofs.YtajbooppoohplaaGreatDoor
open Go.RowKit Esch Go.Shelf

theorem MapAt.upz {P : Program} {K V : Type} [DecidableEq K] {κ : K → Value} {ν : V → Value} {m : List (K × V)} {w : World} {b : Nat} {mt kt et : TypeId} (h : MpAt w b κ ν m) (hK : KeyOK P kt κ) (ht : P.underlying mt = some (.map kt et)) (k : K) (u : V) :
    ∃ W, (Instr.mapUpdate mt (.map (some b)) (κ k) (ν u)).run P w = .ok () W ∧ MpAt W b κ ν (Esch.set m k u) ∧ Mod (· = b) w W ∧ W.heap.size = w.heap.size := by
 obtain ⟨es, c, h⟩ := h
 obtain ⟨es', c', h1, h2⟩ := h.update hK ht k u
 exact ⟨_, h1, ⟨_, _, h2⟩, (Mod.refl (· = b) w).putObj (fun _ => rfl) _, putObj_size _ _ _⟩
theorem MapAt.delz {P : Program} {K V : Type} [DecidableEq K] {κ : K → Value} {ν : V → Value} {m : List (K × V)} {w : World} {b : Nat} {mt kt et : TypeId} (h : MpAt w b κ ν m) (hK : KeyOK P kt κ) (ht : P.underlying mt = some (.map kt et)) (k : K) (ts : Array TypeId) (rt : TypeId) (hts : ts[0]? = some mt) :
    ∃ W, (Builtin.delete_ ts rt #[.map (some b), κ k]).run P w = .ok (.tuple #[]) W ∧ MpAt W b κ ν (del m k) ∧ Mod (· = b) w W ∧ W.heap.size = w.heap.size := by
 obtain ⟨es, c, h⟩ := h
 obtain ⟨es', h1, h2⟩ := h.delete hK ht k ts rt hts
 exact ⟨_, h1, ⟨_, _, h2⟩, (Mod.refl (· = b) w).putObj (fun _ => rfl) _, putObj_size _ _ _⟩
theorem zeroIn (w : World) : (zeroValue 85).run Tryz.prog w = .ok (inCV inC0) w := Tryz.zeroValue85 w
theorem inoNew_any (w : World) : Calls Tryz.prog 67 #[] w fun e w' => ∃ b, e = .returned (.pointer (some ⟨b, 0, none⟩)) ∧ TabAt w' b (fun k => w.heap.size ≤ k ∧ k < w'.heap.size) ⟨[(1, ⟨1, 1, 1, 0, 0, []⟩)], 2⟩ ∧ Below w.heap.size w w' := by
 have hmm := @run_makeMap Tryz.prog
 have h0 : MpAt (w.alloc (.map #[] 0)) w.heap.size iV inCV ([] : List (Int × InC)) := ⟨#[], 0, alloc_new _ _, rfl, List.nodup_nil, List.Pairwise.nil, fun e h => by simp at h⟩
 obtain ⟨W1, hu, hm, hM, hz⟩ := MapAt.upz h0 keyInt Tryz.underlying171 1 ⟨1, 1, 1, 0, 0, none, 0, []⟩
 simp only [iV, inCV, List.length_nil] at hu
 have hB1 : Below w.heap.size w W1 := ((Below.refl _ w).alloc (Nat.le_refl _) _).trans (hM.below_at (by simp) (fun k hk e => by omega))
 simp only [World.size_alloc] at hz
 have HZ := Lib.hid hz
 clear hz h0
 go_enter Tryz.func67, Tryz.ntmps67
 go_wp2_with fail
 go_ret
 have hz := HZ.out
 have hm2 := hm.mod (F := none') (w' := W1.alloc (.cells #[.map (some w.heap.size), .int .i64 2] 173)) (by exact modC (Mod.refl _ _)) id
 refine ⟨W1.heap.size, rfl, ⟨⟨by omega, by simp⟩, fun k hk => hk.2, w.heap.size, _, by go_simp, by go_simp, fun j => by go_simp, hm2, ⟨Nat.le_refl _, by simp; omega⟩, by omega, rfl, fun p hp => ?_⟩, by exact belC hB1⟩
 obtain rfl : p = (1, ⟨1, 1, 1, 0, 0, none, 0, []⟩) := by simpa [Esch.set] using hp
 exact pcOk0 _ _ rfl rfl rfl
/-- the inode that get finds -/
def IGetPost (w : World) (b : Nat) (S : Nat → Prop) (x : InS) (y : Bool) (e : Ending) (w' : World) : Prop := ∃ c : InC, c.val = x ∧ e = .returned (.tuple #[inCV c, .bool y]) ∧ PcOk w' (fun k => S k ∧ NotMut w b k) c ∧ Below w.heap.size w w'
theorem atC {m : List (Int × InC)} {s : TabS} (hv : (m.map fun p => (p.1, p.2.val)) = s.m) (i : Int) : ((get m i).getD inC0).val = s.at i ∧ (get m i).isSome = s.has i := by
 unfold TabS.at TabS.has
 rw [← hv, get_mapv InC.val]
 cases get m i <;> exact ⟨rfl, rfl⟩
theorem inoGet_any (w : World) (b : Nat) (S : Nat → Prop) (s : TabS) (h : TabAt w b S s) (i : Int) :
    Calls Tryz.prog 91 #[.pointer (some ⟨b, 0, none⟩), .int .i64 i] w (IGetPost w b S (s.at i) (s.has i)) := by
 obtain ⟨sb, lt, mb, m, c0, c1, f1, ⟨es, ck, hm⟩, sm, n1, hv, hp⟩ := h
 have hl0 := cell_lt c0
 obtain ⟨W1, hW1⟩ : ∃ W1, W1 = w.alloc (.cells #[.int .i64 0, .int .i64 0, .int .i64 0, .int .i64 0, .int .i64 0, .slice none 0 0] 85) := ⟨_, rfl⟩
 have hB1 : Below w.heap.size w W1 := by rw [hW1]; exact belC (Below.refl _ _)
 have hl := (hm.of_block (hB1.block mb (block_lt hm.block))).look keyInt Tryz.underlying171 zeroIn i true
 rw [show ((get m i).map inCV).getD (inCV inC0) = inCV ((get m i).getD inC0) by cases get m i <;> rfl] at hl
 simp only [if_true] at hl
 have hpc : PcOk w (fun k => S k ∧ NotMut w b k) ((get m i).getD inC0) := by
  have hh : ∀ k, S k ∧ k ≠ b ∧ k ≠ mb → S k ∧ NotMut w b k := fun k hk => ⟨hk.1, hk.2.1, fun e => hk.2.2 (by rw [c0] at e; cases e; rfl)⟩
  cases e : get m i with
  | none => exact pcOk0 _ _ rfl rfl rfl
  | some c =>
    obtain ⟨pre, post, hmm, -⟩ := get_some e
    exact (hp (i, c) (by rw [hmm]; simp)).sub fun k _ hk => hh k hk
 obtain ⟨hc1, hc2⟩ := atC hv i
 rw [← hc2, ← hc1]
 have d0 := below_at hB1 c0 hl0
 obtain ⟨c, hc⟩ : ∃ c, c = (get m i).getD inC0 := ⟨_, rfl⟩
 rw [← hc] at hl hpc ⊢
 have HPC := Lib.hid hpc
 generalize (get m i).isSome = y at hl ⊢
 obtain ⟨x0, x1, x2, x3, x4, pa, pc, lp⟩ := c
 simp only [inCV, iV] at hl
 rw [hW1] at hl d0
 clear hm hc hW1 hB1 c1 f1 hp hpc hv hc1 hc2
 go_enter Tryz.func91, Tryz.ntmps91
 go_wp2_with fail
 refine bodyPost_ret (v := .tuple #[.agg #[.int .i64 x0, .int .i64 x1, .int .i64 x2, .int .i64 x3, .int .i64 x4, .slice pa lp.length pc], .bool y]) (by simp [results, Tryz.results91, go_sem]) rfl ?_
 have hB : Below w.heap.size w _ := (show Below w.heap.size w (w.alloc (.cells #[.int .i64 0, .int .i64 0, .int .i64 0, .int .i64 0, .int .i64 0, .slice none 0 0] 85)) by exact belC (Below.refl _ _))
 exact ⟨⟨x0, x1, x2, x3, x4, pa, pc, lp⟩, rfl, rfl, HPC.out.below' (by exact belC (Below.refl _ _)), by exact belC (Below.refl _ _)⟩
theorem inoGet_nil (w : World) (i : Int) : Calls Tryz.prog 91 #[.pointer none, .int .i64 i] w fun e w' => e = .returned (.tuple #[inCV inC0, .bool false]) ∧ Below w.heap.size w w' := by
 go_enter Tryz.func91, Tryz.ntmps91
 go_wp2_with fail
 refine bodyPost_ret (v := .tuple #[inCV inC0, .bool false]) (by simp [results, Tryz.results91, go_sem, inCV, inC0]) rfl ?_
 exact ⟨rfl, by exact belC (Below.refl _ _)⟩
def statV (x : InS) : Value := .agg #[.int .i64 x.ino, .int .i64 x.kind, .int .i64 x.links, .int .i64 x.size]
theorem inoStat_any (w : World) (b : Nat) (S : Nat → Prop) (s : TabS) (h : TabAt w b S s) (i : Int) :
    Calls Tryz.prog 46 #[.pointer (some ⟨b, 0, none⟩), .int .i64 i] w fun e w' => e = .returned (.tuple #[statV (s.at i), .bool (s.has i)]) ∧ Below w.heap.size w w' := by
 obtain ⟨W1, hW1⟩ : ∃ W1, W1 = w.alloc (.cells #[.int .i64 0, .int .i64 0, .int .i64 0, .int .i64 0] 110) := ⟨_, rfl⟩
 have hB1 : Below w.heap.size w W1 := by rw [hW1]; exact belC (Below.refl _ _)
 have hg := inoGet_any W1 b S s (h.below' hB1) i
 have c0 : W1.cell? ⟨w.heap.size, 0, none⟩ = some (.int .i64 0) := by rw [hW1]; go_simp
 have c1 : W1.cell? ⟨w.heap.size, 1, none⟩ = some (.int .i64 0) := by rw [hW1]; go_simp
 have c2 : W1.cell? ⟨w.heap.size, 2, none⟩ = some (.int .i64 0) := by rw [hW1]; go_simp
 have c3 : W1.cell? ⟨w.heap.size, 3, none⟩ = some (.int .i64 0) := by rw [hW1]; go_simp
 have f0 : W1.frozen? ⟨w.heap.size, 0, none⟩ = false := by rw [hW1]; go_simp
 have f1 : W1.frozen? ⟨w.heap.size, 1, none⟩ = false := by rw [hW1]; go_simp
 have f2 : W1.frozen? ⟨w.heap.size, 2, none⟩ = false := by rw [hW1]; go_simp
 have f3 : W1.frozen? ⟨w.heap.size, 3, none⟩ = false := by rw [hW1]; go_simp
 generalize s.at i = X at *
 generalize s.has i = y at hg ⊢
 have HW1 := Lib.hid hW1
 have HB1 := Lib.hid hB1
 clear hW1 hB1 h
 go_enter Tryz.func46, Tryz.ntmps46
 go_wp2_with fail
 rw [← HW1.out]
 refine hg.mono ?_
 clear hg
 rintro e W2 ⟨⟨x0, x1, x2, x3, x4, pa, pc, lp⟩, rfl, rfl, -, hB2⟩
 simp only [inCV]
 have hl : w.heap.size < W1.heap.size := cell_lt c0
 have c0 := below_at hB2 c0 hl
 have c1 := below_at hB2 c1 hl
 have c2 := below_at hB2 c2 hl
 have c3 := below_at hB2 c3 hl
 have f0 := (hB2.frozen (p := ⟨w.heap.size, 0, none⟩) hl).trans f0
 have f1 := (hB2.frozen (p := ⟨w.heap.size, 1, none⟩) hl).trans f1
 have f2 := (hB2.frozen (p := ⟨w.heap.size, 2, none⟩) hl).trans f2
 have f3 := (hB2.frozen (p := ⟨w.heap.size, 3, none⟩) hl).trans f3
 have hlt := cell_lt c0
 have HB2 := Lib.hid (HB1.out.trans (hB2.mono HB1.out.size))
 clear hB2
 go_wp2_with fail
 refine bodyPost_ret (v := .tuple #[.agg #[.int .i64 x0, .int .i64 x1, .int .i64 x2, .int .i64 x4], .bool y]) (by simp [results, Tryz.results46, go_sem, *]) rfl ?_
 exact ⟨rfl, by exact belC HB2.out⟩
theorem inoNext_any (w : World) (b : Nat) (S : Nat → Prop) (s : TabS) (h : TabAt w b S s) :
    Calls Tryz.prog 40 #[.pointer (some ⟨b, 0, none⟩)] w fun e w' => e = .returned (.int .i64 s.next) ∧ w' = w := by
 obtain ⟨sb, lt, mb, m, c0, c1, f1, hm, sm, n1⟩ := h
 go_enter Tryz.func40, Tryz.ntmps40
 go_wp2_with fail
 go_ret
 exact ⟨rfl, rfl⟩
end Go.Proofs.YtajbooppoohplaaGreatDoor
/- parts of a file, plain -/
namespace Esch
open Go
def wholeB (a n most : Int) : Bool := decide (0 ≤ a) && decide (1 ≤ n) && decide (n ≤ most) && decide (a ≤ most - n)
def PtS.one (x : PtS) : Bool := wholeB x.off x.len 8192 && wholeB x.at' x.len 1024 && decide (0 ≤ x.addr) && decide (x.addr < 16384)
def joinsB (a b : PtS) : Bool := decide (a.off + a.len = b.off) && decide (a.addr = b.addr) && decide (a.at' + a.len = b.at')
def stepB (a b : PtS) : Bool := decide (a.off + a.len ≤ b.off) && !joinsB a b
def okAt (l : List PtS) (j : Nat) : Bool := (l.getD j default).one && (decide (j = 0) || stepB (l.getD (j - 1) default) (l.getD j default))
def goodP (l : List PtS) : Bool := decide (l.length ≤ 64) && (List.range l.length).all (okAt l)
def cutP (l : List PtS) (size : Int) : List PtS := if goodP l = false then [] else (l.filter fun x => decide (x.off < size)).map fun x => { x with len := min x.len (size - x.off) }
def joinStep (out : List PtS) (x : PtS) : List PtS := match out.getLast? with
  | none => [x]
  | some y => if joinsB y x = true then out.dropLast ++ [{ y with len := y.len + x.len }] else out ++ [x]
def joinP (l : List PtS) : List PtS := l.foldl joinStep []
def behindP (l : List PtS) (x : PtS) : List PtS := l.filterMap fun p => if max 0 (x.off + x.len - p.off) < p.len then some ⟨p.off + max 0 (x.off + x.len - p.off), p.len - max 0 (x.off + x.len - p.off), p.addr, p.at' + max 0 (x.off + x.len - p.off)⟩ else none
/-- parts that are joined; too many are none -/
def fewP (l : List PtS) : List PtS × Int := if 64 < l.length then ([], 3) else (l, 0)
def putP (l : List PtS) (x : PtS) : List PtS × Int := if goodP l = false then ([], 11) else if x.one = false then ([], 1) else fewP (joinP (cutP l x.off ++ x :: behindP l x))
theorem goodP_one {l : List PtS} (h : goodP l = true) {x : PtS} (hx : x ∈ l) : x.one = true := by
 unfold goodP at h
 rw [Bool.and_eq_true] at h
 obtain ⟨j, hj, rfl⟩ := List.mem_iff_getElem.1 hx
 have := List.all_eq_true.1 h.2 j (List.mem_range.2 hj)
 unfold okAt at this
 rw [Bool.and_eq_true, List.getD_eq_getElem?_getD, List.getElem?_eq_getElem hj] at this
 exact this.1
theorem goodP_len {l : List PtS} (h : goodP l = true) : l.length ≤ 64 := by
 unfold goodP at h
 rw [Bool.and_eq_true] at h
 exact of_decide_eq_true h.1
structure PtS.In (x : PtS) : Prop where
  o0 : 0 ≤ x.off
  l1 : 1 ≤ x.len
  l2 : x.len ≤ 1024
  ol : x.off + x.len ≤ 8192
  a0 : 0 ≤ x.at'
  al : x.at' + x.len ≤ 1024
  d0 : 0 ≤ x.addr
  d1 : x.addr < 16384
theorem one_in {x : PtS} : x.one = true ↔ x.In := by
 unfold PtS.one wholeB
 simp only [Bool.and_eq_true, decide_eq_true_eq]
 constructor
 · rintro ⟨⟨⟨⟨⟨⟨h1, h2⟩, h3⟩, h4⟩, ⟨⟨h5, h6⟩, h7⟩, h8⟩, h9⟩, h10⟩
   exact ⟨h1, h2, h7, by omega, h5, by omega, h9, h10⟩
 · rintro ⟨h1, h2, h3, h4, h5, h6, h7, h8⟩
   exact ⟨⟨⟨⟨⟨⟨h1, h2⟩, by omega⟩, by omega⟩, ⟨⟨h5, h2⟩, h3⟩, by omega⟩, h7⟩, h8⟩
theorem joinStep_len (out : List PtS) (x : PtS) : (joinStep out x).length ≤ out.length + 1 := by
 unfold joinStep
 split
 · simp
 · split
   · simp
   · simp
theorem joinP_len : ∀ (l out : List PtS), (l.foldl joinStep out).length ≤ out.length + l.length
  | [], out => by simp
  | x :: l, out => by
    have h1 := joinP_len l (joinStep out x)
    have h2 := joinStep_len out x
    rw [List.foldl_cons, List.length_cons]
    omega
theorem putP_len (l : List PtS) (x : PtS) : (putP l x).1.length ≤ 64 := by
 unfold putP
 split
 · simp
 split
 · simp
 unfold fewP
 split
 · simp
 · simp only; omega
theorem cutP_len (l : List PtS) (n : Int) : (cutP l n).length ≤ 64 := by
 unfold cutP
 split
 · simp
 · rename_i h
   have := goodP_len (l := l) (by cases e : goodP l; (· exact absurd e h); (· rfl))
   rw [List.length_map]
   exact Nat.le_trans (List.length_filter_le _ _) this
end Esch
/- package inode: what changes a file, plain -/
namespace Esch
open Go
def TabS.cut (s : TabS) (i size : Int) : Int × TabS :=
  if s.has i = false then (60, s) else if (s.at i).kind = 1 then (63, s) else if size < 0 ∨ 8192 < size then (67, s) else (0, s.keep { s.at i with size := size, ps := cutP (s.at i).ps size } false)
def TabS.write (s : TabS) (i off n addr : Int) : Int × TabS :=
  if s.has i = false then (60, s) else if (s.at i).kind = 1 then (63, s) else if off < 0 ∨ n < 1 ∨ 1024 < n ∨ 8192 - n < off then (67, s)
  else if (putP (s.at i).ps ⟨off, n, addr, 0⟩).2 ≠ 0 then ((if (putP (s.at i).ps ⟨off, n, addr, 0⟩).2 = 3 then 67 else (putP (s.at i).ps ⟨off, n, addr, 0⟩).2), s)
  else (0, s.keep { s.at i with size := max (s.at i).size (off + n), ps := (putP (s.at i).ps ⟨off, n, addr, 0⟩).1 } false)
def TabS.opn (s : TabS) (i d : Int) : Int × TabS :=
  if s.has i = false then (60, s) else if d ≠ 1 ∧ d ≠ -1 then (1, s) else if (s.at i).kind = 1 then (63, s) else if (s.at i).opens + d < 0 ∨ 128 < (s.at i).opens + d then (3, s)
  else (0, s.keep { s.at i with opens := (s.at i).opens + d } (decide (d < 0)))
end Esch
/- package inode: keep -/
namespace Esch
open Go Go.RowKit
end Esch
namespace Go.Proofs.YtajbooppoohplaaGreatDoor
open Go.RowKit Esch Go.Shelf

def TabPost (w : World) (b : Nat) (S : Nat → Prop) (r : Int × TabS) (e : Ending) (w' : World) : Prop := e = .returned (.int .i64 r.1) ∧ TabAt w' b S r.2 ∧ Mod S w w'
/-- the map alone is written -/
theorem tabPut {w W : World} {b mb : Nat} {S : Nat → Prop} {v : Int} {m' : List (Int × InC)} (sb : S b) (lt : ∀ k, S k → k < w.heap.size) (d0 : w.cell? ⟨b, 0, none⟩ = some (.map (some mb))) (d1 : w.cell? ⟨b, 1, none⟩ = some (.int .i64 v)) (f1 : ∀ j, w.frozen? ⟨b, j, none⟩ = false) (sm : S mb) (n1 : mb ≠ b)
    (hM : Mod (· = mb) w W) (hm : MpAt W mb iV inCV m') (hp : ∀ p ∈ m', PcOk w (fun k => S k ∧ k ≠ b ∧ k ≠ mb) p.2) : TabAt W b S ⟨m'.map fun p => (p.1, p.2.val), v⟩ ∧ Mod S w W := by
 have hb : ¬ b = mb := fun e => n1 e.symm
 exact ⟨⟨sb, fun k hk => Nat.lt_of_lt_of_le (lt k hk) hM.size, mb, m', hM.at d0 hb, hM.at d1 hb, fun j => (hM.frozen (p := ⟨b, j, none⟩) (cell_lt d1) hb).trans (f1 j), hm, sm, n1, rfl, fun p hx => (hp p hx).mod hM fun k hk _ e => hk.2.2 e⟩, hM.mono fun k _ hk => by have hk : k = mb := hk; rw [hk]; exact sm⟩
theorem inoKeep_any (w : World) (b : Nat) (S : Nat → Prop) (s : TabS) (h : TabAt w b S s) (x : InC) (hx : PcOk w (fun k => S k ∧ NotMut w b k) x) (may : Bool) (hb0 : 0 ≤ x.links) (hb1 : x.links ≤ 1000) (hb2 : 0 ≤ x.opens) (hb3 : x.opens ≤ 1000) :
    Calls Tryz.prog 188 #[.pointer (some ⟨b, 0, none⟩), inCV x, .bool may] w (TabPost w b S (0, s.keep x.val may)) := by
 obtain ⟨W1, hW1⟩ : ∃ W1, W1 = w.alloc (.cells #[.int .i64 x.ino, .int .i64 x.kind, .int .i64 x.links, .int .i64 x.opens, .int .i64 x.size, .slice x.pa x.ps.length x.pc] 85) := ⟨_, rfl⟩
 have hB1 : Below w.heap.size w W1 := by rw [hW1]; exact belC (Below.refl _ _)
 have hm1 : Mod S w W1 := Mod.of_below hB1
 have bx : w.heap.size ≠ b := fun e => by have := h.lt b h.sb; omega
 obtain ⟨sb, lt0, mb, m, c00, c10, f10, hm0, sm, n1, hv, hp0⟩ := h
 have bm : w.heap.size ≠ mb := fun e => by have := lt0 mb sm; omega
 have lt : ∀ k, S k → k < W1.heap.size := fun k hk => Nat.lt_of_lt_of_le (lt0 k hk) hB1.size
 have c0 := below_at hB1 c00 (cell_lt c00)
 have c1 := below_at hB1 c10 (cell_lt c10)
 have f1 := fun j => (hB1.frozen (p := ⟨b, j, none⟩) (cell_lt c10)).trans (f10 j)
 have hm := hm0.mod (F := none') (Mod.of_below hB1) id
 have hp : ∀ p ∈ m, PcOk W1 (fun k => S k ∧ k ≠ b ∧ k ≠ mb) p.2 := fun p hq => (hp0 p hq).below' hB1
 have hxp : PcOk W1 (fun k => S k ∧ k ≠ b ∧ k ≠ mb) x := (hx.sub (T := fun k => S k ∧ k ≠ b ∧ k ≠ mb) fun k _ hk => ⟨hk.1, hk.2.1, fun e => hk.2.2 (by rw [e]; exact c00)⟩).below' hB1
 have x0 : W1.cell? ⟨w.heap.size, 0, none⟩ = some (.int .i64 x.ino) := by rw [hW1]; go_simp
 have x1 : W1.cell? ⟨w.heap.size, 1, none⟩ = some (.int .i64 x.kind) := by rw [hW1]; go_simp
 have x2 : W1.cell? ⟨w.heap.size, 2, none⟩ = some (.int .i64 x.links) := by rw [hW1]; go_simp
 have x3 : W1.cell? ⟨w.heap.size, 3, none⟩ = some (.int .i64 x.opens) := by rw [hW1]; go_simp
 have x4 : W1.cell? ⟨w.heap.size, 4, none⟩ = some (.int .i64 x.size) := by rw [hW1]; go_simp
 have x5 : W1.cell? ⟨w.heap.size, 5, none⟩ = some (.slice x.pa x.ps.length x.pc) := by rw [hW1]; go_simp
 have hmd := hm.mod (F := none') (w' := W1.drew) (by exact modC (Mod.refl _ _)) id
 obtain ⟨W2, hu, hm2, hM2, hz2⟩ := MapAt.upz hmd keyInt Tryz.underlying171 x.ino x
 have hM2' : Mod (· = mb) W1 W2 := (show Mod (· = mb) W1 W1.drew by exact modC (Mod.refl _ _)).trans hM2
 have e0 := hM2'.at c0 (fun e => n1 e.symm)
 have y0 := hM2'.at x0 bm
 have y2 := hM2'.at x2 bm
 have y3 := hM2'.at x3 bm
 have hps : ∀ p ∈ Esch.set m x.ino x, PcOk W1 (fun k => S k ∧ k ≠ b ∧ k ≠ mb) p.2 := fun p hq => (set_mem hq).elim (fun e => by rw [e]; exact hxp) (hp p)
 have hP2 := tabPut (v := s.next) sb lt c0 c1 f1 sm n1 hM2' hm2 hps
 rw [set_mapv InC.val, hv] at hP2
 simp only [iV, inCV] at hu ⊢
 have d0 : W1.drew.cell? ⟨b, 0, none⟩ = some (.map (some mb)) := c0
 have z0 : W1.drew.cell? ⟨w.heap.size, 0, none⟩ = some (.int .i64 x.ino) := x0
 have z1 : W1.drew.cell? ⟨w.heap.size, 1, none⟩ = some (.int .i64 x.kind) := x1
 have z2 : W1.drew.cell? ⟨w.heap.size, 2, none⟩ = some (.int .i64 x.links) := x2
 have z3 : W1.drew.cell? ⟨w.heap.size, 3, none⟩ = some (.int .i64 x.opens) := x3
 have z4 : W1.drew.cell? ⟨w.heap.size, 4, none⟩ = some (.int .i64 x.size) := x4
 have z5 : W1.drew.cell? ⟨w.heap.size, 5, none⟩ = some (.slice x.pa x.ps.length x.pc) := x5
 have HW1 := Lib.hid hW1
 have HP2 := Lib.hid hP2
 have Hm1 := Lib.hid hm1
 have hwr : wrap64 (x.links + x.opens) = x.links + x.opens := by unfold wrap64; omega
 cases may
 · have hk : s.keep x.val false = { s with m := Esch.set s.m x.ino x.val } := by unfold TabS.keep; rw [if_neg (by simp)]; rfl
   rw [hk]
   obtain ⟨xi, xk, xl, xo, xs, pa, pc, lp⟩ := x
   simp only at *
   clear hm hmd hM2 hM2' hm2 hP2 hm1 hB1 hW1 hk x0 x1 x2 x3 x4 x5 hwr hb0 hb1 hb2 hb3 bx bm y0 y2 y3 hp hp0 hps hx hxp hv hm0
   exact mK80
 · by_cases hz : x.links + x.opens = 0
   rotate_left 1
   · have hk : s.keep x.val true = { s with m := Esch.set s.m x.ino x.val } := by unfold TabS.keep; rw [if_neg (fun h => hz h.2)]; rfl
     rw [hk]
     have hz2 : (x.links + x.opens == 0) = false := by simpa using hz
     obtain ⟨xi, xk, xl, xo, xs, pa, pc, lp⟩ := x
     simp only at *
     clear hm hmd hM2 hM2' hm2 hP2 hm1 hB1 hW1 hk x0 x1 x2 x3 x4 x5 hb0 hb1 hb2 hb3 bx bm hz hp hp0 hps hx hxp hv hm0
     exact mK80
   · have hk : s.keep x.val true = { s with m := del (Esch.set s.m x.ino x.val) x.ino } := by unfold TabS.keep; rw [if_pos ⟨rfl, hz⟩]; rfl
     rw [hk]
     have hz2 : (x.links + x.opens == 0) = true := by simpa using hz
     obtain ⟨W3, hd, hm3, hM3, -⟩ := MapAt.delz (hm2.mod (F := none') (w' := W2.drew) (by exact modC (Mod.refl _ _)) id) keyInt Tryz.underlying171 x.ino #[171, 3] 0 rfl
     have hM3' : Mod (· = mb) W1 W3 := hM2'.trans ((show Mod (· = mb) W2 W2.drew by exact modC (Mod.refl _ _)).trans' hM3 (fun _ _ h => h))
     have hP3 := tabPut (v := s.next) sb lt c0 c1 f1 sm n1 hM3' hm3 (fun p hq => hps p (del_mem hq))
     rw [del_mapv InC.val, set_mapv InC.val, hv] at hP3
     have HP3 := Lib.hid hP3
     simp only [iV] at hd
     have u0 : W2.drew.cell? ⟨b, 0, none⟩ = some (.map (some mb)) := e0
     have v0 : W2.drew.cell? ⟨w.heap.size, 0, none⟩ = some (.int .i64 x.ino) := y0
     obtain ⟨xi, xk, xl, xo, xs, pa, pc, lp⟩ := x
     simp only at *
     clear hm hmd hM2 hM2' hm2 hP2 hm1 hB1 hW1 hk x0 x1 x2 x3 x4 x5 hb0 hb1 hb2 hb3 bx bm hz hm3 hM3 hM3' hP3 hp hp0 hps hx hxp hv hm0
     go_enter Tryz.func188, Tryz.ntmps188
     go_wp2_with fail
     rw [← HW1.out]
     refine region_tail 7 (by kernel_rfl) (by kernel_rfl) (fun T hT K hK => ?_)
     simp only [List.take_succ_cons, List.take_zero]
     repeat still_step
     refine wpStill_nil (hK _ ?_)
     clear hK
     simp only [List.drop_succ_cons, List.drop_zero] at hT
     subst hT
     go_wp2_with fail
     refine region_tail 6 (by kernel_rfl) (by kernel_rfl) (fun T hT K hK => ?_)
     simp only [List.take_succ_cons, List.take_zero]
     repeat still_step
     refine wpStill_nil (hK _ ?_)
     clear hK
     simp only [List.drop_succ_cons, List.drop_zero] at hT
     subst hT
     go_wp2_with fail
     go_ret
     exact ⟨rfl, HP3.out.1, Hm1.out.trans HP3.out.2⟩
end Go.Proofs.YtajbooppoohplaaGreatDoor
/- package inode: Make, Link, Truncate -/
namespace Esch
/-- what Link and Truncate want of an inode -/
structure InS.ok (x : InS) : Prop where
  l0 : 0 ≤ x.links
  l1 : x.links ≤ 8
  o0 : 0 ≤ x.opens
  o1 : x.opens ≤ 128
end Esch
namespace Go.Proofs.YtajbooppoohplaaGreatDoor
open Go.RowKit Esch Go.Shelf

theorem MapAt.len' {P : Program} {K V : Type} {κ : K → Value} {ν : V → Value} {m : List (K × V)} {w : World} {b : Nat} {mt kt et : TypeId} (h : MpAt w b κ ν m) (ht : P.underlying mt = some (.map kt et)) (ty : TypeId) : (Builtin.len_ #[mt] ty #[.map (some b)]).run P w = .ok (.int .i64 m.length) w := by
 obtain ⟨es, c, h⟩ := h
 have hs := h.size
 simp [Builtin.len_, run_underlying ht, Esch.run_getObj_map h.block, goInt, Result.andThen, hs]
def MakePost (w : World) (b : Nat) (S : Nat → Prop) (r : (Int × Int) × TabS) (e : Ending) (w' : World) : Prop := e = .returned (.tuple #[.int .i64 r.1.1, .int .i64 r.1.2]) ∧ TabAt w' b S r.2 ∧ Mod S w w'
theorem inoMake_any (w : World) (b : Nat) (S : Nat → Prop) (s : TabS) (h : TabAt w b S s) (kind : Int) (hk : kind = 1 ∨ kind = 2) (hn0 : 0 ≤ s.next) :
    Calls Tryz.prog 213 #[.pointer (some ⟨b, 0, none⟩), .int .i64 kind] w (MakePost w b S (s.make kind)) := by
 have H := Lib.hid h
 obtain ⟨sb, lt, mb, m, c0, c1, f1, hm, sm, n1, hv, hp⟩ := h
 have hml : m.length = s.m.length := by rw [← hv, List.length_map]
 have hlen := MapAt.len' hm Tryz.underlying171
 rw [hml] at hlen
 have hmk : s.make kind = if 64 ≤ s.m.length ∨ 2147483647 ≤ s.next then ((0, 67), s) else ((s.next, 0), ⟨set s.m s.next ⟨s.next, kind, 0, 0, 0, []⟩, s.next + 1⟩) := by
  unfold TabS.make; rw [if_neg (by omega)]
 have q1 : ((kind != 1) && (kind != 2)) = false := by rcases hk with rfl | rfl <;> rfl
 by_cases h64 : 64 ≤ s.m.length
 · rw [hmk, if_pos (Or.inl h64)]
   have h64' : (64 : Int) ≤ s.m.length := by omega
   exact mK81
 have h64' : ¬ (64 : Int) ≤ s.m.length := by omega
 by_cases hnx : 2147483647 ≤ s.next
 · rw [hmk, if_pos (Or.inr hnx)]
   exact mK81
 rw [hmk, if_neg (by omega)]
 have hmd := hm.mod (F := none') (w' := w.drew) (by exact modC (Mod.refl _ _)) id
 obtain ⟨W2, hu, hm2, hM2, hz2⟩ := MapAt.upz hmd keyInt Tryz.underlying171 s.next ⟨s.next, kind, 0, 0, 0, none, 0, []⟩
 have hM2' : Mod (· = mb) w W2 := (show Mod (· = mb) w w.drew by exact modC (Mod.refl _ _)).trans hM2
 have e0 := hM2'.at c0 (fun e => n1 e.symm)
 have e1 := hM2'.at c1 (fun e => n1 e.symm)
 have g1 := fun j => (hM2'.frozen (p := ⟨b, j, none⟩) (cell_lt c1) (fun e => n1 e.symm)).trans (f1 j)
 have d0 : w.drew.cell? ⟨b, 0, none⟩ = some (.map (some mb)) := c0
 have d1 : w.drew.cell? ⟨b, 1, none⟩ = some (.int .i64 s.next) := c1
 have hwr : wrap64 (s.next + 1) = s.next + 1 := by unfold wrap64; omega
 have hwr2 : wrap64 (s.next + 1 - 1) = s.next := by unfold wrap64; omega
 obtain ⟨W3, hW3⟩ : ∃ W3, W3 = W2.setCell ⟨b, 1, none⟩ (.int .i64 (s.next + 1)) := ⟨_, rfl⟩
 have hT3 : TabAt W3 b S ⟨set s.m s.next ⟨s.next, kind, 0, 0, 0, []⟩, s.next + 1⟩ := by
  have hl2 := cell_lt e1
  have hlm := hm2.lt
  have hb : mb ≠ b := n1
  refine ⟨sb, fun k hk => ?_, mb, Esch.set m s.next ⟨s.next, kind, 0, 0, 0, none, 0, []⟩, ?_, ?_, ?_, ?_, sm, n1, ?_, ?_⟩
  · have := lt k hk
    have := hM2'.size
    rw [hW3]; simp only [World.size_setCell]; omega
  · rw [hW3]; go_simp
  · rw [hW3]; go_simp
  · rw [hW3]; go_simp
  · refine hm2.mod (F := (· = b)) ?_ hb
    rw [hW3]
    exact (Mod.refl (· = b) W2).setCellAt (fun _ => rfl) _
  · rw [set_mapv InC.val, hv]; rfl
  · intro p hq
    have hM23 : Mod (· = b) W2 W3 := by rw [hW3]; exact (Mod.refl (· = b) W2).setCellAt (fun _ => rfl) _
    have h1 : PcOk w (fun k => S k ∧ k ≠ b ∧ k ≠ mb) p.2 := (set_mem hq).elim (fun e => by rw [e]; exact pcOk0 _ _ rfl rfl rfl) (hp p)
    exact (h1.mod hM2' fun k hk _ e => hk.2.2 e).mod hM23 fun k hk _ e => hk.2.1 e
 have hM3 : Mod S w W3 := by
  rw [hW3]
  exact ((hM2'.mono (G := S) fun k _ hk => by have hk : k = mb := hk; rw [hk]; exact sm)).setCellAt (fun _ => sb) _
 have HT3 := Lib.hid hT3
 have HM3 := Lib.hid hM3
 have HW3 := Lib.hid hW3
 simp only [iV, inCV, List.length_nil] at hu
 generalize s.next = nx at *
 clear hm hmk h64 hmd hm2 hM2 hM2' hT3 hM3 hW3 n1 hz2 hml hv hp
 rcases hk with rfl | rfl
 all_goals
   go_enter Tryz.func213, Tryz.ntmps213
   go_wp2_with fail
   refine region_tail 14 (by kernel_rfl) (by kernel_rfl) (fun T hT K hK => ?_)
   simp only [List.take_succ_cons, List.take_zero]
   repeat still_step
   refine wpStill_nil (hK _ ?_)
   clear hK
   simp only [List.drop_succ_cons, List.drop_zero] at hT
   subst hT
   go_wp2_with fail
   go_ret2
   rw [← HW3.out]
   exact ⟨rfl, HT3.out, HM3.out⟩
theorem inoLink_any (w : World) (b : Nat) (S : Nat → Prop) (s : TabS) (h : TabAt w b S s) (i d : Int) (hd : d = 1 ∨ d = -1) (hok : (s.at i).ok) :
    Calls Tryz.prog 215 #[.pointer (some ⟨b, 0, none⟩), .int .i64 i, .int .i64 d] w (TabPost w b S (s.link i d)) := by
 have hg := inoGet_any w b S s h i
 obtain ⟨l0, l1, o0, o1⟩ := hok
 obtain ⟨r, hr⟩ : ∃ r, r = s.link i d := ⟨_, rfl⟩
 rw [← hr]
 unfold TabS.link at hr
 obtain ⟨⟨x0, x1, x2, x3, x4, ps⟩, hx⟩ : ∃ x, x = s.at i := ⟨_, rfl⟩
 rw [← hx] at hg hr l0 l1 o0 o1
 unfold IGetPost at hg
 simp only at l0 l1 o0 o1
 cases hh : s.has i
 · rw [hh] at hg hr
   rw [if_pos rfl] at hr
   subst hr
   clear hx hh l0 l1 o0 o1
   exact mK83
 rw [hh] at hg hr
 rw [if_neg (by simp)] at hr
 have q1 : ((d != 1) && (d != -1)) = false := by rcases hd with rfl | rfl <;> rfl
 by_cases h1 : i = 1
 · rw [if_pos (Or.inr h1)] at hr
   subst hr
   subst h1
   clear hx hh l0 l1 o0 o1
   rcases hd with rfl | rfl
   all_goals
     go_enter Tryz.func215, Tryz.ntmps215
     go_wp2_with fail
     refine hg.mono ?_
     clear hg
     rintro e W2 ⟨⟨y0, y1, y2, y3, y4, pa, pc, lp⟩, hcv, rfl, -, hB2⟩
     simp only [InC.val] at hcv
     cases hcv
     simp only [inCV]
     have hz := hB2.size
     have hT := h.below' hB2
     go_wp2_with fail
     go_ret
     exact ⟨rfl, hT.below' (by exact belC (Below.refl _ _)), Mod.of_below (by exact belC hB2)⟩
 rw [if_neg (by omega)] at hr
 have h1' : (i == 1) = false := by simpa using h1
 have hwr : wrap64 (x2 + d) = x2 + d := by unfold wrap64; omega
 by_cases hlo : x2 + d < 0
 · rw [if_pos (Or.inl hlo)] at hr
   subst hr
   obtain rfl : d = -1 := by omega
   clear hx hh h1 hd
   exact mK83
 by_cases hhi : 8 < x2 + d
 · rw [if_pos (Or.inr hhi)] at hr
   subst hr
   obtain rfl : d = 1 := by omega
   clear hx hh h1 hd
   exact mK83
 rw [if_neg (fun h => h.elim hlo hhi)] at hr
 subst hr
 have k0 : 0 ≤ x2 + d := by omega
 have k1 : x2 + d ≤ 1000 := by omega
 have k3 : x3 ≤ 1000 := by omega
 clear hx hh h1
 rcases hd with rfl | rfl
 · go_enter Tryz.func215, Tryz.ntmps215
   go_wp2_with fail
   refine hg.mono ?_
   clear hg
   rintro e W2 ⟨⟨y0, y1, y2, y3, y4, pa, pc, lp⟩, hcv, rfl, hP2, hB2⟩
   simp only [InC.val] at hcv
   cases hcv
   simp only [inCV]
   have hz := hB2.size
   have hT := Lib.hid (h.below' hB2)
   have HB2 := Lib.hid hB2
   have HP2 := Lib.hid hP2
   clear hB2 hP2
   go_wp2_with fail
   have hB3 : Below W2.heap.size W2 (W2.alloc (.cells #[.int .i64 x0, .int .i64 x1, .int .i64 (x2 + 1), .int .i64 x3, .int .i64 x4, .slice pa ps.length pc] 85)) := by exact belC (Below.refl _ _)
   have hT3 := hT.out.below' hB3
   have hP3 : PcOk (W2.alloc (.cells #[.int .i64 x0, .int .i64 x1, .int .i64 (x2 + 1), .int .i64 x3, .int .i64 x4, .slice pa ps.length pc] 85)) (fun k => S k ∧ NotMut (W2.alloc (.cells #[.int .i64 x0, .int .i64 x1, .int .i64 (x2 + 1), .int .i64 x3, .int .i64 x4, .slice pa ps.length pc] 85)) b k) ⟨x0, x1, (x2 + 1), x3, x4, pa, pc, ps⟩ := ((HP2.out.like (y := ⟨x0, x1, (x2 + 1), x3, x4, pa, pc, ps⟩) rfl rfl rfl).below' hB3).sub fun k _ hk => ⟨hk.1, hk.2.1, fun e => hk.2.2 (by rw [← e]; exact ((HB2.out.trans (hB3.mono HB2.out.size)).cell (p := ⟨b, 0, none⟩) (h.lt b h.sb)).symm)⟩
   have hM3 : Mod S w (W2.alloc (.cells #[.int .i64 x0, .int .i64 x1, .int .i64 (x2 + 1), .int .i64 x3, .int .i64 x4, .slice pa ps.length pc] 85)) := Mod.of_below (by exact belC HB2.out)
   have HM3 := Lib.hid hM3
   have hkp3 := inoKeep_any _ b S s hT3 ⟨x0, x1, (x2 + 1), x3, x4, pa, pc, ps⟩ hP3 (decide ((1 : Int) < 0)) k0 k1 o0 k3
   simp only [inCV, InC.val] at hkp3
   clear hT3 hM3 hB3 hP3
   refine hkp3.mono ?_
   clear hkp3
   rintro e W4 ⟨rfl, hT4, hM4⟩
   go_wp2_with fail
   go_ret
   exact ⟨rfl, hT4, HM3.out.trans hM4⟩
 · go_enter Tryz.func215, Tryz.ntmps215
   go_wp2_with fail
   refine hg.mono ?_
   clear hg
   rintro e W2 ⟨⟨y0, y1, y2, y3, y4, pa, pc, lp⟩, hcv, rfl, hP2, hB2⟩
   simp only [InC.val] at hcv
   cases hcv
   simp only [inCV]
   have hz := hB2.size
   have hT := Lib.hid (h.below' hB2)
   have HB2 := Lib.hid hB2
   have HP2 := Lib.hid hP2
   clear hB2 hP2
   go_wp2_with fail
   have hB3 : Below W2.heap.size W2 (W2.alloc (.cells #[.int .i64 x0, .int .i64 x1, .int .i64 (x2 + -1), .int .i64 x3, .int .i64 x4, .slice pa ps.length pc] 85)) := by exact belC (Below.refl _ _)
   have hT3 := hT.out.below' hB3
   have hP3 : PcOk (W2.alloc (.cells #[.int .i64 x0, .int .i64 x1, .int .i64 (x2 + -1), .int .i64 x3, .int .i64 x4, .slice pa ps.length pc] 85)) (fun k => S k ∧ NotMut (W2.alloc (.cells #[.int .i64 x0, .int .i64 x1, .int .i64 (x2 + -1), .int .i64 x3, .int .i64 x4, .slice pa ps.length pc] 85)) b k) ⟨x0, x1, (x2 + -1), x3, x4, pa, pc, ps⟩ := ((HP2.out.like (y := ⟨x0, x1, (x2 + -1), x3, x4, pa, pc, ps⟩) rfl rfl rfl).below' hB3).sub fun k _ hk => ⟨hk.1, hk.2.1, fun e => hk.2.2 (by rw [← e]; exact ((HB2.out.trans (hB3.mono HB2.out.size)).cell (p := ⟨b, 0, none⟩) (h.lt b h.sb)).symm)⟩
   have hM3 : Mod S w (W2.alloc (.cells #[.int .i64 x0, .int .i64 x1, .int .i64 (x2 + -1), .int .i64 x3, .int .i64 x4, .slice pa ps.length pc] 85)) := Mod.of_below (by exact belC HB2.out)
   have HM3 := Lib.hid hM3
   have hkp3 := inoKeep_any _ b S s hT3 ⟨x0, x1, (x2 + -1), x3, x4, pa, pc, ps⟩ hP3 (decide ((-1 : Int) < 0)) k0 k1 o0 k3
   simp only [inCV, InC.val] at hkp3
   clear hT3 hM3 hB3 hP3
   refine hkp3.mono ?_
   clear hkp3
   rintro e W4 ⟨rfl, hT4, hM4⟩
   go_wp2_with fail
   go_ret
   exact ⟨rfl, hT4, HM3.out.trans hM4⟩
end Go.Proofs.YtajbooppoohplaaGreatDoor
/- the tree, plain: what each call comes to; and what stays true -/
namespace Esch
open Go

structure TrS where
  t : TabS
  n : DirS
structure SpotS where
  dir : Int
  name : Nm
  ino : Int
inductive Res (α : Type) where
  | ok : α → Res α
  | err : Int → Res α
def Res.bind {α β : Type} (r : Res α) (f : α → Res β) : Res β := match r with
  | .ok a => f a
  | .err e => .err e
def stopB (e : Int) (b : Bool) : Res Unit := if b = true then .err e else .ok ()
def TrS.kind (s : TrS) (i : Int) : Int := (s.t.at i).kind
def TrS.res (s : TrS) : Int → List Nm → Res Int
  | d, [] => .ok d
  | d, n :: l => if s.kind d ≠ 1 then .err 62 else match s.n.find d n with
    | none => .err 60
    | some i => s.res i l
def TrS.resolve (s : TrS) (p : Nm) : Res Int := match namesOf p with
  | none => .err 11
  | some l => s.res 1 l
def TrS.place (s : TrS) (p : Nm) (ofRoot : Int) : Res SpotS := match namesOf p with
  | none => .err 11
  | some l => if l = [] then .err ofRoot else (s.res 1 l.dropLast).bind fun d => if s.kind d ≠ 1 then .err 62 else .ok ⟨d, l.getLastD [], (s.n.find d (l.getLastD [])).getD 0⟩
def TrS.add (s : TrS) (x : SpotS) (i : Int) : TrS := ⟨(s.t.link i 1).2, (s.n.add x.dir x.name i).2⟩
def TrS.drop (s : TrS) (x : SpotS) : TrS := ⟨(s.t.link x.ino (-1)).2, (s.n.drop x.dir x.name).2⟩
/-- a call's error, and the tree behind it -/
def Res.run (s : TrS) (r : Res TrS) : Int × TrS := match r with
  | .ok s' => (0, s')
  | .err e => (e, s)
def TrS.mk' (s : TrS) (p : Nm) (kind : Int) : Res TrS := (s.place p 61).bind fun x =>
  (stopB 61 (decide (x.ino ≠ 0))).bind fun _ => (stopB 67 (decide (64 ≤ s.n.count x.dir))).bind fun _ =>
  (stopB (s.t.make kind).1.2 (decide ((s.t.make kind).1.2 ≠ 0))).bind fun _ => .ok (TrS.add ⟨(s.t.make kind).2, s.n⟩ x (s.t.make kind).1.1)
def TrS.rmdir (s : TrS) (p : Nm) : Res TrS := (s.place p 70).bind fun x =>
  (stopB 60 (decide (x.ino = 0))).bind fun _ => (stopB 62 (decide (s.kind x.ino ≠ 1))).bind fun _ => (stopB 64 (decide (0 < s.n.count x.ino))).bind fun _ => .ok (s.drop x)
def TrS.unlink (s : TrS) (p : Nm) : Res TrS := (s.place p 70).bind fun x =>
  (stopB 60 (decide (x.ino = 0))).bind fun _ => (stopB 63 (decide (s.kind x.ino = 1))).bind fun _ => .ok (s.drop x)
def TrS.lnk (s : TrS) (p q : Nm) : Res TrS := (s.resolve p).bind fun i => (stopB 63 (decide (s.kind i = 1))).bind fun _ => (s.place q 61).bind fun x =>
  (stopB 61 (decide (x.ino ≠ 0))).bind fun _ => (stopB 66 (decide (8 ≤ (s.t.at i).links))).bind fun _ => (stopB 67 (decide (64 ≤ s.n.count x.dir))).bind fun _ => .ok (s.add x i)
def TrS.renS (s : TrS) (x y : SpotS) : TrS :=
  let s1 := if y.ino ≠ 0 then s.drop y else s
  ⟨s1.t, (((s1.n.drop x.dir x.name).2).add y.dir y.name x.ino).2⟩
def TrS.rename (s : TrS) (p q : Nm) : Res TrS := (s.place p 70).bind fun x =>
  (stopB 60 (decide (x.ino = 0))).bind fun _ => (s.place q 61).bind fun y => if x.ino = y.ino then .ok s else
  (stopB 65 (decide (s.kind x.ino = 1) && insideOf (namesOf q) (namesOf p))).bind fun _ =>
  (if y.ino = 0 then stopB 67 (decide (64 ≤ s.n.count y.dir) && decide (y.dir ≠ x.dir))
   else if s.kind x.ino = 1 then (stopB 62 (decide (s.kind y.ino ≠ 1))).bind fun _ => stopB 64 (decide (0 < s.n.count y.ino))
   else stopB 63 (decide (s.kind y.ino = 1))).bind fun _ => .ok (s.renS x y)
def TrS.trunc (s : TrS) (p : Nm) (n : Int) : Res TrS := (s.resolve p).bind fun i =>
  (stopB (s.t.cut i n).1 (decide ((s.t.cut i n).1 ≠ 0))).bind fun _ => .ok ⟨(s.t.cut i n).2, s.n⟩
def tr0 : TrS := ⟨⟨[(1, ⟨1, 1, 1, 0, 0, []⟩)], 2⟩, ⟨[], []⟩⟩

/-- counts are what they count -/
structure DirS.ok (s : DirS) : Prop where
  nd : (s.m.map (·.1)).Nodup
  cnt : ∀ d, s.count d = ((s.m.filter (fun e => e.1.1 == d)).length : Nat)
  le : ∀ d, s.count d ≤ 64
theorem DirS.ok.nn {s : DirS} (h : s.ok) (d : Int) : 0 ≤ s.count d := by rw [h.cnt d]; omega
theorem count_set (s : DirS) (m : List Ent) (d d' v : Int) : (⟨m, set s.c d v⟩ : DirS).count d' = if d = d' then v else s.count d' := by
 unfold DirS.count
 simp only [get_set]
 split <;> rfl
theorem DirS.ok.add {s : DirS} (h : s.ok) (d : Int) (n : Nm) (i : Int) : ((s.add d n i).2).ok := by
 unfold DirS.add
 split
 · exact h
 split
 · exact h
 split
 · exact h
 split
 · exact h
 · rename_i h1 h2 h3 h4
   have hg : get s.m (d, n) = none := by
    unfold DirS.find at h3
    cases e : get s.m (d, n)
    · rfl
    · rw [e] at h3; simp at h3
   refine ⟨set_nodup _ _ h.nd, fun d' => ?_, fun d' => ?_⟩
   · rw [count_set, set_miss _ _ _ (get_none.1 hg)]
     simp only [List.filter_append, List.length_append]
     by_cases e : d = d'
     · subst e
       have h5 : ([((d, n), i)].filter (fun e : Ent => e.1.1 == d)).length = 1 := by simp
       rw [if_pos rfl, h.cnt d, h5]
       rfl
     · have h5 : ([((d, n), i)].filter (fun e : Ent => e.1.1 == d')).length = 0 := by simp [e]
       rw [if_neg e, h.cnt d', h5]
       omega
   · rw [count_set]
     split
     · omega
     · exact h.le d'
theorem filter_del (m : List Ent) (k : DK) (i : Int) (hnd : (m.map (·.1)).Nodup) (hg : get m k = some i) (d : Int) : ((del m k).filter (fun e => e.1.1 == d)).length + (if k.1 = d then 1 else 0) = (m.filter (fun e => e.1.1 == d)).length := by
 obtain ⟨pre, post, rfl, hp⟩ := get_some hg
 have hpost : ∀ p ∈ post, p.1 ≠ k := by
  intro p hp' e
  rw [List.map_append, List.nodup_append] at hnd
  have := (List.nodup_cons.1 hnd.2.1).1
  exact this (List.mem_map.2 ⟨p, hp', e⟩)
 have hd : del (pre ++ (k, i) :: post) k = pre ++ post := by
  unfold del
  rw [List.filter_append, List.filter_cons]
  have e1 : pre.filter (fun p => decide (p.1 ≠ k)) = pre := List.filter_eq_self.2 fun p hp' => by simpa using hp p hp'
  have e2 : post.filter (fun p => decide (p.1 ≠ k)) = post := List.filter_eq_self.2 fun p hp' => by simpa using hpost p hp'
  rw [e1, e2]; simp
 rw [hd]
 simp only [List.filter_append, List.length_append, List.filter_cons]
 by_cases e : k.1 = d
 · have h1 : (k.1 == d) = true := by simpa using e
   simp only [h1, if_true, if_pos e, List.length_cons]
   rfl
 · have h1 : (k.1 == d) = false := by simpa using e
   simp only [h1, Bool.false_eq_true, if_false, if_neg e, Nat.add_zero]
theorem DirS.ok.drop {s : DirS} (h : s.ok) (d : Int) (n : Nm) : ((s.drop d n).2).ok := by
 unfold DirS.drop
 split
 · exact h
 · rename_i hf
   obtain ⟨i, hi⟩ : ∃ i, get s.m (d, n) = some i := by
    unfold DirS.find at hf
    cases e : get s.m (d, n)
    · exact absurd e hf
    · exact ⟨_, rfl⟩
   refine ⟨?_, fun d' => ?_, fun d' => ?_⟩
   · exact h.nd.sublist (List.filter_sublist.map _)
   · rw [count_set]
     have hf := filter_del s.m (d, n) i h.nd hi d'
     by_cases e : d = d'
     · subst e
       rw [if_pos rfl, h.cnt d]
       rw [if_pos rfl] at hf
       show _ = (((del s.m (d, n)).filter (fun e => e.1.1 == d)).length : Int)
       omega
     · rw [if_neg e, h.cnt d']
       rw [if_neg e] at hf
       show _ = (((del s.m (d, n)).filter (fun e => e.1.1 == d')).length : Int)
       omega
   · rw [count_set]
     split
     · have := h.le d; omega
     · exact h.le d'
structure TabS.ok (s : TabS) : Prop where
  x : ∀ i, (s.at i).ok
  next : 0 ≤ s.next
theorem in0_ok : in0.ok := ⟨by decide, by decide, by decide, by decide⟩
theorem at_set (s : TabS) (i j : Int) (x : InS) (nx : Int) : (⟨set s.m i x, nx⟩ : TabS).at j = if i = j then x else s.at j := by
 unfold TabS.at; simp only [get_set]; split <;> rfl
theorem at_del (s : TabS) (i j : Int) (nx : Int) : (⟨del s.m i, nx⟩ : TabS).at j = if i = j then in0 else s.at j := by
 unfold TabS.at; simp only [get_del]; split <;> rfl
theorem TabS.ok.keep {s : TabS} (h : s.ok) {x : InS} (hx : x.ok) (may : Bool) : (s.keep x may).ok := by
 unfold TabS.keep
 split
 · refine ⟨fun i => ?_, h.next⟩
   have e := at_del ⟨set s.m x.ino x, s.next⟩ x.ino i s.next
   show ((⟨del (set s.m x.ino x) x.ino, s.next⟩ : TabS).at i).ok
   rw [e, at_set]
   split
   · exact in0_ok
   · exact h.x i
 · refine ⟨fun i => ?_, h.next⟩
   show ((⟨set s.m x.ino x, s.next⟩ : TabS).at i).ok
   rw [at_set]
   split
   · exact hx
   · exact h.x i
theorem TabS.ok.link {s : TabS} (h : s.ok) (i d : Int) : ((s.link i d).2).ok := by
 unfold TabS.link
 split
 · exact h
 split
 · exact h
 split
 · exact h
 · rename_i h3
   have := h.x i
   exact h.keep (x := { s.at i with links := (s.at i).links + d }) ⟨by show 0 ≤ (s.at i).links + d; omega, by show (s.at i).links + d ≤ 8; omega, this.o0, this.o1⟩ _
theorem TabS.ok.cut {s : TabS} (h : s.ok) (i n : Int) : ((s.cut i n).2).ok := by
 unfold TabS.cut
 split
 · exact h
 split
 · exact h
 split
 · exact h
 · have := h.x i
   show (s.keep { s.at i with size := n, ps := cutP (s.at i).ps n } false).ok
   exact h.keep (x := { s.at i with size := n, ps := cutP (s.at i).ps n }) ⟨this.l0, this.l1, this.o0, this.o1⟩ _
theorem TabS.ok.make {s : TabS} (h : s.ok) (k : Int) : ((s.make k).2).ok := by
 unfold TabS.make
 split
 · exact h
 split
 · exact h
 · refine ⟨fun i => ?_, by have := h.next; show 0 ≤ s.next + 1; omega⟩
   rw [at_set]
   split
   · exact ⟨Int.le_refl 0, (by decide : (0 : Int) ≤ 8), Int.le_refl 0, (by decide : (0 : Int) ≤ 128)⟩
   · exact h.x i
structure TrS.ok (s : TrS) : Prop where
  t : s.t.ok
  n : s.n.ok
theorem TrS.ok.add {s : TrS} (h : s.ok) (x : SpotS) (i : Int) : (s.add x i).ok := ⟨h.t.link _ _, h.n.add _ _ _⟩
theorem TrS.ok.drop {s : TrS} (h : s.ok) (x : SpotS) : (s.drop x).ok := ⟨h.t.link _ _, h.n.drop _ _⟩
theorem TrS.ok.renS {s : TrS} (h : s.ok) (x y : SpotS) : (s.renS x y).ok := by
 unfold TrS.renS
 simp only
 split
 · exact ⟨(h.drop y).t, (((h.drop y).n).drop _ _).add _ _ _⟩
 · exact ⟨h.t, (h.n.drop _ _).add _ _ _⟩
theorem tr0_ok : tr0.ok := by
 refine ⟨⟨fun i => ?_, by decide⟩, ⟨List.nodup_nil, fun d => rfl, fun d => by show (0 : Int) ≤ 64; decide⟩⟩
 show (((get [((1 : Int), (⟨1, 1, 1, 0, 0, []⟩ : InS))] i).getD in0)).ok
 unfold get
 split
 · exact ⟨by decide, by decide, by decide, by decide⟩
 · exact in0_ok
end Esch
/- bytes of a file lie elsewhere, plain -/
namespace Esch
open Go
abbrev ByM := List (Int × (Int × Int))
/-- a part's bytes, so many of them -/
def putN (b : ByM) (x : PtS) : Nat → ByM
  | 0 => b
  | n + 1 => set (putN b x n) (x.off + n) (x.addr, x.at' + n)
def bytesP (l : List PtS) : ByM := l.foldl (fun b x => putN b x x.len.toNat) []
def shiftB (m : Mv) (to' : Int) (s : Int × Int) : Int × Int := if s.1 = m.1 ∧ m.2.1 ≤ s.2 ∧ s.2 < m.2.1 + m.2.2.1 then (to', s.2 - m.2.1 + m.2.2.2) else s
def moveB (m : Mv) (to' : Int) (b : ByM) : ByM := b.map fun e => (e.1, shiftB m to' e.2)
def onesP (b : ByM) (n : Nat) : List PtS := (List.range n).filterMap fun (off : Nat) => (get b (off : Int)).map fun s => ⟨off, 1, s.1, s.2⟩
def partsP (b : ByM) : List PtS × Int := fewP (joinP (onesP b 8192))
def addrB (n : Int) : Bool := decide (0 ≤ n) && decide (n < 16384)
def moveP (l : List PtS) (m : Mv) (to' : Int) : List PtS × Int :=
  if goodP l = false then ([], 11) else if addrB m.1 = false ∨ addrB to' = false ∨ wholeB m.2.1 m.2.2.1 1024 = false ∨ wholeB m.2.2.2 m.2.2.1 1024 = false then ([], 1)
  else partsP (moveB m to' (bytesP l))
/-- moves one behind the other, as long as none errs -/
def movesP (to' : Int) : List PtS → List Mv → List PtS × Int
  | l, [] => (l, 0)
  | l, m :: ms => if (moveP l m to').2 ≠ 0 then moveP l m to' else movesP to' (moveP l m to').1 ms
def TabS.move (s : TabS) (i : Int) (l : List Mv) (to' : Int) : Int × TabS :=
  if s.has i = false then (60, s) else if (s.at i).kind = 1 then (63, s)
  else if (movesP to' (s.at i).ps l).2 ≠ 0 then ((if (movesP to' (s.at i).ps l).2 = 3 then 67 else (movesP to' (s.at i).ps l).2), s)
  else (0, s.keep { s.at i with ps := (movesP to' (s.at i).ps l).1 } false)
theorem TabS.ok.move {s : TabS} (h : s.ok) (i : Int) (l : List Mv) (t : Int) : ((s.move i l t).2).ok := by
 unfold TabS.move
 repeat' split
 all_goals try exact h
 have := h.x i
 show (s.keep { s.at i with ps := (movesP t (s.at i).ps l).1 } false).ok
 refine TabS.ok.keep h ?_ _
 exact ⟨this.l0, this.l1, this.o0, this.o1⟩
theorem TabS.ok.write {s : TabS} (h : s.ok) (i o n a : Int) : ((s.write i o n a).2).ok := by
 unfold TabS.write
 repeat' split
 all_goals try exact h
 have := h.x i
 show (s.keep { s.at i with size := max (s.at i).size (o + n), ps := (putP (s.at i).ps ⟨o, n, a, 0⟩).1 } false).ok
 refine TabS.ok.keep h ?_ _
 exact ⟨this.l0, this.l1, this.o0, this.o1⟩
theorem TabS.ok.opn {s : TabS} (h : s.ok) (i d : Int) : ((s.opn i d).2).ok := by
 unfold TabS.opn
 repeat' split
 all_goals try exact h
 rename_i h4
 have := h.x i
 refine TabS.ok.keep h ?_ _
 exact ⟨this.l0, this.l1, by show 0 ≤ (s.at i).opens + d; omega, by show (s.at i).opens + d ≤ 128; omega⟩
end Esch
/- the counts stay what they count, whatever is called -/
namespace Esch
open Go
def Res.all {α : Type} (P : α → Prop) (r : Res α) : Prop := match r with
  | .ok a => P a
  | .err _ => True
theorem Res.all_bind {α β : Type} {P : β → Prop} (r : Res α) (f : α → Res β) (h : ∀ a, r = .ok a → (f a).all P) : (r.bind f).all P := by
 cases r with
 | ok a => exact h a rfl
 | err e => trivial
theorem run_all {P : TrS → Prop} {s : TrS} (h : P s) {r : Res TrS} (hr : r.all P) : P (r.run s).2 := by
 cases r with
 | ok a => exact hr
 | err e => exact h
theorem TrS.ok.mk' {s : TrS} (h : s.ok) (p : Nm) (k : Int) : (((s.mk' p k).run s).2).ok := by
 refine run_all h ?_
 unfold TrS.mk'
 refine Res.all_bind _ _ fun x _ => Res.all_bind _ _ fun _ _ => Res.all_bind _ _ fun _ _ => Res.all_bind _ _ fun _ _ => ?_
 exact TrS.ok.add (s := ⟨(s.t.make k).2, s.n⟩) ⟨h.t.make k, h.n⟩ x _
theorem TrS.ok.rmdir {s : TrS} (h : s.ok) (p : Nm) : (((s.rmdir p).run s).2).ok := by
 refine run_all h ?_
 unfold TrS.rmdir
 refine Res.all_bind _ _ fun x _ => Res.all_bind _ _ fun _ _ => Res.all_bind _ _ fun _ _ => Res.all_bind _ _ fun _ _ => ?_
 exact h.drop x
theorem TrS.ok.unlink {s : TrS} (h : s.ok) (p : Nm) : (((s.unlink p).run s).2).ok := by
 refine run_all h ?_
 unfold TrS.unlink
 refine Res.all_bind _ _ fun x _ => Res.all_bind _ _ fun _ _ => Res.all_bind _ _ fun _ _ => ?_
 exact h.drop x
theorem TrS.ok.lnk {s : TrS} (h : s.ok) (p q : Nm) : (((s.lnk p q).run s).2).ok := by
 refine run_all h ?_
 unfold TrS.lnk
 refine Res.all_bind _ _ fun i _ => Res.all_bind _ _ fun _ _ => Res.all_bind _ _ fun x _ => Res.all_bind _ _ fun _ _ => Res.all_bind _ _ fun _ _ => Res.all_bind _ _ fun _ _ => ?_
 exact h.add x i
theorem TrS.ok.rename {s : TrS} (h : s.ok) (p q : Nm) : (((s.rename p q).run s).2).ok := by
 refine run_all h ?_
 unfold TrS.rename
 refine Res.all_bind _ _ fun x _ => Res.all_bind _ _ fun _ _ => Res.all_bind _ _ fun y _ => ?_
 split
 · exact h
 · refine Res.all_bind _ _ fun _ _ => Res.all_bind _ _ fun _ _ => ?_
   exact h.renS x y
theorem TrS.ok.trunc {s : TrS} (h : s.ok) (p : Nm) (n : Int) : (((s.trunc p n).run s).2).ok := by
 refine run_all h ?_
 unfold TrS.trunc
 refine Res.all_bind _ _ fun i _ => Res.all_bind _ _ fun _ _ => ?_
 exact ⟨h.t.cut i n, h.n⟩
end Esch
