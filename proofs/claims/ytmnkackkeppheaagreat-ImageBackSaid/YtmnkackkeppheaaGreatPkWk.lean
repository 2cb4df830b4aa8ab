import Derived.Test.YtmnkackkeppheaaGreatImEnc
import Derived.Test.YtmnkackkeppheaaGreatImDec
import Derived.Deep.OwnRows
import Derived.Test.YtmnkackkeppheaaGreatStFill
/- image.Pieces and the document's -/
namespace Esch
open Go Go.RowKit
def PcBad (n : Nat) (c q : Int) : Prop := n < 1 ∨ 65536 < n ∨ c < 0 ∨ 8 ≤ c ∨ q < 1 ∨ 1073741824 < q
def pcRow (s : ByteArray) (c q : Int) (i : Nat) : OpS := ⟨c, q + i, 14, [], [], s.size, 0, (1024 * i : Nat), s.extract (1024 * i) (min (1024 * i + 1024) s.size), 0, 0, none, 0, 0⟩
def pcRows (s : ByteArray) (c q : Int) (n : Nat) : List OpS := (List.range n).map (pcRow s c q)
theorem pcRows_succ (s : ByteArray) (c q : Int) (n : Nat) : pcRows s c q (n + 1) = pcRows s c q n ++ [pcRow s c q n] := by simp [pcRows, List.range_succ]
def PcsPost (w : World) (s : ByteArray) (c q : Int) (e : Ending) (w' : World) : Prop :=
  Below w.heap.size w w' ∧ ((PcBad s.size c q ∧ e = .returned (.tuple #[.slice none 0 0, .int .i64 1])) ∨
    (¬ PcBad s.size c q ∧ ∃ a cap, e = .returned (.tuple #[.slice a ((s.size + 1023) / 1024) cap, .int .i64 0]) ∧ GRowAt w' (fun k => w.heap.size ≤ k) 12 ((s.size + 1023) / 1024) cap a ((pcRows s c q ((s.size + 1023) / 1024)).flatMap OpS.cells)))
def PcRel (w : World) (s : ByteArray) (c q : Int) (g : Nat) (s8 s9 : Value) (wr : World) : Prop :=
  ∃ (i : Nat) (a : Option Addr) (cap : Nat), g = (s.size + 1023) / 1024 - i ∧ i ≤ (s.size + 1023) / 1024 ∧ s8 = .slice a i cap ∧ s9 = .int .i64 (1024 * i : Nat) ∧ GRowAt wr (fun k => w.heap.size ≤ k) 12 i cap a ((pcRows s c q i).flatMap OpS.cells) ∧ Below w.heap.size w wr
theorem src_op {P : Program} {W : World} (tx e' : TypeId) (hk : P.underlying tx = some (.slice e')) (b : Nat) (x : OpS) (t : TypeId) (hb : W.heap[b]? = some (.cells x.cells.toArray t)) (c : Nat) : Src P 12 tx (.slice (some ⟨b, 0, none⟩) 1 c) 1 x.cells W := by
  refine Src.ofSlice W hk _ 1 c x.cells rfl (fun j u hu => ?_) (fun u hu => ?_)
  · rw [addr_add, Nat.zero_add]
    simp [World.cell?, hb, hu]
  · simp only [OpS.cells, List.mem_cons, List.not_mem_nil, or_false] at hu
    rcases hu with rfl | rfl | rfl | rfl | rfl | rfl | rfl | rfl | rfl | rfl | rfl | rfl <;> rfl
end Esch
namespace Go.Proofs.YtmnkackkeppheaaGreat
open Go.RowKit Esch

theorem Tryz.infoOp26 : (Tryz.prog.info? 58).map (fun i => (i.zero, i.size, i.bytes)) = some (some (.agg #[.int .i64 0, .int .i64 0, .int .i64 0, .string ⟨#[]⟩, .string ⟨#[]⟩, .int .i64 0, .int .i64 0, .int .i64 0, .string ⟨#[]⟩, .int .i64 0, .int .i64 0, .slice none 0 0]), 12, 136) := by kernel_rfl
set_option maxRecDepth 100000 in
set_option maxHeartbeats 4000000 in
theorem imgPieces_any (w : World) (s : ByteArray) (c q : Int) (hs : s.size < 9223372036854775807) : Calls Tryz.prog 16 #[.string s, .int .i64 c, .int .i64 q] w (PcsPost w s c q) := by
  obtain ⟨j0, hi, hy0, hy1, hy2⟩ := info_parts Tryz.infoOp26
  by_cases hb : PcBad s.size c q
  · have hp : ∀ w', w' = w → PcsPost w s c q (.returned (.tuple #[.slice none 0 0, .int .i64 1])) w' := by rintro w' rfl; exact ⟨Below.refl _ _, Or.inl ⟨hb, rfl⟩⟩
    have HP := Lib.hid hp
    clear hp
    unfold PcBad at hb
    go_enter Tryz.func16, Tryz.ntmps16
    by_cases h1 : s.size < 1
    · clear hb
      go_wp2_with fail
      go_ret2
      exact HP.out _ rfl
    by_cases h2 : 65536 < s.size
    · clear hb
      go_wp2_with fail
      go_ret2
      exact HP.out _ rfl
    by_cases h3 : c < 0
    · clear hb
      go_wp2_with fail
      go_ret2
      exact HP.out _ rfl
    by_cases h4 : 8 ≤ c
    · clear hb
      go_wp2_with fail
      go_ret2
      exact HP.out _ rfl
    by_cases h5 : q < 1
    · clear hb
      go_wp2_with fail
      go_ret2
      exact HP.out _ rfl
    have h6 : 1073741824 < q := by omega
    clear hb
    go_wp2_with fail
    go_ret2
    exact HP.out _ rfl
  · have HNB := Lib.hid hb
    unfold PcBad at hb
    have h1 : 1 ≤ s.size := by omega
    have h2 : s.size ≤ 65536 := by omega
    have h3 : 0 ≤ c := by omega
    have h4 : c < 8 := by omega
    have h5 : 1 ≤ q := by omega
    have h6 : q ≤ 1073741824 := by omega
    clear hb
    go_enter Tryz.func16, Tryz.ntmps16
    go_wp2_with fail
    go_loopg [8, 9] ((s.size + 1023) / 1024) (fun g s8 s9 wr => PcRel w s c q g s8 s9 wr)
    case atStart => exact ⟨0, none, 0, rfl, Nat.zero_le _, rfl, rfl, GRowAt.nil _ _ _ _, Below.refl _ _⟩
    case round =>
      obtain ⟨i, ao, cap, rfl, hil, rfl, rfl, hG, hB⟩ := hrel
      have HG := Lib.hid hG
      have HB := Lib.hid hB
      clear hG hB
      by_cases hlt : 1024 * i < s.size
      · have hi64 : i < 64 := by omega
        have hrow : (pcRow s c q i).cells = [.int .i64 c, .int .i64 (q + (i : Int)), .int .i64 14, .string ⟨#[]⟩, .string ⟨#[]⟩, .int .i64 (s.size : Int), .int .i64 0, .int .i64 (1024 * (i : Int)), .string (s.extract (1024 * i) (min (1024 * (i : Int) + 1024) (s.size : Int)).toNat), .int .i64 0, .int .i64 0, .slice none 0 0] := by
          rw [show (min (1024 * (i : Int) + 1024) (s.size : Int)).toNat = min (1024 * i + 1024) s.size by omega]
          simp [pcRow, OpS.cells, bs]
        obtain ⟨L, hL⟩ : ∃ L : List Value, L = [.int .i64 c, .int .i64 (q + (i : Int)), .int .i64 14, .string ⟨#[]⟩, .string ⟨#[]⟩, .int .i64 (s.size : Int), .int .i64 0, .int .i64 (1024 * (i : Int)), .string (s.extract (1024 * i) (min (1024 * (i : Int) + 1024) (s.size : Int)).toNat), .int .i64 0, .int .i64 0, .slice none 0 0] := ⟨_, rfl⟩
        rw [← hL] at hrow
        obtain ⟨W7, hW7⟩ : ∃ W7, W7 = wr.alloc (.cells L.toArray 58) := ⟨_, rfl⟩
        have hB7 : Below wr.heap.size wr W7 := by rw [hW7]; exact (Below.refl _ wr).alloc (Nat.le_refl _) _
        have hsrc : W7.heap[wr.heap.size]? = some (.cells L.toArray 58) := by rw [hW7]; exact heap_alloc_new _ _
        have hz7 : W7.heap.size = wr.heap.size + 1 := by rw [hW7]; simp
        have hG7 := HG.out.mod (F := none') (Mod.of_below hB7) (fun _ _ _ => id)
        have hle : (1024 * (i : Int)) ≤ min (1024 * (i : Int) + 1024) (s.size : Int) := by omega
        rw [← hrow] at hsrc
        have hS := src_op (P := Tryz.prog) 52 58 Tryz.underlying52 _ _ _ hsrc 1
        rw [hrow, hW7, hL] at hS
        rw [hW7, hL] at hG7
        have HB7 := Lib.hid hB7
        have HZ7 := Lib.hid hz7
        have HG7 := Lib.hid hG7
        have HS := Lib.hid hS
        have HW7 := Lib.hid hW7
        have HL := Lib.hid hL
        have HROW := Lib.hid hrow
        clear hB7 hsrc hG7 hW7 hS hL hrow hz7
        go_wp2_with (at_builtin; refine wpList_append_g (by rfl) (.tmp 40) (.tmp 58) 52 52 (by rfl) 58 j0 _ 136 Tryz.underlying52 hi hy0 hy1 hy2 (by rfl) (by rfl) HG7.out _ 1 _ (by rfl) HS.out (by omega) (by omega) ?_; intro a6 cap6 w6 hg6 hM6 hz6)
        have hB6 : Below w.heap.size w w6 := by
          rw [show wr.alloc (.cells #[.int .i64 c, .int .i64 (q + (i : Int)), .int .i64 14, .string ⟨#[]⟩, .string ⟨#[]⟩, .int .i64 (s.size : Int), .int .i64 0, .int .i64 (1024 * (i : Int)), .string (s.extract (1024 * i) (min (1024 * (i : Int) + 1024) (s.size : Int)).toNat), .int .i64 0, .int .i64 0, .slice none 0 0] 58) = W7 from by rw [HW7.out, HL.out]] at hM6
          have z := HB.out.size
          exact (HB.out.trans (HB7.out.mono z)).trans (hM6.below_at (Nat.le_trans z HB7.out.size) (fun k hk e => by have e : w.heap.size ≤ k := e; omega))
        have HB6 := Lib.hid hB6
        have hG6 : GRowAt w6 (fun k => w.heap.size ≤ k) 12 (i + 1) cap6 a6 ((pcRows s c q (i + 1)).flatMap OpS.cells) := by
          rw [pcRows_succ, List.flatMap_append, show ([pcRow s c q i] : List OpS).flatMap OpS.cells = (pcRow s c q i).cells from List.append_nil _, HROW.out, HL.out]
          refine hg6.sub (fun k hk h => h.elim id (fun e => ?_))
          have z := HB.out.size
          have z7 := HZ7.out
          rw [HW7.out, HL.out] at z7
          omega
        have HG6 := Lib.hid hG6
        clear hg6 hM6 hz6 hB6 hG6
        have hms : (s.size + 1023) / 1024 - (i + 1) < (s.size + 1023) / 1024 - i := by omega
        have hI : i + 1 ≤ (s.size + 1023) / 1024 := by omega
        have HI := Lib.hid hI
        clear hI
        go_wp2_with fail
        go_roundg ((s.size + 1023) / 1024 - (i + 1))
        case measure => exact hms
        case rel => exact ⟨i + 1, a6, cap6, rfl, HI.out, rfl, by rw [show ((1024 * (i + 1) : Nat) : Int) = 1024 * (i : Int) + 1024 by omega], HG6.out, HB6.out⟩
      · obtain rfl : i = (s.size + 1023) / 1024 := by omega
        go_wp2_with fail
        go_ret2
        exact ⟨HB.out, Or.inr ⟨HNB.out, ao, cap, rfl, HG.out⟩⟩
end Go.Proofs.YtmnkackkeppheaaGreat
/- what the image laws wake their program by: plain, and keep.Zeros -/
namespace Go.Proofs.YtmnkackkeppheaaGreat
open Go.RowKit Esch Go.Shelf
def txL : List UInt8 := [0, 0, 1, 0, 0, 0, 1, 1, 1, 0, 0, 0, 0, 0, 0, 0, 2, 0, 0, 0] ++ List.replicate 128 0
def tx0 : ByteArray := ⟨txL.toArray⟩
def v0 : DVal := ⟨0, [rootS], 2, [], [], List.replicate 8 ((0, 0), (0, 0))⟩
def xE : DmC := ⟨0, none, 0, [⟨1, 1, 1, 0, 0, none, 0, []⟩], 2, none, 0, [], none, 0, [], fun _ => 0, fun _ => 0, fun _ => 0⟩
theorem encXE : encP 0 xE = (tx0, 0) := by kernel_rfl
theorem enc_new (ia : Option Addr) (ic : Nat) (c : InC) (h : c.val = rootS) (na : Option Addr) (nc : Nat) (ha : Option Addr) (hc : Nat) : encP 0 (dnC ia ic c na nc ha hc) = (tx0, 0) := by
  obtain ⟨a, b, d, e, f, g, i, j⟩ := c
  simp only [InC.val, rootS, InS.mk.injEq] at h
  obtain ⟨rfl, rfl, rfl, rfl, rfl, rfl⟩ := h
  exact encXE
def ofL (l : List UInt8) : USt := (⟨l.toArray⟩, false)
theorem rNum_l (n : Nat) (l : List UInt8) (v : Nat) (h : n ≤ l.length) (hv : getB (l.take n) = v) (hs : v < 9223372036854775808) : rNum n (ofL l) = some (v, ofL (l.drop n)) := by
  have hz : (⟨l.toArray⟩ : ByteArray).size = l.length := rfl
  have hc : cutB ⟨l.toArray⟩ 0 n = l.take n := by simp [cutB]
  have he : (⟨l.toArray⟩ : ByteArray).extract n l.length = ⟨(l.drop n).toArray⟩ := by
    rw [ByteArray.ext_iff, ByteArray.data_extract]
    simp [List.take_of_length_le]
  unfold rNum uLeft unNum ofL
  simp only [Bool.false_eq_true, if_false, hz, hc, hv, false_or]
  rw [if_neg (by omega), if_neg (by omega), if_neg (by omega), he]
theorem getB_z (n : Nat) : getB (List.replicate n 0) = 0 := by
  induction n with
  | zero => rfl
  | succ n ih => rw [List.replicate_succ', getB_snoc, ih]; rfl
theorem rNum_z (n k : Nat) : rNum n (ofL (List.replicate (n + k) 0)) = some (0, ofL (List.replicate k 0)) := by
  rw [rNum_l n _ 0 (by simp) (by rw [List.take_replicate]; exact getB_z _) (by decide), List.drop_replicate, Nat.add_sub_cancel_left]
theorem rRow_z (k : Nat) : rRow (ofL (List.replicate (16 + k) 0)) = some (((0, 0), (0, 0)), ofL (List.replicate k 0)) := by
  have e1 := rNum_z 8 (8 + k)
  have e2 := rNum_z 4 (4 + k)
  have e3 := rNum_z 2 (2 + k)
  have e4 := rNum_z 2 k
  rw [← Nat.add_assoc] at e1 e2 e3
  simp only [rRow, e1, e2, e3, e4, Option.bind_some]
  rfl
theorem rRows_z (n : Nat) : rRep rRow n (ofL (List.replicate (16 * n) 0)) = some (List.replicate n ((0, 0), (0, 0)), ofL []) := by
  induction n with
  | zero => rfl
  | succ n ih =>
    rw [show 16 * (n + 1) = 16 + 16 * n by omega]
    simp only [rRep, rRow_z, ih, Option.bind_some]
    rfl
theorem dec_tx0 : rDump (tx0, false) = some (v0, (⟨#[]⟩, false)) := by
  obtain ⟨Z, hZ⟩ : ∃ Z : List UInt8, Z = List.replicate (16 * 8) 0 := ⟨_, rfl⟩
  have e1 : ∀ (a : UInt8) (r : List UInt8), rNum 1 (ofL (a :: r)) = some (a.toNat, ofL r) := fun a r => rNum_l 1 (a :: r) a.toNat (by simp) (by simp [getB]) (by have := a.toNat_lt; omega)
  have e2 : ∀ r : List UInt8, rNum 2 (ofL (0 :: 0 :: r)) = some (0, ofL r) := fun r => rNum_l 2 (0 :: 0 :: r) 0 (by simp) (by rfl) (by decide)
  have e4 : ∀ (a : UInt8) (r : List UInt8), rNum 4 (ofL (0 :: 0 :: 0 :: a :: r)) = some (a.toNat, ofL r) := fun a r => rNum_l 4 (0 :: 0 :: 0 :: a :: r) a.toNat (by simp) (by simp [getB]) (by have := a.toNat_lt; omega)
  have e4' : ∀ (a : UInt8) (r : List UInt8), rNum 4 (ofL (a :: 0 :: 0 :: 0 :: r)) = some (a.toNat * 16777216, ofL r) := fun a r => rNum_l 4 (a :: 0 :: 0 :: 0 :: r) (a.toNat * 16777216) (by simp) (by simp [getB, Nat.mul_assoc]) (by have := a.toNat_lt; omega)
  have hT : (tx0, false) = ofL (0 :: 0 :: 1 :: 0 :: 0 :: 0 :: 1 :: 1 :: 1 :: 0 :: 0 :: 0 :: 0 :: 0 :: 0 :: 0 :: 2 :: 0 :: 0 :: 0 :: Z) := by rw [hZ]; rfl
  have e17 := rRows_z 8
  rw [← hZ] at e17
  have e14 : ∀ r : List UInt8, rRep rIno 1 (ofL (0 :: 0 :: 0 :: 1 :: 1 :: 1 :: 0 :: 0 :: 0 :: 0 :: r)) = some ([rootS], ofL r) := fun r => by
    simp only [rRep, rIno, e1, e2, e4, Option.bind_some]
    rfl
  have e15 : ∀ s, rRep rEnt 0 s = some ([], s) := fun _ => rfl
  have e16 : ∀ s, rRep rHd 0 s = some ([], s) := fun _ => rfl
  have u0 : (0 : UInt8).toNat = 0 := rfl
  have u1 : (1 : UInt8).toNat = 1 := rfl
  have u2 : (2 : UInt8).toNat = 2 := rfl
  rw [hT]
  simp only [rDump, e1, e2, e4, e14, e15, e16, e17, u0, u1, u2, Option.bind_some]
  rfl
theorem fit_new (ia : Option Addr) (ic : Nat) (c : InC) (h : c.val = rootS) (na : Option Addr) (nc : Nat) (ha : Option Addr) (hc : Nat) : DmFit (dnC ia ic c na nc ha hc) := by
  obtain ⟨a, b, d, e, f, g, i, j⟩ := c
  simp only [InC.val, rootS, InS.mk.injEq] at h
  obtain ⟨rfl, rfl, rfl, rfl, rfl, rfl⟩ := h
  constructor <;> simp [dnC, I64]
theorem is_v0 {x : DmC} (h : DmIs x v0) : ∃ c, c.val = rootS ∧ x.ik = [c] ∧ x.cells = dn x.ia x.ic x.na x.nc x.ha x.hc := by
  obtain ⟨h1, h2, h3, h4, h5, -, h6⟩ := h
  obtain ⟨xn, ia, ic, ik, xm, na, nc, nl, ha, hc, hl, xl, xs, xr⟩ := x
  simp only [v0] at h1 h2 h3 h4 h5
  subst h1 h3 h4 h5
  obtain ⟨c, rfl⟩ : ∃ c, ik = [c] := List.length_eq_one_iff.1 (by have := congrArg List.length h2; simpa using this)
  refine ⟨c, by simpa using h2, rfl, ?_⟩
  have e0 := h6 0 (by decide)
  have e1 := h6 1 (by decide)
  have e2 := h6 2 (by decide)
  have e3 := h6 3 (by decide)
  have e4 := h6 4 (by decide)
  have e5 := h6 5 (by decide)
  have e6 := h6 6 (by decide)
  have e7 := h6 7 (by decide)
  clear h6
  simp only [v0, List.replicate, List.getD_cons_zero, List.getD_cons_succ] at e0 e1 e2 e3 e4 e5 e6 e7
  simp only [Nat.reduceMul, Nat.reduceAdd] at e0 e1 e2 e3 e4 e5 e6 e7
  simp [DmC.cells, dn, dmZ, List.replicate, e0, e1, e2, e3, e4, e5, e6, e7]

attribute [irreducible] tx0 v0
theorem Tryz.infoU8k : (Tryz.prog.info? 5).map (fun i => (i.zero, i.size, i.bytes)) = some (some (.int .u8 0), 1, 1) := by kernel_rfl
theorem make_zs (W : World) : (Instr.makeSlice 139 (.int .i64 2500) (.int .i64 2500)).run Tryz.prog W = .ok (.slice (some ⟨W.heap.size, 0, none⟩) 2500 2500) (W.alloc (.cells (madeCells #[.int .u8 0] 2500) 5)) := by
  obtain ⟨i, hi, hzz⟩ := Option.map_eq_some_iff.1 Tryz.infoU8k
  simp only [Prod.mk.injEq] at hzz
  obtain ⟨hz, hs, hb⟩ := hzz
  have hr := run_make (P := Tryz.prog) W 139 5 i (.int .u8 0) Tryz.underlying139 hi hz .i64 .i64 2500 2500 (by omega) (by omega) (by rw [hb]; omega) (by omega)
  rw [hs] at hr
  exact hr
theorem conv_zs (W : World) (nb : Nat) (hc : ∀ i, i < 2500 → W.cell? ⟨nb, i, none⟩ = some (.int .u8 0)) : (Go.convert 139 9 (.slice (some ⟨nb, 0, none⟩) 2500 2500)).run Tryz.prog W = .ok (.string (strOfNums (List.replicate 2500 0))) W :=
  run_convert_bytes_arg W _ 5 Tryz.underlying139 Tryz.underlying5 nb 0 2500 2500 (List.replicate 2500 0) (by rw [List.length_replicate]) (fun i hi => by
    rw [Nat.zero_add, hc i (by simpa using hi)]
    have : (List.replicate 2500 (0 : Int)).getD i 0 = 0 := by
      rw [List.getD_eq_getElem?_getD, List.getElem?_replicate]
      split <;> rfl
    rw [this]) _ Tryz.underlying9
set_option maxRecDepth 100000 in
set_option maxHeartbeats 4000000 in
theorem keepZeros_any (w : World) : Calls Tryz.prog 17 #[.int .i64 2500] w fun e w' => e = .returned (.string (strOfNums (List.replicate 2500 0))) ∧ Below w.heap.size w w' := by
  have hmk := make_zs
  have hcv := conv_zs (w.alloc (.cells (madeCells #[.int .u8 0] 2500) 5)) w.heap.size (fun i hi => by
    exact (World.rowIs_made w (.int .u8 0) 2500 5).cell hi)
  go_enter Tryz.func17, Tryz.ntmps17
  go_wp2_with fail
  go_ret
  exact ⟨rfl, by exact belC (Below.refl _ _)⟩
end Go.Proofs.YtmnkackkeppheaaGreat
/- what the image laws wake their program by -/
namespace Go.Proofs.YtmnkackkeppheaaGreat
open Go.RowKit Esch Go.Shelf

@[irreducible] def zsL : ByteArray := strOfNums (List.replicate 2500 0)
theorem zsL_size : zsL.size = 2500 := by unfold zsL; rw [strOfNums_size, List.length_replicate]
theorem tx0_size : tx0.size = 148 := by unfold tx0; rfl
theorem tx0_nine : tx0.extract 0 9 = ⟨#[0, 0, 1, 0, 0, 0, 1, 1, 1]⟩ := by
  unfold tx0
  rw [ByteArray.ext_iff, ByteArray.data_extract]
  show (txL.toArray).extract 0 9 = _
  rw [List.extract_toArray]
  rfl
theorem pc_off (z : ByteArray) : ((pcRows z 3 7 3).flatMap OpS.cells)[24 + 7]? = some (.int .i64 2048) := by
  have h : ((pcRows z 3 7 3).flatMap OpS.cells)[24 + 7]? = some (.int .i64 ((1024 * 2 : Nat) : Int)) := rfl
  rw [h]; rfl
theorem pc_dat (z : ByteArray) : ((pcRows z 3 7 3).flatMap OpS.cells)[24 + 8]? = some (.string (z.extract (1024 * 2) (min (1024 * 2 + 1024) z.size))) := rfl
theorem wk_pieces (w : World) : Calls Tryz.prog 16 #[.string zsL, .int .i64 3, .int .i64 7] w fun e w' => ∃ (b o cap : Nat) (t : ByteArray), e = .returned (.tuple #[.slice (some ⟨b, o, none⟩) 3 cap, .int .i64 0]) ∧ b < w'.heap.size ∧ t.size = 452 ∧ 3 ≤ cap ∧
    w'.cell? ⟨b, o + 24 + 1, none⟩ = some (.int .i64 9) ∧ w'.cell? ⟨b, o + 24 + 7, none⟩ = some (.int .i64 2048) ∧ w'.cell? ⟨b, o + 24 + 8, none⟩ = some (.string t) ∧ Below w.heap.size w w' := by
  have hz := zsL_size
  refine (imgPieces_any w zsL 3 7 (by omega)).mono ?_
  rintro e w' ⟨hB, ⟨hb, -⟩ | ⟨-, a, cap, rfl, hG⟩⟩
  · exfalso; unfold PcBad at hb; omega
  · have hn : (zsL.size + 1023) / 1024 = 3 := by rw [hz]
    rw [hn] at hG ⊢
    have hle := hG.le
    obtain ⟨b, o, rfl, -, hlt, h1, -⟩ := hG.at' (by omega)
    refine ⟨b, o, cap, zsL.extract (1024 * 2) (min (1024 * 2 + 1024) zsL.size), rfl, hlt, by rw [ByteArray.size_extract, hz]; rfl, hle, ?_, ?_, ?_, hB⟩
    · rw [Nat.add_assoc, h1 (24 + 1) (by omega)]; rfl
    · rw [Nat.add_assoc, h1 (24 + 7) (by omega)]; exact pc_off _
    · rw [Nat.add_assoc, h1 (24 + 8) (by omega)]; exact pc_dat _
theorem wk_encode (w : World) (T : Nat → Prop) (ia : Option Addr) (ic : Nat) (c : InC) (na : Option Addr) (nc : Nat) (ha : Option Addr) (hc : Nat) (hr : InosAt w T ia [c]) (hv : c.val = rootS) :
    Calls Tryz.prog 12 #[.agg (dn ia ic na nc ha hc).toArray] w fun e w' => e = .returned (.tuple #[.string tx0, .int .i64 0]) ∧ Below w.heap.size w w' := by
  have h := imgEncode_any w T (dnC ia ic c na nc ha hc) (dnC_ok na nc ha hc hr) 0 (fun _ => fit_new ia ic c hv na nc ha hc) (fun W sb S U h1 h2 => load_new W sb S U st0 h1 ia ic c na nc ha hc h2.ino hv)
  rw [enc_new ia ic c hv na nc ha hc] at h
  exact h
theorem load_v0 : LoadIs v0 0 := by
  intro W sb S T x h1 h2 h3
  obtain ⟨c, hv, hik, hcs⟩ := is_v0 h3
  have hr := h2.ino
  rw [hik] at hr
  rw [hcs]
  exact load_new W sb S T st0 h1 x.ia x.ic c x.na x.nc x.ha x.hc hr hv
theorem decode_of (w : World) (t : ByteArray) (v : DVal) (ht : t.size ≤ 9223372036854775807) (h : rDump (t, false) = some (v, (⟨#[]⟩, false))) (hl : LoadIs v 0) : Calls Tryz.prog 6 #[.string t] w (IDecPost (some v) w) := by
  have hd : decP (fun _ => 0) t = some v := by
    unfold decP
    rw [h]
    simp only [Bool.false_eq_true, false_or]
    rw [if_neg (by decide), if_pos trivial]
  have h1 := imgDecode_any w t ht (fun _ => 0) (fun v' st h' => by
    rw [h, Option.some.injEq, Prod.mk.injEq] at h'
    rw [← h'.1]
    exact hl)
  rw [hd] at h1
  exact h1
theorem wk_decode (w : World) : Calls Tryz.prog 6 #[.string tx0] w fun e w' => ∃ (ia : Option Addr) (ic : Nat) (c : InC) (na : Option Addr) (nc : Nat) (ha : Option Addr) (hc : Nat), e = .returned (.tuple #[.agg (dn ia ic na nc ha hc).toArray, .int .i64 0]) ∧ InosAt w' (From w.heap.size) ia [c] ∧ c.val = rootS ∧ Below w.heap.size w w' := by
  refine (decode_of w tx0 v0 (by rw [tx0_size]; decide) dec_tx0 load_v0).mono ?_
  rintro e w' ⟨hB, x, rfl, hok, his⟩
  obtain ⟨c, hv, hik, hcs⟩ := is_v0 his
  have hr := hok.ino
  rw [hik] at hr
  rw [hcs]
  exact ⟨x.ia, x.ic, c, x.na, x.nc, x.ha, x.hc, rfl, hr, hv, hB⟩
theorem dn_one (ia : Option Addr) (ic : Nat) (na : Option Addr) (nc : Nat) (ha : Option Addr) (hc : Nat) : (dn ia ic na nc ha hc).toArray.all (·.oneCell') = true := dmZ_one _ _ _ _ _ _ _ _ _ _ _
/-- a box that is laid and filled -/
theorem box_put (w : World) (l : List Value) (hl : l.length = 37) (z : List Value) (hz : z.length = 37) : ∃ W, W = (w.alloc (.cells z.toArray 32)).setCells w.heap.size 0 l.toArray.toList ∧ (w.alloc (.cells z.toArray 32)).there w.heap.size 0 37 ∧ W.rangeAt w.heap.size 0 l ∧ Below w.heap.size w W ∧ W.heap.size = w.heap.size + 1 := by
  refine ⟨_, rfl, (DmBox.new w _ z hz).there, ((DmBox.new w _ z hz).store l hl).rangeL hl, ?_, ?_⟩
  · exact ((Mod.of_below ((Below.refl w.heap.size w).alloc (Nat.le_refl _) _) : Mod none' w _).setCells (fun h => absurd h (by omega)) 0 l).below_at (Nat.le_refl _) (fun _ _ e => e.elim)
  · simp
/-- a load of a row that stands behind a guard that is on -/
theorem wpList_load_mid_w {P : Program} {ops : Array Oper} {rest : List Oper} {op : Oper} {a : Act} {w : World} {Q : Exit → Act → World → Prop} (hw : Region.wanted op (yielded ops a.tmps) = true) (ty : TypeId) (x : Operand) (ho : op.op = .load ty x)
    (b o : Nat) (hx : a.eval x = .pointer (some ⟨b, o, none⟩)) (cs : List Value) (d : TypeDesc) (hc : w.rangeAt b o cs)
    (hu : P.underlying ty = some d) (hd : d.isRow = true) (hi : (P.info? ty).map (·.size) = some cs.length)
    (h : wpList P ops Q rest (a.put op.dst (.agg cs.toArray)) w) : wpList P ops Q (op :: rest) a w :=
  wpList_step fun K hK => by rw [if_pos hw]; exact wp_load_mid ty x ho b o hx cs d hc hu hd hi (hK _ _ h)
end Go.Proofs.YtmnkackkeppheaaGreat
/- the walk of wakes -/
namespace Go.Proofs.YtmnkackkeppheaaGreat
open Go.RowKit Esch Go.Shelf
set_option maxRecDepth 100000 in
set_option maxHeartbeats 8000000 in
theorem wakes26_any (w : World) : Calls Tryz.prog 5 #[] w fun e w' => e = .returned (.bool true) ∧ Below w.heap.size w w' := by
  go_enter Tryz.func5, Tryz.ntmps5
  go_wp2_with fail
  refine (stNew_any _).mono ?_
  rintro e w1 ⟨sb, rfl, hS1, hB1⟩
  have HB1 := Lib.hid hB1
  have hz1 := hB1.size
  have hdm := stDump_any w1 sb _ st0 hS1 (by decide) (by decide) (by decide)
  clear hB1 hS1
  go_wp2_with fail
  refine hdm.mono ?_
  clear hdm
  intro e w2 hd2
  obtain ⟨ia, ic, c, na, nc, ha, hc, rfl, hr2, hv, hB2⟩ := new_dump hd2
  obtain ⟨W3, hW3, hth, hrg3, hB3, hz3⟩ := box_put w2 (dn ia ic na nc ha hc) rfl [.int .i64 0, .slice none 0 0, .int .i64 0, .slice none 0 0, .slice none 0 0, .int .i64 0, .int .i64 0, .int .i64 0, .int .i64 0, .int .i64 0, .int .i64 0, .int .i64 0, .int .i64 0, .int .i64 0, .int .i64 0, .int .i64 0, .int .i64 0, .int .i64 0, .int .i64 0, .int .i64 0, .int .i64 0, .int .i64 0, .int .i64 0, .int .i64 0, .int .i64 0, .int .i64 0, .int .i64 0, .int .i64 0, .int .i64 0, .int .i64 0, .int .i64 0, .int .i64 0, .int .i64 0, .int .i64 0, .int .i64 0, .int .i64 0, .int .i64 0] rfl
  have HB2 := Lib.hid hB2
  have HB3 := Lib.hid hB3
  have HR2 := Lib.hid hr2
  have HV := Lib.hid hv
  have HRG := Lib.hid hrg3
  have HW3 := Lib.hid hW3
  have HTH := Lib.hid hth
  have hz2 := hB2.size
  clear hd2 hr2 hv hB2 hB3 hrg3 hW3 hth
  have hone := dn_one ia ic na nc ha hc
  have HON := Lib.hid hone
  clear hone
  go_wp2_with (first
    | (refine wpList_load_mid (by rfl) 32 _ (by rfl) w2.heap.size 0 (by rfl) (dn ia ic na nc ha hc) _ HRG.out Tryz.underlying32 rfl (dn37 _ _ _ _ _ _) ?_)
    | (refine wpList_store_mid (by rfl) 32 _ _ (by rfl) w2.heap.size 0 (dn ia ic na nc ha hc).toArray (by rfl) (by rfl) HTH.out (by kernel_rfl) HON.out ?_; rw [← HW3.out]))
  refine (wk_encode W3 _ ia ic c na nc ha hc (HR2.out.below' HB3.out) HV.out).mono ?_
  rintro e w5 ⟨rfl, hB5⟩
  have HB5 := Lib.hid hB5
  have hz5 := hB5.size
  clear hB5
  have hwd := wk_decode w5
  have hsz := tx0_size
  have hnn := tx0_nine
  obtain ⟨tx, htx⟩ : ∃ tx, tx = tx0 := ⟨_, rfl⟩
  rw [← htx] at hwd hsz hnn ⊢
  have HSZ := Lib.hid hsz
  have HNN := Lib.hid hnn
  clear htx hsz hnn
  go_wp2_with fail
  refine hwd.mono ?_
  clear hwd
  rintro e w6 ⟨ia2, ic2, c2, na2, nc2, ha2, hc2, rfl, hr6, hv6, hB6⟩
  obtain ⟨W7, hW7, hth7, hrg7, hB7, hz7⟩ := box_put w6 (dn ia2 ic2 na2 nc2 ha2 hc2) rfl [.int .i64 0, .slice none 0 0, .int .i64 0, .slice none 0 0, .slice none 0 0, .int .i64 0, .int .i64 0, .int .i64 0, .int .i64 0, .int .i64 0, .int .i64 0, .int .i64 0, .int .i64 0, .int .i64 0, .int .i64 0, .int .i64 0, .int .i64 0, .int .i64 0, .int .i64 0, .int .i64 0, .int .i64 0, .int .i64 0, .int .i64 0, .int .i64 0, .int .i64 0, .int .i64 0, .int .i64 0, .int .i64 0, .int .i64 0, .int .i64 0, .int .i64 0, .int .i64 0, .int .i64 0, .int .i64 0, .int .i64 0, .int .i64 0, .int .i64 0] rfl
  have HB6 := Lib.hid hB6
  have HB7 := Lib.hid hB7
  have HR6 := Lib.hid hr6
  have HV6 := Lib.hid hv6
  have HRG7 := Lib.hid hrg7
  have HW7 := Lib.hid hW7
  have HTH7 := Lib.hid hth7
  have hz6 := hB6.size
  clear hB6 hB7 hr6 hv6 hrg7 hW7 hth7
  have hone7 := dn_one ia2 ic2 na2 nc2 ha2 hc2
  have HON7 := Lib.hid hone7
  clear hone7
  go_wp2_with (refine wpList_store_mid (by rfl) 32 _ _ (by rfl) w6.heap.size 0 (dn ia2 ic2 na2 nc2 ha2 hc2).toArray (by rfl) (by rfl) HTH7.out (by kernel_rfl) HON7.out ?_; rw [← HW7.out])
  refine (keepZeros_any W7).mono ?_
  rintro e w8 ⟨rfl, hB8⟩
  have HB8 := Lib.hid hB8
  have hz8 := hB8.size
  clear hB8
  have hpc := wk_pieces w8
  unfold zsL at hpc
  obtain ⟨zs, hzs⟩ : ∃ zs, zs = strOfNums (List.replicate 2500 0) := ⟨_, rfl⟩
  rw [← hzs] at hpc ⊢
  clear hzs
  go_wp2_with fail
  refine hpc.mono ?_
  clear hpc
  rintro e w9 ⟨pb, po, cap, t, rfl, hpl, hts, hcap, hp1, hp7, hp8, hB9⟩
  have HB9 := Lib.hid hB9
  have hz9 := hB9.size
  clear hB9
  have hrgB : w9.rangeAt w6.heap.size 0 (dn ia2 ic2 na2 nc2 ha2 hc2) := rangeAt_keep HRG7.out (HB8.out.trans (HB9.out.mono HB8.out.size))
  have hB39 : Below W3.heap.size W3 w9 := by
    have z3 := HB5.out.size
    have z4 := HB6.out.size
    have z5 := HB7.out.size
    have z6 := HB8.out.size
    exact (((HB5.out.trans (HB6.out.mono (by omega))).trans (HB7.out.mono (by omega))).trans (HB8.out.mono (by omega))).trans (HB9.out.mono (by omega))
  have hrgA : w9.rangeAt w2.heap.size 0 (dn ia ic na nc ha hc) := rangeAt_keep HRG.out hB39
  have hsm := stSame_any w9 _ _ (dnC ia2 ic2 c2 na2 nc2 ha2 hc2) (dnC ia ic c na nc ha hc) (dnC_ok na2 nc2 ha2 hc2 (HR6.out.below' (HB7.out.trans ((HB8.out.trans (HB9.out.mono HB8.out.size)).mono HB7.out.size)))) (dnC_ok na nc ha hc (HR2.out.below' (HB3.out.trans (hB39.mono HB3.out.size))))
  rw [dnC_same _ _ _ _ _ _ _ _ (HV6.out.trans HV.out.symm)] at hsm
  have HB39 := Lib.hid hB39
  have HRA := Lib.hid hrgA
  have HRB := Lib.hid hrgB
  clear hrgA hrgB hB39
  go_wp2_with (first
    | (refine wpList_load_mid_w (by rfl) 32 _ (by rfl) w2.heap.size 0 (by rfl) (dn ia ic na nc ha hc) _ HRA.out Tryz.underlying32 rfl (dn37 _ _ _ _ _ _) ?_)
    | (refine wpList_load_mid_w (by rfl) 32 _ (by rfl) w6.heap.size 0 (by rfl) (dn ia2 ic2 na2 nc2 ha2 hc2) _ HRB.out Tryz.underlying32 rfl (dn37 _ _ _ _ _ _) ?_))
  refine hsm.mono ?_
  clear hsm
  rintro e w10 ⟨rfl, hB10⟩
  have HB10 := Lib.hid hB10
  have hp1' := below_at hB10 hp1 hpl
  have hp7' := below_at hB10 hp7 hpl
  have hp8' := below_at hB10 hp8 hpl
  have hsz := HSZ.out
  have hnn := HNN.out
  clear hB10
  go_wp2_with fail
  go_ret
  refine ⟨rfl, ?_⟩
  have z1 := HB1.out.size
  have z2 := HB2.out.size
  have z3 := HB3.out.size
  have z4 := HB39.out.size
  exact (((HB1.out.trans (HB2.out.mono z1)).trans (HB3.out.mono (by omega))).trans (HB39.out.mono (by omega))).trans (HB10.out.mono (by omega))
end Go.Proofs.YtmnkackkeppheaaGreat
