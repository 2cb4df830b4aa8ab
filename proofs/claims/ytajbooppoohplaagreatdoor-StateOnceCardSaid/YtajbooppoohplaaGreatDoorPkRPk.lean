import Derived.Test.YtajbooppoohplaaGreatDoorMac
import Derived.Test.YtajbooppoohplaaGreatDoorPkByt
import Derived.Test.YtajbooppoohplaaGreatDoorPkBase
/- numbers as bytes: the document's answer -/
set_option maxRecDepth 100000
set_option maxHeartbeats 1000000
namespace Go.Proofs.YtajbooppoohplaaGreatDoor
open Go.RowKit Esch

def RPutRel (w : World) (v n g : Nat) (sv si : Value) (wr : World) : Prop :=
  ∃ (k : Nat) (arr : Array Value), g = n - k ∧ k ≤ n ∧ si = .int .i64 ((n : Int) - 1 - k) ∧ sv = .int .u64 ((v / 256 ^ k : Nat) : Int) ∧ RowAt wr w.heap.size arr ∧ arr.size = n ∧ (∀ j, j < n → n - k ≤ j → arr[j]? = some (.int .u8 (digit v (n - 1 - j)).toNat)) ∧ Below w.heap.size w wr
theorem rPut_any (w : World) (v n : Nat) (hv : v < 18446744073709551616) (hn : n ≤ 8) :
    Calls Tryz.prog 159 #[.int .u64 v, .int .i64 n] w (StrPost w (putB v n)) := by
 have Hv := Lib.hid hv
 obtain ⟨i0, hi, hz0, hz1, hz2⟩ := info_parts Tryz.infoByte
 have hmk := run_make (P := Tryz.prog) w 23 5 i0 (.int .u8 0) Tryz.underlying23 hi hz0 .i64 .i64 n n (by omega) (Int.le_refl _) (by rw [hz2]; omega) (by omega)
 simp only [Int.toNat_natCast, hz1, Nat.mul_one] at hmk
 have hrow : RowAt (w.alloc (.cells (madeCells (Value.int .u8 0).cells n) 5)) w.heap.size (madeCells (Value.int .u8 0).cells n) := alloc_new _ _
 have hBm : Below w.heap.size w (w.alloc (.cells (madeCells (Value.int .u8 0).cells n) 5)) := by exact belC (Below.refl _ _)
 have hsz := size_madeCells (Value.int .u8 0).cells n
 clear hv hi hz0 hz1 hz2
 generalize madeCells (Value.int .u8 0).cells n = arr0 at hmk hrow hBm hsz
 generalize w.alloc (.cells arr0 5) = W1 at hmk hrow hBm
 have Hrow := Lib.hid hrow
 clear hrow
 go_enter Tryz.func159, Tryz.ntmps159
 go_wp2_with fail
 go_loopg [0, 6] n (fun g s0 s6 wr => RPutRel w v n g s0 s6 wr)
 case atStart => exact ⟨0, arr0, rfl, Nat.zero_le _, by simp, by simp, Hrow.out, hsz, fun j hj h => absurd hj (by omega), hBm⟩
 case round =>
  obtain ⟨k, arr, rfl, hk, rfl, rfl, hr, hs, hd, hB⟩ := hrel
  have Hr := Lib.hid hr
  have Hd := Lib.hid hd
  by_cases hlt : k < n
  · obtain ⟨i, hi⟩ : ∃ i : Nat, (n : Int) - 1 - k = i := ⟨n - 1 - k, by omega⟩
    have hin : i + 1 + k = n := by omega
    have Hi := Lib.hid hi
    rw [hi]
    have c0 := hr.cell i
    have f0 := hr.frozen i
    rw [Array.getElem?_eq_getElem (by omega)] at c0
    generalize arr[i] = old at c0
    have e1 : (((v / 256 ^ k : Nat) : Int)) % 256 = ((digit v k).toNat : Int) := by
     rw [digit_toNat, Int.natCast_emod]; rfl
    have e2 : (((v / 256 ^ k : Nat) : Int)) / 256 = ((v / 256 ^ (k + 1) : Nat) : Int) := by
     rw [Nat.pow_succ, ← Nat.div_div_eq_div_mul, Int.natCast_ediv]; rfl
    have hvk : v / 256 ^ k < 18446744073709551616 := Nat.lt_of_le_of_lt (Nat.div_le_self _ _) Hv.out
    have Hvk := Lib.hid hvk
    have HE := Lib.hid e1
    have HE2 := Lib.hid e2
    clear e1 e2 hr hd hmk hi hvk
    generalize v / 256 ^ k = vk at Hvk HE HE2 ⊢
    have HE3 : Hid (IntKind.u64.wrap ((vk : Int) / 256) = ((v / 256 ^ (k + 1) : Nat) : Int)) := Lib.hid (by rw [← HE2.out, IntKind.wrap_u64]; have := Hvk.out; omega)
    go_wp2_with fail
    rw [HE.out, HE3.out]
    go_roundg (n - (k + 1))
    case measure => omega
    case rel =>
     refine ⟨k + 1, arr.setIfInBounds i _, rfl, by omega, by have := Hi.out; congr 1; omega, rfl, Hr.out.set i _, by rw [Array.size_setIfInBounds]; exact hs, fun j hj hj2 => ?_, hB.setCell (p := ⟨w.heap.size, i, none⟩) (Nat.le_refl _) _⟩
     rw [Array.getElem?_setIfInBounds]
     by_cases e : i = j
     · subst e
       rw [if_pos rfl, if_pos (by omega), show n - 1 - i = k by omega]
     · rw [if_neg e]; exact Hd.out j hj (by omega)
  · have hkn : k = n := by omega
    subst hkn
    have hcv := run_convert_bytes_back (P := Tryz.prog) wr 23 9 5 ⟨w.heap.size, 0, none⟩ k (putB v k) Tryz.underlying23 Tryz.underlying5 Tryz.underlying9 (fun j hj => by
      rw [show (⟨w.heap.size, 0, none⟩ : Addr).add j = ⟨w.heap.size, j, none⟩ from by unfold Addr.add; split <;> simp_all]
      rw [putB_length] at hj
      rw [Hr.out.cell, Hd.out j hj (by omega)]
      have := putB_get v k j hj
      rw [List.getElem?_eq_getElem (by rw [putB_length]; exact hj)] at this
      rw [Option.some.inj this])
    rw [putB_length] at hcv
    have hneg : (k : Int) - 1 - k < 0 := by omega
    generalize (k : Int) - 1 - k = i at hneg ⊢
    generalize v / 256 ^ k = vk
    clear hr hd hmk
    go_wp2_with fail
    go_ret
    exact ⟨rfl, hB⟩
end Go.Proofs.YtajbooppoohplaaGreatDoor
/- the document's packer -/
namespace Go.Proofs.YtajbooppoohplaaGreatDoor
open Go.RowKit Esch

structure PkR (w : World) (b : Nat) (l : List UInt8) : Prop where
  c0 : w.cell? ⟨b, 0, none⟩ = some (.string (bs l))
  c1 : w.cell? ⟨b, 1, none⟩ = some (.bool false)
  f0 : w.frozen? ⟨b, 0, none⟩ = false
  f1 : w.frozen? ⟨b, 1, none⟩ = false
def PkAtR (B b : Nat) (l : List UInt8) (w : World) : Prop := B ≤ b ∧ PkR w b l
theorem PkR.keep {w w' : World} {b : Nat} {l : List UInt8} (h : PkR w b l) (hB : Below w.heap.size w w') : PkR w' b l :=
  ⟨below_at hB h.c0 (cell_lt h.c0), below_at hB h.c1 (cell_lt h.c0), (hB.frozen (p := ⟨b, 0, none⟩) (cell_lt h.c0)).trans h.f0, (hB.frozen (p := ⟨b, 1, none⟩) (cell_lt h.c0)).trans h.f1⟩
def PkPostR (w : World) (B b : Nat) (l : List UInt8) (e : Ending) (w' : World) : Prop := e = .returned (.tuple #[]) ∧ PkAtR B b l w' ∧ Below B w w'
theorem rpNew_any (w : World) : Calls Tryz.prog 109 #[] w fun e w' => ∃ b, e = .returned (.pointer (some ⟨b, 0, none⟩)) ∧ PkAtR w.heap.size b [] w' ∧ Below w.heap.size w w' := by
 go_enter Tryz.func109, Tryz.ntmps109
 go_wp2_with fail
 go_ret
 exact ⟨w.heap.size, rfl, ⟨Nat.le_refl _, by go_simp; rfl, by go_simp, by go_simp, by go_simp⟩, by exact belC (Below.refl _ _)⟩
theorem rsize_any (w : World) (n : Nat) (hn : n = 1 ∨ n = 2 ∨ n = 4 ∨ n = 8) : Calls Tryz.prog 158 #[.int .i64 n] w fun e w' => e = .returned (.bool true) ∧ w' = w := by
 rcases hn with rfl | rfl | rfl | rfl
 all_goals
   go_enter Tryz.func158, Tryz.ntmps158
   go_wp2_with fail
   go_ret
   exact ⟨rfl, rfl⟩
theorem rpNum4 (w : World) (B b : Nat) (l : List UInt8) (v : Nat) (hv : v < 4294967296) (h : PkAtR B b l w) (hlen : l.length ≤ 900000) (hBw : B ≤ w.heap.size) :
    Calls Tryz.prog 110 #[.pointer (some ⟨b, 0, none⟩), .int .i64 v, .int .i64 4] w (PkPostR w B b (l ++ putB v 4)) := by
 obtain ⟨hBb, hP⟩ := h
 have hsz : Calls Tryz.prog 158 #[.int .i64 4] w fun e w' => e = .returned (.bool true) ∧ w' = w := rsize_any w 4 (by decide)
 have hput : Calls Tryz.prog 159 #[.int .u64 v, .int .i64 4] w.drew (StrPost w.drew (putB v 4)) := rPut_any w.drew v 4 (by omega) (by decide)
 have hwu : IntKind.u64.wrap (v : Int) = (v : Int) := by rw [IntKind.wrap_u64]; omega
 have hv0 : (0 : Int) ≤ v := by omega
 have hv1 : (v : Int) ≤ 4294967296 - 1 := by omega
 have hl0 : (bs l).size = l.length := rfl
 have hbl : b < w.heap.size := cell_lt hP.c0
 have HP := Lib.hid hP
 obtain ⟨c0, c1, f0, f1⟩ := hP
 have hnl : ¬ (9223372036854775807 < l.length + (putB v 4).length) := by rw [putB_length]; omega
 exact mK72
theorem rpNum1 (w : World) (B b : Nat) (l : List UInt8) (v : Nat) (hv : v < 256) (h : PkAtR B b l w) (hlen : l.length ≤ 900000) (hBw : B ≤ w.heap.size) :
    Calls Tryz.prog 110 #[.pointer (some ⟨b, 0, none⟩), .int .i64 v, .int .i64 1] w (PkPostR w B b (l ++ putB v 1)) := by
 obtain ⟨hBb, hP⟩ := h
 have hsz : Calls Tryz.prog 158 #[.int .i64 1] w fun e w' => e = .returned (.bool true) ∧ w' = w := rsize_any w 1 (by decide)
 have hput : Calls Tryz.prog 159 #[.int .u64 v, .int .i64 1] w.drew (StrPost w.drew (putB v 1)) := rPut_any w.drew v 1 (by omega) (by decide)
 have hwu : IntKind.u64.wrap (v : Int) = (v : Int) := by rw [IntKind.wrap_u64]; omega
 have hv0 : (0 : Int) ≤ v := by omega
 have hv1 : (v : Int) ≤ 256 - 1 := by omega
 have hl0 : (bs l).size = l.length := rfl
 have hbl : b < w.heap.size := cell_lt hP.c0
 have HP := Lib.hid hP
 obtain ⟨c0, c1, f0, f1⟩ := hP
 have hnl : ¬ (9223372036854775807 < l.length + (putB v 1).length) := by rw [putB_length]; omega
 exact mK72
theorem rpNum2 (w : World) (B b : Nat) (l : List UInt8) (v : Nat) (hv : v < 65536) (h : PkAtR B b l w) (hlen : l.length ≤ 900000) (hBw : B ≤ w.heap.size) :
    Calls Tryz.prog 110 #[.pointer (some ⟨b, 0, none⟩), .int .i64 v, .int .i64 2] w (PkPostR w B b (l ++ putB v 2)) := by
 obtain ⟨hBb, hP⟩ := h
 have hsz : Calls Tryz.prog 158 #[.int .i64 2] w fun e w' => e = .returned (.bool true) ∧ w' = w := rsize_any w 2 (by decide)
 have hput : Calls Tryz.prog 159 #[.int .u64 v, .int .i64 2] w.drew (StrPost w.drew (putB v 2)) := rPut_any w.drew v 2 (by omega) (by decide)
 have hwu : IntKind.u64.wrap (v : Int) = (v : Int) := by rw [IntKind.wrap_u64]; omega
 have hv0 : (0 : Int) ≤ v := by omega
 have hv1 : (v : Int) ≤ 65536 - 1 := by omega
 have hl0 : (bs l).size = l.length := rfl
 have hbl : b < w.heap.size := cell_lt hP.c0
 have HP := Lib.hid hP
 obtain ⟨c0, c1, f0, f1⟩ := hP
 have hnl : ¬ (9223372036854775807 < l.length + (putB v 2).length) := by rw [putB_length]; omega
 exact mK72
theorem rpNum8 (w : World) (B b : Nat) (l : List UInt8) (v : Nat) (hv : v < 9223372036854775808) (h : PkAtR B b l w) (hlen : l.length ≤ 900000) (hBw : B ≤ w.heap.size) :
    Calls Tryz.prog 110 #[.pointer (some ⟨b, 0, none⟩), .int .i64 v, .int .i64 8] w (PkPostR w B b (l ++ putB v 8)) := by
 obtain ⟨hBb, hP⟩ := h
 have hsz : Calls Tryz.prog 158 #[.int .i64 8] w fun e w' => e = .returned (.bool true) ∧ w' = w := rsize_any w 8 (by decide)
 have hput : Calls Tryz.prog 159 #[.int .u64 v, .int .i64 8] w.drew (StrPost w.drew (putB v 8)) := rPut_any w.drew v 8 (by omega) (by decide)
 have hwu : IntKind.u64.wrap (v : Int) = (v : Int) := by rw [IntKind.wrap_u64]; omega
 have hv0 : (0 : Int) ≤ v := by omega
 have hv1 : (v : Int) ≤ 9223372036854775808 - 1 := by omega
 have hl0 : (bs l).size = l.length := rfl
 have hbl : b < w.heap.size := cell_lt hP.c0
 have HP := Lib.hid hP
 obtain ⟨c0, c1, f0, f1⟩ := hP
 have hnl : ¬ (9223372036854775807 < l.length + (putB v 8).length) := by rw [putB_length]; omega
 exact mK72
theorem bs_app3 (a b c : List UInt8) : bs (a ++ (b ++ c)) = bs a ++ (bs b ++ bs c) := by rw [← bs_append, ← bs_append]
theorem rpText_any (w : World) (B b : Nat) (l : List UInt8) (x : List UInt8) (hx : x.length ≤ 65535) (h : PkAtR B b l w) (hlen : l.length ≤ 900000) (hBw : B ≤ w.heap.size) :
    Calls Tryz.prog 111 #[.pointer (some ⟨b, 0, none⟩), .string (bs x)] w (PkPostR w B b (l ++ (putB x.length 2 ++ x))) := by
 obtain ⟨hBb, hP⟩ := h
 have hput : Calls Tryz.prog 159 #[.int .u64 x.length, .int .i64 2] w.drew (StrPost w.drew (putB x.length 2)) := rPut_any w.drew x.length 2 (by omega) (by decide)
 have hwu : IntKind.u64.wrap (x.length : Int) = (x.length : Int) := by rw [IntKind.wrap_u64]; omega
 have hv1 : ¬ (65535 : Int) < x.length := by omega
 have hl0 : (bs l).size = l.length := rfl
 have hx0 : (bs x).size = x.length := rfl
 have hbl : b < w.heap.size := cell_lt hP.c0
 have HP := Lib.hid hP
 obtain ⟨c0, c1, f0, f1⟩ := hP
 have hp2 : (bs (putB x.length 2)).size = 2 := by show (putB x.length 2).length = 2; rw [putB_length]
 have hn1 : ¬ (9223372036854775807 < (putB x.length 2).length + x.length) := by rw [putB_length]; omega
 have hn2 : ¬ (9223372036854775807 < l.length + ((putB x.length 2).length + x.length)) := by rw [putB_length]; omega
 go_enter Tryz.func111, Tryz.ntmps111
 go_wp2_with fail
 refine anyX_begin 13 (fun W' => W'.cell? ⟨b, 0, none⟩ = some (.string (bs l))) (by kernel_rfl) c0 (fun hHeld => ?_)
 refine takeX 0 ?_
 refine takeX 1 ?_
 refine takeX 2 ?_
 refine takeX 3 ?_
 refine takeX 4 ?_
 refine takeX 5 ?_
 refine takeX 6 ?_
 refine takeX 8 ?_
 refine anyX_ready (rs := [7]) (by kernel_rfl) (by simp) ?_
 refine anyX_cons (o := ?_) ?_ (fun K hK => ?_) ?_
 rotate_left 1
 · simp only [List.getElem?_toArray, List.getElem?_cons_succ, List.getElem?_cons_zero]; rfl
 rotate_left 1
 · exact anyX_nil
 go_simp
 refine hput.mono ?_
 clear hput
 rintro e w2 ⟨rfl, hB2⟩
 have hc2 := below_at hB2 (show World.cell? w.drew _ = _ from c0) hbl
 have hf2 := (hB2.frozen (p := ⟨b, 0, none⟩) hbl).trans f0
 have hz2 : w.heap.size ≤ w2.heap.size := hB2.size
 have HB2 : Hid (Below w.heap.size w w2) := Lib.hid ⟨hB2.os, hB2.tape, hB2.output, hB2.size, hB2.block⟩
 have hbl2 := cell_lt hc2
 clear hB2
 try go_wp2_with fail
 refine hK.out _ _ hc2 (fun hHeld => ?_)
 clear hK K
 try simp only [Act.put, List.setIfInBounds_toArray, List.set_cons_zero, List.set_cons_succ]
 refine takeX 9 ?_
 refine takeX 10 ?_
 refine anyX_ready (rs := [11]) (by kernel_rfl) (by simp) ?_
 refine anyX_cons (o := ?_) ?_ (fun K hK => ?_) ?_
 rotate_left 1
 · simp only [List.getElem?_toArray, List.getElem?_cons_succ, List.getElem?_cons_zero]; rfl
 rotate_left 1
 · exact anyX_nil
 go_simp
 try go_wp2_with fail
 refine hK.out _ _ hHeld (fun hHeld => ?_)
 clear hK K
 try simp only [Act.put, List.setIfInBounds_toArray, List.set_cons_zero, List.set_cons_succ]
 refine anyX_ready (rs := [12]) (by kernel_rfl) (by simp) ?_
 refine anyX_cons (o := ?_) ?_ (fun K hK => ?_) ?_
 rotate_left 1
 · simp only [List.getElem?_toArray, List.getElem?_cons_succ, List.getElem?_cons_zero]; rfl
 rotate_left 1
 · exact anyX_nil
 go_simp
 try go_wp2_with fail
 refine hK.out _ _ hHeld (fun hHeld => ?_)
 clear hK K
 try simp only [Act.put, List.setIfInBounds_toArray, List.set_cons_zero, List.set_cons_succ]
 refine anyX_ready (rs := [13]) (by kernel_rfl) (by simp) ?_
 refine anyX_last (o := ?_) ?_ (fun K hK => ?_)
 rotate_left 1
 · simp only [List.getElem?_toArray, List.getElem?_cons_succ, List.getElem?_cons_zero]; rfl
 go_simp
 refine hK.out _ _ (anyX_done (by kernel_rfl) ?_ _)
 clear hK K hHeld
 go_wp2_with fail
 go_end0
 have hP2 := HP.out.keep HB2.out
 refine ⟨rfl, ⟨hBb, by rw [bs_app3]; go_simp; rfl, ?_, ?_, ?_⟩, Below.setCell (HB2.out.mono hBw) (by show B ≤ b; exact hBb) _⟩
 · have := hP2.c1; go_simp
 · have := hP2.f0; go_simp
 · have := hP2.f1; go_simp
theorem rpDone_ok (w : World) (B b : Nat) (l : List UInt8) (h : PkAtR B b l w) (hl : l.length ≤ 65536) :
    Calls Tryz.prog 112 #[.pointer (some ⟨b, 0, none⟩)] w fun e w' => e = .returned (.tuple #[.string (bs l), .int .i64 0]) ∧ Below w.heap.size w w' := by
 obtain ⟨hBb, c0, c1, f0, f1⟩ := h
 have hsz : (bs l).size = l.length := rfl
 have hl' : (l.length : Int) ≤ 65536 := by omega
 go_enter Tryz.func112, Tryz.ntmps112
 go_wp2_with fail
 go_ret2
 exact ⟨rfl, Below.refl _ _⟩
end Go.Proofs.YtajbooppoohplaaGreatDoor
