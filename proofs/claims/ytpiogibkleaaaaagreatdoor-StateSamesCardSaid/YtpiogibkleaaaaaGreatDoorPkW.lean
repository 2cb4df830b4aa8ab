import Derived.Test.YtpiogibkleaaaaaGreatDoorR9
import Derived.Test.YtpiogibkleaaaaaGreatDoorPkStC
import Derived.Test.YtpiogibkleaaaaaGreatDoorTree7
import Derived.Test.YtpiogibkleaaaaaGreatDoorTexts
/- what the document writes is what the program reads, plain -/
namespace Go.Proofs.YtpiogibkleaaaaaGreatDoor
open Go.RowKit Esch

theorem bs_all (r : List UInt8) (n : Nat) (l : List UInt8) (h : l.length = n) : (bs (l ++ r)).extract n (bs (l ++ r)).size = bs r := by
  rw [bs_extract, bs_size, List.length_append]
  congr 1
  rw [List.drop_append_of_le_length (by omega), List.drop_of_length_le (by omega), List.nil_append, List.take_of_length_le (by omega)]
theorem unNum_put (v n : Nat) (r : List UInt8) (hv : v < 256 ^ n) (hv2 : v < 9223372036854775808) : unNum (bs (putB v n ++ r)) false n = (v, bs r, false) := by
  have hl := putB_length v n
  have hc : cutB (bs (putB v n ++ r)) 0 n = putB v n := by
    unfold cutB
    rw [bs_list, List.drop_zero, List.take_append_of_le_length (by omega), List.take_of_length_le (by omega)]
  unfold unNum
  rw [if_neg (by rw [bs_size, List.length_append, hl]; simp), hc, getB_putB' hv, if_neg (by omega), bs_all r n _ hl]
theorem unTake_put (p r : List UInt8) : unTake (bs (p ++ r)) false p.length = (bs p, bs r, false) := by
  unfold unTake
  rw [if_neg (by rw [bs_size, List.length_append]; simp), bs_all r p.length p rfl]
  congr 1
  rw [bs_extract]
  congr 1
  simp
theorem unText_put (p r : List UInt8) (most : Nat) (hm : p.length ≤ most) (hp : p.length < 65536) : unText (bs (textL p ++ r)) false most = (bs p, bs r, false) := by
  unfold unText textL
  rw [List.append_assoc, unNum_put p.length 2 (p ++ r) (by omega) (by omega)]
  simp only [Bool.false_or]
  rw [show decide (most < p.length) = false from decide_eq_false (by omega), unTake_put]
theorem decHead_put (k c s : Nat) (r : List UInt8) (hk : k < 256) (hc : c < 256) (hs : s < 4294967296) : decHead (bs (headL k c s ++ r)) = ((opN c s k, []), bs r, false) := by
  unfold decHead headL
  simp only [List.append_assoc]
  rw [unNum_put k 1 _ (by omega) (by omega)]
  simp only
  rw [unNum_put c 1 _ (by omega) (by omega)]
  simp only
  rw [unNum_put s 4 _ (by omega) (by omega)]
theorem goodV_opP (k c s : Nat) (p : Nm) (hk : k = 1 ∨ k = 2 ∨ k = 3 ∨ k = 5 ∨ k = 8) (hc : c ≤ 7) (hs : 1 ≤ s ∧ s ≤ 2147483647) (hp : goodPath p = true) : goodV (opP k c s p) [] = true := by
  have h1 : winB c 0 7 = true := by simp [winB]; omega
  have h2 : winB s 1 2147483647 = true := by simp [winB]; omega
  unfold goodV OpS.good
  show (knownB k && winB c 0 7 && winB s 1 2147483647 && (opP k c s p).form [] && (opP k c s p).alike (opP k c s p).kept) = true
  rw [h1, h2, kept_opP k c s p hk]
  rcases hk with rfl | rfl | rfl | rfl | rfl <;> simp [knownB, OpS.form, opP, opN, hp]
theorem dec_opP (k c s : Nat) (p : Nm) (hk : k = 1 ∨ k = 2 ∨ k = 3 ∨ k = 5 ∨ k = 8) (hc : c ≤ 7) (hs : 1 ≤ s ∧ s ≤ 2147483647) (hp : goodPath p = true) (hpl : p.length ≤ 1000) : decOp (bs (headL k c s ++ textL p)) = some (opP k c s p, []) := by
  have hr : decRaw (bs (headL k c s ++ textL p)) = ((opP k c s p, []), bs [], false) := by
    unfold decRaw
    rw [decHead_put k c s _ (by omega) (by omega) (by omega)]
    rw [if_pos (by rcases hk with rfl | rfl | rfl | rfl | rfl <;> rfl)]
    have hf : fldL ((opN c s k).kind.toNat) = [112] := by rcases hk with rfl | rfl | rfl | rfl | rfl <;> rfl
    show getAll (fldL ((opN c s k).kind.toNat)) _ = _
    rw [hf]
    have ht := unText_put p [] 4096 (by omega) (by omega)
    rw [List.append_nil] at ht
    show getF (opN c s k) [] (bs (textL p)) false 112 = _
    have hg : getF (opN c s k) [] (bs (textL p)) false 112 = (({ opN c s k with path := (unText (bs (textL p)) false 4096).1.data.toList }, []), (unText (bs (textL p)) false 4096).2) := rfl
    rw [hg, ht]
    rfl
  unfold decOp
  rw [hr, if_neg (by simp), if_pos (goodV_opP k c s p hk hc hs hp)]
end Go.Proofs.YtpiogibkleaaaaaGreatDoor
/- what the laws of the state wake them by, plain -/
namespace Go.Proofs.YtpiogibkleaaaaaGreatDoor
open Go.RowKit Esch

def wkP : Nm := [47, 97]
def wkT : ByteArray := bs (headL 1 0 1 ++ textL wkP)
theorem wkT_dec : decOp wkT = some (opP 1 0 1 wkP, []) := dec_opP 1 0 1 wkP (by decide) (by decide) (by decide) (by decide) (by decide)
def wkS1 : StS := ⟨((tr0.mk' wkP 1).run tr0).2, hd0, [(0, (1, 0, 0))], 1⟩
def wkS2 : StS := { wkS1 with next := 2 }
theorem wk_mk : ((tr0.mk' wkP 1).run tr0).1 = 0 := by kernel_rfl
theorem wk_a1 : st0.apply 0 1 wkT = (((0, 0), true, 0), wkS1) := by
  unfold StS.apply
  rw [if_neg (by decide), if_neg (by decide), wkT_dec]
  simp only
  rw [if_neg (by decide)]
  have hd : ({ st0 with next := st0.next + 1 } : StS).does (opP 1 0 1 wkP) [] 0 = ((((tr0.mk' wkP 1).run tr0).1, 0), ⟨((tr0.mk' wkP 1).run tr0).2, hd0, [], 1⟩) := rfl
  rw [hd, wk_mk]
  rfl
theorem wk_a2 : wkS1.apply 1 1 wkT = (((0, 0), false, 0), wkS2) := by
  unfold StS.apply
  rw [if_neg (by decide), if_neg (by decide), wkT_dec]
  simp only
  rw [if_pos (by decide)]
  rfl
theorem wk_last : olast wkS2.o 0 = (1, 0, 0) := by decide
theorem wk_list : lstOf wkS2.t (wkS2.t.resolve [47]) = Res.ok 1 := by kernel_rfl
theorem wk_nm : wkS2.t.n.m = [((1, [97]), 2)] := by kernel_rfl
end Go.Proofs.YtpiogibkleaaaaaGreatDoor
/- what the laws of the state wake them by -/
namespace Go.Proofs.YtpiogibkleaaaaaGreatDoor
open Go.RowKit Esch Go.Shelf

set_option linter.unusedSimpArgs false
set_option maxRecDepth 100000 in
set_option maxHeartbeats 2000000 in
theorem text25_any (w : World) (x : OpS) (l : List UInt8) (henc : ∀ W, Calls Tryz.prog 54 #[.agg x.cells.toArray] W (EncPost W l)) :
    Calls Tryz.prog 22 #[.agg x.cells.toArray] w fun e w' => e = .returned (.string (bs l)) ∧ Below w.heap.size w w' := by
  obtain ⟨xc, xs, xk, p, q, xz, xh, xo, xt, xi, xn, mp, ml, mc⟩ := x
  simp only [OpS.cells] at henc ⊢
  go_enter Tryz.func22, Tryz.ntmps22
  go_wp2_with fail
  refine (henc _).mono ?_
  rintro e w2 ⟨rfl, hB2⟩
  have hB : Below w.heap.size w w2 := (show Below w.heap.size w (w.alloc _) by exact belC (Below.refl _ _)).trans (hB2.mono (by simp))
  clear hB2
  go_wp2_with fail
  go_ret
  exact ⟨rfl, hB⟩
theorem wk_text (w : World) : Calls Tryz.prog 22 #[.agg #[.int .i64 0, .int .i64 1, .int .i64 1, .string ⟨#[47, 97]⟩, .string ⟨#[]⟩, .int .i64 0, .int .i64 0, .int .i64 0, .string ⟨#[]⟩, .int .i64 0, .int .i64 0, .slice none 0 0]] w fun e w' => e = .returned (.string wkT) ∧ Below w.heap.size w w' :=
  text25_any w (opP 1 0 1 wkP) _ (fun W => encP1_any W 0 1 wkP (by decide) (by decide) (by decide) (by decide))
set_option maxRecDepth 100000 in
set_option maxHeartbeats 4000000 in
theorem wakes25_any (w : World) (hf : FieldsAt w) (hw : 0 < w.heap.size) : Calls Tryz.prog 6 #[] w fun e w' => e = .returned (.bool true) ∧ Below w.heap.size w w' := by
  have hok1 : wkS1.ok := by have := st0_ok.apply 0 1 wkT; rw [wk_a1] at this; exact this
  have hok2 : wkS2.ok := by have := hok1.apply 1 1 wkT; rw [wk_a2] at this; exact this
  have h13 : ∀ r, decOp wkT = some r → r.1.kind = 1 := fun r h => by rw [wkT_dec] at h; cases h; rfl
  have hwt : wkT.size ≤ 9223372036854775807 := by decide
  have HF := Lib.hid hf
  have HW := Lib.hid hw
  clear hf
  go_enter Tryz.func6, Tryz.ntmps6
  go_wp2_with fail
  refine (stNew_any _).mono ?_
  rintro e w1 ⟨b, rfl, hS1, hB1⟩
  have HS1 := Lib.hid hS1
  have HB1 := Lib.hid hB1
  have hz1 := hB1.size
  clear hS1 hB1
  go_wp2_with fail
  refine (wk_text w1).mono ?_
  rintro e w2 ⟨rfl, hB2⟩
  obtain ⟨S, hSd⟩ : ∃ S : Nat → Prop, S = fun k => w.heap.size ≤ k ∧ k < w1.heap.size := ⟨_, rfl⟩
  have HS2 : Hid (SttAt w2 b S st0) := Lib.hid (by rw [hSd]; exact HS1.out.below' hB2)
  have HB2 := Lib.hid (HB1.out.trans (hB2.mono HB1.out.size))
  have hS0 : ¬ S 0 := by rw [hSd]; intro h; have := h.1; omega
  have HSw : Hid (∀ k, S k → w.heap.size ≤ k) := Lib.hid (by rw [hSd]; exact fun k h => h.1)
  have hz2 := hB2.size
  clear hB2 HS1 hSd
  have ha1 := stApply1_any w2 b S st0 HS2.out st0_ok 0 1 wkT hwt (HF.out.below HB2.out hw) hS0 h13
  rw [wk_a1] at ha1
  obtain ⟨tx, htx⟩ : ∃ tx, tx = wkT := ⟨_, rfl⟩
  rw [← htx] at ha1 ⊢
  have HTX := Lib.hid htx
  clear htx
  go_wp2_with fail
  refine ha1.mono ?_
  clear ha1
  rintro e w3 ⟨rfl, hS3, hM3⟩
  simp only at hS3 ⊢
  obtain ⟨w4, hw4⟩ : ∃ w4, w4 = w3.alloc (.cells #[.int .i64 0, .int .i64 0] 28) := ⟨_, rfl⟩
  have hB4 : Below w3.heap.size w3 w4 := by rw [hw4]; exact belC (Below.refl _ _)
  obtain ⟨ab, hab⟩ : ∃ ab, ab = w3.heap.size := ⟨_, rfl⟩
  have ac : w4.cell? ⟨ab, 0, none⟩ = some (.int .i64 0) := by rw [hw4, hab]; go_simp
  have HS4 := Lib.hid (hS3.below' hB4)
  have HM4 : Hid (Mod S w2 w4) := Lib.hid (hM3.trans (Mod.of_below hB4))
  have hB4w : Below w.heap.size w w4 := HB2.out.trans (HM4.out.below_at HB2.out.size (fun k hk h => by have := HSw.out k h; omega))
  have HB4 := Lib.hid hB4w
  have hS04 : ¬ growI S w2 w3 0 := fun h => h.elim hS0 (fun h => by have := HB2.out.size; omega)
  have hSa : ¬ growI S w2 w3 ab := fun h => by have := hS3.lt _ h; omega
  have HSw4 : Hid (∀ k, growI S w2 w3 k → w.heap.size ≤ k) := Lib.hid (fun k h => h.elim (HSw.out k) (fun h => by have := HB2.out.size; omega))
  have ha2 := stApply1_any w4 b (growI S w2 w3) wkS1 HS4.out hok1 1 1 wkT hwt (HF.out.below hB4w hw) hS04 h13
  rw [wk_a2, ← HTX.out] at ha2
  have HW4 := Lib.hid hw4
  have HAB := Lib.hid hab
  clear hS3 hM3 hB4 hw4 hab hB4w
  go_wp2_with fail
  rw [← HW4.out, ← HAB.out]
  refine ha2.mono ?_
  clear ha2
  rintro e w5 ⟨rfl, hS5, hM5⟩
  simp only at hS5 ⊢
  have ac := hM5.at ac hSa
  obtain ⟨w6, hw6⟩ : ∃ w6, w6 = w5.alloc (.cells #[.int .i64 0, .int .i64 0] 28) := ⟨_, rfl⟩
  have hB6 : Below w5.heap.size w5 w6 := by rw [hw6]; exact belC (Below.refl _ _)
  have ac := below_at hB6 ac (cell_lt ac)
  have HS6 := Lib.hid (hS5.below' hB6)
  have HB6 : Hid (Below w.heap.size w w6) := Lib.hid (HB4.out.trans ((hM5.trans (Mod.of_below hB6)).below_at HB4.out.size (fun k hk h => by have := HSw4.out k h; omega)))
  have HW6 := Lib.hid hw6
  clear hS5 hM5 hB6 hw6
  go_wp2_with fail
  rw [← HW6.out]
  refine (stOnce_any w6 b _ wkS2 HS6.out).mono ?_
  rintro e w7 ⟨⟨ob, mb, rfl, hon⟩, hw7⟩
  obtain rfl := hw7.symm
  have hla := onceLast_any 0 w6 ob mb wkS2.o hon
  rw [wk_last] at hla
  clear hon
  go_wp2_with fail
  refine hla.mono ?_
  clear hla
  rintro e w8 ⟨rfl, hB8⟩
  have ac := below_at hB8 ac (cell_lt ac)
  have HS8 := Lib.hid (HS6.out.below' hB8)
  have HB8 := Lib.hid (HB6.out.trans (hB8.mono HB6.out.size))
  clear hB8
  simp only
  obtain ⟨w9, hw9⟩ : ∃ w9, w9 = w8.alloc (.cells #[.int .i64 0, .int .i64 0] 28) := ⟨_, rfl⟩
  have hB9 : Below w8.heap.size w8 w9 := by rw [hw9]; exact belC (Below.refl _ _)
  have ac := below_at hB9 ac (cell_lt ac)
  have HS9 := Lib.hid (HS8.out.below' hB9)
  have HB9 := Lib.hid (HB8.out.trans (hB9.mono HB8.out.size))
  have HW9 := Lib.hid hw9
  clear hB9 hw9
  go_wp2_with fail
  rw [← HW9.out]
  refine (stTree_any w9 b _ wkS2 HS9.out).mono ?_
  rintro e w10 ⟨⟨tb, S1, rfl, htr⟩, hw10⟩
  obtain rfl := hw10.symm
  have hli : Calls Tryz.prog 24 #[.pointer (some ⟨tb, 0, none⟩), .string ⟨#[47]⟩] w9 _ := trList_any w9 tb S1 wkS2.t htr [47] (by rw [wk_nm]; decide)
  rw [wk_list] at hli
  clear htr
  go_wp2_with fail
  refine hli.mono ?_
  clear hli
  rintro e w11 ⟨la, lc, l, rfl, hls, hnm, -, hB11⟩
  have hl1 : l = [[97]] := by
    obtain ⟨k, ⟨hp, -⟩, rfl⟩ := (show NamesOfD wkS2.t.n.m 1 l from hls)
    rw [wk_nm] at hp
    rw [List.perm_singleton.1 (show k.Perm [((1, [97]), 2)] from hp)]
    rfl
  subst hl1
  have ac := below_at hB11 ac (cell_lt ac)
  have HS11 := Lib.hid (HS9.out.below' hB11)
  have HB11 := Lib.hid (HB9.out.trans (hB11.mono HB9.out.size))
  rw [show Res.code (.ok 1 : Res Int) = 0 from rfl]
  have HNM := Lib.hid hnm
  have hal := cell_lt ac
  clear hB11 hls hnm
  have hnx := stNext_any w11 b _ wkS2 HS11.out
  rw [show wkS2.next = 2 from rfl] at hnx
  go_wp2_with fail
  refine hnx.mono ?_
  clear hnx
  rintro e w12 ⟨rfl, hw12⟩
  obtain rfl := hw12.symm
  go_wp2_with fail
  obtain ⟨w13, hw13⟩ : ∃ w13, w13 = w11.alloc (.cells #[.string ⟨#[97]⟩] 9) := ⟨_, rfl⟩
  have hB13 : Below w11.heap.size w11 w13 := by rw [hw13]; exact belC (Below.refl _ _)
  have hny : NmsAt (fun _ => True) w13 (some ⟨w11.heap.size, 0, none⟩) [[97]] := by
    intro _
    refine ⟨w11.heap.size, 0, rfl, trivial, by rw [hw13]; simp, fun i hi => ?_⟩
    have : i = 0 := by simpa using hi
    subst this
    rw [hw13]
    go_simp
    rfl
  have htx2 := texts_any w13 _ _ la (some ⟨w11.heap.size, 0, none⟩) lc 1 [[97]] [[97]] (HNM.out.below hB13) hny (by decide)
  rw [decide_eq_true rfl] at htx2
  have HB13 := Lib.hid (HB11.out.trans (hB13.mono HB11.out.size))
  rw [← hw13]
  clear hw13 hB13 hny
  refine htx2.mono ?_
  clear htx2
  rintro e w14 ⟨rfl, hB14⟩
  go_wp2_with fail
  go_ret
  exact ⟨rfl, HB13.out.trans (hB14.mono HB13.out.size)⟩
end Go.Proofs.YtpiogibkleaaaaaGreatDoor
