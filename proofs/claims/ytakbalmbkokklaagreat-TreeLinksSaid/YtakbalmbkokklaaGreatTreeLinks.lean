/-
  The law TreeLinks: all names of a file tell the same, whichever it is cut by; it is gone with its last one.
  Conditions: none.
-/
import Derived.Test.YtakbalmbkokklaaGreatLinksM
import Derived.Test.YtakbalmbkokklaaGreatRName
import Derived.Test.YtakbalmbkokklaaGreatWakes22
import Derived.Test.YtakbalmbkokklaaGreatTree11
import Derived.Test.YtakbalmbkokklaaGreatRow22
import Derived.Test.YtakbalmbkokklaaGreatRdNms
namespace Go.Proofs.YtakbalmbkokklaaGreat
open Go.RowKit Esch Go.ChangeShapes Go.WideShapes Go.ChangeAt

def pthV (a : Nm) : Value := strV (47 :: a)
theorem mod8193_any (w : World) (k : Int) : Calls Tryz.prog 21 #[.int .i64 k, .int .i64 8193] w fun e w' => (∃ m, e = .returned (.int .i64 m) ∧ 0 ≤ m ∧ m ≤ 8192) ∧ w' = w := by
  have hm0 : -8193 < k.tmod 8193 := by have := Int.lt_tmod_of_pos k (show (0 : Int) < 8193 by decide); omega
  have hm1 : k.tmod 8193 < 8193 := Int.tmod_lt_of_pos k (by decide)
  go_enter Tryz.func21, Tryz.ntmps21
  go_wp2_with fail
  go_ret
  generalize k.tmod 8193 = t at *
  exact ⟨⟨(t + 8193) % 8193, rfl, by omega, by omega⟩, rfl⟩
def Lk1 (n b : Nat) (S : Nat → Prop) (B : Nat) (w : World) (g : Nat) (s6 s7 : Value) (wr : World) : Prop :=
  ∃ (i : Nat) (s : TrS) (ns : List Nm) (ao : Option Addr) (cp : Nat), g = n - i ∧ i ≤ n ∧ s6 = .slice ao ns.length cp ∧ s7 = .int .i64 i ∧ GRowAt wr (From B) 1 ns.length cp ao (ns.map pthV) ∧ TreeAt wr b S s ∧ Lks s ns 0 ∧ ns ≠ [] ∧ Below w.heap.size w wr ∧ B ≤ wr.heap.size
def Lk2 (ns : List Nm) (b : Nat) (S : Nat → Prop) (ao : Option Addr) (cp B : Nat) (z : Int) (w : World) (g : Nat) (s11 : Value) (wr : World) : Prop :=
  ∃ (i : Nat) (s : TrS), g = ns.length - i ∧ i ≤ ns.length ∧ s11 = .int .i64 i ∧ GRowAt wr (From B) 1 ns.length cp ao (ns.map pthV) ∧ TreeAt wr b S s ∧ Lks s (ns.drop i) z ∧ Below w.heap.size w wr
set_option maxRecDepth 100000 in
set_option maxHeartbeats 8000000 in
theorem treeLinks_walk (w : World) (a : Option Addr) (c : Nat) (l : List Nm) (z : Int) (h : NmsAt (fun _ => True) w a l) :
    Calls Tryz.prog 4 #[.slice a l.length c, .int .i64 z] w fun e w' => e = .returned (.bool true) ∧ Below w.heap.size w w' := by
  have HN := Lib.hid h
  clear h
  go_enter Tryz.func4, Tryz.ntmps4
  go_wp2_with fail
  refine (trNew_any _).mono ?_
  rintro e w1 ⟨b, rfl, hT, hB⟩
  obtain ⟨S, hSS⟩ : ∃ S : Nat → Prop, S = fun k => w.heap.size ≤ k ∧ k < w1.heap.size := ⟨_, rfl⟩
  rw [← hSS] at hT
  have HSS := Lib.hid (show ∀ k, S k → w.heap.size ≤ k ∧ k < w1.heap.size by rw [hSS]; exact fun k hk => hk)
  have hm1 : ∀ W, TreeAt W b S tr0 → Calls Tryz.prog 19 #[.pointer (some ⟨b, 0, none⟩), .string ⟨#[47, 102, 105, 114, 115, 116]⟩] W (ErrPost W b S (0, lks0)) := fun W hT => by
    have := trCreate_any W b S tr0 hT tr0_ok (47 :: firstN)
    rw [show (tr0.mk' (47 :: firstN) 2).run tr0 = (0, lks0) from Prod.ext lks0_e rfl] at this
    exact this
  unfold ErrPost at hm1
  simp only at hm1
  have HB := Lib.hid hB
  clear hB hSS
  go_wp2_with fail
  refine (hm1 _ hT).mono ?_
  clear hm1 hT
  rintro e w2 ⟨rfl, hT, hM⟩
  have HT := Lib.hid hT
  have HB2 := Lib.hid (HB.out.trans (hM.below_at HB.out.size (fun k hk e => by have := (HSS.out k e).1; omega)))
  have HZ2 := Lib.hid (show w1.heap.size ≤ w2.heap.size from hM.size)
  clear hT hM
  by_cases hl20 : 20 < l.length
  · have hl20' : (20 : Int) < l.length := by omega
    clear hl20
    go_wp2_with fail
    refine (wakes22_any _).mono ?_
    rintro e wz ⟨rfl, hBz⟩
    go_wp2_with fail
    go_ret
    exact ⟨rfl, HB2.out.trans (hBz.mono HB2.out.size)⟩
  have hl20' := decide_eq_false (show ¬ (20 : Int) < l.length by omega)
  have Hl20 := Lib.hid hl20
  obtain ⟨i0, hi0, hz0, hz1, hz2⟩ := info_parts Tryz.infoStr
  clear hl20
  obtain ⟨w3, hw3⟩ : ∃ w3, w3 = w2.alloc (.cells #[pthV firstN] 9) := ⟨_, rfl⟩
  have hB3 : Below w2.heap.size w2 w3 := by rw [hw3]; exact belC (Below.refl _ _)
  have hG3 : GRowAt w3 (From w1.heap.size) 1 1 1 (some ⟨w2.heap.size, 0, none⟩) ([firstN].map pthV) := ⟨Nat.le_refl _, by omega, rfl, fun _ => ⟨w2.heap.size, 0, rfl, HZ2.out, by rw [hw3]; simp, fun j hj => by
    obtain rfl : j = 0 := by omega
    rw [hw3]; go_simp, fun j hj => by
    obtain rfl : j = 0 := by omega
    rw [hw3]; exact ⟨by go_simp, by go_simp⟩⟩⟩
  have HT3 := Lib.hid (HT.out.below' hB3)
  have HB3 := Lib.hid (HB2.out.trans (hB3.mono HB2.out.size))
  have HG3 := Lib.hid hG3
  have HZ3 := Lib.hid (show w1.heap.size ≤ w3.heap.size from Nat.le_trans HZ2.out hB3.size)
  have HW3 := Lib.hid hw3
  clear hw3 hB3 hG3
  go_wp2_with fail
  have hw3e : w2.alloc (.cells #[.string ⟨#[47, 102, 105, 114, 115, 116]⟩] 9) = w3 := HW3.out.symm
  rw [hw3e]
  clear hw3e
  go_loopg [6, 7] l.length (fun g s6 s7 wr => Lk1 l.length b S w1.heap.size w g s6 s7 wr)
  case atStart => exact ⟨0, lks0, [firstN], _, 1, rfl, Nat.zero_le _, rfl, rfl, HG3.out, HT3.out, Lks.start, by simp, HB3.out, HZ3.out⟩
  case round =>
    obtain ⟨i, s, ns, ao, cp, rfl, hi, rfl, rfl, hG, hT, hL, hne, hB, hz⟩ := hrel
    have HG := Lib.hid hG
    have HTr := Lib.hid hT
    have HL := Lib.hid hL
    have HNE := Lib.hid hne
    have HBr := Lib.hid hB
    have HZ := Lib.hid hz
    clear hG hT hL hne hB hz
    by_cases hlt : i < l.length
    · obtain ⟨bk, off, rfl, -, hb, hc⟩ := HN.out (by omega)
      have c0 := below_at HBr.out (hc i hlt) hb
      generalize l.getD i [] = x at c0
      have hil : (0 : Int) ≤ i ∧ (i : Int) < l.length := by omega
      have hwr1 := Lib.hid (show wrap64 ((i : Int) + 1) = ((i + 1 : Nat) : Int) by have := Hl20.out; unfold wrap64; omega)
      have HBK := Lib.hid hb
      clear hc hb
      by_cases hx1 : 100 < x.length
      · have hx2 : (100 : Int) < x.length := by omega
        clear hx1 hlt hi
        go_wp2_with fail
        refine (wakes22_any _).mono ?_
        rintro e wz ⟨rfl, hBz⟩
        go_wp2_with fail
        go_ret
        exact ⟨rfl, HBr.out.trans (hBz.mono HBr.out.size)⟩
      have hx2 := decide_eq_false (show ¬ (100 : Int) < x.length by omega)
      have hadd1 : ∀ W, (Op.stringOp .add (⟨#[47]⟩ : ByteArray) (bs x)).run Tryz.prog W = .ok (.string (bs (47 :: x))) W := fun W => (run_string_add_sum _ _ _ (by rw [bs_size]; show 1 + _ ≤ _; omega)).trans (by rw [show (⟨#[47]⟩ : ByteArray) = bs [47] from rfl, bs_append]; rfl)
      have hn8 := HL.out.le HNE.out
      have hn0 : 0 < ns.length := List.length_pos_iff.2 HNE.out
      obtain ⟨rb, ro, rfl, hrb, hrl, hr1, -⟩ := HG.out.at' (by have := HG.out.le; omega)
      have hjl : ns.length / 2 < ns.length := by omega
      have r0 := hr1 (ns.length / 2) (by omega)
      rw [List.getElem?_map, List.getElem?_eq_getElem hjl] at r0
      have hy : ns[ns.length / 2] ∈ ns := List.getElem_mem hjl
      have hquo : (ns.length : Int).tdiv 2 = ((ns.length / 2 : Nat) : Int) := (Int.ofNat_tdiv _ _).symm
      have hquo2 : (ns.length : Int) / 2 = ((ns.length / 2 : Nat) : Int) := by omega
      have hji : (0 : Int) ≤ ((ns.length / 2 : Nat) : Int) ∧ ((ns.length / 2 : Nat) : Int) < ns.length := by omega
      generalize ns[ns.length / 2] = y at r0 hy
      have r0 : wr.cell? ⟨rb, ro + ns.length / 2, none⟩ = some (.string (bs (47 :: y))) := r0
      generalize ns.length / 2 = jh at r0 hquo hquo2 hji hjl
      have hwj : wrap64 (jh : Int) = (jh : Int) := by unfold wrap64; omega
      have hrn := fun W => rName_any W x
      have hlk := fun W hT => trLink_any W b S s hT HL.out.good.ok (47 :: y) (47 :: x)
      unfold ErrPost at hlk
      obtain ⟨nb, hnb⟩ : ∃ nb, nb = nameL x := ⟨_, rfl⟩
      rw [← hnb] at hrn
      have Hn8 := Lib.hid hn8
      have Hlt := Lib.hid hlt
      have hx1' := Lib.hid hx1
      clear hr1 hrb hx1 hlt hi hn8 hn0 hjl
      have hrl' : rb < wr.heap.size := hrl
      cases nb
      · obtain ⟨e0, he0, hen⟩ := HL.out.lnk_bad hy hnb.symm
        rw [he0] at hlk
        simp only at hlk
        have hen2 : (e0 == 0) = false := by simpa using hen
        clear he0 hen hy hnb
        go_wp2_with fail
        refine (hlk _ HTr.out).mono ?_
        clear hlk
        rintro e w5 ⟨rfl, hT5, hM5⟩
        have HT5 := Lib.hid hT5
        have c5 : w5.cell? ⟨bk, off + i, none⟩ = some (.string (bs x)) := by
          have hbw : bk < w.heap.size := HBK.out
          exact hM5.at c0 (fun e => by have := (HSS.out _ e).1; omega)
        have HG5 := Lib.hid (HG.out.mod hM5 (fun k hk _ e => by have := (HSS.out k e).2; have hk : w1.heap.size ≤ k := hk; omega))
        have HB5 := Lib.hid (HBr.out.trans (hM5.below_at HBr.out.size (fun k hk e => by have := (HSS.out k e).1; omega)))
        have HZ5 := Lib.hid (Nat.le_trans HZ.out hM5.size)
        have hb5 : bk < w5.heap.size := cell_lt c5
        clear hT5 hM5 c0 r0 hwj hquo hquo2
        go_wp2_with fail
        refine (hrn _).mono ?_
        clear hrn
        rintro e w6 ⟨rfl, rfl⟩
        go_wp2_with fail
        go_roundg (l.length - (i + 1))
        case measure => have := Hlt.out; omega
        case rel => exact ⟨i + 1, s, ns, _, cp, rfl, Hlt.out, rfl, by first | rfl | rw [hwr1.out], HG5.out, HT5.out, HL.out, HNE.out, HB5.out, HZ5.out⟩
      · by_cases hmem : x ∈ ns
        · rw [HL.out.lnk_twice hy hnb.symm hmem] at hlk
          simp only at hlk
          clear hmem hy hnb
          go_wp2_with fail
          refine (hlk _ HTr.out).mono ?_
          clear hlk
          rintro e w5 ⟨rfl, hT5, hM5⟩
          have HT5 := Lib.hid hT5
          have c5 : w5.cell? ⟨bk, off + i, none⟩ = some (.string (bs x)) := by
            have hbw : bk < w.heap.size := HBK.out
            exact hM5.at c0 (fun e => by have := (HSS.out _ e).1; omega)
          have HG5 := Lib.hid (HG.out.mod hM5 (fun k hk _ e => by have := (HSS.out k e).2; have hk : w1.heap.size ≤ k := hk; omega))
          have HB5 := Lib.hid (HBr.out.trans (hM5.below_at HBr.out.size (fun k hk e => by have := (HSS.out k e).1; omega)))
          have HZ5 := Lib.hid (Nat.le_trans HZ.out hM5.size)
          have hb5 : bk < w5.heap.size := cell_lt c5
          clear hT5 hM5 c0 r0 hwj hquo hquo2
          go_wp2_with fail
          refine (hrn _).mono ?_
          clear hrn
          rintro e w6 ⟨rfl, rfl⟩
          go_wp2_with fail
          go_roundg (l.length - (i + 1))
          case measure => have := Hlt.out; omega
          case rel => exact ⟨i + 1, s, ns, _, cp, rfl, Hlt.out, rfl, by first | rfl | rw [hwr1.out], HG5.out, HT5.out, HL.out, HNE.out, HB5.out, HZ5.out⟩
        · by_cases h8 : 8 ≤ ns.length
          · rw [HL.out.lnk_full hy hnb.symm hmem h8] at hlk
            simp only at hlk
            have h88 : ((ns.length : Int) != 8) = false := by simp only [bne_eq_false_iff_eq]; have := Hn8.out; omega
            clear hmem hy hnb h8
            go_wp2_with fail
            refine (hlk _ HTr.out).mono ?_
            clear hlk
            rintro e w5 ⟨rfl, hT5, hM5⟩
            have HT5 := Lib.hid hT5
            have c5 : w5.cell? ⟨bk, off + i, none⟩ = some (.string (bs x)) := by
              have hbw : bk < w.heap.size := HBK.out
              exact hM5.at c0 (fun e => by have := (HSS.out _ e).1; omega)
            have HG5 := Lib.hid (HG.out.mod hM5 (fun k hk _ e => by have := (HSS.out k e).2; have hk : w1.heap.size ≤ k := hk; omega))
            have HB5 := Lib.hid (HBr.out.trans (hM5.below_at HBr.out.size (fun k hk e => by have := (HSS.out k e).1; omega)))
            have HZ5 := Lib.hid (Nat.le_trans HZ.out hM5.size)
            have hb5 : bk < w5.heap.size := cell_lt c5
            clear hT5 hM5 c0 r0 hwj hquo hquo2
            go_wp2_with fail
            refine (hrn _).mono ?_
            clear hrn
            rintro e w6 ⟨rfl, rfl⟩
            go_wp2_with fail
            go_roundg (l.length - (i + 1))
            case measure => have := Hlt.out; omega
            case rel => exact ⟨i + 1, s, ns, _, cp, rfl, Hlt.out, rfl, by first | rfl | rw [hwr1.out], HG5.out, HT5.out, HL.out, HNE.out, HB5.out, HZ5.out⟩
          · obtain ⟨s1, e1, hL1⟩ := HL.out.lnk_ok hy hnb.symm hmem (by omega)
            rw [e1] at hlk
            simp only at hlk
            have HL1 := Lib.hid hL1
            clear hmem hy hnb h8 e1 hL1
            go_wp2_with fail
            refine (hlk _ HTr.out).mono ?_
            clear hlk
            rintro e w5 ⟨rfl, hT5, hM5⟩
            have HT5 := Lib.hid hT5
            have c5 : w5.cell? ⟨bk, off + i, none⟩ = some (.string (bs x)) := by
              have hbw : bk < w.heap.size := HBK.out
              exact hM5.at c0 (fun e => by have := (HSS.out _ e).1; omega)
            have HG5 := Lib.hid (HG.out.mod hM5 (fun k hk _ e => by have := (HSS.out k e).2; have hk : w1.heap.size ≤ k := hk; omega))
            have HB5 := Lib.hid (HBr.out.trans (hM5.below_at HBr.out.size (fun k hk e => by have := (HSS.out k e).1; omega)))
            have HZ5 := Lib.hid (Nat.le_trans HZ.out hM5.size)
            have hb5 : bk < w5.heap.size := cell_lt c5
            clear hT5 hM5 c0 r0 hwj hquo hquo2
            go_wp2_with fail
            refine (hrn _).mono ?_
            clear hrn
            rintro e w6 ⟨rfl, rfl⟩
            go_wp2_with (at_builtin; refine wpList_append_g (by rfl) (.tmp 72) (.tmp 74) 22 22 (by rfl) 9 i0 _ 16 Tryz.underlying22 hi0 hz0 hz1 hz2 (by rfl) (by rfl) (HG5.out.mod (F := none') (by exact modC (Mod.refl _ _)) (fun _ _ _ => id)) _ 1 [pthV x] (by rfl) (src_str _ _ Tryz.underlying22 w6.heap.size (47 :: x) 9 (heap_alloc_new _ _) _) (by have := Hn8.out; omega) (by have := Hn8.out; omega) ?_; intro a6 cap6 w7 hg7 hM7 hz7)
            have hAl : Below w6.heap.size w6 (w6.alloc (.cells #[strV (47 :: x)] 9)) := by exact belC (Below.refl _ _)
            have hT7 : TreeAt w7 b S s1 := (HT5.out.below' hAl).mod hM7 (fun k hk e => by have := (HSS.out k hk).2; have e : w1.heap.size ≤ k := e; omega)
            have hB7 : Below w.heap.size w w7 := HB5.out.trans (hAl.mono HB5.out.size) |>.trans (hM7.below_at (by have := HB5.out.size; simp only [World.size_alloc]; omega) (fun k hk e => by have := HB.out.size; have e : w1.heap.size ≤ k := e; omega))
            have hg8 : GRowAt w7 (From w1.heap.size) 1 (ns ++ [x]).length cap6 a6 ((ns ++ [x]).map pthV) := by
              rw [List.map_append, List.length_append]
              exact hg7.sub (fun k _ hk => by
                rcases hk with hk | hk
                · exact hk
                · show w1.heap.size ≤ k; rw [hk]; simp only [World.size_alloc]; have := HZ5.out; omega)
            have hz7' : w1.heap.size ≤ w7.heap.size := by have := HZ5.out; have := hM7.size; simp only [World.size_alloc] at this; omega
            rw [show ns.length + 1 = (ns ++ [x]).length by simp]
            have HG7 := Lib.hid hg8
            have HB7 := Lib.hid hB7
            have HT7 := Lib.hid hT7
            have HZ7 := Lib.hid hz7'
            clear hg7 hM7 hz7 hg8 hB7 hT7 hz7' hAl
            go_wp2_with fail
            go_roundg (l.length - (i + 1))
            case measure => have := Hlt.out; omega
            case rel => exact ⟨i + 1, s1, ns ++ [x], a6, cap6, rfl, Hlt.out, rfl, by first | rfl | rw [hwr1.out], HG7.out, HT7.out, HL1.out, by simp, HB7.out, HZ7.out⟩
    · obtain rfl : i = l.length := by omega
      clear hlt hi
      obtain ⟨w4, hw4⟩ : ∃ w4, w4 = wr := ⟨_, rfl⟩
      subst hw4
      have hmd := fun W => mod8193_any W z
      have hn8 := HL.out.le HNE.out
      have hn0 : 0 < ns.length := List.length_pos_iff.2 HNE.out
      obtain ⟨rb, ro, rfl, hrb, hrl, hr1, -⟩ := HG.out.at' (by have := HG.out.le; omega)
      have hjl : ns.length - 1 < ns.length := by omega
      have r0 := hr1 (ns.length - 1) (by omega)
      rw [List.getElem?_map, List.getElem?_eq_getElem hjl] at r0
      have hy : ns[ns.length - 1] ∈ ns := List.getElem_mem hjl
      have hsub : (ns.length : Int) - 1 = ((ns.length - 1 : Nat) : Int) := by omega
      have hji : (0 : Int) ≤ ((ns.length - 1 : Nat) : Int) ∧ ((ns.length - 1 : Nat) : Int) < ns.length := by omega
      generalize ns[ns.length - 1] = y at r0 hy
      have r0 : w4.cell? ⟨rb, ro + (ns.length - 1), none⟩ = some (.string (bs (47 :: y))) := r0
      generalize ns.length - 1 = jh at r0 hsub hji hjl
      have hwj : wrap64 (jh : Int) = (jh : Int) := by unfold wrap64; omega
      have Hn8 := Lib.hid hn8
      have Hn0 := Lib.hid hn0
      have htr := fun W m hT => trTruncate_any W b S s hT HL.out.good.ok (47 :: y) m
      unfold ErrPost at htr
      have hrl' : rb < w4.heap.size := hrl
      clear hr1 hrb hn8 hn0 hjl
      go_wp2_with fail
      refine (hmd _).mono ?_
      clear hmd
      rintro e w5 ⟨⟨m, rfl, hm0, hm1⟩, rfl⟩
      obtain ⟨s1, e1, hL1⟩ := HL.out.trunc hy hm0 hm1
      have htr2 := fun W hT => htr W m hT
      rw [e1] at htr2
      simp only at htr2
      have HL1 := Lib.hid hL1
      clear hL1 e1 htr hy hm0 hm1
      go_wp2_with fail
      refine (htr2 _ HTr.out).mono ?_
      clear htr2
      rintro e w6 ⟨rfl, hT6, hM6⟩
      have HG6 := Lib.hid (HG.out.mod hM6 (fun k hk _ e => by have := (HSS.out k e).2; have hk : w1.heap.size ≤ k := hk; omega))
      have HB6 := Lib.hid (HBr.out.trans (hM6.below_at HBr.out.size (fun k hk e => by have := (HSS.out k e).1; omega)))
      have HT6 := Lib.hid hT6
      clear hT6 hM6 r0 hwj hsub
      go_wp2_with fail
      go_loopg [11] ns.length (fun g s11 wr => Lk2 ns b S (some ⟨rb, ro, none⟩) cp w1.heap.size m w g s11 wr)
      case atStart => exact ⟨0, s1, rfl, Nat.zero_le _, rfl, HG6.out, HT6.out, HL1.out, HB6.out⟩
      case round =>
        obtain ⟨i, s2, rfl, hi, rfl, hG, hT, hL, hB⟩ := hrel
        have HG7 := Lib.hid hG
        have HT7 := Lib.hid hT
        have HL7 := Lib.hid hL
        have HB7 := Lib.hid hB
        clear hG hT hL hB
        by_cases hlt : i < ns.length
        · obtain ⟨rb2, ro2, hra, hrb2, hrl2, hr2, -⟩ := HG7.out.at' (by have := HG7.out.le; omega)
          cases hra
          have q0 := hr2 i (by omega)
          rw [List.getElem?_map, List.getElem?_eq_getElem hlt] at q0
          have hdr : ns.drop i = ns[i] :: ns.drop (i + 1) := List.drop_eq_getElem_cons hlt
          generalize ns[i] = y at q0 hdr
          have q0 : wr.cell? ⟨rb, ro + i, none⟩ = some (.string (bs (47 :: y))) := q0
          have hL8 : Lks s2 (y :: ns.drop (i + 1)) m := by rw [← hdr]; exact HL7.out
          have hdl : ((y :: ns.drop (i + 1)).length : Int) = (ns.length : Int) - i := by rw [← hdr, List.length_drop]; omega
          obtain ⟨hres, hat⟩ := hL8.stat (a := y) (by simp)
          rw [hdl] at hat
          have hst : ∀ W, TreeAt W b S s2 → Calls Tryz.prog 14 #[.pointer (some ⟨b, 0, none⟩), .string (bs (47 :: y))] W fun e w' => e = .returned (.tuple #[.agg #[.int .i64 2, .int .i64 2, .int .i64 ((ns.length : Int) - i), .int .i64 m], .int .i64 0]) ∧ Below W.heap.size W w' := fun W hT => (trStat_any W b S s2 hT (47 :: y)).mono (fun e w' h => by
            rw [hres] at h
            obtain ⟨h1, h2⟩ := h
            refine ⟨?_, h2⟩
            rw [h1]
            show Ending.returned (.tuple #[statV (s2.t.at 2), .int .i64 0]) = _
            rw [hat]
            rfl)
          obtain ⟨s3, e3, hL3⟩ := hL8.unlink
          have hul := fun W hT => trUnlink_any W b S s2 hT hL8.good.ok (47 :: y)
          unfold ErrPost at hul
          rw [e3] at hul
          simp only at hul
          have HL3 := Lib.hid hL3
          have hwk : wrap64 ((ns.length : Int) - i) = (ns.length : Int) - i := by have := Hn8.out; unfold wrap64; omega
          have hil : (0 : Int) ≤ i ∧ (i : Int) < ns.length := by omega
          have hwr2 := Lib.hid (show wrap64 ((i : Int) + 1) = ((i + 1 : Nat) : Int) by have := Hn8.out; unfold wrap64; omega)
          have Hlt := Lib.hid hlt
          have hrl3 : rb < wr.heap.size := hrl2
          clear hr2 hrb2 hL3 e3 hL8 hdl hat hres hdr hlt hi
          go_wp2_with fail
          refine (hst _ HT7.out).mono ?_
          clear hst
          rintro e w8 ⟨rfl, hB8⟩
          have q1 := below_at hB8 q0 hrl2
          have HT8 := Lib.hid (HT7.out.below' hB8)
          obtain ⟨w9, hw9⟩ : ∃ w9, w9 = w8.alloc (.cells #[.int .i64 2, .int .i64 2, .int .i64 ((ns.length : Int) - i), .int .i64 m] 32) := ⟨_, rfl⟩
          have hB9 : Below w8.heap.size w8 w9 := by rw [hw9]; exact belC (Below.refl _ _)
          have q2 := below_at hB9 q1 (cell_lt q1)
          have HT9 := Lib.hid (HT8.out.below' hB9)
          have HB9 := Lib.hid (hB8.trans (hB9.mono hB8.size))
          have HW9 := Lib.hid hw9
          have z0 : w9.cell? ⟨w8.heap.size, 0, none⟩ = some (.int .i64 2) := by rw [hw9]; go_simp
          have z2 : w9.cell? ⟨w8.heap.size, 2, none⟩ = some (.int .i64 ((ns.length : Int) - i)) := by rw [hw9]; go_simp
          have z3 : w9.cell? ⟨w8.heap.size, 3, none⟩ = some (.int .i64 m) := by rw [hw9]; go_simp
          have hrb9 : rb < w9.heap.size := cell_lt q2
          have hz9 : w8.heap.size < w9.heap.size := cell_lt z0
          have hrb8 : rb < w8.heap.size := cell_lt q1
          clear hw9 hB8 hB9 q0
          go_wp2_with fail
          rw [← HW9.out]
          refine (hul _ HT9.out).mono ?_
          clear hul
          rintro e w10 ⟨rfl, hT10, hM10⟩
          have hBd2 := HB7.out.trans (HB9.out.mono HB7.out.size)
          have HG10 := Lib.hid ((HG7.out.mod (F := none') (Mod.of_below HB9.out) (fun _ _ _ => id)).mod hM10 (fun k hk _ e => by have := (HSS.out k e).2; have hk : w1.heap.size ≤ k := hk; omega))
          have HB10 := Lib.hid (hBd2.trans (hM10.below_at hBd2.size (fun k hk e => by have := (HSS.out k e).1; omega)))
          have HT10 := Lib.hid hT10
          clear hT10 hM10 hBd2 q2 z0 z2 z3 hwk
          go_wp2_with fail
          go_roundg (ns.length - (i + 1))
          case measure => have := Hlt.out; omega
          case rel => exact ⟨i + 1, s3, rfl, Hlt.out, by first | rfl | rw [hwr2.out], HG10.out, HT10.out, HL3.out, HB10.out⟩
        · obtain rfl : i = ns.length := by omega
          have hfin : Lks s2 [] m := by have := HL7.out; rwa [List.drop_length] at this
          have hin := fun W hW => trInodes_any W b S s2 hW
          have hl1 : (sortI (s2.t.m.map (·.1))).length = 1 := by rw [(sortI_perm _).length_eq, List.length_map, hfin.fin]
          have hl2 : s2.t.m.length ≤ 100000 := by rw [hfin.fin]; decide
          have hwk := fun W => wakes22_any W
          clear hfin hlt hi
          go_wp2_with fail
          refine (hin _ HT7.out).mono ?_
          clear hin
          rintro e w8 ⟨⟨ib, S1, rfl, hI⟩, rfl⟩
          have hia := inoAll_any w8 ib S1 s2.t hI hl2
          unfold AllPost at hia
          rw [hl1] at hia
          clear hI hl2
          go_wp2_with fail
          refine hia.mono ?_
          clear hia
          rintro e w9 ⟨a2, cz, rfl, -, -, hB9⟩
          have HB9 := Lib.hid (HB7.out.trans (hB9.mono HB7.out.size))
          clear hB9 hl1
          go_wp2_with fail
          refine (hwk _).mono ?_
          clear hwk
          rintro e w10 ⟨rfl, hB10⟩
          have HB10 := Lib.hid (HB9.out.trans (hB10.mono HB9.out.size))
          clear hB10
          go_wp2_with fail
          go_ret
          exact ⟨rfl, HB10.out⟩

set_option maxRecDepth 100000 in
set_option maxHeartbeats 2000000 in
theorem treeLinks_lifted (os : Os) (started : os.Started) (H : Type) (enc : TypeId × Value → H) :
    ReturnsInHanded {} Tryz.checked os 4 .any (Rows.treeLinksSpec.pre6 enc Tryz.prog Tryz.f4 Rows.treeLinksRow.domain false) (Rows.treeLinksSpec.post enc Tryz.prog Tryz.f4 false true false false) := by
  refine returnsInHanded_of_change (C := Tryz.checked) Tryz.ownP started (by kernel_rfl) Tryz.func4
    (ChangeSpec.witness6 (enc := enc) (C := Tryz.checked) false ⟨#[], #[.slice none 0 0, .int .i64 0], []⟩ 8 (by kernel_rfl) (by kernel_rfl) (by kernel_rfl) (by kernel_rfl)) ?_
  intro W base args ds gs before hval0 hW hcnd _
  have hval : ∀ (j : Nat) t v, Tryz.f4.params[j]? = some t → args[j]? = some v → Value.okWide Tryz.prog W .any base t v := hval0
  have hW' := hW
  obtain ⟨p, q, hA0, hV, rfl, hfz, hnd⟩ := hW
  have hA : DataW.TrodAll enc Tryz.prog W 0 (fun _ => true) true Tryz.f4.params.toList args.toList ds p := hA0
  rw [Tryz.params4] at hA hval
  obtain ⟨v0, vs0, d0, ds0, p0, q0, hargs, rfl, rfl, h0, r0⟩ := trodAll_cons hA
  obtain ⟨v1, vs1, d1, ds1, p1, q1, rfl, rfl, rfl, h1, r1⟩ := trodAll_cons r0
  obtain ⟨rfl, rfl, rfl⟩ := trodAll_nil r1
  obtain rfl : args = #[v0, v1] := by cases args; simp_all
  obtain ⟨rfl, rfl⟩ := trodVars_none hV
  obtain ⟨cs0, x0, hv0, hr0⟩ := open_arg (n := 9) (T := (.slice .str)) (by kernel_rfl) (hval 0 22 v0 rfl rfl) h0
  obtain ⟨cs1, x1, hv1, hr1⟩ := open_arg (n := 9) (T := (.int .i64)) (by kernel_rfl) (hval 1 3 v1 rfl rfl) h1
  obtain ⟨oa, l, cap, e0, hN, hn⟩ := rd_nms hr0
  simp only [Ty.isStruct, Bool.false_eq_true, if_false] at hv0 hv1
  obtain ⟨z, e1, -, -, -⟩ := rd_int.1 hr1
  rw [e0] at hv0
  rw [e1] at hv1
  subst hv0
  subst hv1
  clear hA0 hval0
  refine (treeLinks_walk W oa cap l z hN).mono fun e W' ⟨he, hb⟩ => ?_
  subst he
  exact ⟨_, rfl, law_post Tryz.laidOutP (by kernel_rfl) rfl Tryz.underlying4 hW' rfl rfl rfl rfl hb⟩

theorem treeLinks_holds : Rows.TreeLinksSaid :=
  OpenClaim.holds_of_wide 4 Tryz.f4 rfl rfl rfl rfl rfl rfl rfl ⟨rfl, rfl, rfl, rfl, rfl⟩ rfl rfl rfl rfl rfl (by kernel_rfl) Tryz.func4 (by kernel_rfl)
    (of_decide_eq_true (by kernel_rfl)) (by unfold Func.isWrapper; first | (rw [if_pos (by decide +kernel)]; kernel_rfl) | (rw [if_neg (by decide +kernel)]; exact ⟨rfl, rfl⟩))
    (fun os started H enc _ => treeLinks_lifted os started H enc)
end Go.Proofs.YtakbalmbkokklaaGreat
