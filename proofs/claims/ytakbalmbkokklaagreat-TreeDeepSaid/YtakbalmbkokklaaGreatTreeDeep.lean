/-
  The law TreeDeep: directories lie in each other as deep as a path is long; each is found by its path, and lists the next one; they go from the deepest on.
  Conditions: none.
-/
import Derived.Test.YtakbalmbkokklaaGreatDeepM
import Derived.Test.YtakbalmbkokklaaGreatRName
import Derived.Test.YtakbalmbkokklaaGreatWakes22
import Derived.Test.YtakbalmbkokklaaGreatRow22
import Derived.Test.YtakbalmbkokklaaGreatRdNms
import Derived.BigQuiet
namespace Go.Proofs.YtakbalmbkokklaaGreat
open Go.RowKit Esch Go.ChangeShapes Go.WideShapes Go.ChangeAt

def deepRow (nm : Nat → Nm) (k : Nat) : List Value := (List.range k).map fun j => strV (deepP nm (j + 1))
theorem deepRow_succ (nm : Nat → Nm) (k : Nat) : deepRow nm (k + 1) = deepRow nm k ++ [strV (deepP nm (k + 1))] := by
  unfold deepRow; rw [List.range_succ, List.map_append]; rfl
theorem deepRow_get (nm : Nat → Nm) {k j : Nat} (h : j < k) : (deepRow nm k)[j]? = some (strV (deepP nm (j + 1))) := by
  unfold deepRow; rw [List.getElem?_map, List.getElem?_range h]; rfl
theorem deepP_size {nm : Nat → Nm} (hn : DNm nm) (k : Nat) : (deepP nm k).length ≤ 9 * k := by
  induction k with
  | zero => simp [deepP, deepL, pathT]
  | succ k ih =>
    rw [deepP_succ]
    have := (nameL_len (hn.ok k)).2.1
    simp only [List.length_append, List.length_cons]
    omega
def Dp3 (nm : Nat → Nm) (k b : Nat) (S : Nat → Prop) (s : TrS) (ao : Option Addr) (cp B : Nat) (w : World) (g : Nat) (s11 : Value) (wr : World) : Prop :=
  ∃ i : Nat, g = k - i ∧ i ≤ k ∧ s11 = .int .i64 i ∧ GRowAt wr (From B) 1 k cp ao (deepRow nm k) ∧ TreeAt wr b S s ∧ Below w.heap.size w wr
def Dp4 (nm : Nat → Nm) (k b : Nat) (S : Nat → Prop) (ao : Option Addr) (cp B : Nat) (w : World) (g : Nat) (s16 : Value) (wr : World) : Prop :=
  ∃ (q : Nat) (s : TrS), g = q ∧ q ≤ k ∧ s16 = .int .i64 ((q : Int) - 1) ∧ GRowAt wr (From B) 1 k cp ao (deepRow nm k) ∧ TreeAt wr b S s ∧ Deep s nm q ((k : Int) + 2) ∧ Below w.heap.size w wr
def Dp1 (l : List Nm) (w1 : World) (g : Nat) (s6 : Value) (wr : World) : Prop := ∃ i : Nat, g = l.length - i ∧ i ≤ l.length ∧ s6 = .int .i64 i ∧ (∀ j, j < i → nameL (l.getD j []) = true) ∧ wr = w1
def Dp2 (nm : Nat → Nm) (k b : Nat) (S : Nat → Prop) (w1 w : World) (g : Nat) (s8 s9 s10 : Value) (wr : World) : Prop :=
  ∃ (i : Nat) (s : TrS) (ao : Option Addr) (cp : Nat), g = k - i ∧ i ≤ k ∧ s8 = .string (bs (deepP nm i)) ∧ s9 = .slice ao i cp ∧ s10 = .int .i64 i ∧ GRowAt wr (From w1.heap.size) 1 i cp ao (deepRow nm i) ∧ TreeAt wr b S s ∧ Deep s nm i ((i : Int) + 2) ∧ Below w.heap.size w wr ∧ w1.heap.size ≤ wr.heap.size
set_option maxRecDepth 100000 in
set_option maxHeartbeats 8000000 in
theorem treeDeep_walk (w : World) (a : Option Addr) (c : Nat) (l : List Nm) (be : Int) (hb0 : 0 ≤ be) (hb1 : be ≤ 255) (h : NmsAt (fun _ => True) w a l) :
    Calls Tryz.prog 3 #[.slice a l.length c, .int .u8 be] w fun e w' => e = .returned (.bool true) ∧ Below w.heap.size w w' := by
  have HN := Lib.hid h
  obtain ⟨k0, hk0, hk8⟩ : ∃ k0 : Nat, be.tmod 8 = k0 ∧ k0 < 8 := ⟨(be.tmod 8).toNat, by
    have := Int.tmod_nonneg 8 hb0
    omega, by
    have := Int.tmod_nonneg 8 hb0
    have := Int.tmod_lt_of_pos be (show (0 : Int) < 8 by decide)
    omega⟩
  have hk1 : be % 8 = k0 := by rw [← hk0, Int.tmod_eq_emod_of_nonneg hb0]
  clear h
  go_enter Tryz.func3, Tryz.ntmps3
  go_wp2_with fail
  refine (trNew_any _).mono ?_
  rintro e w1 ⟨b, rfl, hT, hB⟩
  obtain ⟨S, hSS⟩ : ∃ S : Nat → Prop, S = fun k => w.heap.size ≤ k ∧ k < w1.heap.size := ⟨_, rfl⟩
  rw [← hSS] at hT
  have HSS := Lib.hid (show ∀ k, S k → w.heap.size ≤ k ∧ k < w1.heap.size by rw [hSS]; exact fun k hk => hk)
  have HT := Lib.hid hT
  have HB := Lib.hid hB
  clear hT hB hSS
  by_cases hl0 : l.length < 1
  · have hl0' : (l.length : Int) < 1 := by omega
    clear hl0 hk0 hk1
    go_wp2_with fail
    refine (wakes22_any _).mono ?_
    rintro e wz ⟨rfl, hBz⟩
    go_wp2_with fail
    go_ret
    exact ⟨rfl, HB.out.trans (hBz.mono HB.out.size)⟩
  have hl0' := decide_eq_false (show ¬ (l.length : Int) < 1 by omega)
  by_cases hl20 : 20 < l.length
  · have hl20' : (20 : Int) < l.length := by omega
    clear hl0 hl20 hk0 hk1
    go_wp2_with fail
    refine (wakes22_any _).mono ?_
    rintro e wz ⟨rfl, hBz⟩
    go_wp2_with fail
    go_ret
    exact ⟨rfl, HB.out.trans (hBz.mono HB.out.size)⟩
  have hl20' := decide_eq_false (show ¬ (20 : Int) < l.length by omega)
  have Hl0 := Lib.hid hl0
  go_wp2_with fail
  go_loopg [6] l.length (fun g s6 wr => Dp1 l w1 g s6 wr)
  case atStart => exact ⟨0, rfl, Nat.zero_le _, rfl, fun j hj => absurd hj (by omega), rfl⟩
  case round =>
    obtain ⟨i, rfl, hi, rfl, hall, rfl⟩ := hrel
    have HA := Lib.hid hall
    clear hall
    by_cases hlt : i < l.length
    · obtain ⟨bk, off, rfl, -, hb, hc⟩ := HN.out (by omega)
      have c0 := below_at HB.out (hc i hlt) hb
      obtain ⟨nb, hnb⟩ : ∃ nb, nb = nameL (l.getD i []) := ⟨_, rfl⟩
      have hrn := fun W => rName_any W (l.getD i [])
      rw [← hnb] at hrn
      have HNB := Lib.hid hnb
      have HST := Lib.hid (show nb = true → ∀ j, j < i + 1 → nameL (l.getD j []) = true from fun h j hj => by
        by_cases e : j = i
        · subst e; rw [← hnb]; exact h
        · exact HA.out j (by omega))
      generalize l.getD i [] = x at c0 hrn
      have hil : (0 : Int) ≤ i ∧ (i : Int) < l.length := by omega
      have hwr0 := Lib.hid (show wrap64 ((i : Int) + 1) = ((i + 1 : Nat) : Int) by unfold wrap64; omega)
      clear hc hnb hk0 hk1 hl0 hl20
      go_wp2_with fail
      refine (hrn _).mono ?_
      clear hrn
      rintro e w2 ⟨rfl, rfl⟩
      cases nb
      · go_wp2_with fail
        refine (wakes22_any _).mono ?_
        rintro e wz ⟨rfl, hBz⟩
        go_wp2_with fail
        go_ret
        exact ⟨rfl, HB.out.trans (hBz.mono HB.out.size)⟩
      · go_wp2_with fail
        go_roundg (l.length - (i + 1))
        case measure => omega
        case rel => exact ⟨i + 1, rfl, by omega, by first | rfl | rw [hwr0.out], HST.out trivial, rfl⟩
    · obtain rfl : i = l.length := by omega
      have hpos : 0 < l.length := by have := Hl0.out; omega
      have hnm : DNm (fun i => l.getD (i % l.length) []) := ⟨fun i => HA.out _ (Nat.mod_lt _ hpos)⟩
      have HNM := Lib.hid hnm
      clear hnm hlt hi hpos
      obtain ⟨w2, hw2⟩ : ∃ w2, w2 = wr := ⟨_, rfl⟩
      subst hw2
      obtain ⟨nm, hnmd⟩ : ∃ nm : Nat → Nm, nm = fun i => l.getD (i % l.length) [] := ⟨_, rfl⟩
      have HNMD := Lib.hid hnmd
      rw [← hnmd] at HNM
      obtain ⟨i0, hi0, hz0, hz1, hz2⟩ := info_parts Tryz.infoStr
      clear hnmd HA hl20 hk0 hl0
      go_wp2_with fail
      rw [hk1]
      clear hk1
      go_loopg [8, 9, 10] (k0 + 1) (fun g s8 s9 s10 wr => Dp2 nm (k0 + 1) b S w2 w g s8 s9 s10 wr)
      case atStart => exact ⟨0, tr0, none, 0, rfl, Nat.zero_le _, rfl, rfl, rfl, GRowAt.nil _ _ _ _, HT.out, Deep.start nm, HB.out, Nat.le_refl _⟩
      case round =>
        obtain ⟨i, s, ao, cp, rfl, hi, rfl, rfl, rfl, hG, hT, hD, hB, hz⟩ := hrel
        have HG := Lib.hid hG
        have HTr := Lib.hid hT
        have HD := Lib.hid hD
        have HBr := Lib.hid hB
        have HZ := Lib.hid hz
        clear hG hT hD hB hz
        by_cases hlt : i < k0 + 1
        · obtain ⟨bk, off, rfl, -, hb, hc⟩ := HN.out (by have := Hl0.out; omega)
          have hmod : i % l.length < l.length := Nat.mod_lt _ (by have := Hl0.out; omega)
          have c0 := below_at HBr.out (hc (i % l.length) hmod) hb
          have hrem : (i : Int).tmod (l.length : Int) = ((i % l.length : Nat) : Int) := (Int.ofNat_tmod _ _).symm
          have hmi : (0 : Int) ≤ ((i % l.length : Nat) : Int) ∧ ((i % l.length : Nat) : Int) < l.length := by omega
          have hne0 : ¬ (l.length : Int) = 0 := by have := Hl0.out; omega
          obtain ⟨x, hx⟩ : ∃ x, x = l.getD (i % l.length) [] := ⟨_, rfl⟩
          have hps : deepP nm (i + 1) = deepP nm i ++ (47 :: x) := by rw [deepP_succ, HNMD.out, hx]
          have hx8 : x.length ≤ 8 := by
            have := (nameL_len (HNM.out.ok i)).2.1
            rw [HNMD.out] at this
            rw [hx]; exact this
          have hsz := deepP_size HNM.out i
          rw [← hx] at c0
          generalize i % l.length = im at c0 hrem hmi
          obtain ⟨s1, e1, hD1⟩ := HD.out.mkdir HNM.out (by omega)
          have e2 := hD1.twice HNM.out (by omega)
          have hm1 := fun W hT => trMkdir_any W b S s hT HD.out.good.ok (deepP nm (i + 1))
          have hm2 := fun W hT => trMkdir_any W b S s1 hT hD1.good.ok (deepP nm (i + 1))
          unfold ErrPost at hm1 hm2
          rw [e1] at hm1
          rw [e2] at hm2
          simp only at hm1 hm2
          have hrs := deepRow_succ nm i
          obtain ⟨P0, hP0⟩ : ∃ P0, P0 = deepP nm i := ⟨_, rfl⟩
          obtain ⟨P1, hP1⟩ : ∃ P1, P1 = deepP nm (i + 1) := ⟨_, rfl⟩
          rw [← hP0] at hps hsz ⊢
          rw [← hP1] at hps hm1 hm2 hrs
          have HD1 := Lib.hid hD1
          have HRS := Lib.hid hrs
          have HP1 := Lib.hid hP1
          have hadd1 : ∀ W, (Op.stringOp .add (⟨#[47]⟩ : ByteArray) (bs x)).run Tryz.prog W = .ok (.string (bs (47 :: x))) W := fun W => (run_string_add_sum _ _ _ (by rw [bs_size]; show 1 + _ ≤ _; omega)).trans (by rw [show (⟨#[47]⟩ : ByteArray) = bs [47] from rfl, bs_append]; rfl)
          have hadd2 : ∀ W, (Op.stringOp .add (bs P0) (bs (47 :: x))).run Tryz.prog W = .ok (.string (bs P1)) W := fun W => (run_string_add_sum _ _ _ (by rw [bs_size, bs_size, List.length_cons]; omega)).trans (by rw [bs_append, hps])
          have hil := decide_eq_true (show (i : Int) < 1 + (k0 : Int) by omega)
          have hi0' : (0 : Int) ≤ i := by omega
          have Hi8 := Lib.hid (show i ≤ 8 by omega)
          have Hlt := Lib.hid hlt
          clear hc hx hx8 hsz hps hP0 hP1 hrs hD1 e1 e2 hi hlt
          go_wp2_with (at_builtin; refine wpList_append_g (by rfl) (.tmp 67) (.tmp 69) 22 22 (by rfl) 9 i0 _ 16 Tryz.underlying22 hi0 hz0 hz1 hz2 (by rfl) (by rfl) (HG.out.mod (F := none') (by exact modC (Mod.refl _ _)) (fun _ _ _ => id)) _ 1 [strV P1] (by rfl) (src_str _ _ Tryz.underlying22 wr.heap.size P1 9 (heap_alloc_new _ _) _) (by have := Hi8.out; omega) (by have := Hi8.out; omega) ?_; intro a6 cap6 w6 hg6 hM6 hz6)
          have hAl : Below wr.heap.size wr (wr.alloc (.cells #[strV P1] 9)) := by exact belC (Below.refl _ _)
          have hT6 : TreeAt w6 b S s := (HTr.out.below' hAl).mod hM6 (fun k hk e => by have := (HSS.out k hk).2; have e : w2.heap.size ≤ k := e; omega)
          have hB6 : Below w.heap.size w w6 := HBr.out.trans (hAl.mono HBr.out.size) |>.trans (hM6.below_at (by have := HBr.out.size; simp only [World.size_alloc]; omega) (fun k hk e => by have := HB.out.size; have e : w2.heap.size ≤ k := e; omega))
          have hg7 : GRowAt w6 (From w2.heap.size) 1 (i + 1) cap6 a6 (deepRow nm (i + 1)) := by
            rw [HRS.out]
            exact hg6.sub (fun k _ hk => by
              rcases hk with hk | hk
              · exact hk
              · show w2.heap.size ≤ k; rw [hk]; simp only [World.size_alloc]; have := HZ.out; omega)
          have hz6' : w2.heap.size ≤ w6.heap.size := by have := HZ.out; have := hM6.size; simp only [World.size_alloc] at this; omega
          have HG6 := Lib.hid hg7
          have HB6 := Lib.hid hB6
          have HZ6 := Lib.hid hz6'
          clear hg6 hM6 hz6 hg7 hB6 hz6' hAl HG
          refine (hm1 _ hT6).mono ?_
          clear hm1 hT6
          rintro e w7 ⟨rfl, hT7, hM7⟩
          have HM7 := Lib.hid hM7
          clear hM7
          go_wp2_with fail
          refine (hm2 _ hT7).mono ?_
          clear hm2 hT7
          rintro e w8 ⟨rfl, hT8, hM8⟩
          have HM8 := Lib.hid (HM7.out.trans hM8)
          have HT8 := Lib.hid hT8
          clear hM8 hT8 HM7
          have HG8 := Lib.hid (HG6.out.mod HM8.out (fun k hk _ e => by have := (HSS.out k e).2; have hk : w2.heap.size ≤ k := hk; omega))
          have HB8 := Lib.hid (HB6.out.trans (HM8.out.below_at HB6.out.size (fun k hk e => by have := (HSS.out k e).1; omega)))
          have hwr1 := Lib.hid (show wrap64 ((i : Int) + 1) = ((i + 1 : Nat) : Int) by have := Hi8.out; unfold wrap64; omega)
          go_wp2_with fail
          go_roundg (k0 + 1 - (i + 1))
          case measure => have := Hlt.out; omega
          case rel => exact ⟨i + 1, s1, a6, cap6, rfl, by have := Hlt.out; omega, by rw [HP1.out], rfl, by first | rfl | rw [hwr1.out], HG8.out, HT8.out, by have := HD1.out; rw [show ((i + 1 : Nat) : Int) + 2 = (i : Int) + 3 by omega]; exact this, HB8.out, by have := HZ6.out; have := HM8.out.size; omega⟩
        · obtain rfl : i = k0 + 1 := by omega
          have HT3 := Lib.hid HTr.out
          have HG3 := Lib.hid HG.out
          have HB3 := Lib.hid HBr.out
          obtain ⟨w3, hw3⟩ : ∃ w3, w3 = wr := ⟨_, rfl⟩
          subst hw3
          clear hlt hi HTr HG HBr
          by_cases h7 : k0 = 7
          · have hk7 : ((1 : Int) + (k0 : Int) == 8) = true := by subst h7; rfl
            have hadd : ∀ W, (Op.stringOp .add (bs (deepP nm (k0 + 1))) (⟨#[47, 97]⟩ : ByteArray)).run Tryz.prog W = .ok (.string (bs (deepP nm 8 ++ [47, 97]))) W := fun W => (run_string_add_sum _ _ _ (by have := deepP_size HNM.out (k0 + 1); rw [bs_size]; show _ + 2 ≤ _; omega)).trans (by rw [show (⟨#[47, 97]⟩ : ByteArray) = bs [47, 97] from rfl, bs_append]; subst h7; rfl)
            have hm3 := fun W hT => trMkdir_any W b S s hT HD.out.good.ok (deepP nm 8 ++ [47, 97])
            unfold ErrPost at hm3
            rw [Deep.more HNM.out] at hm3
            simp only at hm3
            clear h7
            go_wp2_with fail
            refine (hm3 _ HT3.out).mono ?_
            clear hm3
            rintro e w4 ⟨rfl, hT4, hM4⟩
            have HT4 := Lib.hid hT4
            have HG4 := Lib.hid (HG3.out.mod hM4 (fun k hk _ e => by have := (HSS.out k e).2; have hk : w2.heap.size ≤ k := hk; omega))
            have HB4 := Lib.hid (HB3.out.trans (hM4.below_at HB3.out.size (fun k hk e => by have := (HSS.out k e).1; omega)))
            clear hT4 hM4 HT3 HG3 HB3 hadd
            go_wp2_with fail
            go_loopg [11] (k0 + 1) (fun g s11 wr => Dp3 nm (k0 + 1) b S s ao cp w2.heap.size w g s11 wr)
            case atStart => exact ⟨0, rfl, Nat.zero_le _, rfl, HG4.out, HT4.out, HB4.out⟩
            case round =>
              obtain ⟨i, rfl, hi, rfl, hG, hT, hB⟩ := hrel
              have HGr := Lib.hid hG
              have HTr := Lib.hid hT
              have HBr := Lib.hid hB
              clear hG hT hB
              by_cases hlt : i < k0 + 1
              · obtain ⟨rb, ro, rfl, hrb, hrl, hr1, -⟩ := HGr.out.at' (by have := HGr.out.le; omega)
                have c0 := hr1 i (by omega)
                rw [deepRow_get nm hlt] at c0
                have hres := HD.out.resolve HNM.out (i := i) hlt (by omega)
                have hkd : s.kind ((i : Int) + 2) = 1 := HD.out.kind (by omega) (by omega)
                have hlo : lstOf s (.ok ((i : Int) + 2)) = .ok ((i : Int) + 2) := by show (if s.kind ((i : Int) + 2) ≠ 1 then _ else _) = _; rw [if_neg (by rw [hkd]; decide)]
                have hls : ∀ W, TreeAt W b S s → Calls Tryz.prog 13 #[.pointer (some ⟨b, 0, none⟩), .string (bs (deepP nm (i + 1)))] W fun e w' => (∃ a c l, e = .returned (.tuple #[.slice a l.length c, .int .i64 0]) ∧ l = deepN nm (k0 + 1) i ∧ NmsAt (From W.heap.size) w' a l) ∧ Below W.heap.size W w' := fun W hT => (trList_any W b S s hT (deepP nm (i + 1)) (by rw [HD.out.n]; unfold deepE; rw [List.length_map, List.length_range]; omega)).mono (fun e w' h => by
                  rw [hres, hlo] at h
                  obtain ⟨a, c, l, h1, h2, h3, h4, h5⟩ := h
                  exact ⟨⟨a, c, l, h1, HD.out.list h2, h3⟩, h5⟩)
                have hst : ∀ W, TreeAt W b S s → Calls Tryz.prog 14 #[.pointer (some ⟨b, 0, none⟩), .string (bs (deepP nm (i + 1)))] W fun e w' => e = .returned (.tuple #[.agg #[.int .i64 ((i : Int) + 2), .int .i64 1, .int .i64 1, .int .i64 0], .int .i64 0]) ∧ Below W.heap.size W w' := fun W hT => (trStat_any W b S s hT (deepP nm (i + 1))).mono (fun e w' h => by
                  rw [hres] at h
                  obtain ⟨h1, h2⟩ := h
                  refine ⟨?_, h2⟩
                  rw [h1]
                  show Ending.returned (.tuple #[statV (s.t.at ((i : Int) + 2)), .int .i64 0]) = _
                  rw [HD.out.at' _ (by omega) (by omega)]
                  rfl)
                have hrm : i + 1 < k0 + 1 → ∀ W, TreeAt W b S s → Calls Tryz.prog 15 #[.pointer (some ⟨b, 0, none⟩), .string (bs (deepP nm (i + 1)))] W (ErrPost W b S (64, s)) := fun hi W hT => by
                  have := trRmdir_any W b S s hT HD.out.good.ok (deepP nm (i + 1))
                  rwa [HD.out.filled HNM.out hi (by omega)] at this
                unfold ErrPost at hrm
                simp only at hrm
                generalize deepP nm (i + 1) = P at *
                have hw1 : wrap64 ((i : Int) + 1) = (i : Int) + 1 := by unfold wrap64; omega
                have hw2 : wrap64 (2 + (i : Int)) = (i : Int) + 2 := by unfold wrap64; omega
                have hne2 : ((i : Int) + 2 != 2 + (i : Int)) = false := by simp only [bne_eq_false_iff_eq]; omega
                have hil := decide_eq_true (show (i : Int) < 1 + (k0 : Int) by omega)
                have hib : (0 : Int) ≤ i ∧ (i : Int) < k0 + 1 := by omega
                clear hres hkd hlo
                have hrb' : rb < wr.heap.size := hrl
                have HR1 := Lib.hid hr1
                clear hr1
                go_wp2_with fail
                refine (hls _ HTr.out).mono ?_
                clear hls
                rintro e w5 ⟨⟨a5, c5, l5, rfl, hl5, hn5⟩, hB5⟩
                have c5' := below_at hB5 c0 hrl
                have HT5 := Lib.hid (HTr.out.below' hB5)
                have HB5 := Lib.hid hB5
                have HN5 := Lib.hid hn5
                have HL5 := Lib.hid hl5
                clear hn5 hB5 hl5
                go_wp2_with fail
                refine (hst _ HT5.out).mono ?_
                clear hst
                rintro e w6 ⟨rfl, hB6⟩
                have c6' := below_at hB6 c5' (cell_lt c5')
                have HT6 := Lib.hid (HT5.out.below' hB6)
                have HN6 := Lib.hid (HN5.out.below hB6)
                have HB6 := Lib.hid (HB5.out.trans (hB6.mono HB5.out.size))
                clear hB6
                have hB7 : Below w6.heap.size w6 (w6.alloc (.cells #[.int .i64 ((i : Int) + 2), .int .i64 1, .int .i64 1, .int .i64 0] 32)) := by exact belC (Below.refl _ _)
                have HWX := Lib.hid (show w6.heap.size < (w6.alloc (.cells #[.int .i64 ((i : Int) + 2), .int .i64 1, .int .i64 1, .int .i64 0] 32)).heap.size by simp)
                have HB7 := Lib.hid (HB6.out.trans (hB7.mono HB6.out.size))
                have HT7 := Lib.hid (HT6.out.below' hB7)
                have c7' := below_at hB7 c6' (cell_lt c6')
                have HN7 := Lib.hid (HN6.out.below hB7)
                obtain ⟨w7, hw7⟩ : ∃ w7, w7 = w6.alloc (.cells #[.int .i64 ((i : Int) + 2), .int .i64 1, .int .i64 1, .int .i64 0] 32) := ⟨_, rfl⟩
                have z0 : w7.cell? ⟨w6.heap.size, 0, none⟩ = some (.int .i64 ((i : Int) + 2)) := by rw [hw7]; go_simp
                rw [← hw7] at HB7 HT7 c7' HN7
                have HW7 := Lib.hid hw7
                have hrb7 : rb < w7.heap.size := cell_lt c7'
                have hz7 : w6.heap.size < w7.heap.size := cell_lt z0
                clear hw7 hB7 HWX c0 c5' c6'
                by_cases hlast : i + 1 < k0 + 1
                · have hil2 := decide_eq_true (show (i : Int) + 1 < 1 + (k0 : Int) by omega)
                  obtain ⟨y, hy⟩ : ∃ y, y = nm (i + 1) := ⟨_, rfl⟩
                  have hl5 : l5 = [y] := by rw [HL5.out, hy]; unfold deepN; rw [if_pos hlast]
                  subst hl5
                  obtain ⟨lb, lo, rfl, -, hlb, hlc⟩ := HN7.out (by simp)
                  have d0 : w7.cell? ⟨lb, lo, none⟩ = some (.string (bs y)) := hlc 0 (by simp)
                  obtain ⟨nb, no, hna, -, hnb, hnc⟩ := HN.out (by have := Hl0.out; omega)
                  cases hna
                  have hmod : (i + 1) % l.length < l.length := Nat.mod_lt _ (by have := Hl0.out; omega)
                  have n0 := below_at (HBr.out.trans (HB7.out.mono HBr.out.size)) (hnc _ hmod) hnb
                  have hyy : l.getD ((i + 1) % l.length) [] = y := by rw [hy, HNMD.out]
                  rw [hyy] at n0
                  have hrem : ((i : Int) + 1).tmod (l.length : Int) = (((i + 1) % l.length : Nat) : Int) := (Int.ofNat_tmod _ _).symm
                  have hmi : (0 : Int) ≤ (((i + 1) % l.length : Nat) : Int) ∧ (((i + 1) % l.length : Nat) : Int) < l.length := by omega
                  have hne0 : ¬ (l.length : Int) = 0 := by have := Hl0.out; omega
                  generalize (i + 1) % l.length = im at n0 hrem hmi hmod
                  have hnb7 : nb < w7.heap.size := cell_lt n0
                  have hlb7 : lb < w7.heap.size := cell_lt d0
                  have hrm2 := fun W => hrm hlast W
                  clear hlc hnc hy hyy hrm hmod hlast hnb
                  go_wp2_with fail
                  rw [← HW7.out]
                  go_quiet (fail)
                  go_wp2_with fail
                  refine (hrm2 _ (HT7.out.below' (below_drewN (Below.refl _ _) _))).mono ?_
                  clear hrm2
                  rintro e w8 ⟨rfl, hT8, hM8⟩
                  have key : ∀ n, Mod S (w7.drewN n) w8 → GRowAt w8 (From w2.heap.size) 1 (k0 + 1) cp (some ⟨rb, ro, none⟩) (deepRow nm (k0 + 1)) ∧ Below w.heap.size w w8 := fun n hM => by
                    have hBd := below_drewN HB7.out n
                    have hBd2 := HBr.out.trans (hBd.mono HBr.out.size)
                    exact ⟨(HGr.out.mod (F := none') (Mod.of_below hBd) (fun _ _ _ => id)).mod hM (fun k hk _ e => by have := (HSS.out k e).2; have hk : w2.heap.size ≤ k := hk; omega), hBd2.trans (hM.below_at hBd2.size (fun k hk e => by have := (HSS.out k e).1; omega))⟩
                  obtain ⟨hG8, hB8⟩ := key _ hM8
                  have HG8 := Lib.hid hG8
                  have HB8 := Lib.hid hB8
                  have HT8 := Lib.hid hT8
                  clear hT8 hM8 hG8 hB8 key
                  go_wp2_with fail
                  go_roundg (k0 + 1 - (i + 1))
                  case measure => omega
                  case rel => exact ⟨i + 1, rfl, hlt, rfl, HG8.out, HT8.out, HB8.out⟩
                · have hil2 := decide_eq_false (show ¬ (i : Int) + 1 < 1 + (k0 : Int) by omega)
                  have hl5 : l5 = [] := by rw [HL5.out]; unfold deepN; rw [if_neg hlast]
                  subst hl5
                  clear hlast hrm
                  go_wp2_with fail
                  rw [← HW7.out]
                  go_quiet (fail)
                  go_wp2_with fail
                  have hBd := below_drewN HB7.out
                  go_roundg (k0 + 1 - (i + 1))
                  case measure => omega
                  case rel => exact ⟨i + 1, rfl, hlt, rfl, HGr.out.mod (F := none') (Mod.of_below (hBd _)) (fun _ _ _ => id), HT7.out.below' (below_drewN (Below.refl _ _) _), HBr.out.trans ((hBd _).mono HBr.out.size)⟩
              · obtain rfl : i = k0 + 1 := by omega
                obtain ⟨w9, hw9⟩ : ∃ w9, w9 = wr := ⟨_, rfl⟩
                subst hw9
                clear hlt hi
                go_wp2_with fail
                go_loopg [16] (k0 + 1) (fun g s16 wr => Dp4 nm (k0 + 1) b S ao cp w2.heap.size w g s16 wr)
                case atStart => exact ⟨k0 + 1, s, rfl, Nat.le_refl _, by first | rfl | (congr 1; omega), HGr.out, HTr.out, HD.out, HBr.out⟩
                case round =>
                  obtain ⟨q, s4, hgq, hg, rfl, hG, hT, hD, hB⟩ := hrel
                  have hgq := hgq.symm
                  subst hgq
                  have HG4 := Lib.hid hG
                  have HT4 := Lib.hid hT
                  have HD4 := Lib.hid hD
                  have HB4 := Lib.hid hB
                  clear hG hT hD hB
                  cases q with
                  | zero =>
                    have hnn : ¬ (0 : Int) ≤ ((0 : Nat) : Int) - 1 := by omega
                    have hin := fun W hW => trInodes_any W b S s4 hW
                    have hl1 : (sortI (s4.t.m.map (·.1))).length = 1 := by rw [(sortI_perm _).length_eq, List.length_map, HD4.out.len]
                    have hck := fun W hW => check_true W b S s4 hW HD4.out.good.good (by rw [HD4.out.n]; exact Nat.zero_le _) (by rw [HD4.out.len]; decide)
                    have hwk := fun W => wakes22_any W
                    go_wp2_with fail
                    refine (hin _ HT4.out).mono ?_
                    clear hin
                    rintro e w5 ⟨⟨ib, S1, rfl, hI⟩, rfl⟩
                    have hia := inoAll_any w5 ib S1 s4.t hI (by rw [HD4.out.len]; decide)
                    unfold AllPost at hia
                    rw [hl1] at hia
                    clear hI
                    go_wp2_with fail
                    refine hia.mono ?_
                    clear hia
                    rintro e w6 ⟨a2, cz, rfl, -, -, hB6⟩
                    have HT6 := Lib.hid (HT4.out.below' hB6)
                    have HB6 := Lib.hid (HB4.out.trans (hB6.mono HB4.out.size))
                    clear hB6 hl1
                    go_wp2_with fail
                    refine (hck _ HT6.out).mono ?_
                    clear hck
                    rintro e w7 ⟨rfl, hB7⟩
                    have HB7 := Lib.hid (HB6.out.trans (hB7.mono HB6.out.size))
                    clear hB7
                    go_wp2_with fail
                    refine (hwk _).mono ?_
                    clear hwk
                    rintro e w8 ⟨rfl, hB8⟩
                    have HB8 := Lib.hid (HB7.out.trans (hB8.mono HB7.out.size))
                    clear hB8
                    go_wp2_with fail
                    go_ret
                    exact ⟨rfl, HB8.out⟩
                  | succ j =>
                    obtain ⟨rb, ro, rfl, hrb, hrl, hr1, -⟩ := HG4.out.at' (by have := HG4.out.le; omega)
                    have c0 := hr1 j (by omega)
                    rw [deepRow_get nm (by omega)] at c0
                    obtain ⟨s5, e5, hD5⟩ := HD4.out.rmdir HNM.out (by omega)
                    have hrm := fun W hT => trRmdir_any W b S s4 hT HD4.out.good.ok (deepP nm (j + 1))
                    unfold ErrPost at hrm
                    rw [e5] at hrm
                    simp only at hrm
                    have HD5 := Lib.hid hD5
                    rw [show ((j + 1 : Nat) : Int) - 1 = (j : Int) by omega]
                    have hj0 : (0 : Int) ≤ j ∧ (j : Int) < k0 + 1 := by omega
                    have Hg := Lib.hid hg
                    generalize deepP nm (j + 1) = P at *
                    clear hr1 e5 hD5 hg
                    go_wp2_with fail
                    refine (hrm _ HT4.out).mono ?_
                    clear hrm
                    rintro e w5 ⟨rfl, hT5, hM5⟩
                    have HG5 := Lib.hid (HG4.out.mod hM5 (fun k hk _ e => by have := (HSS.out k e).2; have hk : w2.heap.size ≤ k := hk; omega))
                    have HB5 := Lib.hid (HB4.out.trans (hM5.below_at HB4.out.size (fun k hk e => by have := (HSS.out k e).1; omega)))
                    have HT5 := Lib.hid hT5
                    have hwj := Lib.hid (show wrap64 ((j : Int) - 1) = (j : Int) - 1 by unfold wrap64; omega)
                    clear hT5 hM5
                    go_wp2_with fail
                    go_roundg j
                    case measure => omega
                    case rel => exact ⟨j, s5, rfl, by have := Hg.out; omega, by first | rfl | rw [hwj.out], HG5.out, HT5.out, HD5.out, HB5.out⟩
          · have hk7 : ((1 : Int) + (k0 : Int) == 8) = false := by simp only [beq_eq_false_iff_ne, ne_eq]; omega
            clear h7
            go_wp2_with fail
            go_loopg [11] (k0 + 1) (fun g s11 wr => Dp3 nm (k0 + 1) b S s ao cp w2.heap.size w g s11 wr)
            case atStart => exact ⟨0, rfl, Nat.zero_le _, rfl, HG3.out, HT3.out, HB3.out⟩
            case round =>
              obtain ⟨i, rfl, hi, rfl, hG, hT, hB⟩ := hrel
              have HGr := Lib.hid hG
              have HTr := Lib.hid hT
              have HBr := Lib.hid hB
              clear hG hT hB
              by_cases hlt : i < k0 + 1
              · obtain ⟨rb, ro, rfl, hrb, hrl, hr1, -⟩ := HGr.out.at' (by have := HGr.out.le; omega)
                have c0 := hr1 i (by omega)
                rw [deepRow_get nm hlt] at c0
                have hres := HD.out.resolve HNM.out (i := i) hlt (by omega)
                have hkd : s.kind ((i : Int) + 2) = 1 := HD.out.kind (by omega) (by omega)
                have hlo : lstOf s (.ok ((i : Int) + 2)) = .ok ((i : Int) + 2) := by show (if s.kind ((i : Int) + 2) ≠ 1 then _ else _) = _; rw [if_neg (by rw [hkd]; decide)]
                have hls : ∀ W, TreeAt W b S s → Calls Tryz.prog 13 #[.pointer (some ⟨b, 0, none⟩), .string (bs (deepP nm (i + 1)))] W fun e w' => (∃ a c l, e = .returned (.tuple #[.slice a l.length c, .int .i64 0]) ∧ l = deepN nm (k0 + 1) i ∧ NmsAt (From W.heap.size) w' a l) ∧ Below W.heap.size W w' := fun W hT => (trList_any W b S s hT (deepP nm (i + 1)) (by rw [HD.out.n]; unfold deepE; rw [List.length_map, List.length_range]; omega)).mono (fun e w' h => by
                  rw [hres, hlo] at h
                  obtain ⟨a, c, l, h1, h2, h3, h4, h5⟩ := h
                  exact ⟨⟨a, c, l, h1, HD.out.list h2, h3⟩, h5⟩)
                have hst : ∀ W, TreeAt W b S s → Calls Tryz.prog 14 #[.pointer (some ⟨b, 0, none⟩), .string (bs (deepP nm (i + 1)))] W fun e w' => e = .returned (.tuple #[.agg #[.int .i64 ((i : Int) + 2), .int .i64 1, .int .i64 1, .int .i64 0], .int .i64 0]) ∧ Below W.heap.size W w' := fun W hT => (trStat_any W b S s hT (deepP nm (i + 1))).mono (fun e w' h => by
                  rw [hres] at h
                  obtain ⟨h1, h2⟩ := h
                  refine ⟨?_, h2⟩
                  rw [h1]
                  show Ending.returned (.tuple #[statV (s.t.at ((i : Int) + 2)), .int .i64 0]) = _
                  rw [HD.out.at' _ (by omega) (by omega)]
                  rfl)
                have hrm : i + 1 < k0 + 1 → ∀ W, TreeAt W b S s → Calls Tryz.prog 15 #[.pointer (some ⟨b, 0, none⟩), .string (bs (deepP nm (i + 1)))] W (ErrPost W b S (64, s)) := fun hi W hT => by
                  have := trRmdir_any W b S s hT HD.out.good.ok (deepP nm (i + 1))
                  rwa [HD.out.filled HNM.out hi (by omega)] at this
                unfold ErrPost at hrm
                simp only at hrm
                generalize deepP nm (i + 1) = P at *
                have hw1 : wrap64 ((i : Int) + 1) = (i : Int) + 1 := by unfold wrap64; omega
                have hw2 : wrap64 (2 + (i : Int)) = (i : Int) + 2 := by unfold wrap64; omega
                have hne2 : ((i : Int) + 2 != 2 + (i : Int)) = false := by simp only [bne_eq_false_iff_eq]; omega
                have hil := decide_eq_true (show (i : Int) < 1 + (k0 : Int) by omega)
                have hib : (0 : Int) ≤ i ∧ (i : Int) < k0 + 1 := by omega
                clear hres hkd hlo
                have hrb' : rb < wr.heap.size := hrl
                have HR1 := Lib.hid hr1
                clear hr1
                go_wp2_with fail
                refine (hls _ HTr.out).mono ?_
                clear hls
                rintro e w5 ⟨⟨a5, c5, l5, rfl, hl5, hn5⟩, hB5⟩
                have c5' := below_at hB5 c0 hrl
                have HT5 := Lib.hid (HTr.out.below' hB5)
                have HB5 := Lib.hid hB5
                have HN5 := Lib.hid hn5
                have HL5 := Lib.hid hl5
                clear hn5 hB5 hl5
                go_wp2_with fail
                refine (hst _ HT5.out).mono ?_
                clear hst
                rintro e w6 ⟨rfl, hB6⟩
                have c6' := below_at hB6 c5' (cell_lt c5')
                have HT6 := Lib.hid (HT5.out.below' hB6)
                have HN6 := Lib.hid (HN5.out.below hB6)
                have HB6 := Lib.hid (HB5.out.trans (hB6.mono HB5.out.size))
                clear hB6
                have hB7 : Below w6.heap.size w6 (w6.alloc (.cells #[.int .i64 ((i : Int) + 2), .int .i64 1, .int .i64 1, .int .i64 0] 32)) := by exact belC (Below.refl _ _)
                have HWX := Lib.hid (show w6.heap.size < (w6.alloc (.cells #[.int .i64 ((i : Int) + 2), .int .i64 1, .int .i64 1, .int .i64 0] 32)).heap.size by simp)
                have HB7 := Lib.hid (HB6.out.trans (hB7.mono HB6.out.size))
                have HT7 := Lib.hid (HT6.out.below' hB7)
                have c7' := below_at hB7 c6' (cell_lt c6')
                have HN7 := Lib.hid (HN6.out.below hB7)
                obtain ⟨w7, hw7⟩ : ∃ w7, w7 = w6.alloc (.cells #[.int .i64 ((i : Int) + 2), .int .i64 1, .int .i64 1, .int .i64 0] 32) := ⟨_, rfl⟩
                have z0 : w7.cell? ⟨w6.heap.size, 0, none⟩ = some (.int .i64 ((i : Int) + 2)) := by rw [hw7]; go_simp
                rw [← hw7] at HB7 HT7 c7' HN7
                have HW7 := Lib.hid hw7
                have hrb7 : rb < w7.heap.size := cell_lt c7'
                have hz7 : w6.heap.size < w7.heap.size := cell_lt z0
                clear hw7 hB7 HWX c0 c5' c6'
                by_cases hlast : i + 1 < k0 + 1
                · have hil2 := decide_eq_true (show (i : Int) + 1 < 1 + (k0 : Int) by omega)
                  obtain ⟨y, hy⟩ : ∃ y, y = nm (i + 1) := ⟨_, rfl⟩
                  have hl5 : l5 = [y] := by rw [HL5.out, hy]; unfold deepN; rw [if_pos hlast]
                  subst hl5
                  obtain ⟨lb, lo, rfl, -, hlb, hlc⟩ := HN7.out (by simp)
                  have d0 : w7.cell? ⟨lb, lo, none⟩ = some (.string (bs y)) := hlc 0 (by simp)
                  obtain ⟨nb, no, hna, -, hnb, hnc⟩ := HN.out (by have := Hl0.out; omega)
                  cases hna
                  have hmod : (i + 1) % l.length < l.length := Nat.mod_lt _ (by have := Hl0.out; omega)
                  have n0 := below_at (HBr.out.trans (HB7.out.mono HBr.out.size)) (hnc _ hmod) hnb
                  have hyy : l.getD ((i + 1) % l.length) [] = y := by rw [hy, HNMD.out]
                  rw [hyy] at n0
                  have hrem : ((i : Int) + 1).tmod (l.length : Int) = (((i + 1) % l.length : Nat) : Int) := (Int.ofNat_tmod _ _).symm
                  have hmi : (0 : Int) ≤ (((i + 1) % l.length : Nat) : Int) ∧ (((i + 1) % l.length : Nat) : Int) < l.length := by omega
                  have hne0 : ¬ (l.length : Int) = 0 := by have := Hl0.out; omega
                  generalize (i + 1) % l.length = im at n0 hrem hmi hmod
                  have hnb7 : nb < w7.heap.size := cell_lt n0
                  have hlb7 : lb < w7.heap.size := cell_lt d0
                  have hrm2 := fun W => hrm hlast W
                  clear hlc hnc hy hyy hrm hmod hlast hnb
                  go_wp2_with fail
                  rw [← HW7.out]
                  go_quiet (fail)
                  go_wp2_with fail
                  refine (hrm2 _ (HT7.out.below' (below_drewN (Below.refl _ _) _))).mono ?_
                  clear hrm2
                  rintro e w8 ⟨rfl, hT8, hM8⟩
                  have key : ∀ n, Mod S (w7.drewN n) w8 → GRowAt w8 (From w2.heap.size) 1 (k0 + 1) cp (some ⟨rb, ro, none⟩) (deepRow nm (k0 + 1)) ∧ Below w.heap.size w w8 := fun n hM => by
                    have hBd := below_drewN HB7.out n
                    have hBd2 := HBr.out.trans (hBd.mono HBr.out.size)
                    exact ⟨(HGr.out.mod (F := none') (Mod.of_below hBd) (fun _ _ _ => id)).mod hM (fun k hk _ e => by have := (HSS.out k e).2; have hk : w2.heap.size ≤ k := hk; omega), hBd2.trans (hM.below_at hBd2.size (fun k hk e => by have := (HSS.out k e).1; omega))⟩
                  obtain ⟨hG8, hB8⟩ := key _ hM8
                  have HG8 := Lib.hid hG8
                  have HB8 := Lib.hid hB8
                  have HT8 := Lib.hid hT8
                  clear hT8 hM8 hG8 hB8 key
                  go_wp2_with fail
                  go_roundg (k0 + 1 - (i + 1))
                  case measure => omega
                  case rel => exact ⟨i + 1, rfl, hlt, rfl, HG8.out, HT8.out, HB8.out⟩
                · have hil2 := decide_eq_false (show ¬ (i : Int) + 1 < 1 + (k0 : Int) by omega)
                  have hl5 : l5 = [] := by rw [HL5.out]; unfold deepN; rw [if_neg hlast]
                  subst hl5
                  clear hlast hrm
                  go_wp2_with fail
                  rw [← HW7.out]
                  go_quiet (fail)
                  go_wp2_with fail
                  have hBd := below_drewN HB7.out
                  go_roundg (k0 + 1 - (i + 1))
                  case measure => omega
                  case rel => exact ⟨i + 1, rfl, hlt, rfl, HGr.out.mod (F := none') (Mod.of_below (hBd _)) (fun _ _ _ => id), HT7.out.below' (below_drewN (Below.refl _ _) _), HBr.out.trans ((hBd _).mono HBr.out.size)⟩
              · obtain rfl : i = k0 + 1 := by omega
                obtain ⟨w9, hw9⟩ : ∃ w9, w9 = wr := ⟨_, rfl⟩
                subst hw9
                clear hlt hi
                go_wp2_with fail
                go_loopg [16] (k0 + 1) (fun g s16 wr => Dp4 nm (k0 + 1) b S ao cp w2.heap.size w g s16 wr)
                case atStart => exact ⟨k0 + 1, s, rfl, Nat.le_refl _, by first | rfl | (congr 1; omega), HGr.out, HTr.out, HD.out, HBr.out⟩
                case round =>
                  obtain ⟨q, s4, hgq, hg, rfl, hG, hT, hD, hB⟩ := hrel
                  have hgq := hgq.symm
                  subst hgq
                  have HG4 := Lib.hid hG
                  have HT4 := Lib.hid hT
                  have HD4 := Lib.hid hD
                  have HB4 := Lib.hid hB
                  clear hG hT hD hB
                  cases q with
                  | zero =>
                    have hnn : ¬ (0 : Int) ≤ ((0 : Nat) : Int) - 1 := by omega
                    have hin := fun W hW => trInodes_any W b S s4 hW
                    have hl1 : (sortI (s4.t.m.map (·.1))).length = 1 := by rw [(sortI_perm _).length_eq, List.length_map, HD4.out.len]
                    have hck := fun W hW => check_true W b S s4 hW HD4.out.good.good (by rw [HD4.out.n]; exact Nat.zero_le _) (by rw [HD4.out.len]; decide)
                    have hwk := fun W => wakes22_any W
                    go_wp2_with fail
                    refine (hin _ HT4.out).mono ?_
                    clear hin
                    rintro e w5 ⟨⟨ib, S1, rfl, hI⟩, rfl⟩
                    have hia := inoAll_any w5 ib S1 s4.t hI (by rw [HD4.out.len]; decide)
                    unfold AllPost at hia
                    rw [hl1] at hia
                    clear hI
                    go_wp2_with fail
                    refine hia.mono ?_
                    clear hia
                    rintro e w6 ⟨a2, cz, rfl, -, -, hB6⟩
                    have HT6 := Lib.hid (HT4.out.below' hB6)
                    have HB6 := Lib.hid (HB4.out.trans (hB6.mono HB4.out.size))
                    clear hB6 hl1
                    go_wp2_with fail
                    refine (hck _ HT6.out).mono ?_
                    clear hck
                    rintro e w7 ⟨rfl, hB7⟩
                    have HB7 := Lib.hid (HB6.out.trans (hB7.mono HB6.out.size))
                    clear hB7
                    go_wp2_with fail
                    refine (hwk _).mono ?_
                    clear hwk
                    rintro e w8 ⟨rfl, hB8⟩
                    have HB8 := Lib.hid (HB7.out.trans (hB8.mono HB7.out.size))
                    clear hB8
                    go_wp2_with fail
                    go_ret
                    exact ⟨rfl, HB8.out⟩
                  | succ j =>
                    obtain ⟨rb, ro, rfl, hrb, hrl, hr1, -⟩ := HG4.out.at' (by have := HG4.out.le; omega)
                    have c0 := hr1 j (by omega)
                    rw [deepRow_get nm (by omega)] at c0
                    obtain ⟨s5, e5, hD5⟩ := HD4.out.rmdir HNM.out (by omega)
                    have hrm := fun W hT => trRmdir_any W b S s4 hT HD4.out.good.ok (deepP nm (j + 1))
                    unfold ErrPost at hrm
                    rw [e5] at hrm
                    simp only at hrm
                    have HD5 := Lib.hid hD5
                    rw [show ((j + 1 : Nat) : Int) - 1 = (j : Int) by omega]
                    have hj0 : (0 : Int) ≤ j ∧ (j : Int) < k0 + 1 := by omega
                    have Hg := Lib.hid hg
                    generalize deepP nm (j + 1) = P at *
                    clear hr1 e5 hD5 hg
                    go_wp2_with fail
                    refine (hrm _ HT4.out).mono ?_
                    clear hrm
                    rintro e w5 ⟨rfl, hT5, hM5⟩
                    have HG5 := Lib.hid (HG4.out.mod hM5 (fun k hk _ e => by have := (HSS.out k e).2; have hk : w2.heap.size ≤ k := hk; omega))
                    have HB5 := Lib.hid (HB4.out.trans (hM5.below_at HB4.out.size (fun k hk e => by have := (HSS.out k e).1; omega)))
                    have HT5 := Lib.hid hT5
                    have hwj := Lib.hid (show wrap64 ((j : Int) - 1) = (j : Int) - 1 by unfold wrap64; omega)
                    clear hT5 hM5
                    go_wp2_with fail
                    go_roundg j
                    case measure => omega
                    case rel => exact ⟨j, s5, rfl, by have := Hg.out; omega, by first | rfl | rw [hwj.out], HG5.out, HT5.out, HD5.out, HB5.out⟩

set_option maxRecDepth 100000 in
set_option maxHeartbeats 2000000 in
theorem treeDeep_lifted (os : Os) (started : os.Started) (H : Type) (enc : TypeId × Value → H) :
    ReturnsInHanded {} Tryz.checked os 3 .any (Rows.treeDeepSpec.pre6 enc Tryz.prog Tryz.f3 Rows.treeDeepRow.domain false) (Rows.treeDeepSpec.post enc Tryz.prog Tryz.f3 false true false false) := by
  refine returnsInHanded_of_change (C := Tryz.checked) Tryz.ownP started (by kernel_rfl) Tryz.func3
    (ChangeSpec.witness6 (enc := enc) (C := Tryz.checked) false ⟨#[], #[.slice none 0 0, .int .u8 0], []⟩ 8 (by kernel_rfl) (by kernel_rfl) (by kernel_rfl) (by kernel_rfl)) ?_
  intro W base args ds gs before hval0 hW hcnd _
  have hval : ∀ (j : Nat) t v, Tryz.f3.params[j]? = some t → args[j]? = some v → Value.okWide Tryz.prog W .any base t v := hval0
  have hW' := hW
  obtain ⟨p, q, hA0, hV, rfl, hfz, hnd⟩ := hW
  have hA : DataW.TrodAll enc Tryz.prog W 0 (fun _ => true) true Tryz.f3.params.toList args.toList ds p := hA0
  rw [Tryz.params3] at hA hval
  obtain ⟨v0, vs0, d0, ds0, p0, q0, hargs, rfl, rfl, h0, r0⟩ := trodAll_cons hA
  obtain ⟨v1, vs1, d1, ds1, p1, q1, rfl, rfl, rfl, h1, r1⟩ := trodAll_cons r0
  obtain ⟨rfl, rfl, rfl⟩ := trodAll_nil r1
  obtain rfl : args = #[v0, v1] := by cases args; simp_all
  obtain ⟨rfl, rfl⟩ := trodVars_none hV
  obtain ⟨cs0, x0, hv0, hr0⟩ := open_arg (n := 9) (T := (.slice .str)) (by kernel_rfl) (hval 0 22 v0 rfl rfl) h0
  obtain ⟨cs1, x1, hv1, hr1⟩ := open_arg (n := 9) (T := (.int .u8)) (by kernel_rfl) (hval 1 5 v1 rfl rfl) h1
  obtain ⟨oa, l, cap, e0, hN, hn⟩ := rd_nms hr0
  simp only [Ty.isStruct, Bool.false_eq_true, if_false] at hv0 hv1
  obtain ⟨be, e1, -, hb0, hb1⟩ := rd_int.1 hr1
  rw [e0] at hv0
  rw [e1] at hv1
  subst hv0
  subst hv1
  clear hA0 hval0
  have hb0 : 0 ≤ be := hb0
  have hb1 : be ≤ 255 := hb1
  refine (treeDeep_walk W oa cap l be hb0 hb1 hN).mono fun e W' ⟨he, hb⟩ => ?_
  subst he
  exact ⟨_, rfl, law_post Tryz.laidOutP (by kernel_rfl) rfl Tryz.underlying4 hW' rfl rfl rfl rfl hb⟩

theorem treeDeep_holds : Rows.TreeDeepSaid :=
  OpenClaim.holds_of_wide 3 Tryz.f3 rfl rfl rfl rfl rfl rfl rfl ⟨rfl, rfl, rfl, rfl, rfl⟩ rfl rfl rfl rfl rfl (by kernel_rfl) Tryz.func3 (by kernel_rfl)
    (of_decide_eq_true (by kernel_rfl)) (by unfold Func.isWrapper; first | (rw [if_pos (by decide +kernel)]; kernel_rfl) | (rw [if_neg (by decide +kernel)]; exact ⟨rfl, rfl⟩))
    (fun os started H enc _ => treeDeep_lifted os started H enc)
end Go.Proofs.YtakbalmbkokklaaGreat
