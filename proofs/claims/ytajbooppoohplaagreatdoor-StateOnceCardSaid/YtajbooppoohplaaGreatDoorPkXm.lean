import Derived.Test.YtajbooppoohplaaGreatDoorMac
import Derived.Test.YtajbooppoohplaaGreatDoorPkBase
import Derived.Test.YtajbooppoohplaaGreatDoorPkTrg
import Derived.Test.YtajbooppoohplaaGreatDoorPkIno
import Derived.Test.YtajbooppoohplaaGreatDoorPkRG
/- a store to a map at a key that its range has passed -/
set_option maxRecDepth 100000
set_option maxHeartbeats 8000000
namespace Esch
open Go Go.ChangeMaps Go.MapKept
section
variable {P : Program} {K V : Type} [DecidableEq K] {κ : K → Value} {ν : V → Value} {m left : List (K × V)} {w w' : World} {b r : Nat} {mt kt et : TypeId}
theorem Ranges.put_seen (h : Ranges w b r κ ν m left) (hK : KeyOK P kt κ) (hinj : ∀ a c, κ a = κ c → a = c) (ht : P.underlying mt = some (.map kt et)) {k : K} {v : V} (u : V) (hin : get m k = some v) (hout : ∀ p ∈ left, p.1 ≠ k) :
    ∃ w', (Instr.mapUpdate mt (.map (some b)) (κ k) (ν u)).run P w = .ok () w' ∧ Ranges w' b r κ ν (set m k u) left ∧ Mod (· = b) w w' := by
 have hne := h.ne
 obtain ⟨es, clock, since, seen, c0, h⟩ := h
 have hm := h.map
 obtain ⟨pre, e, post, mpre, mpost, he, hmm, hpre, hpost, hp, hek, hev, hn⟩ := hm.hit hin
 have hf := hK.hit k pre e post w hp hek
 rw [← he] at hf
 have hes : (es.modify pre.length (fun e => { e with key := κ k, val := ν u })).toList = pre ++ { e with key := κ k, val := ν u } :: post := modify_at he _
 refine ⟨putObj w b (.map (es.modify pre.length (fun e => { e with key := κ k, val := ν u })) clock), ?_, ⟨es.modify pre.length (fun e => { e with key := κ k, val := ν u }), clock, since, seen, c0, ⟨hm.put_hit he hmm hpre hpost hn hes, ?_, ?_, h.sc, h.sk, ?_⟩⟩, Mod.putObj (F := (· = b)) (Mod.refl _ _) (fun _ => rfl) _⟩
 · unfold Instr.mapUpdate
   rw [run_bind' _ _ _ _ (run_underlying ht w)]
   simp only
   rw [run_bind' _ _ _ _ (run_getObj_map hm.block)]
   simp only
   rw [run_bind' _ _ _ _ (hK.check _ _ _)]
   rw [run_bind' _ _ _ _ hf]
   simp only [at_len he, Option.map_some, Option.getD_some, hek]
   rw [run_bind' _ _ _ _ (keyStays hK k)]
   exact run_setObj hm.block (by simp)
 · rw [putObj_other _ _ _ _ hne]; exact h.iter
 · intro x hx
   rw [hes] at hx
   have ho := h.old
   rw [he] at ho
   rcases List.mem_append.1 hx with hx | hx
   · exact ho x (List.mem_append_left _ hx)
   · rcases List.mem_cons.1 hx with rfl | hx
     · exact ho e (List.mem_append_right _ (List.mem_cons_self ..))
     · exact ho x (List.mem_append_right _ (List.mem_cons_of_mem _ hx))
 · have hseen : seen.contains e.born = true := by
    cases hc : seen.contains e.born with
    | true => rfl
    | false =>
      exfalso
      have hx : e ∈ (leftOf es seen).toList := by
        unfold leftOf
        rw [Array.toList_filter, List.mem_filter, he]
        exact ⟨by simp, by simp only [hc]; rfl⟩
      have h2 : (e.key, e.val) ∈ left.map (fun p => (κ p.1, ν p.2)) := by rw [← h.left]; exact List.mem_map_of_mem hx
      obtain ⟨p, hp, hq⟩ := List.mem_map.1 h2
      have h3 : κ p.1 = e.key := congrArg Prod.fst hq
      exact hout p hp (hinj _ _ (h3.trans hek))
   rw [← h.left]
   unfold leftOf
   rw [Array.toList_filter, Array.toList_filter, hes, he]
   simp only [List.filter_append, List.filter_cons, hseen, Bool.not_true, Bool.false_eq_true, if_false]
end
end Esch
/- package extent: Move -/
namespace Esch
open Go Go.RowKit
def νs (s : Int × Int) : Value := .agg #[.int .i64 s.1, .int .i64 s.2]
/-- bytes whose places and spots are as they may be -/
def ByOk (m : ByM) : Prop := ∀ e ∈ m, (0 ≤ e.1 ∧ e.1 < 8192) ∧ (0 ≤ e.2.1 ∧ e.2.1 < 16384) ∧ (0 ≤ e.2.2 ∧ e.2.2 < 1024)
theorem putN_ok {x : PtS} (hx : x.In) : ∀ (n : Nat) {m : ByM}, ByOk m → (n : Int) ≤ x.len → ByOk (putN m x n)
  | 0, _, h, _ => h
  | n + 1, m, h, hn => fun e he => by
    have h1 := putN_ok hx n h (by omega)
    have := hx.o0; have := hx.l1; have := hx.ol; have := hx.a0; have := hx.al; have := hx.d0; have := hx.d1
    rcases set_mem he with rfl | he
    · refine ⟨⟨by show 0 ≤ x.off + n; omega, by show x.off + n < 8192; omega⟩, ⟨?_, ?_⟩, ⟨by show 0 ≤ x.at' + n; omega, by show x.at' + n < 1024; omega⟩⟩
      · show 0 ≤ x.addr; omega
      · show x.addr < 16384; omega
    · exact h1 e he
theorem bytes_ok {l : List PtS} (h : ∀ x ∈ l, x.In) : ∀ {m : ByM}, ByOk m → ByOk (l.foldl (fun b x => putN b x x.len.toNat) m) := by
 induction l with
 | nil => exact fun h => h
 | cons x l ih =>
   intro m hm
   have hx := h x (List.mem_cons_self ..)
   have := hx.l1
   exact ih (fun y hy => h y (List.mem_cons_of_mem _ hy)) (putN_ok hx _ hm (by omega))
theorem shift_ok {mv : Mv} {t : Int} (ht : 0 ≤ t ∧ t < 16384) (h2 : 0 ≤ mv.2.2.2) (h3 : mv.2.2.2 + mv.2.2.1 ≤ 1024) {s : Int × Int} (hs : (0 ≤ s.1 ∧ s.1 < 16384) ∧ (0 ≤ s.2 ∧ s.2 < 1024)) : (0 ≤ (shiftB mv t s).1 ∧ (shiftB mv t s).1 < 16384) ∧ (0 ≤ (shiftB mv t s).2 ∧ (shiftB mv t s).2 < 1024) := by
 unfold shiftB
 split
 · rename_i hc
   exact ⟨ht, by show 0 ≤ s.2 - mv.2.1 + mv.2.2.2; omega, by show s.2 - mv.2.1 + mv.2.2.2 < 1024; omega⟩
 · exact hs
/-- what the map is while it is walked: what is still to come is as it was -/
def curB (mv : Mv) (t : Int) (m : ByM) (L : List Int) : ByM := m.map fun e => (e.1, if e.1 ∈ L then e.2 else shiftB mv t e.2)
theorem curB_all (mv : Mv) (t : Int) (m : ByM) : curB mv t m (m.map (·.1)) = m := by
 unfold curB
 conv => rhs; rw [← List.map_id m]
 refine List.map_congr_left fun e he => ?_
 rw [if_pos (List.mem_map_of_mem he)]
 rfl
theorem curB_nil (mv : Mv) (t : Int) (m : ByM) : curB mv t m [] = moveB mv t m := by
 unfold curB moveB
 exact List.map_congr_left fun e _ => by rw [if_neg (List.not_mem_nil)]
theorem set_map {m : ByM} (hn : (m.map (·.1)).Nodup) (f : Int × (Int × Int) → Int × Int) {k : Int} {v u : Int × Int} (hk : (k, v) ∈ m) : set (m.map fun e => (e.1, f e)) k u = m.map fun e => (e.1, if e.1 = k then u else f e) := by
 induction m with
 | nil => cases hk
 | cons e m ih =>
   rw [List.map_cons, List.nodup_cons] at hn
   rw [List.map_cons, List.map_cons]
   by_cases he : e.1 = k
   · rw [show set ((e.1, f e) :: m.map fun e => (e.1, f e)) k u = (e.1, u) :: m.map fun e => (e.1, f e) by unfold set; rw [if_pos he, he], if_pos he]
     congr 1
     refine List.map_congr_left fun x hx => ?_
     rw [if_neg (fun h => hn.1 (by rw [he, ← h]; exact List.mem_map_of_mem hx))]
   · rw [show set ((e.1, f e) :: m.map fun e => (e.1, f e)) k u = (e.1, f e) :: set (m.map fun e => (e.1, f e)) k u by conv => lhs; unfold set; rw [if_neg he], if_neg he]
     congr 1
     rcases List.mem_cons.1 hk with h | h
     · exact absurd (congrArg Prod.fst h).symm he
     · exact ih hn.2 h
theorem get_map {m : ByM} (hn : (m.map (·.1)).Nodup) (f : Int × (Int × Int) → Int × Int) {k : Int} {v : Int × Int} (hk : (k, v) ∈ m) : get (m.map fun e => (e.1, f e)) k = some (f (k, v)) := by
 have hn2 : ((m.map fun e => (e.1, f e)).map (·.1)).Nodup := by rw [List.map_map]; exact hn
 exact (mem_iff_get hn2 _ _).1 (List.mem_map.2 ⟨(k, v), hk, rfl⟩)
theorem curB_step (mv : Mv) (t : Int) {m : ByM} (hn : (m.map (·.1)).Nodup) {L M : List Int} {k : Int} {v : Int × Int} (hk : (k, v) ∈ m) (hL : ∀ x, x ∈ L ↔ x = k ∨ x ∈ M) (hM : k ∉ M) : set (curB mv t m L) k (shiftB mv t v) = curB mv t m M := by
 unfold curB
 rw [set_map hn _ hk]
 refine List.map_congr_left fun e he => ?_
 by_cases h : e.1 = k
 · rw [if_pos h, if_neg (fun h2 => hM (h ▸ h2))]
   have : e = (k, v) := by
    exact mK121
   rw [this]
 · rw [if_neg h]
   by_cases h2 : e.1 ∈ M
   · rw [if_pos h2, if_pos ((hL _).2 (Or.inr h2))]
   · rw [if_neg h2, if_neg (fun h3 => ((hL _).1 h3).elim h h2)]
theorem curB_skip (mv : Mv) (t : Int) {m : ByM} (hn : (m.map (·.1)).Nodup) {L M : List Int} {k : Int} {v : Int × Int} (hk : (k, v) ∈ m) (hL : ∀ x, x ∈ L ↔ x = k ∨ x ∈ M) (hM : k ∉ M) (hs : shiftB mv t v = v) : curB mv t m L = curB mv t m M := by
 rw [← curB_step mv t hn hk hL hM, hs]
 unfold curB
 rw [set_map hn _ hk]
 refine List.map_congr_left fun e he => ?_
 by_cases h : e.1 = k
 · have : e = (k, v) := by
    exact mK121
   rw [if_pos h, this, if_pos ((hL k).2 (Or.inl rfl))]
 · rw [if_neg h]
theorem onesP_succ (m : ByM) (n : Nat) : onesP m (n + 1) = onesP m n ++ (match get m (n : Int) with | some s => [⟨n, 1, s.1, s.2⟩] | none => []) := by
 unfold onesP
 rw [List.range_succ, List.filterMap_append]
 congr 1
 cases h : get m (n : Int) <;> simp [h]
theorem onesP_len (m : ByM) (n : Nat) : (onesP m n).length ≤ n := by
 unfold onesP
 exact Nat.le_trans (List.length_filterMap_le _ _) (by simp)
theorem onesP_in {m : ByM} (h : ByOk m) (n : Nat) (_hn : n ≤ 8192) : ∀ x ∈ onesP m n, x.In := fun x hx => by
  unfold onesP at hx
  obtain ⟨i, hi, he⟩ := List.mem_filterMap.1 hx
  have hi := List.mem_range.1 hi
  cases hg : get m (i : Int) with
  | none => rw [hg] at he; cases he
  | some s =>
    rw [hg] at he
    cases he
    obtain ⟨pre, post, hmm, -⟩ := get_some hg
    have hk := h ((i : Int), s) (by rw [hmm]; simp)
    simp only at hk
    exact ⟨by show (0 : Int) ≤ i; omega, (show (1 : Int) ≤ 1 by decide), (show (1 : Int) ≤ 1024 by decide), by show (i : Int) + 1 ≤ 8192; omega, by show 0 ≤ s.2; omega, by show s.2 + 1 ≤ 1024; omega, by show 0 ≤ s.1; omega, by show s.1 < 16384; omega⟩
theorem moveB_ok {mv : Mv} {t : Int} (ht : 0 ≤ t ∧ t < 16384) (h2 : 0 ≤ mv.2.2.2) (h3 : mv.2.2.2 + mv.2.2.1 ≤ 1024) {m : ByM} (h : ByOk m) : ByOk (moveB mv t m) := fun e he => by
  obtain ⟨x, hx, rfl⟩ := List.mem_map.1 he
  have := h x hx
  exact ⟨this.1, shift_ok ht h2 h3 this.2⟩
end Esch
namespace Go.Proofs.YtajbooppoohplaaGreatDoor
open Go.RowKit Esch Go.Shelf

theorem keyPlace : KeyOK Tryz.prog 296 κs1 := keyOK_s1 Tryz.underlying296 (by decide) rfl Tryz.underlying3 (by kernel_rfl)
theorem zeroSpot (w : World) : (zeroValue 298).run Tryz.prog w = .ok (νs (0, 0)) w := Tryz.zeroValue298 w
def BpRel (W1 : World) (b : Nat) (m : ByM) (x : PtS) (g : Nat) (v : Value) (wr : World) : Prop := ∃ i : Nat, g = x.len.toNat - i ∧ i ≤ x.len.toNat ∧ v = .int .i64 i ∧ MpAt wr b κs1 νs (putN m x i) ∧ Mod (· = b) W1 wr
theorem byPut_any (w : World) (b : Nat) (m : ByM) (h : MpAt w b κs1 νs m) (x : PtS) (hx : x.In) :
    Calls Tryz.prog 250 #[.map (some b), ptV x] w fun e w' => e = .returned (.tuple #[]) ∧ MpAt w' b κs1 νs (putN m x x.len.toNat) ∧ Mod (· = b) w w' := by
 have hbl : b < w.heap.size := by obtain ⟨es, c, h⟩ := h; exact block_lt h.block
 obtain ⟨W1, hW1, hB1⟩ : ∃ W1, W1 = w.alloc (.cells #[.int .i64 x.off, .int .i64 x.len, .int .i64 x.addr, .int .i64 x.at'] 88) ∧ Below w.heap.size w W1 := ⟨_, rfl, by exact belC (Below.refl _ _)⟩
 have z0 : W1.cell? ⟨w.heap.size, 0, none⟩ = some (.int .i64 x.off) := by rw [hW1]; go_simp
 have z1 : W1.cell? ⟨w.heap.size, 1, none⟩ = some (.int .i64 x.len) := by rw [hW1]; go_simp
 have z2 : W1.cell? ⟨w.heap.size, 2, none⟩ = some (.int .i64 x.addr) := by rw [hW1]; go_simp
 have z3 : W1.cell? ⟨w.heap.size, 3, none⟩ = some (.int .i64 x.at') := by rw [hW1]; go_simp
 have hne : w.heap.size ≠ b := by omega
 have HW1 := Lib.hid hW1
 have HB1 := Lib.hid hB1
 have HM0 := Lib.hid (h.mod (F := none') (Mod.of_below hB1) id)
 have o0 := hx.o0; have l1 := hx.l1; have ol := hx.ol; have a0 := hx.a0; have al := hx.al
 obtain ⟨x0, x1, x2, x3⟩ := x
 simp only at o0 l1 ol a0 al z0 z1 z2 z3 HW1
 have HZ := Lib.hid (And.intro z0 (And.intro z1 (And.intro z2 z3)))
 clear h hW1 hB1 hx z0 z2 z3
 unfold ptV
 simp only
 have hn : ((x1.toNat : Nat) : Int) = x1 := Int.toNat_of_nonneg (by omega)
 go_enter Tryz.func250, Tryz.ntmps250
 go_wp2_with fail
 rw [← HW1.out]
 go_wp2_with fail
 clear z1
 go_loopg [7] x1.toNat (fun g v wr => BpRel W1 b m ⟨x0, x1, x2, x3⟩ g v wr)
 case atStart => exact ⟨0, rfl, Nat.zero_le _, rfl, HM0.out, Mod.refl _ _⟩
 case round =>
  obtain ⟨i, hg, hi, rfl, hmp, hM⟩ := hrel
  subst hg
  simp only at hi
  have z0 := hM.at HZ.out.1 hne
  have z1 := hM.at HZ.out.2.1 hne
  have z2 := hM.at HZ.out.2.2.1 hne
  have z3 := hM.at HZ.out.2.2.2 hne
  by_cases hlt : i < x1.toNat
  · obtain ⟨W2, hu, hm2, hM2, -⟩ := MapAt.upz hmp keyPlace Tryz.underlying293 (x0 + i) (x2, x3 + i)
    simp only [κs1, νs] at hu
    have HMP : Hid (MpAt W2 b κs1 νs (putN m ⟨x0, x1, x2, x3⟩ (i + 1))) := Lib.hid hm2
    have HM := Lib.hid (hM.trans hM2)
    have hil : (i : Int) < x1 := by omega
    have hwi : wrap64 ((i : Int) + 1) = ((i + 1 : Nat) : Int) := by unfold wrap64; omega
    have hw0 : wrap64 (x0 + (i : Int)) = x0 + i := by unfold wrap64; omega
    have hw3 : wrap64 (x3 + (i : Int)) = x3 + i := by unfold wrap64; omega
    have HWI := Lib.hid hwi
    have hms : x1.toNat - (i + 1) < x1.toNat - i := Nat.sub_lt_sub_left hlt (Nat.lt_succ_self i)
    have hi1 : i + 1 ≤ x1.toNat := hlt
    clear hmp hM hm2 hM2 hwi hlt hi hn
    go_wp2_with fail
    go_roundg (x1.toNat - (i + 1))
    case measure => exact hms
    case rel => exact ⟨i + 1, rfl, hi1, by first | rfl | rw [HWI.out], HMP.out, HM.out⟩
  · obtain rfl : i = x1.toNat := Nat.le_antisymm hi (Nat.not_lt.1 hlt)
    have hge : ¬ ((x1.toNat : Nat) : Int) < x1 := by omega
    have HMP := Lib.hid hmp
    have HM : Hid (Mod (· = b) w wr) := Lib.hid ((Mod.of_below HB1.out).trans hM)
    clear hlt hi hmp hM
    go_wp2_with fail
    go_end0
    exact ⟨rfl, HMP.out, HM.out⟩
end Go.Proofs.YtajbooppoohplaaGreatDoor
/- package extent: bytesOf, parts, Move -/
namespace Esch
open Go Go.RowKit
theorem bytesP_snoc (l : List PtS) (x : PtS) : bytesP (l ++ [x]) = putN (bytesP l) x x.len.toNat := by unfold bytesP; rw [List.foldl_append]; rfl
end Esch
namespace Go.Proofs.YtajbooppoohplaaGreatDoor
open Go.RowKit Esch Go.Shelf

def BofRel (w : World) (mb : Nat) (l : List PtS) (g : Nat) (v : Value) (wr : World) : Prop := ∃ i : Nat, g = l.length - i ∧ i ≤ l.length ∧ v = .int .i64 i ∧ MpAt wr mb κs1 νs (bytesP (l.take i)) ∧ Below w.heap.size w wr
theorem bytesOf_any (w : World) (S : Nat → Prop) (a : Option Addr) (c : Nat) (l : List PtS) (h : PtsAt w S a l) (hin : ∀ x ∈ l, x.In) (hl : l.length ≤ 1000) :
    Calls Tryz.prog 222 #[.slice a l.length c] w fun e w' => ∃ mb, e = .returned (.map (some mb)) ∧ w.heap.size ≤ mb ∧ MpAt w' mb κs1 νs (bytesP l) ∧ Below w.heap.size w w' := by
 have hmm := @run_makeMap Tryz.prog
 have h0 : MpAt (w.alloc (.map #[] 0)) w.heap.size κs1 νs ([] : ByM) := ⟨#[], 0, alloc_new _ _, rfl, List.nodup_nil, List.Pairwise.nil, fun e h => by simp at h⟩
 have H0 := Lib.hid h0
 have HX := Lib.hid h
 have HIN := Lib.hid hin
 obtain ⟨mb, hmb⟩ : ∃ mb, mb = w.heap.size := ⟨_, rfl⟩
 rw [← hmb] at H0
 have HMB := Lib.hid hmb
 clear h h0 hin
 go_enter Tryz.func222, Tryz.ntmps222
 go_wp2_with fail
 rw [← hmb]
 clear hmb hmm
 go_loopg [9] l.length (fun g v wr => BofRel w mb l g v wr)
 case atStart => exact ⟨0, rfl, Nat.zero_le _, rfl, H0.out, by exact belC (Below.refl _ _)⟩
 case round =>
  clear H0
  obtain ⟨i, hg, hi, rfl, hm, hB⟩ := hrel
  subst hg
  have HM := Lib.hid hm
  have HB := Lib.hid hB
  clear hm hB
  by_cases hlt : i < l.length
  · obtain ⟨xb, xo, rfl, -, hxl, hxc⟩ := (HX.out.below' HB.out).elem ptC_len default hlt
    have hmem : l.getD i default ∈ l := by
     exact mK78
    have hxi := HIN.out _ hmem
    have HTK := Lib.hid (take_one l default hlt)
    obtain ⟨x, hx⟩ : ∃ x, x = l.getD i default := ⟨_, rfl⟩
    rw [← hx] at hxc hxi HTK
    clear hx hmem
    have f0 : wr.cell? ⟨xb, xo + i * 4, none⟩ = some (.int .i64 x.off) := hxc 0 (by decide)
    have f1 : wr.cell? ⟨xb, xo + i * 4 + 1, none⟩ = some (.int .i64 x.len) := hxc 1 (by decide)
    have f2 : wr.cell? ⟨xb, xo + i * 4 + 2, none⟩ = some (.int .i64 x.addr) := hxc 2 (by decide)
    have f3 : wr.cell? ⟨xb, xo + i * 4 + 3, none⟩ = some (.int .i64 x.at') := hxc 3 (by decide)
    have hil : (i : Int) < (l.length : Int) := Int.ofNat_lt.2 hlt
    have hwi : wrap64 ((i : Int) + 1) = ((i + 1 : Nat) : Int) := by unfold wrap64; omega
    have HWI := Lib.hid hwi
    have hms : l.length - (i + 1) < l.length - i := Nat.sub_lt_sub_left hlt (Nat.lt_succ_self i)
    have hi1 : i + 1 ≤ l.length := hlt
    obtain ⟨W2, hW2, hB2⟩ : ∃ W2, W2 = wr.alloc (.cells #[.int .i64 x.off, .int .i64 x.len, .int .i64 x.addr, .int .i64 x.at'] 88) ∧ Below wr.heap.size wr W2 := ⟨_, rfl, by exact belC (Below.refl _ _)⟩
    have hput := byPut_any W2 mb _ (HM.out.mod (F := none') (Mod.of_below hB2) id) x hxi
    unfold ptV at hput
    have HB2 := Lib.hid (HB.out.trans (hB2.mono HB.out.size))
    have HW2 := Lib.hid hW2
    clear hxc hwi hi hlt hW2 hB2 hxi
    go_wp2_with fail
    rw [← HW2.out]
    refine hput.mono ?_
    clear hput
    rintro e w3 ⟨rfl, hm3, hM3⟩
    rw [← bytesP_snoc, ← HTK.out] at hm3
    have HM3 := Lib.hid hm3
    have HB3 := Lib.hid (HB2.out.trans (hM3.below_at HB2.out.size (fun k hk e => by have := HMB.out; omega)))
    clear hm3 hM3
    go_wp2_with fail
    go_roundg (l.length - (i + 1))
    case measure => exact hms
    case rel => exact ⟨i + 1, rfl, hi1, by first | rfl | rw [HWI.out], HM3.out, HB3.out⟩
  · obtain rfl : i = l.length := Nat.le_antisymm hi (Nat.not_lt.1 hlt)
    have hge : ¬ (l.length : Int) < (l.length : Int) := Int.lt_irrefl _
    have hm := HM.out
    rw [List.take_length] at hm
    have HM := Lib.hid hm
    clear hlt hi hm
    go_wp2_with fail
    go_ret
    exact ⟨mb, rfl, by rw [HMB.out]; exact Nat.le_refl _, HM.out, HB.out⟩
theorem addr_any (w : World) (n : Int) : Calls Tryz.prog 220 #[.int .i64 n] w fun e w' => e = .returned (.bool (addrB n)) ∧ w' = w := by
 unfold addrB
 by_cases h1 : 0 ≤ n
 · by_cases h2 : n < 16384
   · rw [decide_eq_true h1, decide_eq_true h2]
     exact mK122
   · rw [decide_eq_true h1, decide_eq_false h2]
     have h2' : decide (n < 16384) = false := decide_eq_false h2
     clear h2
     exact mK122
 · rw [decide_eq_false h1, Bool.false_and]
   have h1' : decide (0 ≤ n) = false := decide_eq_false h1
   clear h1
   exact mK122
def PrtRel (w : World) (m : ByM) (g : Nat) (v4 v8 : Value) (wr : World) : Prop := ∃ (i : Nat) (ao : Option Addr) (cap : Nat), g = 8192 - i ∧ i ≤ 8192 ∧ v8 = .int .i64 i ∧ v4 = .slice ao (onesP m i).length cap ∧ GRowAt wr (From w.heap.size) 4 (onesP m i).length cap ao ((onesP m i).flatMap ptC) ∧ Below w.heap.size w wr
theorem byParts_any (w : World) (b : Nat) (m : ByM) (h : MpAt w b κs1 νs m) (hok : ByOk m) :
    Calls Tryz.prog 223 #[.map (some b)] w (XJoinPost w (partsP m)) := by
 obtain ⟨j0, hi, hy0, hy1, hy2⟩ := info_parts Tryz.infoPart
 have hbl : b < w.heap.size := by obtain ⟨es, c, h⟩ := h; exact block_lt h.block
 have HMP := Lib.hid h
 have HOK := Lib.hid hok
 obtain ⟨rr, hrr⟩ : ∃ rr, rr = partsP m := ⟨_, rfl⟩
 rw [← hrr]
 have HRR := Lib.hid hrr
 clear h hok hrr
 go_enter Tryz.func223, Tryz.ntmps223
 go_wp2_with fail
 go_loopg [4, 8] 8192 (fun g v4 v8 wr => PrtRel w m g v4 v8 wr)
 case atStart => exact ⟨0, none, 0, rfl, Nat.zero_le _, rfl, rfl, GRowAt.nil _ _ _ _, Below.refl _ _⟩
 case round =>
  obtain ⟨i, ao, cap, hg, hi8, rfl, rfl, hG, hB⟩ := hrel
  subst hg
  have HG := Lib.hid hG
  have HB := Lib.hid hB
  clear hG hB
  by_cases hlt : i < 8192
  · have hln := onesP_len m i
    have HLN := Lib.hid hln
    obtain ⟨es, ck, hmp⟩ := HMP.out.mod (F := none') (Mod.of_below HB.out) id
    have hlk := hmp.look keyPlace Tryz.underlying293 zeroSpot (i : Int) true
    rw [show ((get m (i : Int)).map νs).getD (νs (0, 0)) = νs ((get m (i : Int)).getD (0, 0)) by cases get m (i : Int) <;> rfl] at hlk
    simp only [if_true] at hlk
    have hsc := onesP_succ m i
    have hil : (i : Int) < 8192 := by omega
    have hwi : wrap64 ((i : Int) + 1) = ((i + 1 : Nat) : Int) := by unfold wrap64; omega
    have HWI := Lib.hid hwi
    have hms : 8192 - (i + 1) < 8192 - i := by omega
    have hi1 : i + 1 ≤ 8192 := hlt
    clear hmp hwi hi8 hlt hln
    cases hgt : get m (i : Int) with
    | none =>
      rw [hgt] at hlk hsc
      simp only [List.append_nil] at hsc
      simp only [κs1, νs, Option.isSome_none, Option.getD_none] at hlk
      have HSC := Lib.hid hsc
      clear hgt hsc
      go_wp2_with fail
      go_roundg (8192 - (i + 1))
      case measure => exact hms
      case rel => exact ⟨i + 1, ao, cap, rfl, hi1, by first | rfl | rw [HWI.out], by rw [HSC.out], by rw [HSC.out]; exact HG.out.mod (F := none') (Mod.of_below (by exact belC (Below.refl _ _))) (fun _ _ _ => id), HB.out.trans (by have := HB.out.size; exact belC (Below.refl _ _))⟩
    | some s =>
      obtain ⟨s0, s1⟩ := s
      rw [hgt] at hlk hsc
      simp only at hsc
      simp only [κs1, νs, Option.isSome_some, Option.getD_some] at hlk
      have HSC := Lib.hid hsc
      clear hgt hsc
      obtain ⟨n0, hn0⟩ : ∃ n0, n0 = (onesP m i).length := ⟨_, rfl⟩
      have HN0 := Lib.hid hn0
      rw [← hn0] at HG HLN ⊢
      generalize onesP m i = ol at *
      clear hn0
      go_wp2_with (at_builtin; refine wpList_append_g (by rfl) (.tmp 19) (.tmp 26) 83 83 (by rfl) 88 j0 _ 32 Tryz.underlying83 hi hy0 hy1 hy2 (by rfl) (by rfl) (HG.out.mod (F := none') (by exact modC (Mod.refl _ _)) (fun _ _ _ => id)) _ 1 (ptC ⟨i, 1, s0, s1⟩) (by rfl) (src_pt _ _ Tryz.underlying83 (wr.heap.size + 1) _ 88 (by first | exact heap_alloc_new _ _ | (rw [show wr.heap.size + 1 = (wr.alloc (.cells #[.int .i64 s0, .int .i64 s1] 298)).heap.size by simp]; exact heap_alloc_new _ _)) _) (by have := HLN.out; omega) (by have := HLN.out; omega) ?_; intro a6 cap6 w6 hg6 hM6 hz6)
      have hzB := HB.out.size
      have hB5 : Below w.heap.size w ((wr.alloc (.cells #[.int .i64 s0, .int .i64 s1] 298)).alloc (.cells #[.int .i64 i, .int .i64 1, .int .i64 s0, .int .i64 s1] 88)) := by exact belC HB.out
      have hB6 : Below w.heap.size w w6 := hB5.trans (hM6.below_at (by simp only [World.size_alloc]; omega) (fun k hk e => by have e : w.heap.size ≤ k := e; omega))
      have hg7 : GRowAt w6 (From w.heap.size) 4 (onesP m (i + 1)).length cap6 a6 ((onesP m (i + 1)).flatMap ptC) := by
        rw [HSC.out, List.flatMap_append, List.length_append, ← HN0.out, show ([⟨i, 1, s0, s1⟩] : List PtS).flatMap ptC = ptC ⟨i, 1, s0, s1⟩ from List.append_nil _]
        exact hg6.sub (fun k _ hk => by
          rcases hk with hk | hk
          · exact hk
          · show w.heap.size ≤ k; rw [hk]; simp only [World.size_alloc]; have := HB.out.size; omega)
      have HG6 := Lib.hid hg7
      have HB6 := Lib.hid hB6
      have HL6 : Hid (n0 + 1 = (onesP m (i + 1)).length) := Lib.hid (by rw [HSC.out, List.length_append, ← HN0.out]; rfl)
      clear hg6 hM6 hz6 hg7 hB6 hB5
      rw [HL6.out]
      go_wp2_with fail
      go_roundg (8192 - (i + 1))
      case measure => exact hms
      case rel => exact ⟨i + 1, a6, cap6, rfl, hi1, by first | rfl | rw [HWI.out], rfl, HG6.out, HB6.out⟩
  · obtain rfl : i = 8192 := Nat.le_antisymm hi8 (Nat.not_lt.1 hlt)
    have hln := onesP_len m 8192
    have hjn := extJoined_any wr _ ao cap (onesP m 8192) HG.out.row (onesP_in HOK.out 8192 (Nat.le_refl _)) (by omega)
    rw [show fewP (joinP (onesP m 8192)) = rr from HRR.out.symm] at hjn
    have HJN := Lib.hid hjn
    clear hlt hi8 hln hjn
    go_wp2_with fail
    refine HJN.out.mono ?_
    rintro e w8 ⟨a8, c8, rfl, hg8, hB8⟩
    have hz7 := HB.out.size
    have HB8 := Lib.hid (HB.out.trans (hB8.mono hz7))
    have HG8 := Lib.hid (hg8.sub (T := fun k => w.heap.size ≤ k ∧ k < w8.heap.size) (fun k _ hk => ⟨Nat.le_trans hz7 hk.1, hk.2⟩))
    clear hg8 hB8
    go_wp2_with fail
    go_ret2
    exact ⟨a8, c8, rfl, HG8.out, HB8.out⟩
end Go.Proofs.YtajbooppoohplaaGreatDoor
/- package extent: Move -/
namespace Go.Proofs.YtajbooppoohplaaGreatDoor
open Go.RowKit Esch Go.Shelf

def XmvRel (W1 : World) (mb r : Nat) (mv : Mv) (t : Int) (m0 : ByM) (g : Nat) (_v : Value) (wr : World) : Prop :=
  ∃ seen left : ByM, g = left.length ∧ Ranges wr mb r κs1 νs (curB mv t m0 (left.map (·.1))) left ∧ (seen ++ left).Perm m0 ∧ Below W1.heap.size W1 wr
theorem extMove_any (w : World) (S : Nat → Prop) (a : Option Addr) (c : Nat) (l : List PtS) (h : PtsAt w S a l) (mv : Mv) (to' : Int) :
    Calls Tryz.prog 192 #[.slice a l.length c, .agg (mvC mv).toArray, .int .i64 to'] w (XJoinPost w (moveP l mv to')) := by
 obtain ⟨m0, m1, m2, m3⟩ := mv
 simp only [mvC]
 obtain ⟨W1, hW1, hB1⟩ : ∃ W1, W1 = w.alloc (.cells #[.int .i64 m0, .int .i64 m1, .int .i64 m2, .int .i64 m3] 203) ∧ Below w.heap.size w W1 := ⟨_, rfl, by exact belC (Below.refl _ _)⟩
 have z0 : W1.cell? ⟨w.heap.size, 0, none⟩ = some (.int .i64 m0) := by rw [hW1]; go_simp
 have z1 : W1.cell? ⟨w.heap.size, 1, none⟩ = some (.int .i64 m1) := by rw [hW1]; go_simp
 have z2 : W1.cell? ⟨w.heap.size, 2, none⟩ = some (.int .i64 m2) := by rw [hW1]; go_simp
 have z3 : W1.cell? ⟨w.heap.size, 3, none⟩ = some (.int .i64 m3) := by rw [hW1]; go_simp
 have hgd := extGood_any W1 S a c l (h.below' hB1)
 have hzl := cell_lt z0
 have HW1 := Lib.hid hW1
 have HB1 := Lib.hid hB1
 have HX := Lib.hid (h.below' hB1)
 have HZ := Lib.hid (And.intro z0 (And.intro z1 (And.intro z2 z3)))
 have HZL := Lib.hid hzl
 obtain ⟨rr, hrr⟩ : ∃ rr, rr = moveP l (m0, m1, m2, m3) to' := ⟨_, rfl⟩
 rw [← hrr]
 unfold moveP at hrr
 simp only at hrr
 have HQ := Lib.hid hrr
 clear hrr
 clear h hW1 hB1 z0 z1 z2 z3 hzl
 go_enter Tryz.func192, Tryz.ntmps192
 go_wp2_with fail
 rw [← HW1.out]
 refine hgd.low (fun w2 hB2 => ?_)
 have z0 := below_at hB2 HZ.out.1 HZL.out
 have z1 := below_at hB2 HZ.out.2.1 HZL.out
 have z2 := below_at hB2 HZ.out.2.2.1 HZL.out
 have z3 := below_at hB2 HZ.out.2.2.2 HZL.out
 have HB12 := Lib.hid hB2
 have HB2 := Lib.hid (HB1.out.trans (hB2.mono HB1.out.size))
 clear hB2 hgd
 have hrr := HQ.out
 clear HQ
 cases hg : goodP l
 · rw [if_pos hg] at hrr
   subst hrr
   clear hg
   exact mK125
 rw [if_neg (by rw [hg]; decide)] at hrr
 have HG := Lib.hid hg
 clear hg
 have ha := fun W => addr_any W m0
 have hb := fun W => addr_any W to'
 have hc := fun W => whole_any W m1 m2 1024 (by decide) (by decide)
 have hd := fun W => whole_any W m3 m2 1024 (by decide) (by decide)
 have hta : addrB to' = true → 0 ≤ to' ∧ to' < 16384 := fun h => by simpa [addrB] using h
 have htc : wholeB m1 m2 1024 = true → 0 ≤ m1 ∧ 1 ≤ m2 ∧ m1 + m2 ≤ 1024 := fun h => by
  simp only [wholeB, Bool.and_eq_true, decide_eq_true_eq] at h
  omega
 have htd : wholeB m3 m2 1024 = true → 0 ≤ m3 ∧ m3 + m2 ≤ 1024 := fun h => by
  simp only [wholeB, Bool.and_eq_true, decide_eq_true_eq] at h
  omega
 generalize addrB m0 = b0 at ha hrr
 generalize addrB to' = b1 at hb hrr hta
 generalize wholeB m1 m2 1024 = b2 at hc hrr htc
 generalize wholeB m3 m2 1024 = b3 at hd hrr htd
 cases b0
 · rw [if_pos (Or.inl rfl)] at hrr
   subst hrr
   go_wp2_with fail
   refine (ha _).same ?_
   exact mK125
 cases b1
 · rw [if_pos (Or.inr (Or.inl rfl))] at hrr
   subst hrr
   go_wp2_with fail
   refine (ha _).same ?_
   go_wp2_with fail
   refine (hb _).same ?_
   exact mK125
 cases b2
 · rw [if_pos (Or.inr (Or.inr (Or.inl rfl)))] at hrr
   subst hrr
   go_wp2_with fail
   refine (ha _).same ?_
   go_wp2_with fail
   refine (hb _).same ?_
   go_wp2_with fail
   refine (hc _).same ?_
   exact mK125
 cases b3
 · rw [if_pos (Or.inr (Or.inr (Or.inr rfl)))] at hrr
   subst hrr
   go_wp2_with fail
   refine (ha _).same ?_
   go_wp2_with fail
   refine (hb _).same ?_
   go_wp2_with fail
   refine (hc _).same ?_
   go_wp2_with fail
   refine (hd _).same ?_
   exact mK125
 rw [if_neg (by simp)] at hrr
 obtain ⟨t0, t1⟩ := hta rfl
 obtain ⟨p0, p1, p2⟩ := htc rfl
 obtain ⟨q0, q1⟩ := htd rfl
 clear hta htc htd
 have HRR := Lib.hid hrr
 have hin : ∀ x ∈ l, x.In := fun p hp => one_in.1 (goodP_one HG.out (x := p) hp)
 have hof := bytesOf_any w2 S a c l (HX.out.below' HB12.out) hin (by have := goodP_len HG.out; omega)
 have hbk := bytes_ok hin (m := []) (fun e h => by cases h)
 have HBK : Hid (ByOk (bytesP l)) := Lib.hid hbk
 clear hrr hin hbk
 go_wp2_with fail
 refine (ha _).same ?_
 go_wp2_with fail
 refine (hb _).same ?_
 go_wp2_with fail
 refine (hc _).same ?_
 go_wp2_with fail
 refine (hd _).same ?_
 clear ha hb hc hd
 go_wp2_with fail
 refine hof.mono ?_
 clear hof
 rintro e w3 ⟨mb, rfl, hmb, ⟨es, ck, hm⟩, hB3⟩
 have hnd := hm.apart
 generalize bytesP l = mm at *
 have hmbl := block_lt hm.block
 have hB13 := HB12.out.trans (hB3.mono HB12.out.size)
 have HB13 := Lib.hid hB13
 have HMB := Lib.hid (Nat.le_trans HB12.out.size hmb)
 have HND := Lib.hid hnd
 clear hB3 hB13 hnd hmb z0 z1 z2 z3
 go_wp2_with (at_range; refine wpList_range_map rfl _ _ rfl _ _ Tryz.underlying293 rfl hm ?_; intro w4 hR4 e4)
 go_frame
 have hB14 : Below W1.heap.size W1 w4 := by rw [e4]; exact HB13.out.alloc HB13.out.size _
 obtain ⟨r, hr⟩ : ∃ r, r = w3.heap.size := ⟨_, rfl⟩
 rw [← hr] at hR4 ⊢
 have HRW : Hid (W1.heap.size ≤ r) := Lib.hid (by rw [hr]; exact HB13.out.size)
 have HR4 := Lib.hid hR4
 have HB14 := Lib.hid hB14
 clear hr e4 hm hR4 hB14 hmbl
 go_loopg [10] mm.length (fun g v wr => XmvRel W1 mb r (m0, m1, m2, m3) to' mm g v wr)
 case atStart => exact ⟨[], mm, rfl, by rw [curB_all]; exact HR4.out, List.Perm.refl _, HB14.out⟩
 case round =>
  clear HR4 HB14
  obtain ⟨seen, left, rfl, hR, hperm, hB⟩ := hrel
  have HPM := Lib.hid hperm
  have HB := Lib.hid hB
  clear hperm hB
  go_wp2_with (at_next; refine wpList_next_map rfl _ rfl rfl hR ?_ ?_)
  · intro hl0
    rw [hl0, List.map_nil, curB_nil] at hR
    have hmp : MpAt wr mb κs1 νs (moveB (m0, m1, m2, m3) to' mm) := by
     obtain ⟨es, ck, since, sn, c0, hR⟩ := hR
     exact ⟨es, ck, hR.map⟩
    have hpt := byParts_any wr mb _ hmp (moveB_ok ⟨t0, t1⟩ q0 q1 HBK.out)
    rw [← HRR.out] at hpt
    clear hl0 hR hmp
    go_wp2_with fail
    refine hpt.mono ?_
    clear hpt
    rintro e w8 ⟨a8, c8, rfl, hg8, hB8⟩
    have hB0 := HB1.out.trans (HB.out.mono HB1.out.size)
    have HB8 := Lib.hid (hB0.trans (hB8.mono hB0.size))
    have HG8 := Lib.hid (hg8.sub (T := fun k => w.heap.size ≤ k ∧ k < w8.heap.size) (fun k _ hk => ⟨Nat.le_trans hB0.size hk.1, hk.2⟩))
    clear hg8 hB8 hB0
    go_wp2_with fail
    go_ret2
    exact ⟨a8, c8, rfl, HG8.out, HB8.out⟩
  · intro pre k v0 v1 post w5 hl hR5 hg5 hs5 hen
    obtain ⟨v, hv⟩ : ∃ v : Int × Int, v = (v0, v1) := ⟨_, rfl⟩
    rw [← hv] at hl
    have HL := Lib.hid hl
    have hB5 : Below W1.heap.size W1 w5 := HB.out.grown hg5 HB.out.size (fun k e => by cases e; exact HRW.out)
    have hin : (k, v) ∈ mm := (HPM.out.mem_iff).1 (by rw [hl]; simp)
    have hpn : (seen ++ [(k, v)] ++ (pre ++ post)).Perm mm := by
     refine List.Perm.trans ?_ HPM.out
     rw [hl, List.append_assoc]
     exact List.Perm.append_left seen (by simpa using (List.perm_middle (a := (k, v)) (l₁ := pre) (l₂ := post)).symm)
    have hnd2 : ((seen ++ [(k, v)] ++ (pre ++ post)).map (·.1)).Nodup := ((hpn.map (·.1)).nodup_iff).2 HND.out
    have hkn : k ∉ (pre ++ post).map (·.1) := fun hk => by
     rw [List.map_append, List.nodup_append] at hnd2
     exact hnd2.2.2 k (by simp) k hk rfl
    have hLk : ∀ x, x ∈ left.map (·.1) ↔ x = k ∨ x ∈ (pre ++ post).map (·.1) := fun x => by
     rw [hl]
     simp only [List.map_append, List.map_cons, List.mem_append, List.mem_cons]
     constructor
     · exact mK124
     · exact mK124
    have hbk := HBK.out _ hin
    have HPN := Lib.hid hpn
    have HSTEP := Lib.hid (curB_step (m0, m1, m2, m3) to' HND.out hin hLk hkn)
    have HSKIP := Lib.hid (curB_skip (m0, m1, m2, m3) to' HND.out hin hLk hkn)
    have HGET : Hid (get (curB (m0, m1, m2, m3) to' mm (left.map (·.1))) k = some v) := Lib.hid (by
      unfold curB
      rw [get_map HND.out _ hin, if_pos ((hLk k).2 (Or.inl rfl))])
    have HKN : Hid (∀ p ∈ pre ++ post, p.1 ≠ k) := Lib.hid (fun p hp e => hkn (by rw [← e]; exact List.mem_map_of_mem hp))
    subst hv
    simp only at hbk
    obtain ⟨⟨k0, k1⟩, ⟨a0, a1⟩, ⟨b0, b1⟩⟩ := hbk
    obtain ⟨W6, hW6⟩ : ∃ W6, W6 = (w5.alloc (.cells #[.int .i64 k] 296)).alloc (.cells #[.int .i64 v0, .int .i64 v1] 298) := ⟨_, rfl⟩
    have hB6 : Below w5.heap.size w5 W6 := by rw [hW6]; exact belC (Below.refl _ _)
    have hR6 := hR5.of_blocks (hB6.block mb hR5.lt.1) (hB6.block r hR5.lt.2)
    have HB6 := Lib.hid (hB5.trans (hB6.mono hB5.size))
    have z0 := below_at hB5 HZ.out.1 HZL.out
    have z1 := below_at hB5 HZ.out.2.1 HZL.out
    have z2 := below_at hB5 HZ.out.2.2.1 HZL.out
    have z3 := below_at hB5 HZ.out.2.2.2 HZL.out
    have hwl := Nat.lt_of_lt_of_le HZL.out hB5.size
    have hw1 : wrap64 (m1 + m2) = m1 + m2 := by unfold wrap64; omega
    have hw2 : wrap64 (v1 - m1) = v1 - m1 := by unfold wrap64; omega
    have hw3 : wrap64 (v1 - m1 + m3) = v1 - m1 + m3 := by unfold wrap64; omega
    clear hl hg5 hs5 hR hB5 hB6 hpn hnd2 hkn hLk hin
    simp only [κs1, νs] at hen ⊢
    by_cases h : v0 = m0 ∧ m1 ≤ v1 ∧ v1 < m1 + m2
    · obtain ⟨W7, hup, hR7, hM7⟩ := hR6.put_seen (P := Tryz.prog) keyPlace (fun a c h => by simpa [κs1] using h) Tryz.underlying293 (to', v1 - m1 + m3) HGET.out HKN.out
      rw [show ((to', v1 - m1 + m3) : Int × Int) = shiftB (m0, m1, m2, m3) to' (v0, v1) from (if_pos h).symm, HSTEP.out] at hR7
      simp only [κs1, νs] at hup
      have HR7 := Lib.hid hR7
      have HB7 := Lib.hid (HB6.out.trans (hM7.below_at HB6.out.size (fun k hk e => by have := HMB.out; omega)))
      obtain ⟨e1, e2, e3⟩ := h
      have e1' : (v0 == m0) = true := by simpa using e1
      rw [hW6] at hup
      clear hR6 hR7 hM7 hW6 e1
      go_wp2_with fail
      go_roundg (pre ++ post).length
      case measure => show _ < _; rw [HL.out]; simp
      case rel => exact ⟨seen ++ [(k, (v0, v1))], pre ++ post, rfl, HR7.out, HPN.out, HB7.out⟩
    · have hsk := HSKIP.out (if_neg h)
      rw [hsk] at hR6
      have HR6 := Lib.hid hR6
      have HW6 := Lib.hid hW6
      clear hR6 hW6 hsk
      by_cases e1 : v0 = m0
      · have e1' : (v0 == m0) = true := by simpa using e1
        by_cases e2 : m1 ≤ v1
        · have e3 : decide (v1 < m1 + m2) = false := decide_eq_false (fun h3 => h ⟨e1, e2, h3⟩)
          clear h e1
          exact mK123
        · have e3 : decide (m1 ≤ v1) = false := decide_eq_false e2
          clear h e1 e2
          exact mK123
      · have e1' : (v0 == m0) = false := by simpa using e1
        clear h e1
        exact mK123
end Go.Proofs.YtajbooppoohplaaGreatDoor
/- package inode: Move -/
namespace Esch
open Go Go.RowKit
theorem moveP_len (l : List PtS) (m : Mv) (t : Int) : (moveP l m t).1.length ≤ 64 := by
 unfold moveP partsP fewP
 repeat' split
 all_goals first | decide | (simp only []; omega)
theorem moves_snoc (t : Int) (m : Mv) : ∀ (ms : List Mv) (l : List PtS), (movesP t l ms).2 = 0 → movesP t l (ms ++ [m]) = moveP (movesP t l ms).1 m t
  | [], l, _ => by
    show (if (moveP l m t).2 ≠ 0 then moveP l m t else ((moveP l m t).1, 0)) = moveP l m t
    split
    · rfl
    · rename_i h
      have h : (moveP l m t).2 = 0 := by omega
      rw [← h]
  | x :: ms, l, h => by
    by_cases hc : (moveP l x t).2 ≠ 0
    · have e : movesP t l (x :: ms) = moveP l x t := if_pos hc
      rw [e] at h
      exact absurd h hc
    · have e : movesP t l (x :: ms) = movesP t (moveP l x t).1 ms := if_neg hc
      rw [e] at h ⊢
      rw [← moves_snoc t m ms _ h]
      exact if_neg hc
theorem moves_err (t : Int) : ∀ (ms rest : List Mv) (l : List PtS), (movesP t l ms).2 ≠ 0 → movesP t l (ms ++ rest) = movesP t l ms
  | [], _, _, h => absurd rfl h
  | x :: ms, rest, l, h => by
    by_cases hc : (moveP l x t).2 ≠ 0
    · have e : ∀ zs, movesP t l (x :: zs) = moveP l x t := fun zs => if_pos hc
      rw [e, List.cons_append, e]
    · have e : ∀ zs, movesP t l (x :: zs) = movesP t (moveP l x t).1 zs := fun zs => if_neg hc
      rw [e] at h ⊢
      rw [List.cons_append, e]
      exact moves_err t ms rest _ h
end Esch
namespace Go.Proofs.YtajbooppoohplaaGreatDoor
open Go.RowKit Esch Go.Shelf

def ImvT (w : World) (b bx : Nat) (S : Nat → Prop) (k : Nat) : Prop := (S k ∧ NotMut w b k) ∨ (w.heap.size ≤ k ∧ k ≠ bx)
def ImvRel (w V2 : World) (b bx : Nat) (S : Nat → Prop) (x0 x1 x2 x3 x4 : Int) (ps : List PtS) (mv : List Mv) (to' : Int) (g : Nat) (v10 v24 : Value) (wr : World) : Prop :=
  ∃ (i : Nat) (pa : Option Addr) (pc : Nat), g = mv.length - i ∧ i ≤ mv.length ∧ v24 = .int .i64 i ∧ v10 = .int .i64 0 ∧ (movesP to' ps (mv.take i)).2 = 0 ∧
    (wr.cell? ⟨bx, 0, none⟩ = some (.int .i64 x0) ∧ wr.cell? ⟨bx, 1, none⟩ = some (.int .i64 x1) ∧ wr.cell? ⟨bx, 2, none⟩ = some (.int .i64 x2) ∧ wr.cell? ⟨bx, 3, none⟩ = some (.int .i64 x3) ∧ wr.cell? ⟨bx, 4, none⟩ = some (.int .i64 x4) ∧ wr.cell? ⟨bx, 5, none⟩ = some (.slice pa (movesP to' ps (mv.take i)).1.length pc)) ∧ wr.frozen? ⟨bx, 5, none⟩ = false ∧
    PcOk wr (ImvT w b bx S) ⟨x0, x1, x2, x3, x4, pa, pc, (movesP to' ps (mv.take i)).1⟩ ∧ Mod (· = bx) V2 wr
theorem inoMove_any (w : World) (b : Nat) (S : Nat → Prop) (s : TabS) (h : TabAt w b S s) (i : Int) (ma : Option Addr) (mc : Nat) (mv : List Mv) (hmv : MvsAt w (fun _ => True) ma mv) (hml : mv.length ≤ 100000) (to' : Int) (hok : (s.at i).ok) :
    Calls Tryz.prog 140 #[.pointer (some ⟨b, 0, none⟩), .int .i64 i, .slice ma mv.length mc, .int .i64 to'] w (TabPostG w b S (s.move i mv to')) := by
 have hf := inoFile_any w b S s h i
 obtain ⟨l0, l1, o0, o1⟩ := hok
 obtain ⟨r, hr⟩ : ∃ r, r = s.move i mv to' := ⟨_, rfl⟩
 rw [← hr]
 unfold TabS.move at hr
 unfold fileOf at hf
 obtain ⟨⟨x0, x1, x2, x3, x4, ps⟩, hx⟩ : ∃ x, x = s.at i := ⟨_, rfl⟩
 rw [← hx] at hf hr l0 l1 o0 o1
 simp only at l0 l1 o0 o1
 cases hh : s.has i
 · rw [hh] at hf hr
   rw [if_pos rfl] at hr hf
   subst hr
   unfold FilePost at hf
   simp only at hf
   clear hx hh l0 l1 o0 o1
   go_enter Tryz.func140, Tryz.ntmps140
   exact mK108
 rw [hh] at hf hr
 rw [if_neg (by simp)] at hr hf
 by_cases hk : x1 = 1
 · rw [if_pos hk] at hr hf
   subst hr
   unfold FilePost at hf
   simp only at hf
   clear hx hh l0 l1 o0 o1 hk
   go_enter Tryz.func140, Tryz.ntmps140
   exact mK108
 rw [if_neg hk] at hr hf
 unfold FilePost at hf
 simp only at hf hr
 have K3 : x3 ≤ 1000 := by omega
 have K1 : x2 ≤ 1000 := by omega
 have HR := Lib.hid hr
 have HMV := Lib.hid hmv
 have HML := Lib.hid hml
 clear hx hh hk hr hmv hml
 go_enter Tryz.func140, Tryz.ntmps140
 go_wp2_with fail
 refine hf.mono ?_
 clear hf
 rintro e W2 ⟨⟨y0, y1, y2, y3, y4, pa, pc, lp⟩, hcv, rfl, hP2, hB2⟩
 simp only [InC.val] at hcv
 cases hcv
 simp only [inCV]
 obtain ⟨V2, hV2, hBV⟩ : ∃ V2, V2 = W2.alloc (.cells #[.int .i64 x0, .int .i64 x1, .int .i64 x2, .int .i64 x3, .int .i64 x4, .slice pa ps.length pc] 85) ∧ Below W2.heap.size W2 V2 := ⟨_, rfl, by exact belC (Below.refl _ _)⟩
 have hB2V := hB2.trans (hBV.mono hB2.size)
 obtain ⟨bx, hbx⟩ : ∃ bx, bx = W2.heap.size := ⟨_, rfl⟩
 have v0 : V2.cell? ⟨bx, 0, none⟩ = some (.int .i64 x0) := by rw [hV2, hbx]; go_simp
 have v1 : V2.cell? ⟨bx, 1, none⟩ = some (.int .i64 x1) := by rw [hV2, hbx]; go_simp
 have v2 : V2.cell? ⟨bx, 2, none⟩ = some (.int .i64 x2) := by rw [hV2, hbx]; go_simp
 have v3 : V2.cell? ⟨bx, 3, none⟩ = some (.int .i64 x3) := by rw [hV2, hbx]; go_simp
 have v4 : V2.cell? ⟨bx, 4, none⟩ = some (.int .i64 x4) := by rw [hV2, hbx]; go_simp
 have v5 : V2.cell? ⟨bx, 5, none⟩ = some (.slice pa ps.length pc) := by rw [hV2, hbx]; go_simp
 have u5 : V2.frozen? ⟨bx, 5, none⟩ = false := by rw [hV2, hbx]; go_simp
 have HV := Lib.hid (And.intro v0 (And.intro v1 (And.intro v2 (And.intro v3 (And.intro v4 v5)))))
 have HU := Lib.hid u5
 have HBL := Lib.hid (cell_lt v0)
 have HP0 : Hid (PcOk V2 (ImvT w b bx S) ⟨x0, x1, x2, x3, x4, pa, pc, ps⟩) := Lib.hid ((hP2.below' hBV).sub fun k _ hk => Or.inl hk)
 have HB2V := Lib.hid hB2V
 have HV2 := Lib.hid hV2
 have HBX := Lib.hid hbx
 have HBW := Lib.hid (show w.heap.size ≤ bx by rw [hbx]; exact hB2.size)
 have HMVV := Lib.hid (HMV.out.below' hB2V)
 clear hP2 hB2 hBV hB2V hV2 hbx v0 v1 v2 v3 v4 v5 u5
 go_wp2_with fail
 rw [← HV2.out, ← HBX.out]
 go_loopg [10, 24] mv.length (fun g v10 v24 wr => ImvRel w V2 b bx S x0 x1 x2 x3 x4 ps mv to' g v10 v24 wr)
 case atStart => exact ⟨0, pa, pc, rfl, Nat.zero_le _, rfl, rfl, rfl, HV.out, HU.out, HP0.out, Mod.refl _ _⟩
 case round =>
  clear HP0 HU HV
  obtain ⟨j, pa, pc, hg, hj, rfl, rfl, he, ⟨v0, v1, v2, v3, v4, v5⟩, u5, hP, hM⟩ := hrel
  subst hg
  have HE := Lib.hid he
  have HP := Lib.hid hP
  have HM := Lib.hid hM
  have hbl := cell_lt v0
  clear he hP hM
  by_cases hlt : j < mv.length
  · have hnv : ∀ k, k < w.heap.size → k ≠ bx := fun k hk e => by have := HBW.out; omega
    obtain ⟨xb, xo, rfl, -, hxl, hxc⟩ := HMV.out.elem mvC_len default hlt
    have hxl2 : xb < V2.heap.size := Nat.lt_of_lt_of_le hxl HB2V.out.size
    have HTK := Lib.hid (take_one mv default hlt)
    obtain ⟨m, hm⟩ : ∃ m, m = mv.getD j default := ⟨_, rfl⟩
    rw [← hm] at hxc HTK
    obtain ⟨m0, m1, m2, m3⟩ := m
    have f0 : wr.cell? ⟨xb, xo + j * 4, none⟩ = some (.int .i64 m0) := HM.out.at (below_at HB2V.out (hxc 0 (by decide)) hxl) (hnv xb hxl)
    have f1 : wr.cell? ⟨xb, xo + j * 4 + 1, none⟩ = some (.int .i64 m1) := HM.out.at (below_at HB2V.out (hxc 1 (by decide)) hxl) (hnv xb hxl)
    have f2 : wr.cell? ⟨xb, xo + j * 4 + 2, none⟩ = some (.int .i64 m2) := HM.out.at (below_at HB2V.out (hxc 2 (by decide)) hxl) (hnv xb hxl)
    have f3 : wr.cell? ⟨xb, xo + j * 4 + 3, none⟩ = some (.int .i64 m3) := HM.out.at (below_at HB2V.out (hxc 3 (by decide)) hxl) (hnv xb hxl)
    obtain ⟨V5, hV5, hB5⟩ : ∃ V5, V5 = wr.alloc (.cells #[.int .i64 m0, .int .i64 m1, .int .i64 m2, .int .i64 m3] 203) ∧ Below wr.heap.size wr V5 := ⟨_, rfl, by exact belC (Below.refl _ _)⟩
    have hct := extMove_any V5 _ pa pc (movesP to' ps (mv.take j)).1 (HP.out.row.below' hB5) (m0, m1, m2, m3) to'
    rw [← moves_snoc to' (m0, m1, m2, m3) _ _ HE.out, ← HTK.out] at hct
    simp only [mvC] at hct
    have hil : (j : Int) < (mv.length : Int) := Int.ofNat_lt.2 hlt
    have hwi : wrap64 ((j : Int) + 1) = ((j + 1 : Nat) : Int) := by have := HML.out; unfold wrap64; omega
    have HWI := Lib.hid hwi
    have hms : mv.length - (j + 1) < mv.length - j := Nat.sub_lt_sub_left hlt (Nat.lt_succ_self j)
    have hi1 : j + 1 ≤ mv.length := hlt
    have HV5 := Lib.hid hV5
    have HB5 := Lib.hid hB5
    have hpl : (movesP to' ps (mv.take (j + 1))).1.length ≤ 64 := by rw [HTK.out, moves_snoc to' _ _ _ HE.out]; exact moveP_len _ _ _
    have HPL := Lib.hid hpl
    have HSPLIT : Hid (mv = mv.take (j + 1) ++ mv.drop (j + 1)) := Lib.hid (List.take_append_drop _ _).symm
    generalize (movesP to' ps (mv.take j)).1 = pj at *
    obtain ⟨pr, hpr⟩ : ∃ pr, pr = movesP to' ps (mv.take (j + 1)) := ⟨_, rfl⟩
    rw [← hpr] at hct HPL
    have HPR := Lib.hid hpr
    obtain ⟨pl, pe⟩ := pr
    clear hxc hwi hj hm hV5 hB5 hpl hnv hpr
    go_wp2_with fail
    rw [← HV5.out]
    refine hct.mono ?_
    clear hct
    rintro e W3 ⟨a3, c3, rfl, hg3, hB3⟩
    simp only at hg3 ⊢
    have hBr3 : Below wr.heap.size wr W3 := HB5.out.trans (hB3.mono HB5.out.size)
    have v0 := below_at hBr3 v0 hbl
    have v1 := below_at hBr3 v1 hbl
    have v2 := below_at hBr3 v2 hbl
    have v3 := below_at hBr3 v3 hbl
    have v4 := below_at hBr3 v4 hbl
    have v5 := below_at hBr3 v5 hbl
    have u5 := (hBr3.frozen (p := ⟨bx, 5, none⟩) hbl).trans u5
    have hbl3 := cell_lt v0
    have HBr3 := Lib.hid hBr3
    have HG3 := Lib.hid hg3
    have HZ5 := Lib.hid HB5.out.size
    clear hg3 hB3 hBr3 f0 f1 f2 f3 hxl hxl2
    by_cases hpe : pe ≠ 0
    · have hr := HR.out
      have hmm : movesP to' ps mv = (pl, pe) := by
       have h1 := moves_err to' (mv.take (j + 1)) (mv.drop (j + 1)) ps (by rw [← HPR.out]; exact hpe)
       rw [← HSPLIT.out, ← HPR.out] at h1
       exact h1
      rw [hmm, if_pos hpe] at hr
      have hsp := fun W => space_any W pe
      simp only at hr
      obtain ⟨pv, hpv⟩ : ∃ pv, pv = (if pe = 3 then (67 : Int) else pe) := ⟨_, rfl⟩
      rw [← hpv] at hr hsp
      subst hr
      have hpe' : (pe != 0) = true := by simpa using hpe
      have HB0r : Hid (Below w.heap.size w wr) := Lib.hid (HB2V.out.trans (HM.out.below_at HB2V.out.size (fun k hk e => by have := HBW.out; omega)))
      have HB03 := Lib.hid (HB0r.out.trans (HBr3.out.mono HB0r.out.size))
      clear hpe hpv hmm HR
      go_wp2_with fail
      refine (hsp _).same ?_
      clear hsp
      have hbw := HBW.out
      have hb3 := HB03.out.size
      go_wp2_with fail
      go_ret
      exact TabPostG.keep h (by exact belC HB03.out) _
    obtain rfl : pe = 0 := by omega
    clear hpe
    go_wp2_with fail
    go_roundg (mv.length - (j + 1))
    case measure => exact hms
    case rel =>
     have hMs : Mod (· = bx) W3 (W3.setCell ⟨bx, 5, none⟩ (.slice a3 pl.length c3)) := (Mod.refl (· = bx) W3).setCellAt (fun _ => rfl) _
     refine ⟨j + 1, a3, c3, rfl, hi1, by first | rfl | rw [HWI.out], rfl, by rw [← HPR.out], ⟨by go_simp, by go_simp, by go_simp, by go_simp, by go_simp, by rw [← HPR.out]; go_simp⟩, by go_simp, ?_, (HM.out.trans (Mod.of_below HBr3.out)).trans hMs⟩
     rw [← HPR.out]
     refine ⟨(HG3.out.row.mod hMs (fun k hk _ e => ?_)).sub (fun k _ hk => Or.inr ⟨?_, fun e => ?_⟩), rowNil0 HG3.out, ⟨HG3.out.le, HG3.out.max⟩, Nat.le_trans HPL.out (by decide)⟩
     · have := hk.1; have := HZ5.out; have e : k = bx := e; omega
     · have := hk.1; have := HZ5.out; have := HM.out.size; have := HB2V.out.size; omega
     · have := hk.1; have := HZ5.out; omega
  · obtain rfl : j = mv.length := Nat.le_antisymm hj (Nat.not_lt.1 hlt)
    have hge : ¬ (mv.length : Int) < (mv.length : Int) := Int.lt_irrefl _
    have he := HE.out
    have hP := HP.out
    rw [List.take_length] at he hP v5
    have hr := HR.out
    rw [he, if_neg (by decide)] at hr
    subst hr
    have hpj : (movesP to' ps mv).1.length ≤ 100000 := hP.few
    generalize (movesP to' ps mv).1 = pj at *
    have hB0r : Below w.heap.size w wr := HB2V.out.trans (HM.out.below_at HB2V.out.size (fun k hk e => by have := HBW.out; omega))
    have hcb : wr.cell? ⟨b, 0, none⟩ = w.cell? ⟨b, 0, none⟩ := hB0r.cell (p := ⟨b, 0, none⟩) (h.lt b h.sb)
    have hkp := inoKeep_any wr b (growI S w wr) s ((h.below' hB0r).wide (fun _ hk => Or.inl hk) (growI_lt h.lt hB0r.size (Nat.le_refl _))) ⟨x0, x1, x2, x3, x4, pa, pc, pj⟩ (hP.sub fun k hk hT => by
      rcases hT with ⟨h1, h2⟩ | ⟨h1, h2⟩
      · exact ⟨Or.inl h1, h2.1, by rw [hcb]; exact h2.2⟩
      · exact ⟨Or.inr ⟨h1, hk⟩, notMut_new h hcb h1⟩) false l0 K1 o0 K3
    simp only [inCV, InC.val] at hkp
    have HB0r := Lib.hid hB0r
    have HLT := Lib.hid h.lt
    clear hlt hj he hP hB0r hcb h HE HP HR
    go_wp2_with fail
    refine hkp.mono ?_
    clear hkp
    rintro e W4 ⟨rfl, hT4, hM4⟩
    have hfin := grow_done HLT.out (W3 := wr) HB0r.out (Nat.le_refl _) hT4 hM4
    go_wp2_with fail
    go_ret
    exact ⟨rfl, hfin⟩
end Go.Proofs.YtajbooppoohplaaGreatDoor
