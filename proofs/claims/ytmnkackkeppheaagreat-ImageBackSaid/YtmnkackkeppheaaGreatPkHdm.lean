import Derived.Test.YtmnkackkeppheaaGreatPkHdl
import Derived.Test.YtmnkackkeppheaaGreatPkIno
import Derived.StillTailTactics
import Derived.Deep.RegionHeld3
/- package handle: All -/
namespace Go.Proofs.YtmnkackkeppheaaGreat
open Go.RowKit Esch Go.Shelf Go.Sort

theorem Tryz.infoHd : (Tryz.prog.info? 108).map (fun i => (i.zero, i.size, i.bytes)) = some (some (.agg #[.int .i64 0, .int .i64 0, .int .i64 0]), 3, 24) := by kernel_rfl
theorem src_hd {P : Program} {W : World} (tx e' : TypeId) (hk : P.underlying tx = some (.slice e')) (b : Nat) (p : Hd) (t : TypeId) (hb : W.heap[b]? = some (.cells (hdC p).toArray t)) (c : Nat) : Src P 3 tx (.slice (some ⟨b, 0, none⟩) 1 c) 1 (hdC p) W := by
  refine Src.ofSlice W hk _ 1 c (hdC p) rfl (fun j u hu => ?_) (fun u hu => ?_)
  · rw [addr_add, Nat.zero_add]
    simp [World.cell?, hb, hu]
  · simp only [hdC, List.mem_cons, List.not_mem_nil, or_false] at hu
    rcases hu with rfl | rfl | rfl <;> rfl
theorem flath_get : ∀ (l : List Hd) (j : Nat), j < l.length * 3 → (l.flatMap hdC)[j]? = some ((hdC (l.toArray[j / 3]!))[j % 3]!)
  | [], j, h => by simp at h
  | a :: l, j, h => by
    rw [List.flatMap_cons]
    rcases Nat.lt_or_ge j 3 with hj | hj
    · rw [List.getElem?_append_left (by simpa [hdC] using hj)]
      have : j = 0 ∨ j = 1 ∨ j = 2 := by omega
      rcases this with rfl | rfl | rfl <;> simp [hdC]
    · rw [List.getElem?_append_right (by simpa [hdC] using hj)]
      have e : j - (hdC a).length = j - 3 := rfl
      rw [e, flath_get l (j - 3) (by simp only [List.length_cons] at h; omega)]
      have h1 : j / 3 = (j - 3) / 3 + 1 := by omega
      have h2 : j % 3 = (j - 3) % 3 := by omega
      rw [h1, h2]
      have h3 : (j - 3) / 3 < l.length := by simp only [List.length_cons] at h; omega
      congr 3
      rw [getElem!_pos l.toArray _ (by simpa using h3), getElem!_pos (a :: l).toArray _ (by simpa using h3)]
      simp
theorem mod_sorth (w : World) (blk off m : Nat) (dk : Array Hd) (os : Array Obj) : Mod (· = blk) w (sortWorldK hdC 3 w blk off m dk os) := by
  refine ⟨rfl, rfl, rfl, size_sortWorldK_c _ _ _ _ _ _ _ _, fun k hk hne => ?_⟩
  show ((w.heap.modify blk _) ++ os)[k]? = _
  rw [Array.getElem?_append_left (by simpa using hk), Array.getElem?_modify, if_neg (fun e => hne e.symm)]
theorem holds_hds {S : Nat → Prop} {w : World} {blk off cap : Nat} {l : List Hd} (h : GRowAt w S 3 l.length cap (some ⟨blk, off, none⟩) (l.flatMap hdC)) (hl : 0 < l.length) : HoldsK hdC 3 w blk off l.toArray ∧ S blk ∧ blk < w.heap.size := by
  have hle := h.le
  obtain ⟨b, o, e, hb, hlt, h1, h2⟩ := h.at' (by omega)
  cases e
  refine ⟨fun j hj => ?_, hb, hlt⟩
  rw [size_flatK, List.size_toArray] at hj
  refine ⟨?_, (h2 j (by omega)).2⟩
  rw [h1 j hj, flath_get l j hj, get_flatK _ _ _ _ (by simpa using hj)]
  rfl
theorem hds_holds {w : World} {blk off : Nat} {S : Nat → Prop} {d : Array Hd} (h : HoldsK hdC 3 w blk off d) (hS : S blk) (hlt : blk < w.heap.size) : HdsAt S w (some ⟨blk, off, none⟩) d.toList := by
  intro h0
  refine ⟨blk, off, rfl, hS, hlt, fun i hi => ?_⟩
  rw [Array.length_toList] at hi
  have hg : d.toList.getD i default = d[i]! := by rw [List.getD_eq_getElem?_getD, Array.getElem?_toList, getElem!_pos d i hi, Array.getElem?_eq_getElem hi]; rfl
  rw [hg]
  have hh : ∀ c, c < 3 → w.cell? ⟨blk, off + (i * 3 + c), none⟩ = some ((hdC d[i]!)[c]!) := fun c hc => by
    have := (h (i * 3 + c) (by rw [size_flatK]; omega)).1
    rw [get_flatK _ _ _ _ (by omega), show (i * 3 + c) / 3 = i by omega, show (i * 3 + c) % 3 = c by omega] at this
    exact this
  exact ⟨hh 0 (by omega), by have := hh 1 (by omega); rwa [← Nat.add_assoc] at this, by have := hh 2 (by omega); rwa [← Nat.add_assoc] at this⟩
theorem sorted_hds {l : List Hd} {d' : Array Hd} (hp : Sort.PermIn 0 l.toArray.size l.toArray d') (hs : Sort.SortedIn (ltOf cmpH) 0 l.toArray.size d') (hn : (l.map (·.1)).Nodup) : d'.toList.Perm l ∧ d'.toList.Pairwise (fun x y => hdLt x y = true) := by
  obtain ⟨h1, -, h3⟩ := hp
  have h4 : d'.toList.Perm l := by
    have h5 : d'.toList.length = l.length := by simpa using h1
    simpa [List.take_of_length_le (Nat.le_of_eq h5)] using h3
  refine ⟨h4, hsorted_strict ?_ ((h4.map (·.1)).nodup_iff.2 hn)⟩
  rw [List.pairwise_iff_getElem]
  intro i j hi hj hij
  rw [Array.length_toList] at hi hj
  have := hs i j (Nat.zero_le _) hij (by omega)
  rw [getElem!_pos d' i hi, getElem!_pos d' j hj, cmpH_lt] at this
  simpa using this
def HAllPost (w : World) (m : List Hd) (e : Ending) (w' : World) : Prop :=
  ∃ a c l, e = .returned (.slice a l.length c) ∧ HSorted m l ∧ HdsAt (From w.heap.size) w' a l ∧ CapN l.length c ∧ Below w.heap.size w w'
def HAllRel (w : World) (mb : Nat) (m : List Hd) (g : Nat) (v : Value) (wr : World) : Prop :=
  ∃ (seen left : List Hd) (ao : Option Addr) (cap : Nat), g = left.length ∧ Ranges wr mb w.heap.size kH iV m left ∧ (seen ++ left).Perm m ∧ v = .slice ao seen.length cap ∧
    GRowAt wr (fun k => w.heap.size < k) 3 seen.length cap ao (seen.flatMap hdC) ∧ Below w.heap.size w wr
set_option maxRecDepth 100000 in
set_option maxHeartbeats 4000000 in
theorem hdlAll_any (w : World) (b : Nat) (S : Nat → Prop) (s : HdS) (h : HdlAt w b S s) (hl : s.m.length ≤ 100000) :
    Calls Tryz.prog 54 #[.pointer (some ⟨b, 0, none⟩)] w (HAllPost w s.m) := by
  obtain ⟨sb, lt, ln, mb, c0, c1, ⟨es, ck, hm⟩, sm, n1⟩ := h
  obtain ⟨i0, hi, hz0, hz1, hz2⟩ := info_parts Tryz.infoHd
  have hml := block_lt hm.block
  obtain ⟨m, hmm⟩ : ∃ m, m = s.m := ⟨_, rfl⟩
  rw [← hmm] at hm hl ⊢
  have hnd := Lib.hid hm.apart
  have Hl := Lib.hid hl
  clear c1 hmm hl
  go_enter Tryz.func54, Tryz.ntmps54
  go_wp2_with (at_range; refine wpList_range_map rfl _ _ rfl _ _ Tryz.underlying169 rfl hm ?_; intro w2 hR2 e2)
  go_frame
  have hB2 : Below w.heap.size w w2 := by rw [e2]; exact (Below.refl _ w).alloc (Nat.le_refl _) _
  clear e2 hm
  go_loopg [3] m.length (fun g sv wr => HAllRel w mb m g sv wr)
  case atStart => exact ⟨[], m, none, 0, rfl, hR2, List.Perm.refl _, rfl, GRowAt.nil _ _ _ _, hB2⟩
  case round =>
    clear hR2 hB2
    obtain ⟨l, left, ao, cap, rfl, hR, hperm, rfl, hG, hB⟩ := hrel
    have Hperm := Lib.hid hperm
    have HG := Lib.hid hG
    clear hperm hG
    go_wp2_with (at_next; refine wpList_next_map rfl _ rfl rfl hR ?_ ?_)
    · intro hl0
      have HL := Lib.hid hl0
      clear hl0
      have hp0 := Hperm.out
      rw [HL.out, List.append_nil] at hp0
      have hnf : (l.map (·.1)).Nodup := (hp0.map (·.1)).nodup_iff.2 hnd.out
      have hlen : l.length ≤ 100000 := by
        have h2 := hp0.length_eq
        have h3 := Hl.out
        omega
      have Hpf := Lib.hid hp0
      have Hnf := Lib.hid hnf
      clear hp0 hnf
      by_cases h0 : l.length = 0
      · obtain rfl : l = [] := List.length_eq_zero_iff.1 h0
        have hso : Calls Tryz.prog 80 #[.slice ao 0 cap, .func (.func 81) #[] #[]] wr _ := AnyF.slices_SortFunc_none { Tryz.laysSFH with } ao cap _ wr
        have hcp : CapN 0 cap := ⟨HG.out.le, HG.out.max⟩
        clear hlen h0
        go_wp2_with fail
        refine hso.mono ?_
        rintro e W6 ⟨rfl, rfl⟩
        go_wp2_with fail
        go_ret
        exact ⟨ao, cap, [], rfl, ⟨Hpf.out, List.Pairwise.nil⟩, HdsAt.nil _ _ _, hcp, hB⟩
      · have hle := HG.out.le
        obtain ⟨blk, off, rfl, -⟩ := HG.out.at' (by omega)
        obtain ⟨hH, hS, hlt⟩ := holds_hds HG.out (by omega)
        have eg : ∀ args w, (callFunc 81 args).run Tryz.prog w = .ok (.enter 81 args) w := enters_of Tryz.func81 (by kernel_rfl) rfl
        have hswo : Sort.SWO (ltOf cmpH) := by rw [show ltOf cmpH = hdLt from funext fun x => funext fun y => cmpH_lt x y]; exact hdLt_swo
        have hso : Calls Tryz.prog 80 #[.slice (some ⟨blk, off, none⟩) l.toArray.size cap, .func (.func 81) #[] #[]] wr _ :=
          AnyQ.slices_SortFunc Tryz.laysSFH 3 Tryz.isAgg108 Tryz.sizeOf108 hdC (fun _ => rfl) (fun x v hv => by
            simp only [hdC, List.mem_cons, List.not_mem_nil, or_false] at hv
            rcases hv with rfl | rfl | rfl <;> rfl) cmpH hswo 81 #[] blk off cap l.toArray wr eg (cmpLaysH blk off l.toArray.size wr) hH hlt (by simp; omega)
        simp only [List.size_toArray] at hso
        have HH := Lib.hid hH
        have HS := Lib.hid hS
        have hcp : CapN l.length cap := ⟨HG.out.le, HG.out.max⟩
        clear hH hS eg hswo hle HG
        go_wp2_with fail
        refine hso.mono ?_
        clear hso
        rintro e W6 ⟨rfl, d', n', os, hp', hs', rfl⟩
        have hse := Lib.hid (sorted_hds (l := l) (by simpa using hp') (by simpa using hs') Hnf.out)
        have hdl : d'.toList.length = l.length := hse.out.1.length_eq
        have hM6 := Lib.hid (mod_sorth wr blk off n' d' os)
        have hH6 := Lib.hid (holdsK_sortWorldK_c hdC 3 wr blk off l.toArray d' n' os HH.out hlt (by simpa using hp'.1))
        have hl6 := lt_sortWorldK hdC 3 wr blk off n' d' os hlt
        generalize sortWorldK hdC 3 wr blk off n' d' os = W6 at hM6 hH6 hl6 ⊢
        clear hp' hs'
        go_wp2_with fail
        go_ret
        refine ⟨some ⟨blk, off, none⟩, cap, d'.toList, by rw [hdl]; rfl, ⟨hse.out.1.trans Hpf.out, hse.out.2⟩, hds_holds hH6.out (Nat.le_of_lt HS.out) hl6, by rw [hdl]; exact hcp, hB.trans (hM6.out.below_at hB.size (fun k hk e => by have := HS.out; omega))⟩
    · intro pre kd kn ino post w3 hl hR3 hg3 hs3 hen
      have hB3 : Below w.heap.size w w3 := hB.grown hg3 hB.size (fun k e => by cases e; exact Nat.le_refl _)
      have hz3 := hB3.size
      have hG3 : GRowAt w3 (fun k => w.heap.size < k) 3 l.length cap ao (l.flatMap hdC) := by
        refine HG.out.mod (F := (· = w.heap.size)) ⟨hg3.os, hg3.tape, hg3.output, hg3.size, fun k hk hne => hg3.block k hk (fun e => hne (by cases e; rfl))⟩ (fun k hk _ e => by omega)
      have hpn : (l ++ [((kd, kn), ino)] ++ (pre ++ post)).Perm m := by
        refine List.Perm.trans ?_ Hperm.out
        rw [hl, List.append_assoc]
        exact List.Perm.append_left l (by simpa using (List.perm_middle (a := ((kd, kn), ino)) (l₁ := pre) (l₂ := post)).symm)
      have hlen : l.length ≤ 100000 := by
        have h2 := hpn.length_eq
        have h3 := Hl.out
        simp only [List.length_append, List.length_cons] at h2
        omega
      have HL := Lib.hid hl
      have Hpn := Lib.hid hpn
      have HB3 := Lib.hid hB3
      have HR3 := Lib.hid hR3
      simp only [kH, iV] at hen ⊢
      have hs6 : w.heap.size < w3.heap.size := (hR3.lt).2
      clear hl hg3 hR hB hpn hR3 hB3 HG Hperm hs3
      go_wp2_with (at_builtin; refine wpList_append_g (by rfl) (.tmp 18) (.tmp 25) 25 25 (by rfl) 108 i0 _ 24 Tryz.underlying25 hi hz0 hz1 hz2 (by rfl) (by rfl) (hG3.mod (F := none') (by exact modC (Mod.refl _ _)) (fun _ _ _ => id)) _ 1 (hdC ((kd, kn), ino)) (by rfl) (src_hd _ _ Tryz.underlying25 (w3.heap.size + 1) ((kd, kn), ino) 108 (by simpa [hdC] using heap_alloc_new (w3.alloc (.cells #[.int .i64 kd, .int .i64 kn] 182)) (.cells #[.int .i64 kd, .int .i64 kn, .int .i64 ino] 108)) _) (by omega) (by omega) ?_; intro a8 cap8 w8 hg8 hM8 hz8)
      have hBa : Below w3.heap.size w3 ((w3.alloc (.cells #[.int .i64 kd, .int .i64 kn] 182)).alloc (.cells #[.int .i64 kd, .int .i64 kn, .int .i64 ino] 108)) := by exact belC (Below.refl _ _)
      have hml3 := (HR3.out.lt).1
      have hB8 : Below w.heap.size w w8 := HB3.out.trans ((hBa.mono HB3.out.size).trans (hM8.below_at (by have := HB3.out.size; simp only [World.size_alloc]; omega) (fun k hk e => by have e : w.heap.size < k := e; omega)))
      have HR8 := Lib.hid (HR3.out.of_blocks (w' := w8) ((hM8.block mb (by simp only [World.size_alloc]; omega) (by have := hml; show ¬ _ < _; omega)).trans (hBa.block mb hml3)) ((hM8.block w.heap.size (by simp only [World.size_alloc]; omega) (by show ¬ _ < _; omega)).trans (hBa.block _ hs6)))
      have HG8 := Lib.hid (hg8.sub (T := fun k => w.heap.size < k) (fun k _ hk => by
        rcases hk with hk | hk
        · exact hk
        · show w.heap.size < k; rw [hk]; simp only [World.size_alloc]; omega))
      have HB8 := Lib.hid hB8
      clear hg8 hM8 hz8 hB8 hG3 HR3 hBa
      go_wp2_with fail
      go_roundg (pre ++ post).length
      case measure => rw [HL.out]; simp
      case rel =>
        refine ⟨l ++ [((kd, kn), ino)], pre ++ post, a8, cap8, rfl, HR8.out, Hpn.out, by simp, ?_, HB8.out⟩
        rw [List.flatMap_append, List.length_append]
        simpa using HG8.out
end Go.Proofs.YtmnkackkeppheaaGreat
/- package handle: Count, Open -/
namespace Esch
open Go Go.RowKit
def hcnt (m : List Hd) (c : Int) : Nat := (m.filter (fun e => e.1.1 == c)).length
def HdS.opn (s : HdS) (c n i : Int) : Int × HdS :=
  if clientB c = false ∨ n < 0 ∨ 16384 ≤ n ∨ i < 1 ∨ 2147483647 < i then (1, s) else if (s.of c n).isSome = true then (61, s) else if 16 ≤ hcnt s.m c then (3, s) else (0, { s with m := set s.m (c, n) i })
theorem hcnt_perm {m l : List Hd} (h : l.Perm m) (c : Int) : hcnt l c = hcnt m c := (h.filter _).length_eq
theorem hcnt_step (l : List Hd) (c : Int) (i : Nat) (h : i < l.length) : hcnt (l.take (i + 1)) c = hcnt (l.take i) c + (if (l.getD i default).1.1 = c then 1 else 0) := by
  unfold hcnt
  rw [List.take_succ_eq_append_getElem h, List.filter_append, List.length_append, List.getD_eq_getElem?_getD, List.getElem?_eq_getElem h]
  congr 1
  simp only [Option.getD_some, List.filter_cons, List.filter_nil]
  by_cases e : l[i].1.1 = c
  · simp [e]
  · simp [e]
end Esch
namespace Go.Proofs.YtmnkackkeppheaaGreat
open Go.RowKit Esch Go.Shelf Go.Sort

def HCntRel (w : World) (l : List Hd) (c : Int) (g : Nat) (v5 v11 : Value) (wr : World) : Prop :=
  ∃ i : Nat, g = l.length - i ∧ i ≤ l.length ∧ v11 = .int .i64 i ∧ v5 = .int .i64 (hcnt (l.take i) c) ∧ Below w.heap.size w wr
set_option maxRecDepth 100000 in
set_option maxHeartbeats 4000000 in
theorem hdlCount_any (w : World) (b : Nat) (S : Nat → Prop) (s : HdS) (h : HdlAt w b S s) (hl : s.m.length ≤ 100000) (c : Int) :
    Calls Tryz.prog 125 #[.pointer (some ⟨b, 0, none⟩), .int .i64 c] w fun e w' => e = .returned (.int .i64 (hcnt s.m c)) ∧ Below w.heap.size w w' := by
  have ha := hdlAll_any w b S s h hl
  have Hl := Lib.hid hl
  clear h hl
  go_enter Tryz.func125, Tryz.ntmps125
  go_wp2_with fail
  refine ha.mono ?_
  clear ha
  rintro e w1 ⟨a, cp, l, rfl, hS, hA, hC, hB⟩
  have hll : l.length ≤ 100000 := by have := hS.1.length_eq; have := Hl.out; omega
  have HE := Lib.hid hA
  have HS := Lib.hid hS
  have HB := Lib.hid hB
  have Hll := Lib.hid hll
  clear hS hA hC hB hll
  go_wp2_with fail
  go_loopg [5, 11] l.length (fun g s5 s11 wr => HCntRel w1 l c g s5 s11 wr)
  case atStart => exact ⟨0, rfl, Nat.zero_le _, rfl, rfl, Below.refl _ _⟩
  case round =>
    obtain ⟨i, rfl, hil, rfl, rfl, hB'⟩ := hrel
    have HB' := Lib.hid hB'
    clear hB'
    by_cases hlt : i < l.length
    · obtain ⟨bk, off, rfl, hSb, hbl, hc⟩ := HE.out (by omega)
      obtain ⟨e0, e1, e2⟩ := hc i hlt
      have f0 := below_at HB'.out e0 hbl
      have f1 := below_at HB'.out e1 hbl
      have f2 := below_at HB'.out e2 hbl
      have hbl' : bk < wr.heap.size := cell_lt f0
      have hz1 := HB'.out.size
      have hil2 : (0 : Int) ≤ i ∧ (i : Int) < l.length := by omega
      have HT := Lib.hid (hcnt_step l c i hlt)
      have hle : hcnt (l.take i) c ≤ 100000 := by
        have h1 := List.length_filter_le (fun e : Hd => e.1.1 == c) (l.take i)
        have h2 := List.length_take_le i l
        have h3 := Hll.out
        unfold hcnt
        omega
      generalize hcnt (l.take i) c = u at *
      generalize l.getD i default = ent at *
      obtain ⟨⟨ed, en⟩, ei⟩ := ent
      have hwr : wrap64 ((i : Int) + 1) = ((i + 1 : Nat) : Int) := by unfold wrap64; have := Hll.out; omega
      have hwu : wrap64 ((u : Int) + 1) = ((u + 1 : Nat) : Int) := by unfold wrap64; omega
      have HWR := Lib.hid hwr
      have HWU := Lib.hid hwu
      clear e0 e1 e2 hc hbl hwr hwu hle
      by_cases hec : ed = c
      · have hec' : (ed == c) = true := by simpa using hec
        have HX := Lib.hid hec
        clear hec
        go_wp2_with fail
        go_roundg (l.length - (i + 1))
        case measure => omega
        case rel =>
          refine ⟨i + 1, rfl, by omega, (by rw [HWR.out]), ?_, (by exact belC HB'.out)⟩
          rw [HT.out, if_pos HX.out, HWU.out]
      · have hec' : (ed == c) = false := by simpa using hec
        have HX := Lib.hid hec
        clear hec
        go_wp2_with fail
        go_roundg (l.length - (i + 1))
        case measure => omega
        case rel =>
          refine ⟨i + 1, rfl, by omega, (by rw [HWR.out]), ?_, (by exact belC HB'.out)⟩
          rw [HT.out, if_neg HX.out]
          simp
    · obtain rfl : i = l.length := by omega
      go_wp2_with fail
      go_ret
      refine ⟨?_, HB.out.trans (HB'.out.mono HB.out.size)⟩
      rw [List.take_length, hcnt_perm HS.out.1]
      rfl
set_option maxRecDepth 100000 in
set_option maxHeartbeats 2000000 in
theorem hdlOpen_any (w : World) (b : Nat) (S : Nat → Prop) (s : HdS) (h : HdlAt w b S s) (hl : s.m.length ≤ 100000) (c n i : Int) :
    Calls Tryz.prog 93 #[.pointer (some ⟨b, 0, none⟩), .int .i64 c, .int .i64 n, .int .i64 i] w (RenewPost w b S (s.opn c n i)) := by
  have H := Lib.hid h
  have hct := fun W hW => hdlCount_any W b S s hW hl c
  obtain ⟨sb, lt, ln, mb, c0, c1, hm, sm, n1⟩ := h
  have hcl := fun W => client_any c W
  obtain ⟨r, hr⟩ : ∃ r, r = s.opn c n i := ⟨_, rfl⟩
  rw [← hr]
  unfold HdS.opn at hr
  cases hc : clientB c
  · rw [hc] at hcl
    rw [if_pos (by simp [*])] at hr
    subst hr
    clear hm c1
    go_enter Tryz.func93, Tryz.ntmps93
    go_wp2_with (go_at_call 84; refine (hcl _).mono ?_; rintro e w' ⟨rfl, rfl⟩)
    go_ret
    exact ⟨rfl, H.out, Mod.refl _ _⟩
  rw [hc] at hcl
  by_cases h1 : n < 0
  · have q1 : decide (n < 0) = true := decide_eq_true h1
    rw [if_pos (by simp [*])] at hr
    subst hr
    clear hm c1
    go_enter Tryz.func93, Tryz.ntmps93
    go_wp2_with (go_at_call 84; refine (hcl _).mono ?_; rintro e w' ⟨rfl, rfl⟩)
    go_ret
    exact ⟨rfl, H.out, Mod.refl _ _⟩
  have q1 : decide (n < 0) = false := decide_eq_false h1
  by_cases h2 : 16384 ≤ n
  · have q2 : decide (16384 ≤ n) = true := decide_eq_true h2
    rw [if_pos (by simp [*])] at hr
    subst hr
    clear hm c1
    go_enter Tryz.func93, Tryz.ntmps93
    go_wp2_with (go_at_call 84; refine (hcl _).mono ?_; rintro e w' ⟨rfl, rfl⟩)
    go_ret
    exact ⟨rfl, H.out, Mod.refl _ _⟩
  have q2 : decide (16384 ≤ n) = false := decide_eq_false h2
  by_cases h3 : i < 1
  · have q3 : decide (i < 1) = true := decide_eq_true h3
    rw [if_pos (by simp [*])] at hr
    subst hr
    clear hm c1
    go_enter Tryz.func93, Tryz.ntmps93
    go_wp2_with (go_at_call 84; refine (hcl _).mono ?_; rintro e w' ⟨rfl, rfl⟩)
    go_ret
    exact ⟨rfl, H.out, Mod.refl _ _⟩
  have q3 : decide (i < 1) = false := decide_eq_false h3
  by_cases h4 : 2147483647 < i
  · have q4 : decide (2147483647 < i) = true := decide_eq_true h4
    rw [if_pos (by simp [*])] at hr
    subst hr
    clear hm c1
    go_enter Tryz.func93, Tryz.ntmps93
    go_wp2_with (go_at_call 84; refine (hcl _).mono ?_; rintro e w' ⟨rfl, rfl⟩)
    go_ret
    exact ⟨rfl, H.out, Mod.refl _ _⟩
  have q4 : decide (2147483647 < i) = false := decide_eq_false h4
  rw [if_neg (by simp [hc, h1, h2, h3, h4])] at hr
  obtain ⟨es, ck, hl0⟩ := id hm
  have hk := hl0.look keyHd Tryz.underlying169 (z := .int .i64 0) (fun w => Tryz.zeroValue3 w) (c, n) true
  simp only [if_true, kH] at hk
  rw [show ((get s.m (c, n)).map iV).getD (Value.int .i64 0) = .int .i64 ((get s.m (c, n)).getD 0) by cases get s.m (c, n) <;> rfl] at hk
  unfold HdS.of at hr
  generalize (get s.m (c, n)).getD 0 = x at hk
  cases hy : (get s.m (c, n)).isSome
  · rw [hy] at hk
    rw [hy, if_neg (by simp)] at hr
    by_cases h5 : 16 ≤ hcnt s.m c
    · have q5 : decide ((16 : Int) ≤ (hcnt s.m c : Nat)) = true := decide_eq_true (by omega)
      rw [if_pos h5] at hr
      subst hr
      generalize hcnt s.m c = u at *
      clear hm hl0 c1 hy h5
      go_enter Tryz.func93, Tryz.ntmps93
      go_wp2_with (go_at_call 84; refine (hcl _).mono ?_; rintro e w' ⟨rfl, rfl⟩)
      refine (hct _ H.out).mono ?_
      rintro e w2 ⟨rfl, hB⟩
      go_wp2_with fail
      go_ret
      exact ⟨rfl, H.out.below' hB, Mod.of_below hB⟩
    · have q5 : decide ((16 : Int) ≤ (hcnt s.m c : Nat)) = false := decide_eq_false (by omega)
      rw [if_neg h5] at hr
      have hX : ∀ W2, Below w.heap.size w W2 → ∃ W3, (Instr.mapUpdate 169 (.map (some mb)) (kH (c, n)) (iV i)).run Tryz.prog W2 = .ok () W3 ∧ RenewPost w b S r (.returned (.int .i64 0)) W3 := fun W2 hB => by
        obtain ⟨W3, hu, hm3, hM3⟩ := MapAt.upd (hm.mod (F := none') (Mod.of_below hB) id) keyHd Tryz.underlying169 (c, n) i
        obtain ⟨p1, p2⟩ := (H.out.below' hB).put (below_at hB c0 (cell_lt c0)) hM3 hm3
        subst hr
        exact ⟨W3, hu, rfl, p1, (Mod.of_below hB).trans p2⟩
      simp only [kH, iV] at hX
      generalize hcnt s.m c = u at *
      have HX := Lib.hid hX
      clear hm hl0 c1 hy h5 hr hX
      go_enter Tryz.func93, Tryz.ntmps93
      go_wp2_with (go_at_call 84; refine (hcl _).mono ?_; rintro e w' ⟨rfl, rfl⟩)
      refine (hct _ H.out).mono ?_
      rintro e w2 ⟨rfl, hB⟩
      have d0 := below_at hB c0 (cell_lt c0)
      obtain ⟨W3, hu, hP⟩ := HX.out w2 hB
      have HP := Lib.hid hP
      clear hP hB
      go_wp2_with fail
      go_ret
      exact HP.out
  · rw [hy] at hk
    rw [hy, if_pos rfl] at hr
    subst hr
    clear hm hl0 c1 hy
    go_enter Tryz.func93, Tryz.ntmps93
    go_wp2_with (go_at_call 84; refine (hcl _).mono ?_; rintro e w' ⟨rfl, rfl⟩)
    go_ret
    exact ⟨rfl, H.out, Mod.refl _ _⟩
end Go.Proofs.YtmnkackkeppheaaGreat
/- package handle: Expire -/
namespace Esch
open Go Go.RowKit
end Esch
namespace Go.Proofs.YtmnkackkeppheaaGreat
open Go.RowKit Esch Go.Shelf Go.Sort

end Go.Proofs.YtmnkackkeppheaaGreat
/- package extent: whole, one, joins, Good -/
namespace Go.Proofs.YtmnkackkeppheaaGreat
open Go.RowKit Esch Go.Shelf

set_option maxRecDepth 100000 in
set_option maxHeartbeats 2000000 in
theorem whole_any (w : World) (a n m : Int) (hm : 1 ≤ m) (hm2 : m ≤ 1000000) : Calls Tryz.prog 178 #[.int .i64 a, .int .i64 n, .int .i64 m] w fun e w' => e = .returned (.bool (wholeB a n m)) ∧ w' = w := by
  unfold wholeB
  by_cases h1 : 0 ≤ a
  · by_cases h2 : 1 ≤ n
    · by_cases h3 : n ≤ m
      · have hw : wrap64 (m - n) = m - n := by unfold wrap64; omega
        rw [decide_eq_true h1, decide_eq_true h2, decide_eq_true h3, Bool.true_and, Bool.true_and, Bool.true_and]
        go_enter Tryz.func178, Tryz.ntmps178
        go_wp2_with fail
        go_ret
        exact ⟨rfl, rfl⟩
      · have h3' : decide (n ≤ m) = false := decide_eq_false h3
        rw [decide_eq_true h1, decide_eq_true h2, h3', Bool.true_and, Bool.true_and, Bool.false_and]
        go_enter Tryz.func178, Tryz.ntmps178
        go_wp2_with fail
        go_ret
        exact ⟨rfl, rfl⟩
    · have h2' : decide (1 ≤ n) = false := decide_eq_false h2
      rw [decide_eq_true h1, h2', Bool.true_and, Bool.false_and, Bool.false_and]
      go_enter Tryz.func178, Tryz.ntmps178
      go_wp2_with fail
      go_ret
      exact ⟨rfl, rfl⟩
  · have h1' : decide (0 ≤ a) = false := decide_eq_false h1
    rw [h1', Bool.false_and, Bool.false_and, Bool.false_and]
    go_enter Tryz.func178, Tryz.ntmps178
    go_wp2_with fail
    go_ret
    exact ⟨rfl, rfl⟩
def ptV (x : PtS) : Value := .agg #[.int .i64 x.off, .int .i64 x.len, .int .i64 x.addr, .int .i64 x.at']
set_option maxRecDepth 100000 in
set_option maxHeartbeats 2000000 in
theorem one_any (w : World) (x : PtS) : Calls Tryz.prog 163 #[ptV x] w fun e w' => e = .returned (.bool x.one) ∧ Below w.heap.size w w' := by
  obtain ⟨o, l, d, t⟩ := x
  unfold PtS.one ptV
  simp only
  have hw1 := fun W => whole_any W o l 8192 (by decide) (by decide)
  have hw2 := fun W => whole_any W t l 1024 (by decide) (by decide)
  cases h1 : wholeB o l 8192
  · rw [h1] at hw1
    rw [Bool.false_and, Bool.false_and, Bool.false_and]
    clear h1 hw2
    go_enter Tryz.func163, Tryz.ntmps163
    go_wp2_with fail
    refine (hw1 _).mono ?_
    rintro e w1 ⟨rfl, rfl⟩
    go_wp2_with fail
    go_ret
    exact ⟨rfl, by exact belC (Below.refl _ _)⟩
  · rw [h1] at hw1
    rw [Bool.true_and]
    cases h2 : wholeB t l 1024
    · rw [h2] at hw2
      rw [Bool.false_and, Bool.false_and]
      clear h1 h2
      go_enter Tryz.func163, Tryz.ntmps163
      go_wp2_with fail
      refine (hw1 _).mono ?_
      rintro e w1 ⟨rfl, rfl⟩
      go_wp2_with fail
      refine (hw2 _).mono ?_
      rintro e w2 ⟨rfl, rfl⟩
      go_wp2_with fail
      go_ret
      exact ⟨rfl, by exact belC (Below.refl _ _)⟩
    · rw [h2] at hw2
      rw [Bool.true_and]
      clear h1 h2
      by_cases h3 : 0 ≤ d
      · rw [decide_eq_true h3, Bool.true_and]
        go_enter Tryz.func163, Tryz.ntmps163
        go_wp2_with fail
        refine (hw1 _).mono ?_
        rintro e w1 ⟨rfl, rfl⟩
        go_wp2_with fail
        refine (hw2 _).mono ?_
        rintro e w2 ⟨rfl, rfl⟩
        go_wp2_with fail
        go_ret
        exact ⟨rfl, by exact belC (Below.refl _ _)⟩
      · have h3' : decide (0 ≤ d) = false := decide_eq_false h3
        rw [h3', Bool.false_and]
        go_enter Tryz.func163, Tryz.ntmps163
        go_wp2_with fail
        refine (hw1 _).mono ?_
        rintro e w1 ⟨rfl, rfl⟩
        go_wp2_with fail
        refine (hw2 _).mono ?_
        rintro e w2 ⟨rfl, rfl⟩
        go_wp2_with fail
        go_ret
        exact ⟨rfl, by exact belC (Below.refl _ _)⟩
end Go.Proofs.YtmnkackkeppheaaGreat
