import Derived.Test.YtpfcomepecgcmaaGreatDoorPkOpM
import Derived.Deep.DrawnRows
import Derived.Shelf.SlSortCmp.NoneTotal
/- package dir: New, Find, Count, Add, Drop -/
namespace Esch
open Go Go.RowKit
def kV (k : DK) : Value := .agg #[.int .i64 k.1, .string (bs k.2)]
def iV (i : Int) : Value := .int .i64 i
section
variable {P : Program} {t : TypeId}
end
/-- a map of S that holds the pairs of m, in one order or another of their making -/
def MpAt {K V : Type} (w : World) (mb : Nat) (κ : K → Value) (ν : V → Value) (m : List (K × V)) : Prop := ∃ es clock, MapAt w mb κ ν m es clock
theorem MpAt.lt {K V : Type} {w : World} {mb : Nat} {κ : K → Value} {ν : V → Value} {m : List (K × V)} (h : MpAt w mb κ ν m) : mb < w.heap.size := by obtain ⟨_, _, h⟩ := h; exact block_lt h.block
theorem MpAt.mod {K V : Type} {w w' : World} {F : Nat → Prop} {mb : Nat} {κ : K → Value} {ν : V → Value} {m : List (K × V)} (h : MpAt w mb κ ν m) (hM : Mod F w w') (hF : ¬ F mb) : MpAt w' mb κ ν m := by
  obtain ⟨es, c, h⟩ := h
  exact ⟨es, c, h.of_block (hM.block mb (block_lt h.block) hF)⟩
/-- names in directories -/
structure DirAt (w : World) (b : Nat) (S : Nat → Prop) (s : DirS) : Prop where
  sb : S b
  lt : ∀ k, S k → k < w.heap.size
  ex : ∃ mb cb, w.cell? ⟨b, 0, none⟩ = some (.map (some mb)) ∧ w.cell? ⟨b, 1, none⟩ = some (.map (some cb)) ∧ MpAt w mb kV iV s.m ∧ MpAt w cb iV iV s.c ∧ S mb ∧ S cb ∧ mb ≠ cb ∧ mb ≠ b ∧ cb ≠ b
theorem DirAt.mod {w w' : World} {b : Nat} {S F : Nat → Prop} {s : DirS} (h : DirAt w b S s) (hM : Mod F w w') (hF : ∀ k, S k → ¬ F k) : DirAt w' b S s := by
  obtain ⟨sb, lt, mb, cb, c0, c1, hm, hc, sm, sc, n1, n2, n3⟩ := h
  exact ⟨sb, fun k hk => Nat.lt_of_lt_of_le (lt k hk) hM.size, mb, cb, hM.at c0 (hF b sb), hM.at c1 (hF b sb), hm.mod hM (hF mb sm), hc.mod hM (hF cb sc), sm, sc, n1, n2, n3⟩
theorem DirAt.below' {w w' : World} {b : Nat} {S : Nat → Prop} {s : DirS} (h : DirAt w b S s) (hB : Below w.heap.size w w') : DirAt w' b S s := h.mod (F := none') (Mod.of_below hB) fun _ _ => id
end Esch
namespace Go.Proofs.YtpfcomepecgcmaaGreatDoor
open Go.RowKit Esch Go.Shelf

theorem keyInt : KeyOK Tryz.prog 3 iV := keyOK_int Tryz.underlying3
set_option maxHeartbeats 1000000 in
theorem dirNew_any (w : World) : Calls Tryz.prog 59 #[] w fun e w' => ∃ b, e = .returned (.pointer (some ⟨b, 0, none⟩)) ∧ DirAt w' b (fun k => w.heap.size ≤ k ∧ k < w'.heap.size) ⟨[], []⟩ ∧ Below w.heap.size w w' := by
  have hmm := @run_makeMap Tryz.prog
  go_enter Tryz.func59, Tryz.ntmps59
  go_wp2_with fail
  go_ret
  refine ⟨w.heap.size + 2, rfl, ⟨⟨by omega, by simp⟩, fun k hk => hk.2, w.heap.size, w.heap.size + 1, by go_simp, by go_simp, ⟨#[], 0, ?_, rfl, List.nodup_nil, List.Pairwise.nil, fun e h => by simp at h⟩, ⟨#[], 0, ?_, rfl, List.nodup_nil, List.Pairwise.nil, fun e h => by simp at h⟩, ⟨Nat.le_refl _, by simp; omega⟩, ⟨by omega, by simp⟩, by omega, by omega, by omega⟩, by exact belC (Below.refl _ _)⟩
  · rw [alloc_old _ _ _ (by simp; omega), alloc_old _ _ _ (by simp), alloc_new]
  · rw [alloc_old _ _ _ (by simp)]
    have := alloc_new (w.alloc (.map #[] 0)) (.map #[] 0)
    rwa [World.size_alloc] at this
end Go.Proofs.YtpfcomepecgcmaaGreatDoor
/- package dir: the entries that are such, in order -/
namespace Esch
open Go Go.RowKit
/-- entries in memory -/
def EntsAt (S : Nat → Prop) (w : World) (a : Option Addr) (l : List Ent) : Prop :=
  0 < l.length → ∃ b off, a = some ⟨b, off, none⟩ ∧ S b ∧ b < w.heap.size ∧ ∀ i, i < l.length → w.cell? ⟨b, off + i * 3, none⟩ = some (.int .i64 (l.getD i default).1.1) ∧ w.cell? ⟨b, off + i * 3 + 1, none⟩ = some (.string (bs (l.getD i default).1.2)) ∧ w.cell? ⟨b, off + i * 3 + 2, none⟩ = some (.int .i64 (l.getD i default).2)
theorem EntsAt.nil (S : Nat → Prop) (w : World) (a : Option Addr) : EntsAt S w a [] := fun h => absurd h (by simp)
theorem EntsAt.mod {S F : Nat → Prop} {w w' : World} {a : Option Addr} {l : List Ent} (h : EntsAt S w a l) (hM : Mod F w w') (hS : ∀ k, S k → k < w.heap.size → ¬ F k) : EntsAt S w' a l := fun h0 => by
  obtain ⟨b, off, e, hb, hl, hc⟩ := h h0
  refine ⟨b, off, e, hb, Nat.lt_of_lt_of_le hl hM.size, fun i hi => ?_⟩
  obtain ⟨h1, h2, h3⟩ := hc i hi
  exact ⟨hM.at h1 (hS b hb hl), hM.at h2 (hS b hb hl), hM.at h3 (hS b hb hl)⟩
theorem EntsAt.below {S : Nat → Prop} {w w' : World} {a : Option Addr} {l : List Ent} (h : EntsAt S w a l) (hB : Below w.heap.size w w') : EntsAt S w' a l := h.mod (F := none') (Mod.of_below hB) fun _ _ _ => id
end Esch
namespace Go.Proofs.YtpfcomepecgcmaaGreatDoor
open Go.RowKit Esch Go.Shelf Go.Sort

theorem Tryz.infoEnt : (Tryz.prog.info? 99).map (fun i => (i.zero, i.size, i.bytes)) = some (some (.agg #[.int .i64 0, .string ⟨#[]⟩, .int .i64 0]), 3, 32) := by kernel_rfl
theorem src_ent {P : Program} {W : World} (tx e' : TypeId) (hk : P.underlying tx = some (.slice e')) (b : Nat) (p : Ent) (t : TypeId) (hb : W.heap[b]? = some (.cells (entC p).toArray t)) (c : Nat) : Src P 3 tx (.slice (some ⟨b, 0, none⟩) 1 c) 1 (entC p) W := by
  refine Src.ofSlice W hk _ 1 c (entC p) rfl (fun j u hu => ?_) (fun u hu => ?_)
  · rw [addr_add, Nat.zero_add]
    simp [World.cell?, hb, hu]
  · simp only [entC, List.mem_cons, List.not_mem_nil, or_false] at hu
    rcases hu with rfl | rfl | rfl <;> rfl
theorem flat_get : ∀ (l : List Ent) (j : Nat), j < l.length * 3 → (l.flatMap entC)[j]? = some ((entC (l.toArray[j / 3]!))[j % 3]!)
  | [], j, h => by simp at h
  | a :: l, j, h => by
    rw [List.flatMap_cons]
    rcases Nat.lt_or_ge j 3 with hj | hj
    · rw [List.getElem?_append_left (by simpa [entC] using hj)]
      have : j = 0 ∨ j = 1 ∨ j = 2 := by omega
      rcases this with rfl | rfl | rfl <;> simp [entC]
    · rw [List.getElem?_append_right (by simpa [entC] using hj)]
      have e : j - (entC a).length = j - 3 := rfl
      rw [e, flat_get l (j - 3) (by simp only [List.length_cons] at h; omega)]
      have h1 : j / 3 = (j - 3) / 3 + 1 := by omega
      have h2 : j % 3 = (j - 3) % 3 := by omega
      rw [h1, h2]
      have h3 : (j - 3) / 3 < l.length := by simp only [List.length_cons] at h; omega
      congr 3
      rw [getElem!_pos l.toArray _ (by simpa using h3), getElem!_pos (a :: l).toArray _ (by simpa using h3)]
      simp
theorem mod_sort (w : World) (blk off m : Nat) (dk : Array Ent) (os : Array Obj) : Mod (· = blk) w (sortWorldK entC 3 w blk off m dk os) := by
  refine ⟨rfl, rfl, rfl, size_sortWorldK_c _ _ _ _ _ _ _ _, fun k hk hne => ?_⟩
  show ((w.heap.modify blk _) ++ os)[k]? = _
  rw [Array.getElem?_append_left (by simpa using hk), Array.getElem?_modify, if_neg (fun e => hne e.symm)]
theorem holds_ents {S : Nat → Prop} {w : World} {blk off cap : Nat} {l : List Ent} (h : GRowAt w S 3 l.length cap (some ⟨blk, off, none⟩) (l.flatMap entC)) (hl : 0 < l.length) : HoldsK entC 3 w blk off l.toArray ∧ S blk ∧ blk < w.heap.size := by
  have hle := h.le
  obtain ⟨b, o, e, hb, hlt, h1, h2⟩ := h.at' (by omega)
  cases e
  refine ⟨fun j hj => ?_, hb, hlt⟩
  rw [size_flatK, List.size_toArray] at hj
  refine ⟨?_, (h2 j (by omega)).2⟩
  rw [h1 j hj, flat_get l j hj, get_flatK _ _ _ _ (by simpa using hj)]
  rfl
theorem ents_holds {w : World} {blk off : Nat} {S : Nat → Prop} {d : Array Ent} (h : HoldsK entC 3 w blk off d) (hS : S blk) (hlt : blk < w.heap.size) : EntsAt S w (some ⟨blk, off, none⟩) d.toList := by
  intro h0
  refine ⟨blk, off, rfl, hS, hlt, fun i hi => ?_⟩
  rw [Array.length_toList] at hi
  have hg : d.toList.getD i default = d[i]! := by rw [List.getD_eq_getElem?_getD, Array.getElem?_toList, getElem!_pos d i hi, Array.getElem?_eq_getElem hi]; rfl
  rw [hg]
  have hh : ∀ c, c < 3 → w.cell? ⟨blk, off + (i * 3 + c), none⟩ = some ((entC d[i]!)[c]!) := fun c hc => by
    have := (h (i * 3 + c) (by rw [size_flatK]; omega)).1
    rw [get_flatK _ _ _ _ (by omega), show (i * 3 + c) / 3 = i by omega, show (i * 3 + c) % 3 = c by omega] at this
    exact this
  exact ⟨hh 0 (by omega), by have := hh 1 (by omega); rwa [← Nat.add_assoc] at this, by have := hh 2 (by omega); rwa [← Nat.add_assoc] at this⟩
theorem sorted_ents {l : List Ent} {d' : Array Ent} (hp : Sort.PermIn 0 l.toArray.size l.toArray d') (hs : Sort.SortedIn (ltOf cmpE) 0 l.toArray.size d') (hn : (l.map (·.1)).Nodup) : d'.toList.Perm l ∧ d'.toList.Pairwise (fun x y => entLt x y = true) := by
  obtain ⟨h1, -, h3⟩ := hp
  have h4 : d'.toList.Perm l := by
    have h5 : d'.toList.length = l.length := by simpa using h1
    simpa [List.take_of_length_le (Nat.le_of_eq h5)] using h3
  refine ⟨h4, sorted_strict ?_ ((h4.map (·.1)).nodup_iff.2 hn)⟩
  rw [List.pairwise_iff_getElem]
  intro i j hi hj hij
  rw [Array.length_toList] at hi hj
  have := hs i j (Nat.zero_le _) hij (by omega)
  rw [getElem!_pos d' i hi, getElem!_pos d' j hj, cmpE_lt] at this
  simpa using this
/-- a closure that tells of an entry whether it is such -/
def Such (w : World) (g : Nat) (lb : Array Value) (p : Ent → Bool) : Prop :=
  ∀ W e, Below w.heap.size w W → Calls Tryz.prog g (#[.agg (entC e).toArray] ++ lb) W fun r W' => r = .returned (.bool (p e)) ∧ Below W.heap.size W W'
def SomePost (w : World) (m : List Ent) (p : Ent → Bool) (e : Ending) (w' : World) : Prop :=
  ∃ a c l, e = .returned (.slice a l.length c) ∧ SortedOf m p l ∧ EntsAt (From w.heap.size) w' a l ∧ CapN l.length c ∧ Below w.heap.size w w'
def SomeRel (w : World) (mb : Nat) (m : List Ent) (p : Ent → Bool) (g : Nat) (v : Value) (wr : World) : Prop :=
  ∃ (seen left : List Ent) (ao : Option Addr) (cap : Nat), g = left.length ∧ Ranges wr mb w.heap.size kV iV m left ∧ (seen ++ left).Perm m ∧ v = .slice ao (seen.filter p).length cap ∧
    GRowAt wr (fun k => w.heap.size < k) 3 (seen.filter p).length cap ao ((seen.filter p).flatMap entC) ∧ Below w.heap.size w wr
set_option maxRecDepth 100000 in
set_option maxHeartbeats 4000000 in
theorem dirSome_any (w : World) (b : Nat) (S : Nat → Prop) (s : DirS) (h : DirAt w b S s) (g : Nat) (lb : Array Value) (p : Ent → Bool) (hl : s.m.length ≤ 100000)
    (eg : ∀ args w, (callFunc g args).run Tryz.prog w = .ok (.enter g args) w) (hp : Such w g lb p) :
    Calls Tryz.prog 62 #[.pointer (some ⟨b, 0, none⟩), .func (.func g) #[] lb] w (SomePost w s.m p) := by
  obtain ⟨sb, lt, mb, cb, c0, c1, ⟨es, ck, hm⟩, hc, sm, sc, n1, n2, n3⟩ := h
  obtain ⟨i0, hi, hz0, hz1, hz2⟩ := info_parts Tryz.infoEnt
  have hml := block_lt hm.block
  obtain ⟨m, hmm⟩ : ∃ m, m = s.m := ⟨_, rfl⟩
  rw [← hmm] at hm hl ⊢
  have hnd := Lib.hid hm.apart
  have Hl := Lib.hid hl
  have HP := Lib.hid hp
  clear hc c1 hmm hl hp
  go_enter Tryz.func62, Tryz.ntmps62
  go_wp2_with (at_range; refine wpList_range_map rfl _ _ rfl _ _ Tryz.underlying171 rfl hm ?_; intro w2 hR2 e2)
  go_frame
  have hB2 : Below w.heap.size w w2 := by rw [e2]; exact (Below.refl _ w).alloc (Nat.le_refl _) _
  clear e2 hm
  go_loopg [5] m.length (fun g sv wr => SomeRel w mb m p g sv wr)
  case atStart => exact ⟨[], m, none, 0, rfl, hR2, List.Perm.refl _, rfl, GRowAt.nil _ _ _ _, hB2⟩
  case round =>
    clear hR2 hB2
    obtain ⟨seen, left, ao, cap, rfl, hR, hperm, rfl, hG, hB⟩ := hrel
    have Hperm := Lib.hid hperm
    have HG := Lib.hid hG
    clear hperm hG
    go_wp2_with (at_next; refine wpList_next_map rfl _ rfl rfl hR ?_ ?_)
    · intro hl0
      have HL := Lib.hid hl0
      clear hl0
      have hp0 := Hperm.out
      rw [HL.out, List.append_nil] at hp0
      have hpf := hp0.filter p
      have hnf : ((seen.filter p).map (·.1)).Nodup := by
        have h1 := (hp0.map (·.1)).nodup_iff.2 hnd.out
        exact h1.sublist (List.filter_sublist.map _)
      have hlen : (seen.filter p).length ≤ 100000 := by
        have h1 := List.length_filter_le p seen
        have h2 := hp0.length_eq
        have h3 := Hl.out
        omega
      have Hpf := Lib.hid hpf
      have Hnf := Lib.hid hnf
      clear hp0 hpf hnf
      generalize seen.filter p = l at *
      by_cases h0 : l.length = 0
      · obtain rfl : l = [] := List.length_eq_zero_iff.1 h0
        have hso : Calls Tryz.prog 93 #[.slice ao 0 cap, .func (.func 94) #[] #[]] wr _ := AnyF.slices_SortFunc_none { Tryz.laysSF with } ao cap _ wr
        have hcp : CapN 0 cap := ⟨HG.out.le, HG.out.max⟩
        clear hlen h0
        go_wp2_with fail
        refine hso.mono ?_
        rintro e W6 ⟨rfl, rfl⟩
        go_wp2_with fail
        go_ret
        exact ⟨ao, cap, [], rfl, ⟨Hpf.out, List.Pairwise.nil⟩, EntsAt.nil _ _ _, hcp, hB⟩
      · have hle := HG.out.le
        obtain ⟨blk, off, rfl, -⟩ := HG.out.at' (by omega)
        obtain ⟨hH, hS, hlt⟩ := holds_ents HG.out (by omega)
        have eg : ∀ args w, (callFunc 94 args).run Tryz.prog w = .ok (.enter 94 args) w := enters_of Tryz.func94 (by kernel_rfl) rfl
        have hswo : Sort.SWO (ltOf cmpE) := by rw [show ltOf cmpE = entLt from funext fun x => funext fun y => cmpE_lt x y]; exact entLt_swo
        have hso : Calls Tryz.prog 93 #[.slice (some ⟨blk, off, none⟩) l.toArray.size cap, .func (.func 94) #[] #[]] wr _ :=
          AnyQ.slices_SortFunc Tryz.laysSF 3 Tryz.isAgg99 Tryz.sizeOf99 entC (fun _ => rfl) (fun x v hv => by
            simp only [entC, List.mem_cons, List.not_mem_nil, or_false] at hv
            rcases hv with rfl | rfl | rfl <;> rfl) cmpE hswo 94 #[] blk off cap l.toArray wr eg (cmpLays blk off l.toArray.size wr) hH hlt (by simp; omega)
        simp only [List.size_toArray] at hso
        have HH := Lib.hid hH
        have HS := Lib.hid hS
        have hcp : CapN l.length cap := ⟨HG.out.le, HG.out.max⟩
        clear hH hS eg hswo hle HG
        go_wp2_with fail
        refine hso.mono ?_
        clear hso
        rintro e W6 ⟨rfl, d', n', os, hp', hs', rfl⟩
        have hse := Lib.hid (sorted_ents (l := l) (by simpa using hp') (by simpa using hs') Hnf.out)
        have hdl : d'.toList.length = l.length := hse.out.1.length_eq
        have hM6 := Lib.hid (mod_sort wr blk off n' d' os)
        have hH6 := Lib.hid (holdsK_sortWorldK_c entC 3 wr blk off l.toArray d' n' os HH.out hlt (by simpa using hp'.1))
        have hl6 := lt_sortWorldK entC 3 wr blk off n' d' os hlt
        generalize sortWorldK entC 3 wr blk off n' d' os = W6 at hM6 hH6 hl6 ⊢
        clear hp' hs'
        go_wp2_with fail
        go_ret
        refine ⟨some ⟨blk, off, none⟩, cap, d'.toList, by rw [hdl]; rfl, ⟨hse.out.1.trans Hpf.out, hse.out.2⟩, ents_holds hH6.out (Nat.le_of_lt HS.out) hl6, by rw [hdl]; exact hcp, hB.trans (hM6.out.below_at hB.size (fun k hk e => by have := HS.out; omega))⟩
    · intro pre kd kn ino post w3 hl hR3 hg3 hs3 hen
      have hB3 : Below w.heap.size w w3 := hB.grown hg3 hB.size (fun k e => by cases e; exact Nat.le_refl _)
      have hz3 := hB3.size
      have hG3 : GRowAt w3 (fun k => w.heap.size < k) 3 (seen.filter p).length cap ao ((seen.filter p).flatMap entC) := by
        refine HG.out.mod (F := (· = w.heap.size)) ⟨hg3.os, hg3.tape, hg3.output, hg3.size, fun k hk hne => hg3.block k hk (fun e => hne (by cases e; rfl))⟩ (fun k hk _ e => by omega)
      have hpn : (seen ++ [((kd, kn), ino)] ++ (pre ++ post)).Perm m := by
        refine List.Perm.trans ?_ Hperm.out
        rw [hl, List.append_assoc]
        exact List.Perm.append_left seen (by simpa using (List.perm_middle (a := ((kd, kn), ino)) (l₁ := pre) (l₂ := post)).symm)
      have HL := Lib.hid hl
      have Hpn := Lib.hid hpn
      have HG3 := Lib.hid hG3
      have HB3 := Lib.hid hB3
      have HR3 := Lib.hid hR3
      simp only [kV, iV] at hen ⊢
      clear hl hg3 hR hB hpn hG3 hR3 hB3 HG Hperm hs3
      go_wp2_with fail
      obtain ⟨W5, hW5⟩ : ∃ W5, W5 = (w3.alloc (.cells #[.int .i64 kd, .string (bs kn)] 180)).alloc (.cells #[.int .i64 kd, .string (bs kn), .int .i64 ino] 99) := ⟨_, rfl⟩
      have e0 : W5.cell? ⟨w3.heap.size + 1, 0, none⟩ = some (.int .i64 kd) := by rw [hW5]; go_simp
      have e1 : W5.cell? ⟨w3.heap.size + 1, 1, none⟩ = some (.string (bs kn)) := by rw [hW5]; go_simp
      have e2 : W5.cell? ⟨w3.heap.size + 1, 2, none⟩ = some (.int .i64 ino) := by rw [hW5]; go_simp
      have hB35 : Below w3.heap.size w3 W5 := by rw [hW5]; exact belC (Below.refl _ _)
      have hB5 : Below w.heap.size w W5 := HB3.out.trans (hB35.mono HB3.out.size)
      rw [← hW5]
      clear hW5
      refine (HP.out W5 ((kd, kn), ino) hB5).mono ?_
      rintro e W6 ⟨rfl, hB6⟩
      have l5 : w3.heap.size + 1 < W5.heap.size := cell_lt e0
      have f0 := below_at hB6 e0 l5
      have f1 := below_at hB6 e1 l5
      have f2 := below_at hB6 e2 l5
      have hB36 : Below w3.heap.size w3 W6 := hB35.trans (hB6.mono (by omega))
      have HB6 := Lib.hid (HB3.out.trans (hB36.mono HB3.out.size))
      have HR6 := Lib.hid (HR3.out.of_blocks (hB36.block mb (HR3.out.lt).1) (hB36.block w.heap.size (HR3.out.lt).2))
      have HG6 := Lib.hid (HG3.out.mod (F := none') (Mod.of_below hB36) fun _ _ _ => id)
      clear hB35 hB5 hB6 hB36 e0 e1 e2 HG3 HR3 HB3 hen
      obtain ⟨pb, hpb⟩ : ∃ pb, pb = p ((kd, kn), ino) := ⟨_, rfl⟩
      rw [← hpb]
      have HPB := Lib.hid hpb
      clear hpb
      cases pb
      · go_wp2_with fail
        go_roundg (pre ++ post).length
        case measure => rw [HL.out]; simp
        case rel =>
          have hf : (seen ++ [((kd, kn), ino)]).filter p = seen.filter p := by rw [List.filter_append]; simp [← HPB.out]
          exact ⟨seen ++ [((kd, kn), ino)], pre ++ post, ao, cap, rfl, HR6.out, Hpn.out, by rw [hf], by rw [hf]; exact HG6.out, HB6.out⟩
      · have hlen : (seen.filter p).length ≤ 100000 := by
          have h1 := List.length_filter_le p seen
          have h2 := Hpn.out.length_eq
          have h3 := Hl.out
          simp only [List.length_append, List.length_cons] at h2
          omega
        go_wp2_with (at_builtin; refine wpList_append_g (by rfl) (.tmp 30) (.tmp 32) 48 48 (by rfl) 99 i0 _ 32 Tryz.underlying48 hi hz0 hz1 hz2 (by rfl) (by rfl) (HG6.out.mod (F := none') (by exact modC (Mod.refl _ _)) (fun _ _ _ => id)) _ 1 (entC ((kd, kn), ino)) (by rfl) (src_ent _ _ Tryz.underlying48 W6.heap.size ((kd, kn), ino) 99 (heap_alloc_new _ _) _) (by omega) (by omega) ?_; intro a8 cap8 w8 hg8 hM8 hz8)
        have hs6 : w.heap.size < W6.heap.size := (HR6.out.lt).2
        have hB8 : Below w.heap.size w w8 := HB6.out.trans (((Below.refl _ W6).alloc (Nat.le_refl _) _).mono HB6.out.size |>.trans (hM8.below_at (by have := HB6.out.size; simp only [World.size_alloc]; omega) (fun k hk e => by have e : w.heap.size < k := e; omega)))
        have HR8 := Lib.hid (HR6.out.of_blocks (w' := w8) ((hM8.block mb (by have := (HR6.out.lt).1; simp only [World.size_alloc]; omega) (by have := hml; show ¬ _ < _; omega)).trans (alloc_old _ _ _ (HR6.out.lt).1)) ((hM8.block w.heap.size (by simp only [World.size_alloc]; omega) (by show ¬ _ < _; omega)).trans (alloc_old _ _ _ (HR6.out.lt).2)))
        have HG8 := Lib.hid (hg8.sub (T := fun k => w.heap.size < k) (fun k _ hk => by
          rcases hk with hk | hk
          · exact hk
          · show w.heap.size < k; rw [hk]; simp only [World.size_alloc]; omega))
        have HB8 := Lib.hid hB8
        clear hg8 hM8 hz8 hB8 HG6 HR6
        go_wp2_with fail
        go_roundg (pre ++ post).length
        case measure => rw [HL.out]; simp
        case rel =>
          have hf : (seen ++ [((kd, kn), ino)]).filter p = seen.filter p ++ [((kd, kn), ino)] := by rw [List.filter_append]; simp [← HPB.out]
          refine ⟨seen ++ [((kd, kn), ino)], pre ++ post, a8, cap8, rfl, HR8.out, Hpn.out, by rw [hf]; simp, ?_, HB8.out⟩
          rw [hf, List.flatMap_append, List.length_append]
          simpa using HG8.out
end Go.Proofs.YtpfcomepecgcmaaGreatDoor
/- package dir: All, List -/
namespace Go.Proofs.YtpfcomepecgcmaaGreatDoor
open Go.RowKit Esch Go.Shelf

theorem such_all (w : World) : Such w 63 #[] (fun _ => true) := fun W e _ => by
  obtain ⟨⟨d, n⟩, i⟩ := e
  simp only [entC, strV]
  show Calls Tryz.prog 63 #[_] W _
  go_enter Tryz.func63, Tryz.ntmps63
  go_wp2_with fail
  go_ret
  exact ⟨rfl, by exact belC (Below.refl _ _)⟩
theorem dirAll_any (w : World) (b : Nat) (S : Nat → Prop) (s : DirS) (h : DirAt w b S s) (hl : s.m.length ≤ 100000) :
    Calls Tryz.prog 31 #[.pointer (some ⟨b, 0, none⟩)] w (SomePost w s.m (fun _ => true)) := by
  have hs := dirSome_any w b S s h 63 #[] (fun _ => true) hl (enters_of Tryz.func63 (by kernel_rfl) rfl) (such_all w)
  go_enter Tryz.func31, Tryz.ntmps31
  go_wp2_with fail
  refine hs.mono ?_
  clear hs
  rintro e w1 ⟨a, c, l, rfl, h1, h2, h3, h4⟩
  go_wp2_with fail
  go_ret
  exact ⟨a, c, l, rfl, h1, h2, h3, h4⟩
end Go.Proofs.YtpfcomepecgcmaaGreatDoor
