import Derived.Test.YtajbooppoohplaaGreatDoorMac
import Derived.Test.YtajbooppoohplaaGreatDoorChecked
import Derived.Test.YtajbooppoohplaaGreatDoorPkByt
import Derived.Test.YtajbooppoohplaaGreatDoorPkBase
import Derived.Lib.Hide
import Derived.WalkMore
import Derived.Laws.Externs
import Derived.Deep.LoopGhost
import Derived.Deep.DeepCutAuto
import Derived.Test.YtajbooppoohplaaGreatDoorShelf2
import Derived.Lib.Join
/- package path: names, Good, Split -/
set_option maxRecDepth 100000
set_option maxHeartbeats 2000000
namespace Esch
open Go Go.RowKit
def From (B : Nat) : Nat → Prop := fun k => B ≤ k
def CapN (n c : Nat) : Prop := n ≤ c ∧ c ≤ 9223372036854775807
/-- a list of texts, in blocks of S -/
def NmsAt (S : Nat → Prop) (w : World) (a : Option Addr) (l : List Nm) : Prop :=
  0 < l.length → ∃ b off, a = some ⟨b, off, none⟩ ∧ S b ∧ b < w.heap.size ∧ ∀ i, i < l.length → w.cell? ⟨b, off + i, none⟩ = some (.string (bs (l.getD i [])))
theorem NmsAt.nil (S : Nat → Prop) (w : World) (a : Option Addr) : NmsAt S w a [] := fun h => absurd h (by simp)
theorem NmsAt.mod {S F : Nat → Prop} {w w' : World} {a : Option Addr} {l : List Nm} (h : NmsAt S w a l) (hM : Mod F w w') (hS : ∀ k, S k → k < w.heap.size → ¬ F k) : NmsAt S w' a l := fun h0 => by
  obtain ⟨b, off, e, hb, hl, hc⟩ := h h0
  exact ⟨b, off, e, hb, Nat.lt_of_lt_of_le hl hM.size, fun i hi => (hM.cell (p := ⟨b, off + i, none⟩) hl (hS b hb hl)).trans (hc i hi)⟩
theorem NmsAt.below {S : Nat → Prop} {w w' : World} {a : Option Addr} {l : List Nm} (h : NmsAt S w a l) (hB : Below w.heap.size w w') : NmsAt S w' a l :=
  h.mod (F := none') (Mod.of_below hB) fun _ _ _ => id
theorem NmsAt.sub {S T : Nat → Prop} {w : World} {a : Option Addr} {l : List Nm} (h : NmsAt S w a l) (hS : ∀ k, k < w.heap.size → S k → T k) : NmsAt T w a l := fun h0 => by
  obtain ⟨b, off, e, hb, hl, hc⟩ := h h0
  exact ⟨b, off, e, hS b hl hb, hl, hc⟩
theorem NmsAt.take {S : Nat → Prop} {w : World} {a : Option Addr} {l : List Nm} (h : NmsAt S w a l) (k : Nat) : NmsAt S w a (l.take k) := fun h0 => by
  rw [List.length_take] at h0
  obtain ⟨b, off, e, hb, hl, hc⟩ := h (by omega)
  refine ⟨b, off, e, hb, hl, fun i hi => ?_⟩
  rw [List.length_take] at hi
  rw [hc i (by omega)]
  simp [List.getD_eq_getElem?_getD, show i < k by omega]
def strV (a : Nm) : Value := .string (bs a)
theorem src_str {P : Program} {W : World} (tx e' : TypeId) (hk : P.underlying tx = some (.slice e')) (b : Nat) (a : Nm) (t : TypeId) (hb : W.heap[b]? = some (.cells #[strV a] t)) (c : Nat) : Src P 1 tx (.slice (some ⟨b, 0, none⟩) 1 c) 1 [strV a] W := by
 refine Src.ofSlice W hk _ 1 c [strV a] rfl (fun j u hu => ?_) (fun u hu => ?_)
 · rw [addr_add, Nat.zero_add]
   have hj := (List.getElem?_eq_some_iff.1 hu).1
   obtain rfl : j = 0 := by simpa using hj
   simp [World.cell?, hb] at hu ⊢
   exact hu
 · rw [List.mem_singleton.1 hu]; rfl
theorem heap_alloc_new (w : World) (o : Obj) : (w.alloc o).heap[w.heap.size]? = some o := alloc_new w o
theorem toList_bs (a : Nm) : (bs a).toList = a := by
 rw [ByteArray.toList_eq]; rfl
theorem strEq (a b : Nm) : ((bs a).toList == b) = decide (a = b) := by
 rw [toList_bs]; by_cases h : a = b <;> simp [h]
theorem grow_nms {S : Nat → Prop} {w : World} {a : Option Addr} {c : Nat} {l : List Nm} (h : GRowAt w S 1 l.length c a (l.map strV)) : NmsAt S w a l ∧ CapN l.length c := by
 refine ⟨fun h0 => ?_, h.le, h.max⟩
 have := h.le
 obtain ⟨b, off, e, hb, hl, h1, -⟩ := h.at' (by omega)
 refine ⟨b, off, e, hb, hl, fun i hi => ?_⟩
 rw [h1 i (by omega), List.getElem?_map, List.getD_eq_getElem?_getD, List.getElem?_eq_getElem hi]; rfl
end Esch
namespace Go.Proofs.YtajbooppoohplaaGreatDoor
open Go.RowKit Esch

theorem Tryz.infoStr : (Tryz.prog.info? 9).map (fun i => (i.zero, i.size, i.bytes)) = some (some (.string ⟨#[]⟩), 1, 16) := by kernel_rfl
def NameRel (s : Nm) (w : World) (g : Nat) (v : Value) (wr : World) : Prop := ∃ i : Nat, g = s.length - i ∧ i ≤ s.length ∧ v = .int .i64 i ∧ (s.take i).all okc = true ∧ wr = w
theorem okc_take {s : Nm} {i : Nat} (hi : i < s.length) : (s.take (i + 1)).all okc = ((s.take i).all okc && okc s[i]) := by
 rw [List.take_succ_eq_append_getElem hi, List.all_append]; simp
theorem okc_no {s : Nm} {i : Nat} (hi : i < s.length) (h : okc s[i] = false) : nameL s = false := by
 have : s.all okc = false := by
  rw [List.all_eq_false]
  exact ⟨s[i], List.getElem_mem hi, by simp [h]⟩
 simp [nameL, this]
theorem okc_nat (c : UInt8) : okc c = decide ((97 ≤ c.toNat ∧ c.toNat ≤ 122) ∨ (48 ≤ c.toNat ∧ c.toNat ≤ 57) ∨ c.toNat = 95) := by
 have : ∀ n : Nat, n < 256 → okc (UInt8.ofNat n) = decide ((97 ≤ n ∧ n ≤ 122) ∨ (48 ≤ n ∧ n ≤ 57) ∨ n = 95) := by decide +kernel
 have h := this c.toNat c.toNat_lt
 rwa [UInt8.ofNat_toNat] at h
theorem name_any (w : World) (s : Nm) :
    Calls Tryz.prog 152 #[.string (bs s)] w fun e w' => e = .returned (.bool (nameL s)) ∧ w' = w := by
 by_cases h0 : s.length < 1
 · have : nameL s = false := by simp [nameL]; omega
   rw [this]
   have h0' : (s.length : Int) < 1 := by omega
   clear h0 this
   exact mK11
 by_cases h8 : 8 < s.length
 · have : nameL s = false := by simp [nameL]; omega
   rw [this]
   have h0' : ¬ (s.length : Int) < 1 := by omega
   have h8' : (8 : Int) < s.length := by omega
   clear h0 this h8
   exact mK11
 have h0' : ¬ (s.length : Int) < 1 := by omega
 have h8' : ¬ (8 : Int) < s.length := by omega
 obtain ⟨r, hr⟩ : ∃ r, r = nameL s := ⟨_, rfl⟩
 rw [← hr]
 have HR := Lib.hid hr
 have H0 := Lib.hid h0
 have H8 := Lib.hid h8
 clear hr h0 h8
 go_enter Tryz.func152, Tryz.ntmps152
 go_wp2_with fail
 go_loopg [15] s.length (fun g s15 wr => NameRel s w g s15 wr)
 case atStart => exact ⟨0, rfl, Nat.zero_le _, rfl, rfl, rfl⟩
 case round =>
  obtain ⟨i, rfl, hi, rfl, hall, rfl⟩ := hrel
  have Hall := Lib.hid hall
  clear hall
  by_cases hlt : i < s.length
  · have hidx : ∀ W, (Instr.index 9 (.string (bs s)) (.int .i64 (i : Int))).run Tryz.prog W = .ok (.int .u8 (s[i].toNat : Int)) W := fun W => by
     exact mK10
    have hi1 : (i : Int) < s.length := by omega
    have hy : okc s[i] = true → (s.take (i + 1)).all okc = true := fun h => by rw [okc_take hlt, Hall.out, h]; rfl
    have hno : okc s[i] = false → r = false := fun h => HR.out.trans (okc_no hlt h)
    have hk := okc_nat s[i]
    have hlt2 := s[i].toNat_lt
    generalize s[i] = c at hidx hy hno hk hlt2
    rw [hk] at hy hno
    simp only [decide_eq_true_eq, decide_eq_false_iff_not] at hy hno
    generalize c.toNat = x at hidx hy hno hlt2
    clear hk
    by_cases k1 : x < 48
    · have HNO := Lib.hid (hno (by omega))
      have j1 : (x : Int) < 97 := by omega
      have j2 : (x : Int) < 48 := by omega
      have j3 : ((x : Int) != 95) = true := by simp; omega
      clear hy hno hlt2 k1 hlt hi
      exact mK8
    by_cases k2 : x ≤ 57
    · have HYES := Lib.hid (hy (by omega))
      have j1 : (x : Int) < 97 := by omega
      have j2 : ¬ (x : Int) < 48 := by omega
      have j3 : ¬ (57 : Int) < x := by omega
      clear hy hno hlt2 k1 k2
      exact mK9
    by_cases k3 : x = 95
    · have HYES := Lib.hid (hy (by omega))
      have j1 : (x : Int) < 97 := by omega
      have j2 : ¬ (x : Int) < 48 := by omega
      have j3 : (57 : Int) < x := by omega
      have j4 : ((x : Int) != 95) = false := by simp; omega
      clear hy hno hlt2 k1 k2 k3
      exact mK9
    by_cases k4 : x < 97
    · have HNO := Lib.hid (hno (by omega))
      have j1 : (x : Int) < 97 := by omega
      have j2 : ¬ (x : Int) < 48 := by omega
      have j3 : (57 : Int) < x := by omega
      have j4 : ((x : Int) != 95) = true := by simp; omega
      clear hy hno hlt2 k1 k2 k3 k4 hlt hi
      exact mK8
    by_cases k5 : x ≤ 122
    · have HYES := Lib.hid (hy (by omega))
      have j1 : ¬ (x : Int) < 97 := by omega
      have j2 : ¬ (122 : Int) < x := by omega
      clear hy hno hlt2 k1 k2 k3 k4 k5
      exact mK9
    · have HNO := Lib.hid (hno (by omega))
      have j1 : ¬ (x : Int) < 97 := by omega
      have j2 : (122 : Int) < x := by omega
      have j3 : ¬ (x : Int) < 48 := by omega
      have j4 : (57 : Int) < x := by omega
      have j5 : ((x : Int) != 95) = true := by simp; omega
      clear hy hno hlt2 k1 k2 k3 k4 k5 hlt hi
      exact mK8
  · exact mK7
theorem indexByte_any (w : World) (s : Nm) : Calls Tryz.prog 210 #[.string (bs s), .int .u8 47] w fun e w' => e = .returned (.int .i64 (firstIdx (bs s) 47)) ∧ w' = w := by
 have hx : ∀ W, (callFunc 258 #[.string (bs s), .int .u8 47]).run Tryz.prog W = .ok (.value (.int .i64 (firstIdx (bs s) 47))) W := fun W => by
  rw [run_callFunc_extern Tryz.func258 (by decide +kernel) rfl (by kernel_rfl) (by kernel_rfl), run_indexByte_string]
  rfl
 generalize firstIdx (bs s) 47 = r at hx
 go_enter Tryz.func210, Tryz.ntmps210
 exact mK12
def NamesPost (w : World) (r : Option (List Nm)) (e : Ending) (w' : World) : Prop :=
  Below w.heap.size w w' ∧ match r with
    | none => e = .returned (.tuple #[.slice none 0 0, .bool false])
    | some l => ∃ a c, e = .returned (.tuple #[.slice a l.length c, .bool true]) ∧ NmsAt (From w.heap.size) w' a l ∧ CapN l.length c
def NamesRel (p : Nm) (w : World) (g : Nat) (v0 v4 : Value) (wr : World) : Prop :=
  ∃ (t : Nm) (l : List Nm) (ao : Option Addr) (c : Nat), g = t.length ∧ t.length ≤ p.length ∧ v0 = .string (bs t) ∧ v4 = .slice ao l.length c ∧ GRowAt wr (From w.heap.size) 1 l.length c ao (l.map strV) ∧ namesOf p = namesFrom l t ∧ l.length ≤ 8 ∧ Below w.heap.size w wr
theorem run_sliceTo (W : World) (s : Nm) (n : Nat) (h : n ≤ s.length) : (Instr.slice 9 (.string (bs s)) none (some (.int .i64 (n : Int))) none).run Tryz.prog W = .ok (.string (bs (s.take n))) W := by
 rw [run_slice_string_to_if _ _ _ _ _ Tryz.underlying9, if_pos ⟨by omega, by show (n : Int) ≤ s.length; omega⟩, bs_extract]
 simp
theorem run_sliceFrom (W : World) (s : Nm) (n : Nat) (h : n ≤ s.length) : (Instr.slice 9 (.string (bs s)) (some (.int .i64 (n : Int))) none none).run Tryz.prog W = .ok (.string (bs (s.drop n))) W := by
 rw [run_slice_string_from_if _ _ _ _ _ Tryz.underlying9, if_pos ⟨by omega, by show (n : Int) ≤ s.length; omega⟩, bs_extract]
 congr 4
 rw [bs_size, Int.toNat_natCast, List.take_of_length_le (by simp)]
theorem names_any (w : World) (p : Nm) : Calls Tryz.prog 160 #[.string (bs p)] w (NamesPost w (namesOf p)) := by
 by_cases h1 : p = [47]
 · subst h1
   have he : ((bs [47]).toList == [47]) = true := by rw [strEq]; rfl
   have hn : namesOf [47] = some [] := rfl
   rw [hn]
   clear hn
   go_enter Tryz.func160, Tryz.ntmps160
   go_wp2_with fail
   go_step3
   exact mK13
 have he : ((bs p).toList == [47]) = false := by rw [strEq]; simpa using h1
 obtain ⟨i0, hi, hz0, hz1, hz2⟩ := info_parts Tryz.infoStr
 obtain ⟨r, hr⟩ : ∃ r, r = namesOf p := ⟨_, rfl⟩
 rw [← hr]
 have hr0 : namesOf p = namesFrom [] p := by
  unfold namesOf namesFrom
  rw [if_neg h1]
  simp
 have HR0 := Lib.hid hr0
 have HR := Lib.hid hr
 clear hr0 hr h1
 go_enter Tryz.func160, Tryz.ntmps160
 go_wp2_with fail
 go_step3
 go_wp2_with fail
 go_step3
 go_wp2_with fail
 go_loopg [0, 4] p.length (fun g s0 s4 wr => NamesRel p w g s0 s4 wr)
 case atStart => exact ⟨p, [], none, 0, rfl, Nat.le_refl _, rfl, rfl, GRowAt.nil _ _ _ _, HR0.out, by simp, Below.refl _ _⟩
 case round =>
  clear he
  obtain ⟨t, l, ao, c, rfl, ht, rfl, rfl, hG, hN, hl, hB⟩ := hrel
  have HG := Lib.hid hG
  have HB := Lib.hid hB
  clear hG hB
  cases t with
  | nil =>
    have he : ((bs []).toList == []) = true := by rw [strEq]; rfl
    have HN := Lib.hid (show r = none by rw [HR.out, hN, namesFrom_nil])
    clear hN hl ht
    go_wp2_with fail
    go_ret2
    rw [HN.out]
    exact ⟨HB.out, rfl⟩
  | cons x t =>
    have he : ((bs (x :: t)).toList == []) = false := by rw [strEq]; rfl
    have hidx : ∀ W, (Instr.index 9 (.string (bs (x :: t))) (.int .i64 0)).run Tryz.prog W = .ok (.int .u8 (x.toNat : Int)) W := fun W => by
      rw [run_index_string _ _ _ _ _ Tryz.underlying9, dif_pos ⟨by omega, by show (0 : Int) < ((x :: t).length : Nat); simp⟩]
      rfl
    rw [namesFrom_cons] at hN
    by_cases hx : x = 47
    rotate_left 1
    · have hx2 : ((x.toNat : Int) != 47) = true := by
        simp only [bne_iff_ne, ne_eq]
        intro e
        exact hx (UInt8.toNat_inj.1 (by show x.toNat = 47; omega))
      have HN := Lib.hid (show r = none by rw [HR.out, hN, if_pos (Or.inl hx)])
      clear hN hl ht hx
      go_wp2_with fail
      go_ret2
      rw [HN.out]
      exact ⟨HB.out, rfl⟩
    have hx2 : ((x.toNat : Int) != 47) = false := by rw [hx]; rfl
    by_cases h8 : 8 ≤ l.length
    · have h8' : ((l.length : Int) == 8) = true := by simp; omega
      have HN := Lib.hid (show r = none by rw [HR.out, hN, if_pos (Or.inr h8)])
      clear hN hl ht hx h8
      go_wp2_with fail
      go_ret2
      rw [HN.out]
      exact ⟨HB.out, rfl⟩
    have h8' : ((l.length : Int) == 8) = false := by simp; omega
    have hsl1 : ∀ W, (Instr.slice 9 (.string (bs (x :: t))) (some (.int .i64 1)) none none).run Tryz.prog W = .ok (.string (bs t)) W := fun W => run_sliceFrom W (x :: t) 1 (by simp)
    rw [if_neg (fun h => h.elim (fun h => h hx) h8)] at hN
    have hix := fun W => indexByte_any W t
    have hfi := firstIdx_bs t
    have htd := List.takeWhile_append_dropWhile (p := (· != 47)) (l := t)
    generalize t.takeWhile (· != 47) = a at hN hfi htd
    generalize t.dropWhile (· != 47) = b at hN hfi htd
    have hst : ∀ W, (Instr.slice 9 (.string (bs t)) none (some (.int .i64 (a.length : Int))) none).run Tryz.prog W = .ok (.string (bs a)) W := fun W => by
      rw [run_sliceTo W t a.length (by rw [← htd]; simp), ← htd]; simp
    have hsf : ∀ W, (Instr.slice 9 (.string (bs t)) (some (.int .i64 (a.length : Int))) none none).run Tryz.prog W = .ok (.string (bs b)) W := fun W => by
      rw [run_sliceFrom W t a.length (by rw [← htd]; simp), ← htd]; simp
    have hlen : t.length = a.length + b.length := by rw [← htd]; simp
    have HN := Lib.hid hN
    have Hl := Lib.hid (show l.length < 8 by omega)
    have Hlen := Lib.hid hlen
    have Ht := Lib.hid ht
    obtain ⟨nb, hnb⟩ : ∃ nb, nb = nameL a := ⟨_, rfl⟩
    have hnm := name_any wr a
    rw [← hnb] at hnm
    have HNB := Lib.hid hnb
    cases b with
    | nil =>
      rw [if_pos rfl] at hfi
      rw [hfi] at hix
      have hta : t = a := by rw [← htd, List.append_nil]
      subst hta
      clear hN hl ht hx h8 htd hlen hfi hnb
      have he2 : ((bs []).toList == []) = true := by rw [strEq]; rfl
      go_wp2_with fail
      refine (hix _).mono ?_
      clear hix
      rintro e w1 ⟨rfl, rfl⟩
      go_wp2_with fail
      refine hnm.mono ?_
      clear hnm
      rintro e w1 ⟨rfl, rfl⟩
      cases nb
      · have HN := Lib.hid (show r = none by rw [HR.out, HN.out, if_neg (by rw [← HNB.out]; simp)])
        go_wp2_with fail
        go_ret2
        rw [HN.out]
        exact ⟨HB.out, rfl⟩
      · have hN1 := HN.out
        rw [if_pos HNB.out.symm] at hN1
        have HN := Lib.hid hN1
        clear hN1
        go_wp2_with (at_builtin; refine wpList_append_g (by rfl) (.tmp 31) (.tmp 35) 66 66 (by rfl) 9 i0 _ 16 Tryz.underlying66 hi hz0 hz1 hz2 (by rfl) (by rfl) (HG.out.mod (F := none') (by exact modC (Mod.refl _ _)) (fun _ _ _ => id)) _ 1 [strV t] (by rfl) (src_str _ _ Tryz.underlying66 w1.heap.size t 9 (heap_alloc_new _ _) _) (by have := Hl.out; omega) (by have := Hl.out; omega) ?_; intro a6 cap6 w6 hg6 hM6 hz6)
        have hB6 : Below w.heap.size w w6 := HB.out.trans (((Below.refl _ w1).alloc (Nat.le_refl _) _).mono HB.out.size |>.trans (hM6.below_at (by have := HB.out.size; simp only [World.size_alloc]; omega) (fun k hk e => by have e : w.heap.size ≤ k := e; omega)))
        have hg7 : GRowAt w6 (From w.heap.size) 1 (l ++ [t]).length cap6 a6 ((l ++ [t]).map strV) := by
          rw [List.map_append, List.length_append]
          exact hg6.sub (fun k _ hk => by
            rcases hk with hk | hk
            · exact hk
            · show w.heap.size ≤ k; rw [hk]; simp only [World.size_alloc]; have := HB.out.size; omega)
        rw [show l.length + 1 = (l ++ [t]).length by simp]
        have HG6 := Lib.hid hg7
        have HB6 := Lib.hid hB6
        clear hg6 hM6 hz6 hg7 hB6 HG HB
        go_wp2_with fail
        go_ret2
        rw [HR.out, HN.out, if_pos trivial]
        obtain ⟨h1, h2⟩ := grow_nms HG6.out
        exact ⟨HB6.out, _, _, rfl, h1, h2⟩
    | cons y b =>
      rw [if_neg (by simp)] at hfi
      rw [hfi] at hix
      have hge : ¬ (a.length : Int) < 0 := by omega
      have he2 : ((bs (y :: b)).toList == []) = false := by rw [strEq]; rfl
      clear hN hl ht hx h8 htd hlen hfi hnb
      go_wp2_with fail
      refine (hix _).mono ?_
      clear hix
      rintro e w1 ⟨rfl, rfl⟩
      go_wp2_with fail
      refine hnm.mono ?_
      clear hnm
      rintro e w1 ⟨rfl, rfl⟩
      cases nb
      · have HN := Lib.hid (show r = none by rw [HR.out, HN.out, if_neg (by rw [← HNB.out]; simp)])
        go_wp2_with fail
        go_ret2
        rw [HN.out]
        exact ⟨HB.out, rfl⟩
      · have hN1 := HN.out
        rw [if_pos HNB.out.symm] at hN1
        have HN := Lib.hid hN1
        clear hN1
        go_wp2_with (at_builtin; refine wpList_append_g (by rfl) (.tmp 31) (.tmp 35) 66 66 (by rfl) 9 i0 _ 16 Tryz.underlying66 hi hz0 hz1 hz2 (by rfl) (by rfl) (HG.out.mod (F := none') (by exact modC (Mod.refl _ _)) (fun _ _ _ => id)) _ 1 [strV a] (by rfl) (src_str _ _ Tryz.underlying66 w1.heap.size a 9 (heap_alloc_new _ _) _) (by have := Hl.out; omega) (by have := Hl.out; omega) ?_; intro a6 cap6 w6 hg6 hM6 hz6)
        have hB6 : Below w.heap.size w w6 := HB.out.trans (((Below.refl _ w1).alloc (Nat.le_refl _) _).mono HB.out.size |>.trans (hM6.below_at (by have := HB.out.size; simp only [World.size_alloc]; omega) (fun k hk e => by have e : w.heap.size ≤ k := e; omega)))
        have hg7 : GRowAt w6 (From w.heap.size) 1 (l ++ [a]).length cap6 a6 ((l ++ [a]).map strV) := by
          rw [List.map_append, List.length_append]
          exact hg6.sub (fun k _ hk => by
            rcases hk with hk | hk
            · exact hk
            · show w.heap.size ≤ k; rw [hk]; simp only [World.size_alloc]; have := HB.out.size; omega)
        rw [show l.length + 1 = (l ++ [a]).length by simp]
        have HG6 := Lib.hid hg7
        have HB6 := Lib.hid hB6
        clear hg6 hM6 hz6 hg7 hB6 HG HB
        go_wp2_with fail
        go_roundg (y :: b).length
        case measure => have := Hlen.out; simp only [List.length_cons] at this ⊢; omega
        case rel =>
          refine ⟨y :: b, l ++ [a], a6, cap6, rfl, ?_, rfl, rfl, HG6.out, ?_, ?_, HB6.out⟩
          · have := Hlen.out; have := Ht.out; simp only [List.length_cons] at *; omega
          · rw [HN.out, if_neg (by simp)]
          · have := Hl.out; simp; omega
end Go.Proofs.YtajbooppoohplaaGreatDoor
/- package path: Good, Split, Join, Up, Inside -/
namespace Esch
open Go
theorem join_path : ∀ l : List Nm, l ≠ [] → 47 :: Lib.join l [47] = pathT l
  | [], h => absurd rfl h
  | a :: l, _ => by
    rw [Lib.join_cons]
    simp [Lib.joinTail, pathT, List.flatMap_def]
theorem map_bs (l : List Nm) : (l.map bs).map (·.data.toList) = l := by
 rw [List.map_map, show ((fun x : ByteArray => x.data.toList) ∘ bs) = id from rfl, List.map_id]
theorem join_len (l : List Nm) (h : l.length ≤ 8) (hn : ∀ a ∈ l, nameL a = true) : (Lib.join l [47]).length ≤ 100 := by
 have : ∀ l : List Nm, (∀ a ∈ l, nameL a = true) → (pathT l).length ≤ 9 * l.length := by
  intro l
  induction l with
  | nil => intro _; simp [pathT]
  | cons a l ih =>
    intro hn
    have h1 := (nameL_len (hn a (by simp))).2.1
    have h2 := ih fun x hx => hn x (by simp [hx])
    simp only [pathT, List.flatMap_cons, List.length_append, List.length_cons] at *
    omega
 by_cases e : l = []
 · subst e; simp [Lib.join]
 · have h1 := this l hn
   rw [← join_path l e] at h1
   simp only [List.length_cons] at h1
   omega
/-- a path's directory and its last name -/
def upOf (r : Option (List Nm)) : Option (List Nm × Nm) := match r with
  | none => none
  | some l => if l = [] then none else some (l.dropLast, l.getLastD [])
def insideOf (p q : Option (List Nm)) : Bool := match p, q with
  | some a, some b => decide (b.length ≤ a.length) && decide (a.take b.length = b)
  | _, _ => false
end Esch
namespace Go.Proofs.YtajbooppoohplaaGreatDoor
open Go.RowKit Esch Go.Shelf

def BoolBelow (w : World) (x : Bool) (e : Ending) (w' : World) : Prop := e = .returned (.bool x) ∧ Below w.heap.size w w'
theorem good_any (w : World) (p : Nm) : Calls Tryz.prog 162 #[.string (bs p)] w (BoolBelow w (namesOf p).isSome) := by
 have hn := names_any w p
 cases hr : namesOf p with
 | none =>
   rw [hr] at hn
   clear hr
   go_enter Tryz.func162, Tryz.ntmps162
   go_wp2_with fail
   refine hn.mono ?_
   clear hn
   rintro e w1 ⟨hB, rfl⟩
   go_wp2_with fail
   go_ret
   exact ⟨rfl, hB⟩
 | some l =>
   rw [hr] at hn
   clear hr
   go_enter Tryz.func162, Tryz.ntmps162
   go_wp2_with fail
   refine hn.mono ?_
   clear hn
   rintro e w1 ⟨hB, a, c, rfl, -⟩
   go_wp2_with fail
   go_ret
   exact ⟨rfl, hB⟩
def SplitPost (w : World) (r : Option (List Nm)) (e : Ending) (w' : World) : Prop :=
  Below w.heap.size w w' ∧ match r with
    | none => e = .returned (.tuple #[.slice none 0 0, .int .i64 11])
    | some l => ∃ a c, e = .returned (.tuple #[.slice a l.length c, .int .i64 0]) ∧ NmsAt (From w.heap.size) w' a l ∧ CapN l.length c
theorem split_any (w : World) (p : Nm) : Calls Tryz.prog 114 #[.string (bs p)] w (SplitPost w (namesOf p)) := by
 have hn := names_any w p
 cases hr : namesOf p with
 | none =>
   rw [hr] at hn
   clear hr
   go_enter Tryz.func114, Tryz.ntmps114
   go_wp2_with fail
   refine hn.mono ?_
   clear hn
   rintro e w1 ⟨hB, rfl⟩
   go_wp2_with fail
   go_ret2
   exact ⟨hB, rfl⟩
 | some l =>
   rw [hr] at hn
   clear hr
   go_enter Tryz.func114, Tryz.ntmps114
   go_wp2_with fail
   refine hn.mono ?_
   clear hn
   rintro e w1 ⟨hB, a, c, rfl, h1, h2⟩
   go_wp2_with fail
   go_ret2
   exact ⟨hB, a, c, rfl, h1, h2⟩
theorem pred_name (w : World) : PredAt Tryz.prog 260 #[] strV (fun s => !nameL s) w := fun W s _ => by
  have hnm := fun W' => name_any W' s
  show Calls Tryz.prog 260 #[.string (bs s)] W (fun e w' => e = .returned (.bool (!nameL s)) ∧ ∃ q, w' = W.drewN q)
  generalize nameL s = b at hnm ⊢
  go_enter Tryz.func260, Tryz.ntmps260
  go_wp2_with fail
  refine (hnm _).mono ?_
  clear hnm
  rintro e w1 ⟨rfl, rfl⟩
  go_wp2_with fail
  go_ret
  refine ⟨?_, 0, rfl⟩
  rfl
theorem any_good {l : List Nm} (hn : ∀ a ∈ l, nameL a = true) : (l.any fun s => !nameL s) = false := by
 rw [List.any_eq_false]
 intro a ha
 simp [hn a ha]
theorem join_any (S : Nat → Prop) (w : World) (a : Option Addr) (c : Nat) (l : List Nm) (h : NmsAt S w a l) (hc : CapN l.length c) (h8 : l.length ≤ 8) (hn : ∀ a ∈ l, nameL a = true) :
    Calls Tryz.prog 249 #[.slice a l.length c] w fun e w' => e = .returned (.tuple #[.string (bs (pathL l)), .int .i64 0]) ∧ Below w.heap.size w w' := by
 have h8' : ¬ (8 : Int) < l.length := by omega
 have eg : ∀ args w, (callFunc 260 args).run Tryz.prog w = .ok (.enter 260 args) w := enters_of Tryz.func260 (by kernel_rfl) rfl
 cases l with
 | nil =>
   have hcf : ∀ W, Calls Tryz.prog 259 #[.slice a 0 c, .func (.func 260) #[] #[]] W _ := fun W => AnyE.slices_ContainsFunc_empty Tryz.laysCF a c _ W
   have hjn : ∀ W, Calls Tryz.prog 261 #[.slice a 0 c, .string ⟨#[47]⟩] W _ := fun W => Any.strings_Join_none Tryz.lays156 Tryz.Builder_Extra_156 a c ⟨#[47]⟩ W
   have hadd : ∀ W, (Op.stringOp .add (⟨#[47]⟩ : ByteArray) ⟨#[]⟩).run Tryz.prog W = .ok (.string (bs [47])) W := fun W => run_string_add_sum _ _ _ (by decide)
   clear h hc h8 hn eg
   rw [show pathL [] = [47] from rfl]
   go_enter Tryz.func249, Tryz.ntmps249
   go_wp2_with fail
   refine (hcf _).mono ?_
   clear hcf
   rintro e w1 ⟨rfl, rfl⟩
   go_wp2_with fail
   refine (hjn _).mono ?_
   clear hjn
   rintro e w1 ⟨rfl, rfl⟩
   go_wp2_with fail
   go_ret2
   exact ⟨rfl, Below.refl _ _⟩
 | cons x l =>
   obtain ⟨b, off, rfl, -, hb, hcell⟩ := h (by simp)
   have hcf : Calls Tryz.prog 259 #[.slice (some ⟨b, off, none⟩) (x :: l).length c, .func (.func 260) #[] #[]] w _ :=
     AnyE.slices_ContainsFunc Tryz.laysCF strV (fun s => !nameL s) 260 #[] eg b off (x :: l).length c (x :: l) w (pred_name w) (Nat.le_refl _) (by omega) (fun j hj => by
       rw [hcell j hj, getElem!_pos (x :: l) j hj, List.getD_eq_getElem?_getD, List.getElem?_eq_getElem hj]; rfl)
   rw [List.take_length, any_good hn] at hcf
   have hjn : ∀ q, Calls Tryz.prog 261 #[.slice (some ⟨b, off, none⟩) ((x :: l).map bs).length c, .string ⟨#[47]⟩] (w.drewN q) _ := fun q =>
     Any.strings_Join Tryz.lays156 Tryz.Builder_Extra_156 b off c ((x :: l).map bs) ⟨#[47]⟩ (w.drewN q) (fun j y hy => by
       rw [List.getElem?_map] at hy
       obtain ⟨z, hz, rfl⟩ := Option.map_eq_some_iff.1 hy
       have hj := (List.getElem?_eq_some_iff.1 hz).1
       have := hcell j hj
       rw [List.getD_eq_getElem?_getD, hz] at this
       exact this) hb (by rw [List.length_map]; omega) (by rw [List.length_map]; exact hc.1) (by
       have := join_len (x :: l) h8 hn
       rw [map_bs]
       show (Lib.join (x :: l) [47]).length ≤ _
       omega)
   simp only [map_bs, List.length_map] at hjn
   have hj : ∀ W, (Op.stringOp .add (⟨#[47]⟩ : ByteArray) ⟨(Lib.join (x :: l) [47]).toArray⟩).run Tryz.prog W = .ok (.string (bs (pathL (x :: l)))) W := fun W => by
     rw [show bs (pathL (x :: l)) = ⟨#[47]⟩ ++ ⟨(Lib.join (x :: l) [47]).toArray⟩ by
       rw [pathL, if_neg (by simp), ← join_path (x :: l) (by simp)]
       exact (bs_append [47] (Lib.join (x :: l) [47])).symm]
     refine run_string_add_sum _ _ _ ?_
     have := join_len (x :: l) h8 hn
     show 1 + (Lib.join (x :: l) [47]).length ≤ 9223372036854775807
     omega
   generalize bs (pathL (x :: l)) = r at hj ⊢
   have hj1 : ∀ q, Calls Tryz.prog 261 #[.slice (some ⟨b, off, none⟩) (x :: l).length c, .string ⟨#[47]⟩] (w.drewN q) (fun e w' => e = .returned (.string ⟨(Lib.join (x :: l) [47]).toArray⟩) ∧ Below (w.drewN q).heap.size (w.drewN q) w') := fun q => (hjn q).mono fun e w' h => h
   generalize (⟨(Lib.join (x :: l) [47]).toArray⟩ : ByteArray) = u at hj hj1
   generalize (x :: l).length = n at *
   clear hjn hcell h8 hn hc h eg
   go_enter Tryz.func249, Tryz.ntmps249
   go_wp2_with fail
   refine hcf.mono ?_
   clear hcf
   rintro e w1 ⟨rfl, q, rfl⟩
   go_wp2_with fail
   refine (hj1 q).mono ?_
   clear hj1
   rintro e w1 ⟨rfl, hB⟩
   go_wp2_with fail
   go_ret2
   exact ⟨rfl, (below_drewN (Below.refl _ w) q).trans hB⟩
def UpPost (w : World) (r : Option (List Nm × Nm)) (e : Ending) (w' : World) : Prop :=
  Below w.heap.size w w' ∧ e = .returned (match r with
    | none => .tuple #[.string ⟨#[]⟩, .string ⟨#[]⟩, .bool false]
    | some (l, n) => .tuple #[.string (bs (pathL l)), .string (bs n), .bool true])
theorem up_any (w : World) (p : Nm) : Calls Tryz.prog 214 #[.string (bs p)] w (UpPost w (upOf (namesOf p))) := by
 have hn := names_any w p
 cases hr : namesOf p with
 | none =>
   rw [hr] at hn
   clear hr
   go_enter Tryz.func214, Tryz.ntmps214
   go_wp2_with fail
   refine hn.mono ?_
   clear hn
   rintro e w1 ⟨hB, rfl⟩
   go_wp2_with fail
   refine bodyPost_ret (by simp [results, Tryz.results214, go_sem]; rfl) rfl ?_
   exact ⟨hB, rfl⟩
 | some l =>
   have hs := namesOf_some hr
   rw [hr] at hn
   clear hr
   by_cases h0 : l = []
   · subst h0
     clear hs
     go_enter Tryz.func214, Tryz.ntmps214
     go_wp2_with fail
     refine hn.mono ?_
     clear hn
     rintro e w1 ⟨hB, a, c, rfl, -⟩
     go_wp2_with fail
     refine bodyPost_ret (by simp [results, Tryz.results214, go_sem]; rfl) rfl ?_
     exact ⟨hB, rfl⟩
   · have hup : upOf (some l) = some (l.dropLast, l.getLastD []) := by unfold upOf; simp [h0]
     rw [hup]
     show Calls Tryz.prog 214 #[.string (bs p)] w (fun e w' => Below w.heap.size w w' ∧ e = .returned (.tuple #[.string (bs (pathL l.dropLast)), .string (bs (l.getLastD [])), .bool true]))
     obtain ⟨k, hk⟩ : ∃ k, l.length = k + 1 := ⟨l.length - 1, by have := List.length_pos_iff.2 h0; omega⟩
     have hdl : l.dropLast = l.take k := by rw [List.dropLast_eq_take, hk]; rfl
     have hgl : l.getLastD [] = l.getD k [] := by
       rw [List.getLastD_eq_getLast?, List.getLast?_eq_getElem?, hk, List.getD_eq_getElem?_getD]; rfl
     rw [hdl, hgl]
     obtain ⟨nm, hnm⟩ : ∃ nm, nm = l.getD k [] := ⟨_, rfl⟩
     rw [← hnm]
     have HNM := Lib.hid hnm
     clear hnm
     have hn0 : (((k + 1 : Nat) : Int) == 0) = false := by simp; omega
     have Hs := Lib.hid hs
     have Hk := Lib.hid hk
     have hkl : (l.take k).length = k := by rw [List.length_take]; omega
     have Hkl := Lib.hid hkl
     have hj : ∀ S W a c, NmsAt S W a (l.take k) → CapN (l.take k).length c → Calls Tryz.prog 249 #[.slice a k c] W fun e w' => e = .returned (.tuple #[.string (bs (pathL (l.take k))), .int .i64 0]) ∧ Below W.heap.size W w' := fun S W a c h1 h2 => by
       have := join_any S W a c (l.take k) h1 h2 (by omega) (fun x hx => hs.2.1 x (List.mem_of_mem_take hx))
       rwa [hkl] at this
     generalize bs (pathL (l.take k)) = dir at hj ⊢
     clear hs hup h0 hdl hgl hkl
     go_enter Tryz.func214, Tryz.ntmps214
     go_wp2_with fail
     refine hn.mono ?_
     clear hn
     rintro e w1 ⟨hB, a, c, rfl, hN, hC⟩
     obtain ⟨b, off, rfl, -, hb, hcell⟩ := hN (by omega)
     have e0 : w1.cell? ⟨b, off + k, none⟩ = some (.string (bs nm)) := by rw [HNM.out]; exact hcell k (by omega)
     have hj1 := hj _ w1 (some ⟨b, off, none⟩) c (hN.take k) ⟨by rw [Hkl.out]; have := hC.1; omega, hC.2⟩
     have hkc : (0 : Int) ≤ k ∧ (k : Int) ≤ c := by have := hC.1; omega
     have hki : (0 : Int) ≤ k ∧ (k : Int) < k + 1 := by omega
     have hk8 : k < 100 := by have := Hs.out.1; omega
     dsimp only
     rw [hk]
     have HB := Lib.hid hB
     clear hj hk hcell hN hC hB
     go_wp2_with fail
     refine hj1.mono ?_
     clear hj1
     rintro e w2 ⟨rfl, hB2⟩
     have f0 := below_at hB2 e0 hb
     have HB2 := Lib.hid (HB.out.trans (hB2.mono HB.out.size))
     clear hB2 e0
     go_wp2_with fail
     go_quiet (fail)
     go_wp2_with fail
     refine bodyPost_ret (by simp [results, Tryz.results214, go_sem]; rfl) rfl ?_
     exact ⟨below_drewN HB2.out _, rfl⟩
theorem equal_nms (w : World) (S : Nat → Prop) (a b : Option Addr) (c d : Nat) (x y : List Nm) (hx : NmsAt S w a x) (hy : NmsAt S w b y) (hl : x.length = y.length) (h8 : x.length ≤ 100) :
    Calls Tryz.prog 216 #[.slice a x.length c, .slice b y.length d] w fun e w' => e = .returned (.bool (decide (x = y))) ∧ Below w.heap.size w w' := by
 by_cases h0 : x.length = 0
 · obtain rfl : x = [] := List.length_eq_zero_iff.1 h0
   obtain rfl : y = [] := List.length_eq_zero_iff.1 (by rw [← hl]; rfl)
   refine (Any.slices_Equal_string_empty Tryz.lays193 a b c 0 d w (by omega)).mono ?_
   rintro e w' ⟨rfl, rfl⟩
   exact ⟨rfl, Below.refl _ _⟩
 · obtain ⟨b1, o1, rfl, -, hb1, hc1⟩ := hx (by omega)
   obtain ⟨b2, o2, rfl, -, hb2, hc2⟩ := hy (by omega)
   have hg : ∀ (l : List Nm) j, j < l.length → (l.map bs).getD j ByteArray.empty = bs (l.getD j []) := fun l j hj => by
    rw [List.getD_eq_getElem?_getD, List.getElem?_map, List.getD_eq_getElem?_getD, List.getElem?_eq_getElem hj]; rfl
   have he := Any.slices_Equal_string Tryz.lays193 b1 o1 x.length c b2 o2 y.length d (x.map bs) (y.map bs) w (by simp) (by simp) (by omega) (by omega) (fun j hj => by
     rw [List.length_map] at hj
     rw [hg x j hj]; exact hc1 j hj) (fun j hj => by
     rw [List.length_map] at hj
     rw [hg y j hj]; exact hc2 j hj)
   refine he.mono ?_
   rintro e w' ⟨rfl, q, rfl⟩
   refine ⟨?_, below_drewN (Below.refl _ w) q⟩
   have e1 : (x.map bs).take x.length = x.map bs := List.take_of_length_le (by simp)
   have e2 : (y.map bs).take y.length = y.map bs := List.take_of_length_le (by simp)
   rw [e1, e2]
   congr 2
   have : x.map bs = y.map bs ↔ x = y := ⟨fun h => by
     have := congrArg (List.map (·.data.toList)) h
     rwa [map_bs, map_bs] at this, fun h => by rw [h]⟩
   exact decide_eq_decide.2 this
theorem inside_any (w : World) (p q : Nm) : Calls Tryz.prog 183 #[.string (bs p), .string (bs q)] w (BoolBelow w (insideOf (namesOf p) (namesOf q))) := by
 have hnp := names_any w p
 have hnq := fun W => names_any W q
 cases hp : namesOf p with
 | none =>
   rw [hp] at hnp
   have : insideOf none (namesOf q) = false := by unfold insideOf; split <;> simp_all
   rw [this]
   clear this hp
   go_enter Tryz.func183, Tryz.ntmps183
   go_wp2_with fail
   refine hnp.mono ?_
   clear hnp
   rintro e w1 ⟨hB, rfl⟩
   go_wp2_with fail
   refine (hnq _).mono ?_
   clear hnq
   cases namesOf q with
   | none =>
     rintro e w2 ⟨hB2, rfl⟩
     go_wp2_with fail
     go_ret
     exact ⟨rfl, hB.trans (hB2.mono hB.size)⟩
   | some lq =>
     rintro e w2 ⟨hB2, a, c, rfl, -⟩
     go_wp2_with fail
     go_ret
     exact ⟨rfl, hB.trans (hB2.mono hB.size)⟩
 | some lp =>
   have hsp := Lib.hid (namesOf_some hp)
   rw [hp] at hnp
   clear hp
   cases hq : namesOf q with
   | none =>
     rw [hq] at hnq
     rw [show insideOf (some lp) none = false from rfl]
     clear hq
     go_enter Tryz.func183, Tryz.ntmps183
     go_wp2_with fail
     refine hnp.mono ?_
     clear hnp
     rintro e w1 ⟨hB, a, c, rfl, -⟩
     go_wp2_with fail
     refine (hnq _).mono ?_
     clear hnq
     rintro e w2 ⟨hB2, rfl⟩
     go_wp2_with fail
     go_ret
     exact ⟨rfl, hB.trans (hB2.mono hB.size)⟩
   | some lq =>
     rw [hq] at hnq
     clear hq
     by_cases hle : lq.length ≤ lp.length
     rotate_left 1
     · rw [show insideOf (some lp) (some lq) = false by unfold insideOf; simp [hle]]
       have hle' : ¬ (lq.length : Int) ≤ lp.length := by omega
       go_enter Tryz.func183, Tryz.ntmps183
       go_wp2_with fail
       refine hnp.mono ?_
       clear hnp
       rintro e w1 ⟨hB, a, c, rfl, -⟩
       go_wp2_with fail
       refine (hnq _).mono ?_
       clear hnq
       rintro e w2 ⟨hB2, a2, c2, rfl, -⟩
       go_wp2_with fail
       go_ret
       exact ⟨rfl, hB.trans (hB2.mono hB.size)⟩
     · have hin : insideOf (some lp) (some lq) = decide (lp.take lq.length = lq) := by unfold insideOf; simp [hle]
       obtain ⟨r, hr⟩ : ∃ r, r = decide (lp.take lq.length = lq) := ⟨_, rfl⟩
       rw [hin, ← hr]
       have HR := Lib.hid hr
       clear hr
       have hle' : (lq.length : Int) ≤ lp.length := by omega
       have htl : (lp.take lq.length).length = lq.length := by rw [List.length_take]; omega
       go_enter Tryz.func183, Tryz.ntmps183
       go_wp2_with fail
       refine hnp.mono ?_
       clear hnp
       rintro e w1 ⟨hB, a, c, rfl, hN, hC⟩
       have HB := Lib.hid hB
       have HN := Lib.hid hN
       have hC1 : (0 : Int) ≤ lq.length ∧ (lq.length : Int) ≤ c := by have := hC.1; omega
       clear hB hN hC
       go_wp2_with fail
       refine (hnq _).mono ?_
       clear hnq
       rintro e w2 ⟨hB2, a2, c2, rfl, hN2, hC2⟩
       have hq := equal_nms w2 (fun _ => True) a a2 c c2 (lp.take lq.length) lq (((HN.out.take _).below hB2).sub fun _ _ _ => trivial) (hN2.sub fun _ _ _ => trivial) htl (by have := hsp.out.1; rw [htl]; omega)
       rw [htl, ← HR.out] at hq
       have HB2 := Lib.hid (HB.out.trans (hB2.mono HB.out.size))
       clear hB2 hN2 hC2 htl hin hle
       go_wp2_with fail
       refine hq.mono ?_
       clear hq
       rintro e w3 ⟨rfl, hB3⟩
       go_wp2_with fail
       go_ret
       exact ⟨rfl, HB2.out.trans (hB3.mono HB2.out.size)⟩
end Go.Proofs.YtajbooppoohplaaGreatDoor
