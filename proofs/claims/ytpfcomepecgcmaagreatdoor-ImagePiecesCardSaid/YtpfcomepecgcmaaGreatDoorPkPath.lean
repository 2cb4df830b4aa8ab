import Derived.Test.YtpfcomepecgcmaaGreatDoorChecked
import Derived.Test.YtpfcomepecgcmaaGreatDoorPkByt
import Derived.Test.YtpfcomepecgcmaaGreatDoorPkBase
import Derived.Lib.Hide
import Derived.WalkMore
import Derived.Laws.Externs
import Derived.Deep.LoopGhost
import Derived.Deep.DeepCutAuto
import Derived.Test.YtpfcomepecgcmaaGreatDoorShelf2
import Derived.Lib.Join
/- package path: names, Good, Split -/
namespace Esch
open Go Go.RowKit
def From (B : Nat) : Nat → Prop := fun k => B ≤ k
def CapN (n c : Nat) : Prop := n ≤ c ∧ c ≤ 9223372036854775807
/-- a list of texts, in blocks of S -/
def NmsAt (S : Nat → Prop) (w : World) (a : Option Addr) (l : List Nm) : Prop :=
  0 < l.length → ∃ b off, a = some ⟨b, off, none⟩ ∧ S b ∧ b < w.heap.size ∧ ∀ i, i < l.length → w.cell? ⟨b, off + i, none⟩ = some (.string (bs (l.getD i [])))
theorem NmsAt.nil (S : Nat → Prop) (w : World) (a : Option Addr) : NmsAt S w a [] := fun h => absurd h (by simp)
theorem NmsAt.mod {S F : Nat → Prop} {w w' : World} {a : Option Addr} {l : List Nm} (h : NmsAt S w a l) (hM : Mod F w w') (hS : ∀ k, S k → k < w.heap.size → ¬ F k) : NmsAt S w' a l := fun h0 => by
  obtain ⟨b, off, e, hb, hl, hc⟩ := h h0
  exact ⟨b, off, e, hb, Nat.lt_of_lt_of_le hl hM.size, fun i hi => (hM.cell (p := ⟨b, off + i, none⟩) hl (hS b hb hl)).trans (hc i hi)⟩
theorem NmsAt.below {S : Nat → Prop} {w w' : World} {a : Option Addr} {l : List Nm} (h : NmsAt S w a l) (hB : Below w.heap.size w w') : NmsAt S w' a l :=
  h.mod (F := none') (Mod.of_below hB) fun _ _ _ => id
theorem NmsAt.take {S : Nat → Prop} {w : World} {a : Option Addr} {l : List Nm} (h : NmsAt S w a l) (k : Nat) : NmsAt S w a (l.take k) := fun h0 => by
  rw [List.length_take] at h0
  obtain ⟨b, off, e, hb, hl, hc⟩ := h (by omega)
  refine ⟨b, off, e, hb, hl, fun i hi => ?_⟩
  rw [List.length_take] at hi
  rw [hc i (by omega)]
  simp [List.getD_eq_getElem?_getD, show i < k by omega]
def strV (a : Nm) : Value := .string (bs a)
theorem src_str {P : Program} {W : World} (tx e' : TypeId) (hk : P.underlying tx = some (.slice e')) (b : Nat) (a : Nm) (t : TypeId) (hb : W.heap[b]? = some (.cells #[strV a] t)) (c : Nat) : Src P 1 tx (.slice (some ⟨b, 0, none⟩) 1 c) 1 [strV a] W := by
  refine Src.ofSlice W hk _ 1 c [strV a] rfl (fun j u hu => ?_) (fun u hu => ?_)
  · rw [addr_add, Nat.zero_add]
    have hj := (List.getElem?_eq_some_iff.1 hu).1
    obtain rfl : j = 0 := by simpa using hj
    simp [World.cell?, hb] at hu ⊢
    exact hu
  · rw [List.mem_singleton.1 hu]; rfl
theorem heap_alloc_new (w : World) (o : Obj) : (w.alloc o).heap[w.heap.size]? = some o := alloc_new w o
theorem toList_bs (a : Nm) : (bs a).toList = a := by
  rw [ByteArray.toList_eq]; rfl
theorem strEq (a b : Nm) : ((bs a).toList == b) = decide (a = b) := by
  rw [toList_bs]; by_cases h : a = b <;> simp [h]
theorem grow_nms {S : Nat → Prop} {w : World} {a : Option Addr} {c : Nat} {l : List Nm} (h : GRowAt w S 1 l.length c a (l.map strV)) : NmsAt S w a l ∧ CapN l.length c := by
  refine ⟨fun h0 => ?_, h.le, h.max⟩
  have := h.le
  obtain ⟨b, off, e, hb, hl, h1, -⟩ := h.at' (by omega)
  refine ⟨b, off, e, hb, hl, fun i hi => ?_⟩
  rw [h1 i (by omega), List.getElem?_map, List.getD_eq_getElem?_getD, List.getElem?_eq_getElem hi]; rfl
end Esch
namespace Go.Proofs.YtpfcomepecgcmaaGreatDoor
open Go.RowKit Esch

theorem Tryz.infoStr : (Tryz.prog.info? 9).map (fun i => (i.zero, i.size, i.bytes)) = some (some (.string ⟨#[]⟩), 1, 16) := by kernel_rfl
def NameRel (s : Nm) (w : World) (g : Nat) (v : Value) (wr : World) : Prop := ∃ i : Nat, g = s.length - i ∧ i ≤ s.length ∧ v = .int .i64 i ∧ (s.take i).all okc = true ∧ wr = w
theorem okc_take {s : Nm} {i : Nat} (hi : i < s.length) : (s.take (i + 1)).all okc = ((s.take i).all okc && okc s[i]) := by
  rw [List.take_succ_eq_append_getElem hi, List.all_append]; simp
theorem okc_no {s : Nm} {i : Nat} (hi : i < s.length) (h : okc s[i] = false) : nameL s = false := by
  have : s.all okc = false := by
    rw [List.all_eq_false]
    exact ⟨s[i], List.getElem_mem hi, by simp [h]⟩
  simp [nameL, this]
theorem okc_nat (c : UInt8) : okc c = decide ((97 ≤ c.toNat ∧ c.toNat ≤ 122) ∨ (48 ≤ c.toNat ∧ c.toNat ≤ 57) ∨ c.toNat = 95) := by
  have : ∀ n : Nat, n < 256 → okc (UInt8.ofNat n) = decide ((97 ≤ n ∧ n ≤ 122) ∨ (48 ≤ n ∧ n ≤ 57) ∨ n = 95) := by decide +kernel
  have h := this c.toNat c.toNat_lt
  rwa [UInt8.ofNat_toNat] at h
set_option maxRecDepth 100000 in
set_option maxHeartbeats 2000000 in
theorem name_any (w : World) (s : Nm) :
    Calls Tryz.prog 135 #[.string (bs s)] w fun e w' => e = .returned (.bool (nameL s)) ∧ w' = w := by
  by_cases h0 : s.length < 1
  · have : nameL s = false := by simp [nameL]; omega
    rw [this]
    have h0' : (s.length : Int) < 1 := by omega
    clear h0 this
    go_enter Tryz.func135, Tryz.ntmps135
    go_wp2_with fail
    go_ret
    exact ⟨rfl, rfl⟩
  by_cases h8 : 8 < s.length
  · have : nameL s = false := by simp [nameL]; omega
    rw [this]
    have h0' : ¬ (s.length : Int) < 1 := by omega
    have h8' : (8 : Int) < s.length := by omega
    clear h0 this h8
    go_enter Tryz.func135, Tryz.ntmps135
    go_wp2_with fail
    go_ret
    exact ⟨rfl, rfl⟩
  have h0' : ¬ (s.length : Int) < 1 := by omega
  have h8' : ¬ (8 : Int) < s.length := by omega
  obtain ⟨r, hr⟩ : ∃ r, r = nameL s := ⟨_, rfl⟩
  rw [← hr]
  have HR := Lib.hid hr
  have H0 := Lib.hid h0
  have H8 := Lib.hid h8
  clear hr h0 h8
  go_enter Tryz.func135, Tryz.ntmps135
  go_wp2_with fail
  go_loopg [15] s.length (fun g s15 wr => NameRel s w g s15 wr)
  case atStart => exact ⟨0, rfl, Nat.zero_le _, rfl, rfl, rfl⟩
  case round =>
    obtain ⟨i, rfl, hi, rfl, hall, rfl⟩ := hrel
    have Hall := Lib.hid hall
    clear hall
    by_cases hlt : i < s.length
    · have hidx : ∀ W, (Instr.index 9 (.string (bs s)) (.int .i64 (i : Int))).run Tryz.prog W = .ok (.int .u8 (s[i].toNat : Int)) W := fun W => by
        rw [run_index_string _ _ _ _ _ Tryz.underlying9, dif_pos ⟨by omega, by show (i : Int) < s.length; omega⟩]
        congr 3
      have hi1 : (i : Int) < s.length := by omega
      have hy : okc s[i] = true → (s.take (i + 1)).all okc = true := fun h => by rw [okc_take hlt, Hall.out, h]; rfl
      have hno : okc s[i] = false → r = false := fun h => HR.out.trans (okc_no hlt h)
      have hk := okc_nat s[i]
      have hlt2 := s[i].toNat_lt
      generalize s[i] = c at hidx hy hno hk hlt2
      rw [hk] at hy hno
      simp only [decide_eq_true_eq, decide_eq_false_iff_not] at hy hno
      generalize c.toNat = x at hidx hy hno hlt2
      clear hk
      by_cases k1 : x < 48
      · have HNO := Lib.hid (hno (by omega))
        have j1 : (x : Int) < 97 := by omega
        have j2 : (x : Int) < 48 := by omega
        have j3 : ((x : Int) != 95) = true := by simp; omega
        clear hy hno hlt2 k1 hlt hi
        go_wp2_with fail
        go_ret
        exact ⟨by rw [HNO.out]; rfl, rfl⟩
      by_cases k2 : x ≤ 57
      · have HYES := Lib.hid (hy (by omega))
        have j1 : (x : Int) < 97 := by omega
        have j2 : ¬ (x : Int) < 48 := by omega
        have j3 : ¬ (57 : Int) < x := by omega
        clear hy hno hlt2 k1 k2
        go_wp2_with fail
        go_roundg (s.length - (i + 1))
        case measure => omega
        case rel => exact ⟨i + 1, rfl, by omega, by go_num, HYES.out, rfl⟩
      by_cases k3 : x = 95
      · have HYES := Lib.hid (hy (by omega))
        have j1 : (x : Int) < 97 := by omega
        have j2 : ¬ (x : Int) < 48 := by omega
        have j3 : (57 : Int) < x := by omega
        have j4 : ((x : Int) != 95) = false := by simp; omega
        clear hy hno hlt2 k1 k2 k3
        go_wp2_with fail
        go_roundg (s.length - (i + 1))
        case measure => omega
        case rel => exact ⟨i + 1, rfl, by omega, by go_num, HYES.out, rfl⟩
      by_cases k4 : x < 97
      · have HNO := Lib.hid (hno (by omega))
        have j1 : (x : Int) < 97 := by omega
        have j2 : ¬ (x : Int) < 48 := by omega
        have j3 : (57 : Int) < x := by omega
        have j4 : ((x : Int) != 95) = true := by simp; omega
        clear hy hno hlt2 k1 k2 k3 k4 hlt hi
        go_wp2_with fail
        go_ret
        exact ⟨by rw [HNO.out]; rfl, rfl⟩
      by_cases k5 : x ≤ 122
      · have HYES := Lib.hid (hy (by omega))
        have j1 : ¬ (x : Int) < 97 := by omega
        have j2 : ¬ (122 : Int) < x := by omega
        clear hy hno hlt2 k1 k2 k3 k4 k5
        go_wp2_with fail
        go_roundg (s.length - (i + 1))
        case measure => omega
        case rel => exact ⟨i + 1, rfl, by omega, by go_num, HYES.out, rfl⟩
      · have HNO := Lib.hid (hno (by omega))
        have j1 : ¬ (x : Int) < 97 := by omega
        have j2 : (122 : Int) < x := by omega
        have j3 : ¬ (x : Int) < 48 := by omega
        have j4 : (57 : Int) < x := by omega
        have j5 : ((x : Int) != 95) = true := by simp; omega
        clear hy hno hlt2 k1 k2 k3 k4 k5 hlt hi
        go_wp2_with fail
        go_ret
        exact ⟨by rw [HNO.out]; rfl, rfl⟩
    · obtain rfl : i = s.length := by omega
      have hf : r = true := by
        rw [HR.out]
        have := Hall.out
        rw [List.take_length] at this
        have h1 := H0.out
        have h2 := H8.out
        simp only [nameL, this, Bool.and_true, Bool.and_eq_true, decide_eq_true_eq]
        omega
      have HF := Lib.hid hf
      clear hf hlt hi
      go_wp2_with fail
      go_ret
      exact ⟨by rw [HF.out]; rfl, rfl⟩
theorem indexByte_any (w : World) (s : Nm) : Calls Tryz.prog 143 #[.string (bs s), .int .u8 47] w fun e w' => e = .returned (.int .i64 (firstIdx (bs s) 47)) ∧ w' = w := by
  have hx : ∀ W, (callFunc 178 #[.string (bs s), .int .u8 47]).run Tryz.prog W = .ok (.value (.int .i64 (firstIdx (bs s) 47))) W := fun W => by
    rw [run_callFunc_extern Tryz.func178 (by decide +kernel) rfl (by kernel_rfl) (by kernel_rfl), run_indexByte_string]
    rfl
  generalize firstIdx (bs s) 47 = r at hx
  go_enter Tryz.func143, Tryz.ntmps143
  go_wp2
  go_ret
  exact ⟨rfl, rfl⟩
def NamesPost (w : World) (r : Option (List Nm)) (e : Ending) (w' : World) : Prop :=
  Below w.heap.size w w' ∧ match r with
    | none => e = .returned (.tuple #[.slice none 0 0, .bool false])
    | some l => ∃ a c, e = .returned (.tuple #[.slice a l.length c, .bool true]) ∧ NmsAt (From w.heap.size) w' a l ∧ CapN l.length c
def NamesRel (p : Nm) (w : World) (g : Nat) (v0 v4 : Value) (wr : World) : Prop :=
  ∃ (t : Nm) (l : List Nm) (ao : Option Addr) (c : Nat), g = t.length ∧ t.length ≤ p.length ∧ v0 = .string (bs t) ∧ v4 = .slice ao l.length c ∧ GRowAt wr (From w.heap.size) 1 l.length c ao (l.map strV) ∧ namesOf p = namesFrom l t ∧ l.length ≤ 8 ∧ Below w.heap.size w wr
theorem run_sliceTo (W : World) (s : Nm) (n : Nat) (h : n ≤ s.length) : (Instr.slice 9 (.string (bs s)) none (some (.int .i64 (n : Int))) none).run Tryz.prog W = .ok (.string (bs (s.take n))) W := by
  rw [run_slice_string_to_if _ _ _ _ _ Tryz.underlying9, if_pos ⟨by omega, by show (n : Int) ≤ s.length; omega⟩, bs_extract]
  simp
theorem run_sliceFrom (W : World) (s : Nm) (n : Nat) (h : n ≤ s.length) : (Instr.slice 9 (.string (bs s)) (some (.int .i64 (n : Int))) none none).run Tryz.prog W = .ok (.string (bs (s.drop n))) W := by
  rw [run_slice_string_from_if _ _ _ _ _ Tryz.underlying9, if_pos ⟨by omega, by show (n : Int) ≤ s.length; omega⟩, bs_extract]
  congr 4
  rw [bs_size, Int.toNat_natCast, List.take_of_length_le (by simp)]
set_option maxRecDepth 100000 in
set_option maxHeartbeats 2000000 in
theorem names_any (w : World) (p : Nm) : Calls Tryz.prog 115 #[.string (bs p)] w (NamesPost w (namesOf p)) := by
  by_cases h1 : p = [47]
  · subst h1
    have he : ((bs [47]).toList == [47]) = true := by rw [strEq]; rfl
    have hn : namesOf [47] = some [] := rfl
    rw [hn]
    clear hn
    go_enter Tryz.func115, Tryz.ntmps115
    go_wp2_with fail
    go_step3
    go_wp2_with fail
    go_ret2
    exact ⟨Below.refl _ _, none, 0, rfl, NmsAt.nil _ _ _, by simp, by omega⟩
  have he : ((bs p).toList == [47]) = false := by rw [strEq]; simpa using h1
  obtain ⟨i0, hi, hz0, hz1, hz2⟩ := info_parts Tryz.infoStr
  obtain ⟨r, hr⟩ : ∃ r, r = namesOf p := ⟨_, rfl⟩
  rw [← hr]
  have hr0 : namesOf p = namesFrom [] p := by
    unfold namesOf namesFrom
    rw [if_neg h1]
    simp
  have HR0 := Lib.hid hr0
  have HR := Lib.hid hr
  clear hr0 hr h1
  go_enter Tryz.func115, Tryz.ntmps115
  go_wp2_with fail
  go_step3
  go_wp2_with fail
  go_step3
  go_wp2_with fail
  go_loopg [0, 4] p.length (fun g s0 s4 wr => NamesRel p w g s0 s4 wr)
  case atStart => exact ⟨p, [], none, 0, rfl, Nat.le_refl _, rfl, rfl, GRowAt.nil _ _ _ _, HR0.out, by simp, Below.refl _ _⟩
  case round =>
    clear he
    obtain ⟨t, l, ao, c, rfl, ht, rfl, rfl, hG, hN, hl, hB⟩ := hrel
    have HG := Lib.hid hG
    have HB := Lib.hid hB
    clear hG hB
    cases t with
    | nil =>
      have he : ((bs []).toList == []) = true := by rw [strEq]; rfl
      have HN := Lib.hid (show r = none by rw [HR.out, hN, namesFrom_nil])
      clear hN hl ht
      go_wp2_with fail
      go_ret2
      rw [HN.out]
      exact ⟨HB.out, rfl⟩
    | cons x t =>
      have he : ((bs (x :: t)).toList == []) = false := by rw [strEq]; rfl
      have hidx : ∀ W, (Instr.index 9 (.string (bs (x :: t))) (.int .i64 0)).run Tryz.prog W = .ok (.int .u8 (x.toNat : Int)) W := fun W => by
        rw [run_index_string _ _ _ _ _ Tryz.underlying9, dif_pos ⟨by omega, by show (0 : Int) < ((x :: t).length : Nat); simp⟩]
        rfl
      rw [namesFrom_cons] at hN
      by_cases hx : x = 47
      rotate_left 1
      · have hx2 : ((x.toNat : Int) != 47) = true := by
          simp only [bne_iff_ne, ne_eq]
          intro e
          exact hx (UInt8.toNat_inj.1 (by show x.toNat = 47; omega))
        have HN := Lib.hid (show r = none by rw [HR.out, hN, if_pos (Or.inl hx)])
        clear hN hl ht hx
        go_wp2_with fail
        go_ret2
        rw [HN.out]
        exact ⟨HB.out, rfl⟩
      have hx2 : ((x.toNat : Int) != 47) = false := by rw [hx]; rfl
      by_cases h8 : 8 ≤ l.length
      · have h8' : ((l.length : Int) == 8) = true := by simp; omega
        have HN := Lib.hid (show r = none by rw [HR.out, hN, if_pos (Or.inr h8)])
        clear hN hl ht hx h8
        go_wp2_with fail
        go_ret2
        rw [HN.out]
        exact ⟨HB.out, rfl⟩
      have h8' : ((l.length : Int) == 8) = false := by simp; omega
      have hsl1 : ∀ W, (Instr.slice 9 (.string (bs (x :: t))) (some (.int .i64 1)) none none).run Tryz.prog W = .ok (.string (bs t)) W := fun W => run_sliceFrom W (x :: t) 1 (by simp)
      rw [if_neg (fun h => h.elim (fun h => h hx) h8)] at hN
      have hix := fun W => indexByte_any W t
      have hfi := firstIdx_bs t
      have htd := List.takeWhile_append_dropWhile (p := (· != 47)) (l := t)
      generalize t.takeWhile (· != 47) = a at hN hfi htd
      generalize t.dropWhile (· != 47) = b at hN hfi htd
      have hst : ∀ W, (Instr.slice 9 (.string (bs t)) none (some (.int .i64 (a.length : Int))) none).run Tryz.prog W = .ok (.string (bs a)) W := fun W => by
        rw [run_sliceTo W t a.length (by rw [← htd]; simp), ← htd]; simp
      have hsf : ∀ W, (Instr.slice 9 (.string (bs t)) (some (.int .i64 (a.length : Int))) none none).run Tryz.prog W = .ok (.string (bs b)) W := fun W => by
        rw [run_sliceFrom W t a.length (by rw [← htd]; simp), ← htd]; simp
      have hlen : t.length = a.length + b.length := by rw [← htd]; simp
      have HN := Lib.hid hN
      have Hl := Lib.hid (show l.length < 8 by omega)
      have Hlen := Lib.hid hlen
      have Ht := Lib.hid ht
      obtain ⟨nb, hnb⟩ : ∃ nb, nb = nameL a := ⟨_, rfl⟩
      have hnm := name_any wr a
      rw [← hnb] at hnm
      have HNB := Lib.hid hnb
      cases b with
      | nil =>
        rw [if_pos rfl] at hfi
        rw [hfi] at hix
        have hta : t = a := by rw [← htd, List.append_nil]
        subst hta
        clear hN hl ht hx h8 htd hlen hfi hnb
        have he2 : ((bs []).toList == []) = true := by rw [strEq]; rfl
        go_wp2_with fail
        refine (hix _).mono ?_
        clear hix
        rintro e w1 ⟨rfl, rfl⟩
        go_wp2_with fail
        refine hnm.mono ?_
        clear hnm
        rintro e w1 ⟨rfl, rfl⟩
        cases nb
        · have HN := Lib.hid (show r = none by rw [HR.out, HN.out, if_neg (by rw [← HNB.out]; simp)])
          go_wp2_with fail
          go_ret2
          rw [HN.out]
          exact ⟨HB.out, rfl⟩
        · have hN1 := HN.out
          rw [if_pos HNB.out.symm] at hN1
          have HN := Lib.hid hN1
          clear hN1
          go_wp2_with (at_builtin; refine wpList_append_g (by rfl) (.tmp 31) (.tmp 35) 168 168 (by rfl) 9 i0 _ 16 Tryz.underlying168 hi hz0 hz1 hz2 (by rfl) (by rfl) (HG.out.mod (F := none') (by exact modC (Mod.refl _ _)) (fun _ _ _ => id)) _ 1 [strV t] (by rfl) (src_str _ _ Tryz.underlying168 w1.heap.size t 9 (heap_alloc_new _ _) _) (by have := Hl.out; omega) (by have := Hl.out; omega) ?_; intro a6 cap6 w6 hg6 hM6 hz6)
          have hB6 : Below w.heap.size w w6 := HB.out.trans (((Below.refl _ w1).alloc (Nat.le_refl _) _).mono HB.out.size |>.trans (hM6.below_at (by have := HB.out.size; simp only [World.size_alloc]; omega) (fun k hk e => by have e : w.heap.size ≤ k := e; omega)))
          have hg7 : GRowAt w6 (From w.heap.size) 1 (l ++ [t]).length cap6 a6 ((l ++ [t]).map strV) := by
            rw [List.map_append, List.length_append]
            exact hg6.sub (fun k _ hk => by
              rcases hk with hk | hk
              · exact hk
              · show w.heap.size ≤ k; rw [hk]; simp only [World.size_alloc]; have := HB.out.size; omega)
          rw [show l.length + 1 = (l ++ [t]).length by simp]
          have HG6 := Lib.hid hg7
          have HB6 := Lib.hid hB6
          clear hg6 hM6 hz6 hg7 hB6 HG HB
          go_wp2_with fail
          go_ret2
          rw [HR.out, HN.out, if_pos trivial]
          obtain ⟨h1, h2⟩ := grow_nms HG6.out
          exact ⟨HB6.out, _, _, rfl, h1, h2⟩
      | cons y b =>
        rw [if_neg (by simp)] at hfi
        rw [hfi] at hix
        have hge : ¬ (a.length : Int) < 0 := by omega
        have he2 : ((bs (y :: b)).toList == []) = false := by rw [strEq]; rfl
        clear hN hl ht hx h8 htd hlen hfi hnb
        go_wp2_with fail
        refine (hix _).mono ?_
        clear hix
        rintro e w1 ⟨rfl, rfl⟩
        go_wp2_with fail
        refine hnm.mono ?_
        clear hnm
        rintro e w1 ⟨rfl, rfl⟩
        cases nb
        · have HN := Lib.hid (show r = none by rw [HR.out, HN.out, if_neg (by rw [← HNB.out]; simp)])
          go_wp2_with fail
          go_ret2
          rw [HN.out]
          exact ⟨HB.out, rfl⟩
        · have hN1 := HN.out
          rw [if_pos HNB.out.symm] at hN1
          have HN := Lib.hid hN1
          clear hN1
          go_wp2_with (at_builtin; refine wpList_append_g (by rfl) (.tmp 31) (.tmp 35) 168 168 (by rfl) 9 i0 _ 16 Tryz.underlying168 hi hz0 hz1 hz2 (by rfl) (by rfl) (HG.out.mod (F := none') (by exact modC (Mod.refl _ _)) (fun _ _ _ => id)) _ 1 [strV a] (by rfl) (src_str _ _ Tryz.underlying168 w1.heap.size a 9 (heap_alloc_new _ _) _) (by have := Hl.out; omega) (by have := Hl.out; omega) ?_; intro a6 cap6 w6 hg6 hM6 hz6)
          have hB6 : Below w.heap.size w w6 := HB.out.trans (((Below.refl _ w1).alloc (Nat.le_refl _) _).mono HB.out.size |>.trans (hM6.below_at (by have := HB.out.size; simp only [World.size_alloc]; omega) (fun k hk e => by have e : w.heap.size ≤ k := e; omega)))
          have hg7 : GRowAt w6 (From w.heap.size) 1 (l ++ [a]).length cap6 a6 ((l ++ [a]).map strV) := by
            rw [List.map_append, List.length_append]
            exact hg6.sub (fun k _ hk => by
              rcases hk with hk | hk
              · exact hk
              · show w.heap.size ≤ k; rw [hk]; simp only [World.size_alloc]; have := HB.out.size; omega)
          rw [show l.length + 1 = (l ++ [a]).length by simp]
          have HG6 := Lib.hid hg7
          have HB6 := Lib.hid hB6
          clear hg6 hM6 hz6 hg7 hB6 HG HB
          go_wp2_with fail
          go_roundg (y :: b).length
          case measure => have := Hlen.out; simp only [List.length_cons] at this ⊢; omega
          case rel =>
            refine ⟨y :: b, l ++ [a], a6, cap6, rfl, ?_, rfl, rfl, HG6.out, ?_, ?_, HB6.out⟩
            · have := Hlen.out; have := Ht.out; simp only [List.length_cons] at *; omega
            · rw [HN.out, if_neg (by simp)]
            · have := Hl.out; simp; omega
end Go.Proofs.YtpfcomepecgcmaaGreatDoor
/- package path: Good, Split, Join, Up, Inside -/
namespace Esch
open Go
end Esch
namespace Go.Proofs.YtpfcomepecgcmaaGreatDoor
open Go.RowKit Esch Go.Shelf

def BoolBelow (w : World) (x : Bool) (e : Ending) (w' : World) : Prop := e = .returned (.bool x) ∧ Below w.heap.size w w'
theorem good_any (w : World) (p : Nm) : Calls Tryz.prog 79 #[.string (bs p)] w (BoolBelow w (namesOf p).isSome) := by
  have hn := names_any w p
  cases hr : namesOf p with
  | none =>
    rw [hr] at hn
    clear hr
    go_enter Tryz.func79, Tryz.ntmps79
    go_wp2_with fail
    refine hn.mono ?_
    clear hn
    rintro e w1 ⟨hB, rfl⟩
    go_wp2_with fail
    go_ret
    exact ⟨rfl, hB⟩
  | some l =>
    rw [hr] at hn
    clear hr
    go_enter Tryz.func79, Tryz.ntmps79
    go_wp2_with fail
    refine hn.mono ?_
    clear hn
    rintro e w1 ⟨hB, a, c, rfl, -⟩
    go_wp2_with fail
    go_ret
    exact ⟨rfl, hB⟩
end Go.Proofs.YtpfcomepecgcmaaGreatDoor
