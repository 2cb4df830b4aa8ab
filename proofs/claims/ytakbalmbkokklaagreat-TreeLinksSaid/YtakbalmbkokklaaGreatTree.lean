/- package tree: stop, kind, resolve, place -/
import Derived.Test.YtakbalmbkokklaaGreatTreeM
import Derived.Test.YtakbalmbkokklaaGreatDirList
import Derived.Test.YtakbalmbkokklaaGreatIno4
import Derived.Test.YtakbalmbkokklaaGreatInoAll
namespace Esch
open Go Go.RowKit
structure TreeAt (w : World) (b : Nat) (S : Nat → Prop) (s : TrS) : Prop where
  sb : S b
  lt : ∀ k, S k → k < w.heap.size
  ex : ∃ ib nb S1 S2, w.cell? ⟨b, 0, none⟩ = some (.pointer (some ⟨ib, 0, none⟩)) ∧ w.cell? ⟨b, 1, none⟩ = some (.pointer (some ⟨nb, 0, none⟩)) ∧ TabAt w ib S1 s.t ∧ DirAt w nb S2 s.n ∧
    (∀ k, S1 k → S k) ∧ (∀ k, S2 k → S k) ∧ (∀ k, S1 k → ¬ S2 k) ∧ ¬ S1 b ∧ ¬ S2 b
theorem TreeAt.mod {w w' : World} {b : Nat} {S F : Nat → Prop} {s : TrS} (h : TreeAt w b S s) (hM : Mod F w w') (hF : ∀ k, S k → ¬ F k) : TreeAt w' b S s := by
  obtain ⟨sb, lt, ib, nb, S1, S2, c0, c1, ht, hn, s1, s2, d, b1, b2⟩ := h
  exact ⟨sb, fun k hk => Nat.lt_of_lt_of_le (lt k hk) hM.size, ib, nb, S1, S2, hM.at c0 (hF b sb), hM.at c1 (hF b sb), ht.mod hM (fun k hk => hF k (s1 k hk)), hn.mod hM (fun k hk => hF k (s2 k hk)), s1, s2, d, b1, b2⟩
theorem TreeAt.below' {w w' : World} {b : Nat} {S : Nat → Prop} {s : TrS} (h : TreeAt w b S s) (hB : Below w.heap.size w w') : TreeAt w' b S s := h.mod (F := none') (Mod.of_below hB) fun _ _ => id
end Esch
namespace Go.Proofs.YtakbalmbkokklaaGreat
open Go.RowKit Esch Go.Shelf

def pe (e : Int) : List PanicEntry := [{ v := .iface 119 (.agg #[.int .i64 e]), recovered := false }]
abbrev Stop (e : Int) : Ending := .panicked (pe e)
theorem stop_no (w : World) (e : Int) : Calls Tryz.prog 41 #[.int .i64 e, .bool false] w fun r w' => r = .returned (.tuple #[]) ∧ w' = w := by
  go_enter Tryz.func41, Tryz.ntmps41
  go_wp2_with fail
  go_end0
  exact ⟨rfl, rfl⟩
theorem stop_yes (w : World) (e : Int) : Calls Tryz.prog 41 #[.int .i64 e, .bool true] w fun r w' => r = .panicked (pe e) ∧ w' = w := by
  go_enter Tryz.func41, Tryz.ntmps41
  go_wp2_with fail
  exact ⟨rfl, rfl, rfl⟩
def ResPost {α : Type} (w : World) (r : Res α) (val : α → Value) (e : Ending) (w' : World) : Prop :=
  Below w.heap.size w w' ∧ match r with
    | .ok a => e = .returned (val a)
    | .err x => e = Stop x
theorem trKind_any (w : World) (b : Nat) (S : Nat → Prop) (s : TrS) (h : TreeAt w b S s) (i : Int) :
    Calls Tryz.prog 42 #[.pointer (some ⟨b, 0, none⟩), .int .i64 i] w fun e w' => e = .returned (.int .i64 (s.kind i)) ∧ Below w.heap.size w w' := by
  obtain ⟨sb, lt, ib, nb, S1, S2, c0, c1, ht, hn, s1, s2, d, b1, b2⟩ := h
  have hs := inoStat_any w ib S1 s.t ht i
  unfold TrS.kind
  obtain ⟨⟨x0, x1, x2, x3, x4⟩, hx⟩ : ∃ x, x = s.t.at i := ⟨_, rfl⟩
  rw [← hx] at hs ⊢
  simp only [statV] at hs ⊢
  clear hx ht hn
  go_enter Tryz.func42, Tryz.ntmps42
  go_wp2_with fail
  refine hs.mono ?_
  clear hs
  rintro e W2 ⟨rfl, hB2⟩
  have hz := hB2.size
  go_wp2_with fail
  go_ret
  exact ⟨rfl, by exact belC hB2⟩
def ResolveRel (w : World) (s : TrS) (l : List Nm) (g : Nat) (v7 v23 : Value) (wr : World) : Prop :=
  ∃ (i : Nat) (d : Int), g = l.length - i ∧ i ≤ l.length ∧ v7 = .int .i64 d ∧ v23 = .int .i64 i ∧ s.res 1 l = s.res d (l.drop i) ∧ Below w.heap.size w wr
set_option maxRecDepth 100000 in
set_option maxHeartbeats 4000000 in
theorem trResolve_any (w : World) (b : Nat) (S : Nat → Prop) (s : TrS) (h : TreeAt w b S s) (p : Nm) :
    Calls Tryz.prog 40 #[.pointer (some ⟨b, 0, none⟩), .string (bs p)] w (ResPost w (s.resolve p) (Value.int .i64)) := by
  have hsp := split_any w p
  have hno := stop_no
  have hys := stop_yes
  have hkd := fun W hW i => trKind_any W b S s hW i
  have H := Lib.hid h
  unfold TrS.resolve
  cases hr : namesOf p with
  | none =>
    rw [hr] at hsp
    clear h hr
    go_enter Tryz.func40, Tryz.ntmps40
    go_wp2_with fail
    refine hsp.mono ?_
    clear hsp
    rintro e w1 ⟨hB, rfl⟩
    go_wp2_with fail
    refine (hys _ _).mono ?_
    rintro e w2 ⟨rfl, rfl⟩
    go_wp2_with fail
    exact ⟨rfl, hB, rfl⟩
  | some l =>
    rw [hr] at hsp
    have Hs8 := Lib.hid (namesOf_some hr).1
    obtain ⟨r, hrr⟩ : ∃ r, r = s.res 1 l := ⟨_, rfl⟩
    show Calls Tryz.prog 40 #[.pointer (some ⟨b, 0, none⟩), .string (bs p)] w (ResPost w (s.res 1 l) (Value.int .i64))
    rw [← hrr]
    have HR := Lib.hid hrr
    clear h hr hrr
    go_enter Tryz.func40, Tryz.ntmps40
    go_wp2_with fail
    refine hsp.mono ?_
    clear hsp
    rintro e w1 ⟨hB, a, c, rfl, hN, hC⟩
    have HN := Lib.hid hN
    have HB := Lib.hid hB
    clear hN hC hB
    go_wp2_with fail
    refine (hno _ _).mono ?_
    rintro e w2 ⟨rfl, rfl⟩
    go_wp2_with fail
    go_loopg [7, 23] l.length (fun g s7 s23 wr => ResolveRel w2 s l g s7 s23 wr)
    case atStart => exact ⟨0, 1, rfl, Nat.zero_le _, rfl, rfl, rfl, Below.refl _ _⟩
    case round =>
      obtain ⟨i, d, rfl, hil, rfl, rfl, hres, hB'⟩ := hrel
      have HB' := Lib.hid hB'
      have Hres := Lib.hid hres
      clear hB' hres
      by_cases hlt : i < l.length
      · obtain ⟨bk, off, rfl, -, hbk, hcell⟩ := HN.out (by omega)
        obtain ⟨nm, hnm⟩ : ∃ nm, nm = l.getD i [] := ⟨_, rfl⟩
        have e0 := below_at HB'.out (hcell i hlt) hbk
        rw [← hnm] at e0
        have hdr : l.drop i = nm :: l.drop (i + 1) := by
          rw [List.drop_eq_getElem_cons hlt, hnm, List.getD_eq_getElem?_getD, List.getElem?_eq_getElem hlt]; rfl
        have hres := Hres.out
        rw [hdr] at hres
        have hres : s.res 1 l = if s.kind d ≠ 1 then .err 62 else match s.n.find d nm with
          | none => .err 60
          | some j => s.res j (l.drop (i + 1)) := hres
        have hT := H.out.below' (HB.out.trans (HB'.out.mono HB.out.size))
        have hk1 := hkd wr hT d
        have hii : (0 : Int) ≤ i ∧ (i : Int) < l.length := by omega
        have HT := Lib.hid hT
        clear hcell hnm hdr hT Hres
        by_cases hkk : s.kind d = 1
        rotate_left 1
        · rw [if_pos hkk] at hres
          have hkk2 : (s.kind d != 1) = true := by simpa using hkk
          generalize s.kind d = kk at hk1 hkk2
          have HE := Lib.hid (HR.out.trans hres)
          clear hkk hres
          go_wp2_with fail
          refine hk1.mono ?_
          clear hk1
          rintro e w3 ⟨rfl, hB3⟩
          go_wp2_with fail
          refine (hys _ _).mono ?_
          rintro e w4 ⟨rfl, rfl⟩
          go_wp2_with fail
          refine ⟨rfl, HB.out.trans (HB'.out.trans (hB3.mono HB'.out.size) |>.mono HB.out.size), ?_⟩
          rw [HE.out]
        · rw [if_neg (by simpa using hkk)] at hres
          rw [hkk] at hk1
          clear hkk
          obtain ⟨sb, lt, ib, nb, S1, S2, c0, c1, ht, hn, s1, s2, dd, b1, b2⟩ := HT.out
          have hfd := fun W hW => dirFind_any W nb S2 s.n hW d nm
          have hlb := cell_lt c1
          have HDN := Lib.hid hn
          have hlw : wr.heap.size ≤ wr.heap.size := Nat.le_refl _
          clear ht hn s1 s2 dd b1 b2 lt sb c0
          cases hf : s.n.find d nm with
          | none =>
            rw [hf] at hres hfd
            have HE := Lib.hid (HR.out.trans hres)
            clear hres hf
            go_wp2_with fail
            refine hk1.mono ?_
            clear hk1
            rintro e w3 ⟨rfl, hB3⟩
            have HB3 := Lib.hid hB3
            have c2 := below_at hB3 c1 hlb
            clear hB3 c1
            go_wp2_with fail
            refine (hno _ _).mono ?_
            rintro e w4 ⟨rfl, rfl⟩
            go_wp2_with fail
            refine (hfd _ (HDN.out.below' HB3.out)).mono ?_
            rintro e w5 ⟨rfl, rfl⟩
            go_wp2_with fail
            refine (hys _ _).mono ?_
            rintro e w6 ⟨rfl, rfl⟩
            go_wp2_with fail
            refine ⟨rfl, HB.out.trans (HB'.out.trans (HB3.out.mono HB'.out.size) |>.mono HB.out.size), ?_⟩
            rw [HE.out]
          | some j =>
            rw [hf] at hres hfd
            have HE := Lib.hid hres
            clear hres hf
            go_wp2_with fail
            refine hk1.mono ?_
            clear hk1
            rintro e w3 ⟨rfl, hB3⟩
            have HB3 := Lib.hid hB3
            have c2 := below_at hB3 c1 hlb
            clear hB3 c1
            go_wp2_with fail
            refine (hno _ _).mono ?_
            rintro e w4 ⟨rfl, rfl⟩
            go_wp2_with fail
            refine (hfd _ (HDN.out.below' HB3.out)).mono ?_
            rintro e w5 ⟨rfl, rfl⟩
            go_wp2_with fail
            refine (hno _ _).mono ?_
            rintro e w6 ⟨rfl, rfl⟩
            go_wp2_with fail
            have hwr : wrap64 ((i : Int) + 1) = ((i + 1 : Nat) : Int) := by unfold wrap64; have := Hs8.out; omega
            go_roundg (l.length - (i + 1))
            case measure => omega
            case rel => exact ⟨i + 1, j, rfl, by omega, rfl, by rw [hwr], HE.out, HB'.out.trans (HB3.out.mono HB'.out.size)⟩
      · obtain rfl : i = l.length := by omega
        have hres := Hres.out
        rw [List.drop_length] at hres
        have HE := Lib.hid (HR.out.trans hres)
        clear hres Hres hlt
        go_wp2_with fail
        go_ret
        refine ⟨HB.out.trans (HB'.out.mono HB.out.size), ?_⟩
        rw [HE.out]
        rfl
end Go.Proofs.YtakbalmbkokklaaGreat
