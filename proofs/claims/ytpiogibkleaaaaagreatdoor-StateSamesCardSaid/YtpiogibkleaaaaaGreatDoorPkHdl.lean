import Derived.Test.YtpiogibkleaaaaaGreatDoorPkDir
import Derived.Test.YtpiogibkleaaaaaGreatDoorShelf4
import Derived.StillTailTactics
import Derived.Deep.DrawnRows
import Derived.Shelf.SlSortCmp.NoneTotal
/- package handle: the map's keys; New, client, Of, Close, Lease -/
namespace Esch
open Go Go.RowKit
abbrev HK := Int × Int
abbrev Hd := HK × Int
structure HdS where
  m : List Hd
  ls : List Int
def kH (k : HK) : Value := .agg #[.int .i64 k.1, .int .i64 k.2]
section
variable {P : Program} {t e : TypeId}
end
/-- handles and leases as they lie -/
structure HdlAt (w : World) (b : Nat) (S : Nat → Prop) (s : HdS) : Prop where
  sb : S b
  lt : ∀ k, S k → k < w.heap.size
  len : s.ls.length = 8
  ex : ∃ mb, w.cell? ⟨b, 0, none⟩ = some (.map (some mb)) ∧ (∀ i, i < 8 → w.cell? ⟨b, 1 + i, none⟩ = some (.int .i64 (s.ls.getD i 0)) ∧ w.frozen? ⟨b, 1 + i, none⟩ = false) ∧ MpAt w mb kH iV s.m ∧ S mb ∧ mb ≠ b
theorem HdlAt.mod {w w' : World} {b : Nat} {S F : Nat → Prop} {s : HdS} (h : HdlAt w b S s) (hM : Mod F w w') (hF : ∀ k, S k → ¬ F k) : HdlAt w' b S s := by
  obtain ⟨sb, lt, ln, mb, c0, c1, hm, sm, n1⟩ := h
  exact ⟨sb, fun k hk => Nat.lt_of_lt_of_le (lt k hk) hM.size, ln, mb, hM.at c0 (hF b sb), fun i hi => ⟨hM.at (c1 i hi).1 (hF b sb), (hM.frozen (p := ⟨b, 1 + i, none⟩) (cell_lt c0) (hF b sb)).trans (c1 i hi).2⟩, hm.mod hM (hF mb sm), sm, n1⟩
theorem HdlAt.below' {w w' : World} {b : Nat} {S : Nat → Prop} {s : HdS} (h : HdlAt w b S s) (hB : Below w.heap.size w w') : HdlAt w' b S s := h.mod (F := none') (Mod.of_below hB) fun _ _ => id
def clientB (c : Int) : Bool := decide (0 ≤ c) && decide (c < 8)
def HdS.of (s : HdS) (c n : Int) : Option Int := get s.m (c, n)
def HdS.close (s : HdS) (c n : Int) : (Int × Int) × HdS := match s.of c n with
  | none => ((0, 68), s)
  | some i => ((i, 0), { s with m := del s.m (c, n) })
def HdS.renew (s : HdS) (c t : Int) : Int × HdS := if clientB c = false ∨ t < 0 ∨ 1099511627776 < t then (1, s) else (0, { s with ls := s.ls.set c.toNat (max (s.ls.getD c.toNat 0) t) })
def hd0 : HdS := ⟨[], List.replicate 8 0⟩
end Esch
namespace Go.Proofs.YtpiogibkleaaaaaGreatDoor
open Go.RowKit Esch Go.Shelf

set_option maxHeartbeats 1000000 in
theorem hdlNew_any (w : World) : Calls Tryz.prog 52 #[] w fun e w' => ∃ b, e = .returned (.pointer (some ⟨b, 0, none⟩)) ∧ HdlAt w' b (fun k => w.heap.size ≤ k ∧ k < w'.heap.size) hd0 ∧ Below w.heap.size w w' := by
  have hmm := @run_makeMap Tryz.prog
  go_enter Tryz.func52, Tryz.ntmps52
  go_wp2_with fail
  go_ret
  refine ⟨w.heap.size + 1, rfl, ⟨⟨by omega, by simp⟩, fun k hk => hk.2, rfl, w.heap.size, by go_simp, fun i hi => ?_, ⟨#[], 0, ?_, rfl, List.nodup_nil, List.Pairwise.nil, fun e h => by simp at h⟩, ⟨Nat.le_refl _, by simp; omega⟩, by omega⟩, by exact belC (Below.refl _ _)⟩
  · have : i = 0 ∨ i = 1 ∨ i = 2 ∨ i = 3 ∨ i = 4 ∨ i = 5 ∨ i = 6 ∨ i = 7 := by omega
    rcases this with rfl | rfl | rfl | rfl | rfl | rfl | rfl | rfl <;> exact ⟨by go_simp; rfl, by go_simp⟩
  · rw [alloc_old _ _ _ (by simp), alloc_new]
theorem _root_.Esch.HdlAt.put {w W : World} {b mb : Nat} {S : Nat → Prop} {s : HdS} {m' : List Hd} (h : HdlAt w b S s) (c0 : w.cell? ⟨b, 0, none⟩ = some (.map (some mb))) (hM : Mod (· = mb) w W) (hm : MpAt W mb kH iV m') : HdlAt W b S { s with m := m' } ∧ Mod S w W := by
  obtain ⟨sb, lt, ln, mb', d0, c1, -, sm, n1⟩ := h
  obtain rfl : mb' = mb := by rw [d0] at c0; cases c0; rfl
  have hb : ¬ b = mb' := fun e => n1 e.symm
  exact ⟨⟨sb, fun k hk => Nat.lt_of_lt_of_le (lt k hk) hM.size, ln, mb', hM.at d0 hb, fun i hi => ⟨hM.at (c1 i hi).1 hb, (hM.frozen (p := ⟨b, 1 + i, none⟩) (cell_lt d0) hb).trans (c1 i hi).2⟩, hm, sm, n1⟩, hM.mono fun k _ hk => by rcases hk with rfl; assumption⟩
end Go.Proofs.YtpiogibkleaaaaaGreatDoor
/- package handle: Lease, Renew -/
namespace Go.Proofs.YtpiogibkleaaaaaGreatDoor
open Go.RowKit Esch Go.Shelf

end Go.Proofs.YtpiogibkleaaaaaGreatDoor
/- package handle: All, in order -/
namespace Esch
open Go Go.RowKit
def hkLt (a b : HK) : Bool := decide (a.1 < b.1) || (decide (a.1 = b.1) && decide (a.2 < b.2))
def hdLt (x y : Hd) : Bool := hkLt x.1 y.1
def hdC (e : Hd) : List Value := [.int .i64 e.1.1, .int .i64 e.1.2, .int .i64 e.2]
end Esch
namespace Go.Proofs.YtpiogibkleaaaaaGreatDoor
open Go.RowKit Esch Go.Shelf

end Go.Proofs.YtpiogibkleaaaaaGreatDoor
