import Derived.Test.YtdbhbdlljgaleaaGreatDoorPkOpB
import Derived.Test.YtdbhbdlljgaleaaGreatDoorPkExt
import Derived.Test.YtdbhbdlljgaleaaGreatDoorPkBase
/- package op: get, a field of a text -/
namespace Esch
open Go Go.RowKit
def OpS.withM (o : OpS) (mp : Option Addr) (ml mc : Nat) : OpS := { o with mp := mp, ml := ml, mc := mc }
/-- a record that is being read: its moves lie in blocks of S -/
def OpBox (w : World) (b : Nat) (S : Nat → Prop) (o : OpS) (mv : List Mv) : Prop := ∃ mp mc, OpAt w b (o.withM mp mv.length mc) ∧ GRowAt w S 4 mv.length mc mp (mv.flatMap mvC)
theorem OpAt.mod {F : Nat → Prop} {w w' : World} {b : Nat} {o : OpS} (h : OpAt w b o) (hM : Mod F w w') (hb : ¬ F b) : OpAt w' b o := by
  have hl : b < w.heap.size := cell_lt (h.1 0 (by decide))
  exact ⟨fun j hj => (hM.cell (p := ⟨b, j, none⟩) hl hb).trans (h.1 j hj), fun j => (hM.frozen (p := ⟨b, j, none⟩) hl hb).trans (h.2 j)⟩
theorem OpBox.mod {F S : Nat → Prop} {w w' : World} {b : Nat} {o : OpS} {mv : List Mv} (h : OpBox w b S o mv) (hM : Mod F w w') (hb : ¬ F b) (hS : ∀ k, S k → ¬ F k) : OpBox w' b S o mv := by
  obtain ⟨mp, mc, h1, h2⟩ := h
  exact ⟨mp, mc, h1.mod hM hb, h2.mod hM (fun k hk _ => hS k hk)⟩
theorem OpBox.set {S : Nat → Prop} {w : World} {b : Nat} {o o' : OpS} {mv : List Mv} (h : OpBox w b S o mv) (hS : ¬ S b) (j : Nat) (v : Value) (hj : j < 12) (hv : ∀ mp ml mc, (o'.withM mp ml mc).cells = (o.withM mp ml mc).cells.set j v) : OpBox (w.setCell ⟨b, j, none⟩ v) b S o' mv := by
  obtain ⟨mp, mc, h1, h2⟩ := h
  exact ⟨mp, mc, h1.set j v hj (hv _ _ _), h2.mod (F := (· = b)) ((Mod.refl (· = b) w).setCellAt (fun _ => rfl) _) (fun k hk _ e => hS (by rw [← e]; exact hk))⟩
theorem OpBox.wide {S T : Nat → Prop} {w : World} {b : Nat} {o : OpS} {mv : List Mv} (h : OpBox w b S o mv) (hS : ∀ k, S k → T k) : OpBox w b T o mv := by
  obtain ⟨mp, mc, h1, h2⟩ := h
  exact ⟨mp, mc, h1, h2.sub fun k _ hk => hS k hk⟩
end Esch
namespace Go.Proofs.YtdbhbdlljgaleaaGreatDoor
open Go.RowKit Esch

def unMv (s : ByteArray) (bad : Bool) : Mv × ByteArray × Bool :=
  let a := unNum s bad 2
  let b := unNum a.2.1 a.2.2 2
  let c := unNum b.2.1 b.2.2 2
  let d := unNum c.2.1 c.2.2 2
  ((a.1, b.1, c.1, d.1), d.2)
def unMvs : Nat → List Mv → ByteArray → Bool → List Mv × ByteArray × Bool
  | 0, l, s, b => (l, s, b)
  | n + 1, l, s, b => unMvs n (l ++ [(unMv s b).1]) (unMv s b).2.1 (unMv s b).2.2
/-- one field of a text, by its letter -/
def getF (o : OpS) (mv : List Mv) (s : ByteArray) (bad : Bool) (c : UInt8) : (OpS × List Mv) × ByteArray × Bool :=
  if c = 112 then (({ o with path := (unText s bad 4096).1.data.toList }, mv), (unText s bad 4096).2)
  else if c = 116 then (({ o with dest := (unText s bad 4096).1.data.toList }, mv), (unText s bad 4096).2)
  else if c = 100 then (({ o with data := (unText s bad 1024).1 }, mv), (unText s bad 1024).2)
  else if c = 107 then (({ o with tick := (unNum s bad 8).1 }, mv), (unNum s bad 8).2)
  else if c = 109 then ((o, (unMvs (min (unNum s bad 1).1 17) mv (unNum s bad 1).2.1 (unNum s bad 1).2.2).1), (unMvs (min (unNum s bad 1).1 17) mv (unNum s bad 1).2.1 (unNum s bad 1).2.2).2)
  else if c = 115 then (({ o with size := (unNum s bad 4).1 }, mv), (unNum s bad 4).2)
  else if c = 104 then (({ o with hd := (unNum s bad 4).1 }, mv), (unNum s bad 4).2)
  else if c = 111 then (({ o with off := (unNum s bad 4).1 }, mv), (unNum s bad 4).2)
  else if c = 105 then (({ o with ino := (unNum s bad 4).1 }, mv), (unNum s bad 4).2)
  else ((o, mv), s, bad)
def GetFPost (w : World) (ub ob : Nat) (S : Nat → Prop) (r : (OpS × List Mv) × ByteArray × Bool) (e : Ending) (w' : World) : Prop :=
  e = .returned (.tuple #[]) ∧ UnpAt w' ub r.2.1 r.2.2 ∧ OpBox w' ob (growI S w w') r.1.1 r.1.2 ∧ Mod (fun k => k = ub ∨ k = ob ∨ S k) w w'
end Go.Proofs.YtdbhbdlljgaleaaGreatDoor
/- package op: get, the moves -/
namespace Esch
open Go Go.RowKit
theorem mvC_one (m : Mv) : ∀ u ∈ mvC m, u.oneCell' = true := fun u hu => by
  simp only [mvC, List.mem_cons, List.not_mem_nil, or_false] at hu
  rcases hu with rfl | rfl | rfl | rfl <;> rfl
theorem src_mv {P : Program} {W : World} (tx e' : TypeId) (hk : P.underlying tx = some (.slice e')) (b : Nat) (x : Mv) (t : TypeId) (hb : W.heap[b]? = some (.cells (mvC x).toArray t)) (c : Nat) : Src P 4 tx (.slice (some ⟨b, 0, none⟩) 1 c) 1 (mvC x) W := by
  refine Src.ofSlice W hk _ 1 c (mvC x) rfl (fun j u hu => ?_) (mvC_one x)
  rw [addr_add, Nat.zero_add]
  simp [World.cell?, hb, hu]
end Esch
namespace Go.Proofs.YtdbhbdlljgaleaaGreatDoor
open Go.RowKit Esch

theorem Tryz.infoMv : (Tryz.prog.info? 69).map (fun i => (i.zero, i.size, i.bytes)) = some (some (.agg #[.int .i64 0, .int .i64 0, .int .i64 0, .int .i64 0]), 4, 32) := by kernel_rfl
theorem UnpAt.mod {F : Nat → Prop} {w w' : World} {b : Nat} {s : ByteArray} {bad : Bool} (h : UnpAt w b s bad) (hM : Mod F w w') (hb : ¬ F b) : UnpAt w' b s bad :=
  ⟨hM.at h.c0 hb, hM.at h.c1 hb, (hM.frozen (p := ⟨b, 0, none⟩) (cell_lt h.c0) hb).trans h.f0, (hM.frozen (p := ⟨b, 1, none⟩) (cell_lt h.c0) hb).trans h.f1, h.size⟩
theorem unMvs_len : ∀ (n : Nat) (l : List Mv) (s : ByteArray) (b : Bool), (unMvs n l s b).1.length = l.length + n
  | 0, _, _, _ => rfl
  | n + 1, l, s, b => by rw [unMvs, unMvs_len n]; simp; omega
def MvRel (w1 : World) (ub ob : Nat) (S : Nat → Prop) (o : OpS) (l : List Mv) (s : ByteArray) (bad : Bool) (n : Nat) (g : Nat) (v : Value) (wr : World) : Prop :=
  ∃ (i : Nat) (mv : List Mv) (s1 : ByteArray) (b1 : Bool), g = n - i ∧ i ≤ n ∧ v = .int .i64 i ∧ unMvs (n - i) mv s1 b1 = unMvs n l s bad ∧ mv.length = l.length + i ∧ UnpAt wr ub s1 b1 ∧ OpBox wr ob (growI S w1 wr) o mv ∧ Mod (fun k => k = ub ∨ k = ob ∨ S k) w1 wr
end Go.Proofs.YtdbhbdlljgaleaaGreatDoor
