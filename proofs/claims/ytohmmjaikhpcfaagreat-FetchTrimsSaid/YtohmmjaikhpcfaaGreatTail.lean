/- the log's tail that is asked for -/
import Derived.Test.YtohmmjaikhpcfaaGreatPkHand
namespace Go.Proofs.YtohmmjaikhpcfaaGreat
open Go.RowKit Esch

structure TaS where
  p : Proj
  «at» : Int
  addr : Int
  err : Int
structure TailAt (w : World) (tb : Nat) (S : Nat → Prop) (s : TaS) : Prop where
  c0 : w.cell? ⟨tb, 0, none⟩ = some (.int .i64 s.p.epoch)
  c1 : ∃ a c, w.cell? ⟨tb, 1, none⟩ = some (.slice a s.p.chains.length c) ∧ ListsAt (fun k => S k ∧ k ≠ tb) w a s.p.chains
  c2 : w.cell? ⟨tb, 2, none⟩ = some (.int .i64 s.at)
  c3 : w.cell? ⟨tb, 3, none⟩ = some (.int .i64 s.addr)
  c4 : w.cell? ⟨tb, 4, none⟩ = some (.int .i64 s.err)
  fr : ∀ o, o < 5 → w.frozen? ⟨tb, o, none⟩ = false
  sb : S tb
  small : Small s.p.chains
theorem TailAt.lt {w : World} {tb : Nat} {S : Nat → Prop} {s : TaS} (h : TailAt w tb S s) : tb < w.heap.size := cell_lt h.c0
theorem TailAt.mod {F S : Nat → Prop} {w w' : World} {tb : Nat} {s : TaS} (h : TailAt w tb S s) (hM : Mod F w w') (hF : ∀ k, S k → k < w.heap.size → ¬ F k) : TailAt w' tb S s := by
  have hl := h.lt
  have hb := hF tb h.sb hl
  obtain ⟨a, c, h1, h2⟩ := h.c1
  exact ⟨hM.at h.c0 hb, ⟨a, c, hM.at h1 hb, h2.mod hM (fun k hk hl => hF k hk.1 hl)⟩, hM.at h.c2 hb, hM.at h.c3 hb, hM.at h.c4 hb, fun o ho => (hM.frozen (p := ⟨tb, o, none⟩) hl hb).trans (h.fr o ho), h.sb, h.small⟩
theorem TailAt.below {S : Nat → Prop} {w w' : World} {tb : Nat} {s : TaS} (h : TailAt w tb S s) (hB : Below w.heap.size w w') : TailAt w' tb S s := h.mod (F := none') (Mod.of_below hB) (fun _ _ _ => id)
theorem TailAt.sub {S S' : Nat → Prop} {w : World} {tb : Nat} {s : TaS} (h : TailAt w tb S s) (hS : ∀ k, k < w.heap.size → S k → S' k) : TailAt w tb S' s := by
  obtain ⟨a, c, h1, h2⟩ := h.c1
  exact ⟨h.c0, ⟨a, c, h1, h2.sub (fun k hk hs => ⟨hS k hk hs.1, hs.2⟩)⟩, h.c2, h.c3, h.c4, h.fr, hS tb h.lt h.sb, h.small⟩
def ta0 (q : Proj) : TaS := if goodB q then ⟨q, 1, 0, 0⟩ else ⟨q, 2, 0, 1⟩
def TailNewPost (w : World) (q : Proj) (e : Ending) (w' : World) : Prop := ∃ tb, e = .returned (.pointer (some ⟨tb, 0, none⟩)) ∧ TailAt w' tb (From w.heap.size) (ta0 q) ∧ Below w.heap.size w w'
/-- its question -/
def TaS.ask (s : TaS) : QS × Bool := if s.at = 2 then (qz, false) else if s.at = 0 then (⟨9, 0, 0, 0, 0, 0, ⟨#[]⟩, Esch.p0⟩, true) else (⟨7, 0, s.p.epoch, 0, 0, 0, ⟨#[]⟩, Esch.p0⟩, true)
end Go.Proofs.YtohmmjaikhpcfaaGreat
