/- a hand and an append side by side, each in blocks of its own -/
import Derived.Test.YtghdhhbpbmhooaaGreatPkRe2
namespace Go.Proofs.YtghdhhbpbmhooaaGreat
open Go.RowKit Esch

structure Ah1 (w0 : World) (c hb ab : Nat) (V S : Nat → Prop) (s : HdS × ApS) (w : World) : Prop where
  hd : Hd1 w0 c hb V s.1 w
  ap : ApAt w ab S s.2
  ok : s.2.ok
  sl : ∀ k, S k → w0.heap.size ≤ k ∧ k < w.heap.size
  no : ∀ k, V k → ¬ S k
section
variable {w0 w : World} {c hb ab : Nat} {V S : Nat → Prop} {s : HdS × ApS}
theorem Ah1.mod {F : Nat → Prop} {w' : World} (h : Ah1 w0 c hb ab V S s w) (hM : Mod F w w') (hF : ∀ k, V k → ¬ F k) (hS : ∀ k, S k → ¬ F k) (hw : ∀ k, k < w0.heap.size → ¬ F k) : Ah1 w0 c hb ab V S s w' :=
  ⟨h.hd.mod hM hF hw, h.ap.mod hM (fun k hk _ => hS k hk), h.ok, fun k hk => ⟨(h.sl k hk).1, Nat.lt_of_lt_of_le (h.sl k hk).2 hM.size⟩, h.no⟩
theorem Ah1.below' {w' : World} (h : Ah1 w0 c hb ab V S s w) (hB : Below w.heap.size w w') : Ah1 w0 c hb ab V S s w' := h.mod (F := none') (Mod.of_below hB) (fun _ _ => id) (fun _ _ => id) (fun _ _ => id)
theorem Ah1.more (h : Ah1 w0 c hb ab V S s w) {c' : Nat} (hc : c ≤ c') : Ah1 w0 c' hb ab V S s w := ⟨h.hd.more hc, h.ap, h.ok, h.sl, h.no⟩
theorem Ah1.cast {s' : HdS × ApS} (h : Ah1 w0 c hb ab V S s w) (e : s' = s) : Ah1 w0 c hb ab V S s' w := by rw [e]; exact h
/-- the hand has changed -/
theorem Ah1.hand {w' : World} {c' : Nat} {hd' : HdS} (h : Ah1 w0 c hb ab V S s w) (hH : Hd1 w0 c' hb (grow V w w') hd' w') (hM : Mod V w w') : Ah1 w0 c' hb ab (grow V w w') S (hd', s.2) w' := by
  have hz := hM.size
  refine ⟨hH, h.ap.mod hM (fun k hk _ e => h.no k e hk), h.ok, fun k hk => ⟨(h.sl k hk).1, Nat.lt_of_lt_of_le (h.sl k hk).2 hz⟩, fun k hk hS => ?_⟩
  rcases hk with hk | hk
  · exact h.no k hk hS
  · have := (h.sl k hS).2; omega
/-- the append has changed -/
theorem Ah1.chg {w' : World} {a' : ApS} (h : Ah1 w0 c hb ab V S s w) (hR : ApAt w' ab (fun k => S k ∨ (w.heap.size ≤ k ∧ k < w'.heap.size)) a') (hk : a'.ok) (hM : Mod (· = ab) w w') : Ah1 w0 c hb ab V (fun k => S k ∨ (w.heap.size ≤ k ∧ k < w'.heap.size)) (s.1, a') w' := by
  have hz := hM.size
  have hB := h.hd.below.size
  have hab := (h.sl ab h.ap.sb).1
  refine ⟨h.hd.mod hM (fun k hk e => ?_) (fun k hk e => ?_), hR, hk, fun k hk => ?_, fun k hk hS => ?_⟩
  · have e : k = ab := e; subst e; exact h.no k hk h.ap.sb
  · have e : k = ab := e; omega
  · rcases hk with hk | hk
    · exact ⟨(h.sl k hk).1, Nat.lt_of_lt_of_le (h.sl k hk).2 hz⟩
    · exact ⟨by omega, hk.2⟩
  · rcases hS with hS | hS
    · exact h.no k hk hS
    · have := h.hd.lt k hk; omega
end
/-- a round: what it asks is heard; where it asks nothing nothing is done -/
def ahTurn (s : HdS × ApS) : HdS × ApS := if s.2.at = 5 then s else apTurn s 0
def ahIt (s : HdS × ApS) : Nat → HdS × ApS
  | 0 => s
  | i + 1 => ahTurn (ahIt s i)
end Go.Proofs.YtghdhhbpbmhooaaGreat
