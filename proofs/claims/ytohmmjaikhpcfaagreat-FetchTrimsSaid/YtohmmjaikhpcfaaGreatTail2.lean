/- the log's tail: what it hears -/
import Derived.Test.YtohmmjaikhpcfaaGreatTail
import Derived.Test.YtohmmjaikhpcfaaGreatPkApp
namespace Go.Proofs.YtohmmjaikhpcfaaGreat
open Go.RowKit Esch

def TaS.hear (s : TaS) (x : AnS) (heard : Bool) : TaS :=
  if s.at = 2 ∨ heard = false ∨ x.code = 45 ∨ x.code = 47 then s
  else if x.code = 40 then { s with «at» := 0 }
  else if s.at = 1 then
    (if x.code ≠ 0 then { s with «at» := 2, err := x.code } else if x.n < 0 ∨ 16384 < x.n then { s with «at» := 2, err := 1 } else { s with «at» := 2, err := 0, addr := x.n })
  else if x.code = 0 ∧ goodB x.p = true then { s with p := x.p, «at» := 1 }
  else s
theorem an_boxA (w : World) (x0 x1 x2 x3 x4 x5 x6 x7 : Value) : ∃ W, W = w.alloc (.cells #[x0, x1, x2, x3, x4, x5, x6, x7] 64) ∧ Below w.heap.size w W ∧ W.heap.size = w.heap.size + 1 ∧ W.cell? ⟨w.heap.size, 0, none⟩ = some x0 ∧ W.cell? ⟨w.heap.size, 1, none⟩ = some x1 ∧ W.cell? ⟨w.heap.size, 2, none⟩ = some x2 ∧ W.cell? ⟨w.heap.size, 3, none⟩ = some x3 ∧ W.cell? ⟨w.heap.size, 4, none⟩ = some x4 ∧ W.cell? ⟨w.heap.size, 5, none⟩ = some x5 ∧ W.cell? ⟨w.heap.size, 6, none⟩ = some x6 ∧ W.cell? ⟨w.heap.size, 7, none⟩ = some x7 :=
  ⟨_, rfl, by (repeat (first | with_reducible exact (Below.refl _ _) | with_reducible refine Below.drew ?_ | with_reducible refine Esch.below_drewN ?_ _ | with_reducible refine Below.setCell ?_ (by first | omega | (simp; done) | (simp; omega)) _ | with_reducible refine Below.alloc ?_ (by first | omega | (simp; done) | (simp; omega)) _)), by simp, by go_simp, by go_simp, by go_simp, by go_simp, by go_simp, by go_simp, by go_simp, by go_simp⟩
def QuietPost (w : World) (e : Ending) (w' : World) : Prop := e = .returned (.tuple #[]) ∧ Below w.heap.size w w'
def TailHearPost (w : World) (tb : Nat) (S : Nat → Prop) (s : TaS) (e : Ending) (w' : World) : Prop := e = .returned (.tuple #[]) ∧ TailAt w' tb (fun k => S k ∨ (w.heap.size ≤ k ∧ k < w'.heap.size)) s ∧ Mod (· = tb) w w'
theorem TailAt.post0 {w w' : World} {tb : Nat} {S : Nat → Prop} {s : TaS} (h : TailAt w tb S s) (hB : Below w.heap.size w w') {e : Ending} (he : e = .returned (.tuple #[])) : TailHearPost w tb S s e w' := ⟨he, (h.below hB).sub (fun _ _ hk => Or.inl hk), Mod.of_below hB⟩
section
variable {w : World} {tb : Nat} {S : Nat → Prop} {s : TaS} (x : AnS) (a : Option Addr) (c : Nat) (b : Bool)
/-- a tail whose where, address and error have been written -/
theorem TailAt.wrote {w' : World} {p2 a3 e4 : Int} (h : TailAt w tb S s) (hM : Mod (· = tb) w w') (c2 : w'.cell? ⟨tb, 2, none⟩ = some (.int .i64 p2)) (c3 : w'.cell? ⟨tb, 3, none⟩ = some (.int .i64 a3)) (c4 : w'.cell? ⟨tb, 4, none⟩ = some (.int .i64 e4)) (c0 : w'.cell? ⟨tb, 0, none⟩ = some (.int .i64 s.p.epoch))
    (c1 : w'.cell? ⟨tb, 1, none⟩ = w.cell? ⟨tb, 1, none⟩) (fr : ∀ o, w'.frozen? ⟨tb, o, none⟩ = w.frozen? ⟨tb, o, none⟩) {e : Ending} (he : e = .returned (.tuple #[])) : TailHearPost w tb S ⟨s.p, p2, a3, e4⟩ e w' := by
  obtain ⟨ca, cc, h1, h2⟩ := h.c1
  exact ⟨he, ⟨c0, ⟨ca, cc, c1.trans h1, (h2.sub (fun k _ hk => ⟨Or.inl hk.1, hk.2⟩)).mod hM (fun k hk _ => hk.2)⟩, c2, c3, c4, fun o ho => (fr o).trans (h.fr o ho), Or.inl h.sb, h.small⟩, hM⟩
end
end Go.Proofs.YtohmmjaikhpcfaaGreat
