/- a hand whose sequencer and layout are known -/
import Derived.Test.YthdgochecdobnaaGreatTail4
namespace Go.Proofs.YthdgochecdobnaaGreat
open Go.RowKit Esch

/-- a question to the sequencer, or to the layout -/
def olDo (o : Ord) (l : LayS) (q : QS) : AnS × Ord × LayS :=
  if q.kind ≤ 8 then (⟨(ordDo o q.kind q.epoch q.page).1, (ordDo o q.kind q.epoch q.page).2.1, ⟨#[]⟩, p0, 0, 0, (ordDo o q.kind q.epoch q.page).2.2.epoch⟩, (ordDo o q.kind q.epoch q.page).2.2, l)
  else (⟨(layDo l q.kind q.p q.page q.size q.n).1.code, (layDo l q.kind q.p q.page q.size q.n).1.n, ⟨#[]⟩, (layDo l q.kind q.p q.page q.size q.n).1.p, (layDo l q.kind q.p q.page q.size q.n).1.mark, (layDo l q.kind q.p q.page q.size q.n).1.size, 0⟩, o, (layDo l q.kind q.p q.page q.size q.n).2)
theorem do_ol {s : NdS} {q : QS} (hk : 6 ≤ q.kind ∧ q.kind ≤ 11) : s.do q = ((olDo s.o s.l q).1, { s with o := (olDo s.o s.l q).2.1, l := (olDo s.o s.l q).2.2 }) := by
  unfold NdS.do olDo
  rw [if_neg (by omega)]
  by_cases h8 : q.kind ≤ 8
  · rw [if_pos ⟨hk.1, h8⟩, if_pos h8]
  · rw [if_neg (by omega), if_pos ⟨by omega, hk.2⟩, if_neg h8]
structure HL (w0 : World) (c hb : Nat) (U : Nat → Prop) (o : Ord) (l : LayS) (w : World) : Prop where
  at' : ∃ T s, HandAt w hb U T s ∧ T ≤ 16 * (c + 1) ∧ s.nd.o = o ∧ s.nd.l = l
  old : ∀ k, U k → w0.heap.size ≤ k
  below : Below w0.heap.size w0 w
theorem HL.lt {w0 w : World} {c hb : Nat} {U : Nat → Prop} {o : Ord} {l : LayS} (h : HL w0 c hb U o l w) : ∀ k, U k → k < w.heap.size := by
  obtain ⟨T, s, hH, -⟩ := h.at'
  exact hH.lt
theorem HL.mod {F : Nat → Prop} {w0 w w' : World} {c hb : Nat} {U : Nat → Prop} {o : Ord} {l : LayS} (h : HL w0 c hb U o l w) (hM : Mod F w w') (hF : ∀ k, U k → ¬ F k) (hw : ∀ k, k < w0.heap.size → ¬ F k) : HL w0 c hb U o l w' := by
  obtain ⟨⟨T, s, hH, h1⟩, h2, h3⟩ := h
  exact ⟨⟨T, s, hH.mod hM hF, h1⟩, h2, h3.trans (hM.below_at h3.size hw)⟩
theorem HL.below' {w0 w w' : World} {c hb : Nat} {U : Nat → Prop} {o : Ord} {l : LayS} (h : HL w0 c hb U o l w) (hB : Below w.heap.size w w') : HL w0 c hb U o l w' := h.mod (F := none') (Mod.of_below hB) (fun _ _ => id) (fun _ _ => id)
theorem HL.start {w0 W w : World} {hb : Nat} {q : Proj} {room : Nat} (h : HandAt w hb (grow none' W w) 16 ⟨nd0 q room, []⟩) (hB0 : Below w0.heap.size w0 W) (hB : Below W.heap.size W w) : HL w0 0 hb (grow none' W w) ⟨q.epoch, true, 0⟩ (lay0 q) w :=
  ⟨⟨16, _, h, by omega, rfl, rfl⟩, fun k hk => by have := hB0.size; rcases hk with hk | hk; exact hk.elim; omega, hB0.trans (hB.mono hB0.size)⟩
def HLPost (w0 : World) (c hb : Nat) (U : Nat → Prop) (w : World) (r : AnS × Ord × LayS) (e : Ending) (w' : World) : Prop := ∃ a ac, e = .returned (.tuple #[aV r.1 a ac, .bool true]) ∧ ListsAt (From w.heap.size) w' a r.1.p.chains ∧ HL w0 c hb (grow U w w') r.2.1 r.2.2 w' ∧ Mod U w w'
theorem hl_heard {w0 w : World} {c hb : Nat} {U : Nat → Prop} {o : Ord} {l : LayS} (h : HL w0 c hb U o l w) (hc : c < 1000) (q : QS) (hk : 6 ≤ q.kind ∧ q.kind ≤ 11) (ca : Option Addr) (cc : Nat) (hd : q.data.size ≤ 9223372036854775807) (S' : Nat → Prop) (hq : ListsAt S' w ca q.p.chains) (hS : ∀ k, S' k → k < w.heap.size → ¬ U k) :
    Calls Tryz.prog 18 #[.pointer (some ⟨hb, 0, none⟩), qV q ca cc, .int .i64 0] w (HLPost w0 (c + 1) hb U w (olDo o l q)) := by
  obtain ⟨T, s, hH, hT, ho, hl⟩ := h.at'
  refine (handAsk_heard q ca cc hH (by omega) hd S' hq hS).mono ?_
  rw [do_ol hk, ho, hl]
  rintro e w' ⟨a, c', rfl, hl', hH', hM⟩
  exact ⟨a, c', rfl, hl', ⟨⟨_, _, hH', by omega, rfl, rfl⟩, fun k hk => hk.elim (h.old k) (fun e => by have := h.below.size; omega), h.below.trans (hM.below_at h.below.size (fun k hk e => by have := h.old k e; omega))⟩, hM⟩
/-- nodes of a hand, whatever has become of them -/
theorem HandIn.setNd' {Un V C U : Nat → Prop} {w w' : World} {hb nb cap T T' : Nat} {ao : Option Addr} {es : List HeldQ} {s : HdS} {n : NdS} (h : HandIn w hb nb Un V C ao cap es T s) (h1 : ∀ k, Un k → U k) (h2 : ∀ k, k < w.heap.size → V k ∨ C k → U k) (h3 : U hb) (hl : ∀ k, U k → k < w.heap.size)
    (hn : Nd w' nb Un T' n) (hM : Mod Un w w') : HandAt w' hb U T' { s with nd := n } := by
  have hz := hM.size
  refine ⟨⟨nb, Un, fun k => V k ∧ k < w.heap.size, fun k => C k ∧ k < w.heap.size, ao, cap, es, ⟨hM.at h.c0 h.hu, hM.at h.c1 h.hu, (hM.frozen (p := ⟨hb, 1, none⟩) (cell_lt h.c0) h.hu).trans h.f1, hn, (h.row.sub (fun k hk hv => ⟨hv, hk⟩)).mod hM (fun k hk _ => h.apart k hk.2 hk.1), h.held, fun e he => ?_, fun k _ hk => h.apart k hk.2 hk.1, fun k _ hk => h.apartC k hk.2 hk.1, fun k _ hk e => h.apartV k hk.2 hk.1 e.1, h.hu, fun e => h.hv e.1, fun e => h.hc e.1, h.most⟩, h1, fun k _ hk => hk.elim (fun hk => h2 k hk.2 (Or.inl hk.1)) (fun hk => h2 k hk.2 (Or.inr hk.1)), h3⟩, fun k hk => Nat.lt_of_lt_of_le (hl k hk) hz⟩
  obtain ⟨g1, g2, g3⟩ := h.each e he
  exact ⟨(g1.sub (fun k hk hv => ⟨hv, hk⟩)).mod hM (fun k hk _ => h.apartC k hk.2 hk.1), g2, g3⟩
/-- the sequencer of a hand's nodes -/
theorem Nd.order {w : World} {nb T : Nat} {U : Nat → Prop} {s : NdS} (h : Nd w nb U T s) : ∃ ob, OrdAt w ob s.o ∧ U ob ∧ (Calls Tryz.prog 22 #[.pointer (some ⟨nb, 0, none⟩)] w fun e w' => e = .returned (.pointer (some ⟨ob, 0, none⟩)) ∧ w' = w) ∧
    ∀ w' o', OrdAt w' ob o' → o'.ok → Mod (· = ob) w w' → Nd w' nb U T { s with o := o' } := by
  obtain ⟨⟨g, cap, ob, lb, lm, ub, pb, mb, D, hN, hU⟩, hlt⟩ := h
  have hol := hN.ord.lt
  refine ⟨ob, hN.ord, hU ob hol (by rw [hN.dord]; omega), rpcOrder_any hN, fun w' o' ho hok hM => ?_⟩
  have hz := hM.size
  refine ⟨⟨g, cap, ob, lb, lm, ub, pb, mb, fun k => if k < w.heap.size then D k else 99, ?_, fun k hk hd => ?_⟩, fun k hk => Nat.lt_of_lt_of_le (hlt k hk) hz⟩
  · exact (hN.relabel (D' := fun k => if k < w.heap.size then D k else 99) (fun k hk => if_pos hk)).setOrd ho hok hM
  · by_cases e : k < w.heap.size
    · simp only [if_pos e] at hd; exact hU k e hd
    · simp only [if_neg e] at hd; omega
end Go.Proofs.YthdgochecdobnaaGreat
