/- the document's layout: a question -/
import Derived.Test.YtnojjohkpkmliaaGreatRLay5
import Derived.Test.YtnojjohkpkmliaaGreatLayRiseM
namespace Go.Proofs.YtnojjohkpkmliaaGreat
open Go.RowKit Esch
theorem rDo_any (k u e page z n : Int) (d : ByteArray) (q : Proj) (ca : Option Addr) (cc : Nat) (S S' : Nat → Prop) (w : World) (b : Nat) (s : LayS) (hs : s.ok) (hu : s.used.length ≤ 4000) (h : RLayAt S w b s) (hq : ListsAt S' w ca q.chains) (hd : ∀ k, S' k → k < w.heap.size → k ≠ b) :
    Calls Tryz.prog 44 #[.pointer (some ⟨b, 0, none⟩), .agg #[.int .i64 k, .int .i64 u, .int .i64 e, .int .i64 page, .int .i64 z, .int .i64 n, .string d, .int .i64 q.epoch, .slice ca q.chains.length cc]] w (RDoPost S w b (layDo s k q page z n)) := by
  by_cases h9 : k = 9
  · subst h9; exact rDo_9 u e page z n d q ca cc S w b s hs h
  · by_cases h10 : k = 10
    · subst h10
      cases hm : mayB s q
      · exact rDo_10n u e page z n d q ca cc S S' w b s hs h hq hm
      · exact rDo_10y u e page z n d q ca cc S S' w b s hs hu h hq hd hm
    · by_cases h11 : k = 11
      · subst h11
        by_cases hm : markBad page z n
        · exact rDo_11b u e page z n d q ca cc S w b s h hm
        · by_cases hn : s.n < n
          · exact rDo_11y u e page z n d q ca cc S w b s h hm hn
          · exact rDo_11n u e page z n d q ca cc S w b s h hm hn
      · exact rDo_other k u e page z n d q ca cc S w b s h ⟨h9, h10, h11⟩
/-- how many units were used -/
theorem layDo_used (s : LayS) (k : Int) (q : Proj) (page size n : Int) : (layDo s k q page size n).2.used.length ≤ s.used.length + 16 := by
  obtain ⟨-, ⟨-, h⟩ | ⟨hm, -, h⟩⟩ := layDo_rises s k q page size n
  · rw [h]; omega
  · rw [h, List.length_append]
    have := units_len (may_good hm).2.2.2.2.2.2.1
    omega
end Go.Proofs.YtnojjohkpkmliaaGreat
