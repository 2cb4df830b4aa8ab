/- the document's unit: any question -/
import Derived.Test.YtnojjohkpkmliaaGreatRUnit
namespace Go.Proofs.YtnojjohkpkmliaaGreat
open Go.RowKit Esch

theorem RUnAt.same {S : Nat → Prop} {w w' : World} {u pb : Nat} {s : UnS} (h : RUnAt w u pb S s) (hB : Below w.heap.size w w') : RUnAt w' u pb (fun k => S k ∨ w.heap.size ≤ k) s := by
  have hl := h.lt
  have hpl := h.pg.lt
  exact (h.mod (F := none') (Mod.of_below hB) id id (fun _ _ _ => id)).sub (fun _ _ hk => Or.inl hk) (fun hk => by
    rcases hk with hk | hk
    · exact h.su hk
    · omega) (fun hk => by
    rcases hk with hk | hk
    · exact h.sp hk
    · omega)
theorem RUnAt.fin {S : Nat → Prop} {w w' : World} {u pb : Nat} {s : UnS} (h : RUnAt w u pb S s) (hB : Below w.heap.size w w') {c ep : Int} : RUnPost w u pb S ((c, 0, ⟨#[]⟩, ep), s) (.returned (ansU c 0 ⟨#[]⟩ ep)) w' := ⟨rfl, h.same hB, Mod.of_below hB⟩
section
variable (x1 x4 x5 x7 : Int) (ca : Option Addr) (cn cc : Nat)
set_option maxRecDepth 100000 in
set_option maxHeartbeats 2000000 in
theorem rdo_down {w : World} {u pb : Nat} {S : Nat → Prop} {s : UnS} (h : RUnAt w u pb S s) (hdn : s.down = true) (k ep page : Int) (d : ByteArray) :
    Calls Tryz.prog 43 #[.pointer (some ⟨u, 0, none⟩), .agg #[.int .i64 k, .int .i64 x1, .int .i64 ep, .int .i64 page, .int .i64 x4, .int .i64 x5, .string d, .int .i64 x7, .slice ca cn cc]] w
      (RUnPost w u pb S ((45, 0, ⟨#[]⟩, 0), s)) := by
  have H := Lib.hid h
  have c2 := h.c2
  rw [hdn] at c2
  have hl := h.lt
  clear h
  go_enter Tryz.func43, Tryz.ntmps43
  go_wp2_with fail
  refine bodyPost_ret (v := ansU 45 0 ⟨#[]⟩ (0)) (by simp only [results, Tryz.results43, ansU]; go_simp) rfl ?_
  exact H.out.fin (by (repeat (first | with_reducible exact (Below.refl _ _) | with_reducible refine Below.drew ?_ | with_reducible refine Esch.below_drewN ?_ _ | with_reducible refine Below.setCell ?_ (by first | omega | (simp; done) | (simp; omega)) _ | with_reducible refine Below.alloc ?_ (by first | omega | (simp; done) | (simp; omega)) _)))
set_option maxRecDepth 100000 in
set_option maxHeartbeats 2000000 in
theorem rdo_bad {w : World} {u pb : Nat} {S : Nat → Prop} {s : UnS} (h : RUnAt w u pb S s) (hdn : s.down = false) (k ep page : Int) (hk : k < 1 ∨ 5 < k) (d : ByteArray) :
    Calls Tryz.prog 43 #[.pointer (some ⟨u, 0, none⟩), .agg #[.int .i64 k, .int .i64 x1, .int .i64 ep, .int .i64 page, .int .i64 x4, .int .i64 x5, .string d, .int .i64 x7, .slice ca cn cc]] w
      (RUnPost w u pb S ((1, 0, ⟨#[]⟩, s.epoch), s)) := by
  have H := Lib.hid h
  have c1 := h.c1
  have c2 := h.c2
  rw [hdn] at c2
  have hl := h.lt
  clear h hdn
  rcases hk with hk | hk
  · go_enter Tryz.func43, Tryz.ntmps43
    go_wp2_with fail
    refine bodyPost_ret (v := ansU 1 0 ⟨#[]⟩ (s.epoch)) (by simp only [results, Tryz.results43, ansU]; go_simp) rfl ?_
    exact H.out.fin (by (repeat (first | with_reducible exact (Below.refl _ _) | with_reducible refine Below.drew ?_ | with_reducible refine Esch.below_drewN ?_ _ | with_reducible refine Below.setCell ?_ (by first | omega | (simp; done) | (simp; omega)) _ | with_reducible refine Below.alloc ?_ (by first | omega | (simp; done) | (simp; omega)) _)))
  · have hk' : (1 : Int) ≤ k := by omega
    go_enter Tryz.func43, Tryz.ntmps43
    go_wp2_with fail
    refine bodyPost_ret (v := ansU 1 0 ⟨#[]⟩ (s.epoch)) (by simp only [results, Tryz.results43, ansU]; go_simp) rfl ?_
    exact H.out.fin (by (repeat (first | with_reducible exact (Below.refl _ _) | with_reducible refine Below.drew ?_ | with_reducible refine Esch.below_drewN ?_ _ | with_reducible refine Below.setCell ?_ (by first | omega | (simp; done) | (simp; omega)) _ | with_reducible refine Below.alloc ?_ (by first | omega | (simp; done) | (simp; omega)) _)))
set_option maxRecDepth 100000 in
set_option maxHeartbeats 2000000 in
theorem rdo_sealed {w : World} {u pb : Nat} {S : Nat → Prop} {s : UnS} (h : RUnAt w u pb S s) (hdn : s.down = false) (k ep page : Int) (hk : 1 ≤ k ∧ k ≤ 5) (he : ep < s.epoch) (d : ByteArray) :
    Calls Tryz.prog 43 #[.pointer (some ⟨u, 0, none⟩), .agg #[.int .i64 k, .int .i64 x1, .int .i64 ep, .int .i64 page, .int .i64 x4, .int .i64 x5, .string d, .int .i64 x7, .slice ca cn cc]] w
      (RUnPost w u pb S ((40, 0, ⟨#[]⟩, s.epoch), s)) := by
  have H := Lib.hid h
  have c1 := h.c1
  have c2 := h.c2
  rw [hdn] at c2
  have hl := h.lt
  obtain ⟨hk1, hk2⟩ := hk
  clear h hdn
  go_enter Tryz.func43, Tryz.ntmps43
  go_wp2_with fail
  go_region
  go_wp2_with fail
  refine bodyPost_ret (v := ansU 40 0 ⟨#[]⟩ (s.epoch)) (by simp only [results, Tryz.results43, ansU]; go_simp) rfl ?_
  exact H.out.fin (by (repeat (first | with_reducible exact (Below.refl _ _) | with_reducible refine Below.drew ?_ | with_reducible refine Esch.below_drewN ?_ _ | with_reducible refine Below.setCell ?_ (by first | omega | (simp; done) | (simp; omega)) _ | with_reducible refine Below.alloc ?_ (by first | omega | (simp; done) | (simp; omega)) _)))
theorem rUnDo_any {w : World} {u pb : Nat} {S : Nat → Prop} {s : UnS} (h : RUnAt w u pb S s) (hok : s.pg.ok) (hSl : ∀ k, S k → k < w.heap.size) (k ep page : Int) (d : ByteArray) (hd : d.size ≤ 9223372036854775807) :
    Calls Tryz.prog 43 #[.pointer (some ⟨u, 0, none⟩), .agg #[.int .i64 k, .int .i64 x1, .int .i64 ep, .int .i64 page, .int .i64 x4, .int .i64 x5, .string d, .int .i64 x7, .slice ca cn cc]] w
      (RUnPost w u pb S (s.do k ep page d)) := by
  unfold UnS.do
  by_cases hdn' : s.down = true
  · rw [if_pos hdn']; exact rdo_down x1 x4 x5 x7 ca cn cc h hdn' k ep page d
  · have hdn : s.down = false := by simpa using hdn'
    rw [if_neg hdn']
    by_cases hk : k < 1 ∨ 5 < k
    · rw [if_pos hk]; exact rdo_bad x1 x4 x5 x7 ca cn cc h hdn k ep page hk d
    · rw [if_neg hk]
      by_cases he : ep < s.epoch
      · rw [if_pos he]; exact rdo_sealed x1 x4 x5 x7 ca cn cc h hdn k ep page (by omega) he d
      · rw [if_neg he]
        by_cases h1 : k = 1
        · subst h1; rw [if_pos rfl]; exact rdo_1 x1 x4 x5 x7 ca cn cc h hok hSl hdn ep page he d hd
        · rw [if_neg h1]
          by_cases h2 : k = 2
          · subst h2; rw [if_pos rfl]; exact rdo_2 x1 x4 x5 x7 ca cn cc h hok hSl hdn ep page he d
          · rw [if_neg h2]
            by_cases h3 : k = 3
            · subst h3; rw [if_pos rfl]; exact rdo_3 x1 x4 x5 x7 ca cn cc h hok hSl hdn ep page he d
            · rw [if_neg h3]
              by_cases h4 : k = 4
              · subst h4; rw [if_pos rfl]; exact rdo_4 x1 x4 x5 x7 ca cn cc h hok hSl hdn ep page he d
              · rw [if_neg h4]
                obtain rfl : k = 5 := by omega
                exact rdo_5 x1 x4 x5 x7 ca cn cc h hok hSl hdn ep page he d
end
end Go.Proofs.YtnojjohkpkmliaaGreat
