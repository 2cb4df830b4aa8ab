import Derived.Test.YtpkdpmkiplopmaaBase
import Derived.Test.YtpkdpmkiplopmaaProjM
import Derived.Test.YtpkdpmkiplopmaaRows
import Derived.Lib.Hide
import Derived.Deep.LoopGhost
import Derived.Deep.CutRange
import Derived.Deep.DeepCutAuto
import Derived.Deep.QuietTactic
import Derived.BigQuiet
/- lists and projections in memory; the statements' small helpers -/
namespace Go.Proofs.Ytpkdpmkiplopmaa
open Go.RowKit Esch

/-- a holds the list, in a block of S -/
def IntsAt (S : Nat → Prop) (w : World) (a : Option Addr) (l : List Int) : Prop :=
  l.length ≤ 9223372036854775807 ∧ (0 < l.length → ∃ b off, a = some ⟨b, off, none⟩ ∧ S b ∧ b < w.heap.size ∧ ∀ i, i < l.length → w.cell? ⟨b, off + i, none⟩ = some (.int .i64 (l.getD i 0)))
theorem IntsAt.mod {S F : Nat → Prop} {w w' : World} {a : Option Addr} {l : List Int} (h : IntsAt S w a l) (hM : Mod F w w') (hS : ∀ k, S k → k < w.heap.size → ¬ F k) : IntsAt S w' a l := by
  refine ⟨h.1, fun h0 => ?_⟩
  obtain ⟨b, off, rfl, hb, hl, hc⟩ := h.2 h0
  exact ⟨b, off, rfl, hb, Nat.lt_of_lt_of_le hl hM.size, fun i hi => hM.at (hc i hi) (hS b hb hl)⟩
theorem IntsAt.sub {S T : Nat → Prop} {w : World} {a : Option Addr} {l : List Int} (h : IntsAt S w a l) (hS : ∀ k, k < w.heap.size → S k → T k) : IntsAt T w a l := by
  refine ⟨h.1, fun h0 => ?_⟩
  obtain ⟨b, off, rfl, hb, hl, hc⟩ := h.2 h0
  exact ⟨b, off, rfl, hS b hl hb, hl, hc⟩
theorem IntsAt.nil (S : Nat → Prop) (w : World) (a : Option Addr) : IntsAt S w a [] := ⟨by simp, fun h => absurd h (by simp)⟩

theorem ne_of_getD {l l' : List Int} {k : Nat} (h : l.getD k 0 ≠ l'.getD k 0) : l ≠ l' := fun e => h (by rw [e])
theorem eq_of_getD {l l' : List Int} (hl : l.length = l'.length) (h : ∀ k, k < l.length → l.getD k 0 = l'.getD k 0) : l = l' := by
  apply List.ext_getElem hl
  intro i h1 h2
  have := h i h1
  simpa [List.getD_eq_getElem?_getD, List.getElem?_eq_getElem h1, List.getElem?_eq_getElem h2] using this

def Drawn (w : World) (v : Value) (e : Ending) (w' : World) : Prop := e = .returned v ∧ ∃ n, w' = w.drewN n
theorem Drawn.mod {w w' : World} {v : Value} {e : Ending} {F : Nat → Prop} (h : Drawn w v e w') : Mod F w w' := by
  obtain ⟨_, n, rfl⟩ := h
  exact (Mod.refl _ _).drewN n

def IntsRel (w : World) (l l' : List Int) (g : Nat) (s5 : Value) (wr : World) : Prop :=
  ∃ k : Nat, g = l.length - k ∧ k ≤ l.length ∧ s5 = .int .i64 k ∧ (∀ j, j < k → l.getD j 0 = l'.getD j 0) ∧ ∃ n, wr = w.drewN n
set_option maxHeartbeats 1000000 in
theorem ints_any (S : Nat → Prop) (w : World) (a a' : Option Addr) (l l' : List Int) (c c' : Nat) (h : IntsAt S w a l) (h' : IntsAt S w a' l') :
    Calls Try.prog 24 #[.slice a l.length c, .slice a' l'.length c'] w (Drawn w (.bool (decide (l = l')))) := by
  obtain ⟨hm, h⟩ := h
  obtain ⟨hm', h'⟩ := h'
  have H := Lib.hid h
  have H' := Lib.hid h'
  clear h h'
  by_cases hne : l.length = l'.length
  · generalize hn : l.length = n at *
    have Hn := Lib.hid hn
    have Hne := Lib.hid hne
    rw [← hne]
    clear hn hne hm'
    go_enter Try.func24, Try.ntmps24
    go_wp2_with fail
    go_loopg [5] n (fun g s5 wr => IntsRel w l l' g s5 wr)
    case atStart => exact ⟨0, by rw [Hn.out]; rfl, Nat.zero_le _, rfl, fun j hj => absurd hj (by omega), 0, rfl⟩
    case round =>
      obtain ⟨k, hg, hk, rfl, hj, nd, rfl⟩ := hrel
      rw [Hn.out] at hg hk
      have Hg := Lib.hid hg
      have Hj := Lib.hid hj
      clear hg hj
      by_cases hlt : k < n
      · obtain ⟨b, off, rfl, -, hb, hc⟩ := H.out (by omega)
        obtain ⟨b', off', rfl, -, hb', hc'⟩ := H'.out (by have := Hne.out; omega)
        have hc1 := hc k hlt
        have hc1' := hc' k (by rw [← Hne.out]; exact hlt)
        clear hc hc'
        have hk1 : (0 : Int) ≤ k := by omega
        have hk2 : (k : Int) < n := by omega
        generalize hx : l.getD k 0 = x at hc1
        generalize hx' : l'.getD k 0 = x' at hc1'
        have Hx := Lib.hid hx
        have Hx' := Lib.hid hx'
        clear hx hx'
        by_cases hxx : x = x'
        · have he : (x == x') = true := by simp [hxx]
          have Hxx := Lib.hid hxx
          clear hxx
          go_wp2_with fail
          go_quiet (fail)
          go_wp2_with fail
          go_roundg (n - (k + 1))
          case measure => have := Hg.out; omega
          case rel =>
            refine ⟨k + 1, by rw [Hn.out], by rw [Hn.out]; omega, by go_num, fun j hj => ?_, _, rfl⟩
            by_cases e : j = k
            · subst e; rw [Hx.out, Hx'.out]; exact Hxx.out
            · exact Hj.out j (by omega)
        · have he : (x == x') = false := by simp [hxx]
          have Hxx := Lib.hid hxx
          clear hxx
          go_wp2_with fail
          go_quiet (fail)
          go_wp2_with fail
          go_ret
          have : l ≠ l' := ne_of_getD (k := k) (by rw [Hx.out, Hx'.out]; exact Hxx.out)
          exact ⟨by simp [this], _, World.drewN_drewN _ _ _⟩
      · have hk3 : k = n := by omega
        go_wp2_with fail
        go_ret
        have : l = l' := eq_of_getD (by rw [Hn.out, Hne.out]) (by rw [Hn.out, ← hk3]; exact Hj.out)
        exact ⟨by simp [this], _, rfl⟩
  · have he : ((l.length : Int) == (l'.length : Int)) = false := by simp; omega
    have Hne := Lib.hid hne
    clear hne
    go_enter Try.func24, Try.ntmps24
    go_wp2_with fail
    go_ret
    have : l ≠ l' := fun e => Hne.out (by rw [e])
    exact ⟨by simp [this], 0, rfl⟩

def CapOk (l : List Int) (c : Nat) : Prop := l.length ≤ c ∧ c ≤ 9223372036854775807
/-- a holds the lists, in blocks of S -/
def ListsAt (S : Nat → Prop) (w : World) (a : Option Addr) (ls : List (List Int)) : Prop :=
  ls.length ≤ 9223372036854775807 ∧ (0 < ls.length → ∃ b off, a = some ⟨b, off, none⟩ ∧ S b ∧ b < w.heap.size ∧ ∀ i, i < ls.length → ∃ ia ic, w.cell? ⟨b, off + i, none⟩ = some (.slice ia (ls.getD i []).length ic) ∧ IntsAt S w ia (ls.getD i []) ∧ CapOk (ls.getD i []) ic)
theorem ListsAt.mod {S F : Nat → Prop} {w w' : World} {a : Option Addr} {l : List (List Int)} (h : ListsAt S w a l) (hM : Mod F w w') (hS : ∀ k, S k → k < w.heap.size → ¬ F k) : ListsAt S w' a l := by
  refine ⟨h.1, fun h0 => ?_⟩
  obtain ⟨b, off, rfl, hb, hl, hc⟩ := h.2 h0
  refine ⟨b, off, rfl, hb, Nat.lt_of_lt_of_le hl hM.size, fun i hi => ?_⟩
  obtain ⟨ia, ic, h1, h2, h3⟩ := hc i hi
  exact ⟨ia, ic, hM.at h1 (hS b hb hl), h2.mod hM hS, h3⟩
theorem ListsAt.sub {S T : Nat → Prop} {w : World} {a : Option Addr} {l : List (List Int)} (h : ListsAt S w a l) (hS : ∀ k, k < w.heap.size → S k → T k) : ListsAt T w a l := by
  refine ⟨h.1, fun h0 => ?_⟩
  obtain ⟨b, off, rfl, hb, hl, hc⟩ := h.2 h0
  refine ⟨b, off, rfl, hS b hl hb, hl, fun i hi => ?_⟩
  obtain ⟨ia, ic, h1, h2, h3⟩ := hc i hi
  exact ⟨ia, ic, h1, h2.sub hS, h3⟩
theorem ListsAt.nil (S : Nat → Prop) (w : World) (a : Option Addr) : ListsAt S w a [] := ⟨by simp, fun h => absurd h (by simp)⟩

def largeProj (ls : List (List Int)) : Bool := decide (50 < ls.length) || ls.any (fun c => decide (50 < c.length))
def LargeRel (w0 : World) (ls : List (List Int)) (g : Nat) (s3 : Value) (wr : World) : Prop :=
  ∃ k : Nat, g = ls.length - k ∧ k ≤ ls.length ∧ s3 = .int .i64 k ∧ (∀ j, j < k → (ls.getD j []).length ≤ 50) ∧ wr = w0
theorem any_large {ls : List (List Int)} {k : Nat} (hk : k < ls.length) (h : 50 < (ls.getD k []).length) : ls.any (fun c => decide (50 < c.length)) = true := by
  simp only [List.any_eq_true, decide_eq_true_eq]
  rw [List.getD_eq_getElem?_getD, List.getElem?_eq_getElem hk, Option.getD_some] at h
  exact ⟨_, List.getElem_mem hk, h⟩
theorem not_large {ls : List (List Int)} (h : ∀ j, j < ls.length → (ls.getD j []).length ≤ 50) : ls.any (fun c => decide (50 < c.length)) = false := by
  simp only [List.any_eq_false, decide_eq_true_eq]
  intro c hc
  obtain ⟨j, hj, rfl⟩ := List.mem_iff_getElem.1 hc
  have := h j hj
  rw [List.getD_eq_getElem?_getD, List.getElem?_eq_getElem hj, Option.getD_some] at this
  omega
set_option maxHeartbeats 1000000 in
theorem largeProj_any (S : Nat → Prop) (w : World) (e : Int) (a : Option Addr) (c : Nat) (ls : List (List Int)) (h : ListsAt S w a ls) :
    Calls Try.prog 10 #[.agg #[.int .i64 e, .slice a ls.length c]] w fun r w' => r = .returned (.bool (largeProj ls)) ∧ Below w.heap.size w w' := by
  obtain ⟨hm, h⟩ := h
  have H := Lib.hid h
  clear h
  unfold largeProj
  by_cases hl : 50 < ls.length
  · go_enter Try.func10, Try.ntmps10
    go_wp2_with fail
    go_ret
    exact ⟨by simp [hl], (Below.refl _ _).alloc (Nat.le_refl _) _⟩
  · have hl' : ls.length ≤ 50 := by omega
    clear hl
    go_enter Try.func10, Try.ntmps10
    go_wp2_with fail
    go_loopg [3] ls.length (fun g s3 wr => LargeRel (w.alloc (.cells #[.int .i64 e, .slice a ls.length c] 24)) ls g s3 wr)
    case atStart => exact ⟨0, rfl, Nat.zero_le _, rfl, fun j hj => absurd hj (by omega), rfl⟩
    case round =>
      obtain ⟨k, rfl, hk, rfl, hj, rfl⟩ := hrel
      have Hj := Lib.hid hj
      clear hj
      by_cases hlt : k < ls.length
      · obtain ⟨b, off, rfl, -, hb, hc⟩ := H.out (by omega)
        obtain ⟨ia, ic, hc1, -⟩ := hc k hlt
        clear hc
        generalize hlk : ls.getD k [] = lk at hc1
        have Hlk := Lib.hid hlk
        clear hlk
        by_cases hx : 50 < lk.length
        · have hx' : (50 : Int) < lk.length := by omega
          go_wp2_with fail
          go_ret
          exact ⟨by rw [any_large hlt (by rw [Hlk.out]; exact hx)]; simp, (Below.refl _ _).alloc (Nat.le_refl _) _⟩
        · have hx' : (lk.length : Int) ≤ 50 := by omega
          go_wp2_with fail
          go_roundg (ls.length - (k + 1))
          case measure => omega
          case rel =>
            refine ⟨k + 1, rfl, by omega, by go_num, fun j hj => ?_, rfl⟩
            by_cases e : j = k
            · subst e; rw [Hlk.out]; omega
            · exact Hj.out j (by omega)
      · have hk3 : k = ls.length := by omega
        go_wp2_with fail
        go_ret
        exact ⟨by rw [not_large (by rw [← hk3]; exact Hj.out)]; simp; omega, (Below.refl _ _).alloc (Nat.le_refl _) _⟩

theorem lists_eq {l l' : List (List Int)} (hl : l.length = l'.length) (h : ∀ k, k < l.length → l.getD k [] = l'.getD k []) : l = l' := by
  apply List.ext_getElem hl
  intro i h1 h2
  have := h i h1
  simpa [List.getD_eq_getElem?_getD, List.getElem?_eq_getElem h1, List.getElem?_eq_getElem h2] using this
theorem lists_ne {l l' : List (List Int)} {k : Nat} (h : l.getD k [] ≠ l'.getD k []) : l ≠ l' := fun e => h (by rw [e])
def ProjRel (w0 : World) (l l' : List (List Int)) (g : Nat) (s5 : Value) (wr : World) : Prop :=
  ∃ k : Nat, g = l.length - k ∧ k ≤ l.length ∧ s5 = .int .i64 k ∧ (∀ j, j < k → l.getD j [] = l'.getD j []) ∧ ∃ n, wr = w0.drewN n
set_option maxHeartbeats 2000000 in
theorem projection_any (S : Nat → Prop) (w : World) (e e' : Int) (a a' : Option Addr) (c c' : Nat) (l l' : List (List Int)) (h : ListsAt S w a l) (h' : ListsAt S w a' l') :
    Calls Try.prog 19 #[.agg #[.int .i64 e, .slice a l.length c], .agg #[.int .i64 e', .slice a' l'.length c']] w fun r w' => r = .returned (.bool (decide (e = e' ∧ l = l'))) ∧ Below w.heap.size w w' := by
  obtain ⟨hm, h⟩ := h
  obtain ⟨hm', h'⟩ := h'
  have H := Lib.hid h
  have H' := Lib.hid h'
  clear h h'
  by_cases hee : e = e'
  · subst hee
    by_cases hne : l.length = l'.length
    · generalize hn : l.length = n at *
      have Hn := Lib.hid hn
      have Hne := Lib.hid hne
      rw [← hne]
      clear hn hne hm'
      generalize hW : (w.alloc (.cells #[.int .i64 e, .slice a n c] 24)).alloc (.cells #[.int .i64 e, .slice a' n c'] 24) = W
      have hMW : Mod none' w W := by rw [← hW]; exact (Mod.refl _ _).alloc _ |>.alloc _
      have x1 : W.cell? ⟨w.heap.size, 1, none⟩ = some (.slice a n c) := by rw [← hW, cell_alloc_lt _ _ _ _ (by simp), World.cell?_alloc_new]; rfl
      have y1 : W.cell? ⟨w.heap.size + 1, 1, none⟩ = some (.slice a' n c') := by
        rw [← hW]; have := World.cell?_alloc_new (w.alloc (.cells #[.int .i64 e, .slice a n c] 24)) #[.int .i64 e, .slice a' n c'] 24 1
        rw [World.size_alloc] at this; rw [this]; rfl
      have HW := Lib.hid hW
      clear hW
      go_enter Try.func19, Try.ntmps19
      go_wp2_with fail
      rw [HW.out]
      go_loopg [5] n (fun g s5 wr => ProjRel W l l' g s5 wr)
      case atStart => exact ⟨0, by rw [Hn.out]; rfl, Nat.zero_le _, rfl, fun j hj => absurd hj (by omega), 0, rfl⟩
      case round =>
        obtain ⟨k, hg, hk, rfl, hj, nd, hwr⟩ := hrel
        have hMr : Mod none' w wr := by rw [hwr]; exact hMW.drewN _
        replace x1 : wr.cell? ⟨w.heap.size, 1, none⟩ = some (.slice a n c) := by rw [hwr]; exact x1
        replace y1 : wr.cell? ⟨w.heap.size + 1, 1, none⟩ = some (.slice a' n c') := by rw [hwr]; exact y1
        have Hwr := Lib.hid hwr
        clear hwr
        rw [Hn.out] at hg hk
        have Hg := Lib.hid hg
        have Hj := Lib.hid hj
        clear hg hj
        by_cases hlt : k < n
        · obtain ⟨b, off, rfl, -, hb, hc⟩ := H.out (by omega)
          obtain ⟨b', off', rfl, -, hb', hc'⟩ := H'.out (by have := Hne.out; omega)
          obtain ⟨ia, ic, hc1, hi1, -⟩ := hc k hlt
          obtain ⟨ia', ic', hc1', hi1', -⟩ := hc' k (by rw [← Hne.out]; exact hlt)
          clear hc hc'
          replace hc1 := hMr.at hc1 id
          replace hc1' := hMr.at hc1' id
          replace hi1 := hi1.mod hMr (fun _ _ _ => id)
          replace hi1' := hi1'.mod hMr (fun _ _ _ => id)
          have hk1 : (0 : Int) ≤ k := by omega
          have hk2 : (k : Int) < n := by omega
          generalize hx : l.getD k [] = x at hc1 hi1
          generalize hx' : l'.getD k [] = x' at hc1' hi1'
          have Hx := Lib.hid hx
          have Hx' := Lib.hid hx'
          clear hx hx'
          have hcon := fun m => ints_any S (wr.drewN m) ia ia' x x' ic ic' (hi1.mod ((Mod.refl none' _).drewN _) (fun _ _ _ => id)) (hi1'.mod ((Mod.refl none' _).drewN _) (fun _ _ _ => id))
          by_cases hxx : x = x'
          · have Hxx := Lib.hid hxx
            rw [decide_eq_true hxx] at hcon
            clear hxx
            go_wp2_with fail
            go_quiet ((go_at_call 24; exact Calls.quiet_of ((hcon _).mono (fun _ _ h => h))))
            go_wp2_with fail
            go_roundg (n - (k + 1))
            case measure => have := Hg.out; omega
            case rel =>
              refine ⟨k + 1, by rw [Hn.out], by rw [Hn.out]; omega, by go_num, fun j hj => ?_, _, by rw [Hwr.out]; exact World.drewN_drewN _ _ _⟩
              by_cases e : j = k
              · subst e; rw [Hx.out, Hx'.out]; exact Hxx.out
              · exact Hj.out j (by omega)
          · have Hxx := Lib.hid hxx
            rw [decide_eq_false hxx] at hcon
            clear hxx
            go_wp2_with fail
            go_quiet ((go_at_call 24; exact Calls.quiet_of ((hcon _).mono (fun _ _ h => h))))
            go_wp2_with fail
            go_ret
            have : l ≠ l' := lists_ne (k := k) (by rw [Hx.out, Hx'.out]; exact Hxx.out)
            exact ⟨by simp [this], (hMr.drewN _).below⟩
        · have hk3 : k = n := by omega
          go_wp2_with fail
          go_ret
          have : l = l' := lists_eq (by rw [Hn.out, Hne.out]) (by rw [Hn.out, ← hk3]; exact Hj.out)
          exact ⟨by simp [this], hMr.below⟩
    · have he' : ((l.length : Int) == (l'.length : Int)) = false := by simp; omega
      have Hne := Lib.hid hne
      clear hne
      go_enter Try.func19, Try.ntmps19
      go_wp2_with fail
      go_ret
      have : l ≠ l' := fun e => Hne.out (by rw [e])
      exact ⟨by simp [this], ((Mod.refl none' _).alloc _ |>.alloc _).below⟩
  · have he : (e == e') = false := by simp [hee]
    have Hee := Lib.hid hee
    clear hee
    go_enter Try.func19, Try.ntmps19
    go_wp2_with fail
    go_ret
    exact ⟨by simp [Hee.out], ((Mod.refl none' _).alloc _ |>.alloc _).below⟩
end Go.Proofs.Ytpkdpmkiplopmaa
