/- the document's pages: how they lie, what is found -/
import Derived.Test.YtnojjohkpkmliaaGreatPkBase
import Derived.Test.YtnojjohkpkmliaaGreatPkKeep
namespace Go.Proofs.YtnojjohkpkmliaaGreat
open Go.RowKit Esch

abbrev PgE := Int × (Int × ByteArray)
def pgC (p : PgE) : List Value := [.int .i64 p.1, .int .i64 p.2.1, .string p.2.2]
def pgCells (m : List PgE) : List Value := m.flatMap pgC
theorem pgCells_append (a b : List PgE) : pgCells (a ++ b) = pgCells a ++ pgCells b := List.flatMap_append
theorem pgCells_len (m : List PgE) : (pgCells m).length = m.length * 3 := by
  induction m with
  | nil => rfl
  | cons p m ih =>
    show (pgC p ++ pgCells m).length = _
    rw [List.length_append, ih, List.length_cons]
    show 3 + _ = _
    omega
theorem pgCells_one (m : List PgE) : ∀ u ∈ pgCells m, u.oneCell' = true := by
  intro u hu
  obtain ⟨p, -, hp⟩ := List.mem_flatMap.1 hu
  simp only [pgC, List.mem_cons, List.not_mem_nil, or_false] at hp
  rcases hp with rfl | rfl | rfl <;> rfl
theorem pgCells_at : ∀ {m : List PgE} {i : Nat} {p : PgE}, m[i]? = some p → ∀ j, j < 3 → (pgCells m)[i * 3 + j]? = (pgC p)[j]?
  | [], _, _, h, _, _ => by simp at h
  | q :: m, 0, p, h, j, hj => by
    have : q = p := by simpa using h
    subst this
    show (pgC q ++ pgCells m)[0 * 3 + j]? = _
    rw [List.getElem?_append_left (by show _ < 3; omega), Nat.zero_mul, Nat.zero_add]
  | q :: m, i + 1, p, h, j, hj => by
    show (pgC q ++ pgCells m)[(i + 1) * 3 + j]? = _
    rw [List.getElem?_append_right (by show 3 ≤ _; omega)]
    have := pgCells_at (m := m) (i := i) (p := p) (by simpa using h) j hj
    rw [← this]
    congr 1
    show (i + 1) * 3 + j - 3 = _
    omega
/-- the document's pages at b, their row in S -/
structure RPgAt (w : World) (b : Nat) (S : Nat → Prop) (s : PgS) : Prop where
  row : ∃ ao cap, w.cell? ⟨b, 0, none⟩ = some (.slice ao s.m.length cap) ∧ GRowAt w S 3 s.m.length cap ao (pgCells s.m)
  c1 : w.cell? ⟨b, 1, none⟩ = some (.int .i64 s.room)
  c2 : w.cell? ⟨b, 2, none⟩ = some (.int .i64 s.edge)
  fr : ∀ o, o < 3 → w.frozen? ⟨b, o, none⟩ = false
theorem RPgAt.lt {w : World} {b : Nat} {S : Nat → Prop} {s : PgS} (h : RPgAt w b S s) : b < w.heap.size := cell_lt h.c1
theorem RPgAt.mod {F S : Nat → Prop} {w w' : World} {b : Nat} {s : PgS} (h : RPgAt w b S s) (hM : Mod F w w') (hb : ¬ F b) (hS : ∀ k, S k → k < w.heap.size → ¬ F k) : RPgAt w' b S s := by
  obtain ⟨ao, cap, h1, h2⟩ := h.row
  exact ⟨⟨ao, cap, hM.at h1 hb, h2.mod hM hS⟩, hM.at h.c1 hb, hM.at h.c2 hb, fun o ho => (hM.frozen (p := ⟨b, o, none⟩) h.lt hb).trans (h.fr o ho)⟩
theorem RPgAt.below {S : Nat → Prop} {w w' : World} {b : Nat} {s : PgS} (h : RPgAt w b S s) (hB : Below w.heap.size w w') : RPgAt w' b S s := h.mod (F := none') (Mod.of_below hB) id (fun _ _ _ => id)
theorem RPgAt.sub {S S' : Nat → Prop} {w : World} {b : Nat} {s : PgS} (h : RPgAt w b S s) (hS : ∀ k, k < w.heap.size → S k → S' k) : RPgAt w b S' s := by
  obtain ⟨ao, cap, h1, h2⟩ := h.row
  exact ⟨⟨ao, cap, h1, h2.sub hS⟩, h.c1, h.c2, h.fr⟩
/-- the row's cells -/
theorem rowAt {w : World} {S : Nat → Prop} {m : List PgE} {ao : Option Addr} {cap : Nat} (h : GRowAt w S 3 m.length cap ao (pgCells m)) (h0 : 0 < m.length) : ∃ b off, ao = some ⟨b, off, none⟩ ∧ S b ∧ b < w.heap.size ∧ ∀ i p, m[i]? = some p →
    w.cell? ⟨b, off + i * 3, none⟩ = some (.int .i64 p.1) ∧ w.cell? ⟨b, off + i * 3 + 1, none⟩ = some (.int .i64 p.2.1) ∧ w.cell? ⟨b, off + i * 3 + 2, none⟩ = some (.string p.2.2) := by
  obtain ⟨b, off, e, hS, hb, hc, -⟩ := h.at' (Nat.lt_of_lt_of_le h0 h.le)
  refine ⟨b, off, e, hS, hb, fun i p hp => ?_⟩
  have hi := (List.getElem?_eq_some_iff.1 hp).1
  have k0 := (hc (i * 3 + 0) (by omega)).trans (pgCells_at hp 0 (by decide))
  have k1 := (hc (i * 3 + 1) (by omega)).trans (pgCells_at hp 1 (by decide))
  have k2 := (hc (i * 3 + 2) (by omega)).trans (pgCells_at hp 2 (by decide))
  exact ⟨k0, k1, k2⟩
/-- where a page stands -/
def pgFind (m : List PgE) (a : Int) : Option Nat := m.findIdx? fun p => p.1 == a
theorem pgFind_get : ∀ (m : List PgE) (a : Int), get m a = (pgFind m a).bind fun i => m[i]?.map (·.2)
  | [], a => rfl
  | (k, v) :: m, a => by
    unfold pgFind
    rw [List.findIdx?_cons]
    by_cases e : k = a
    · subst e
      simp [Esch.get]
    · have ih := pgFind_get m a
      unfold pgFind at ih
      have hk : ((k, v).1 == a) = false := by simpa using e
      rw [hk]
      simp only [Bool.false_eq_true, if_false]
      rw [show get ((k, v) :: m) a = get m a by simp [Esch.get, e], ih]
      cases List.findIdx? (fun p => p.1 == a) m with
      | none => rfl
      | some i => simp
def FindPost (w : World) (m : List PgE) (a : Int) (e : Ending) (w' : World) : Prop := e = .returned (.int .i64 (match pgFind m a with | none => -1 | some i => (i : Int))) ∧ w' = w
def FindRel (w : World) (m : List PgE) (a : Int) (g : Nat) (s4 : Value) (wr : World) : Prop := ∃ k : Nat, g = m.length - k ∧ k ≤ m.length ∧ s4 = .int .i64 k ∧ wr = w ∧ ∀ i p, i < k → m[i]? = some p → p.1 ≠ a
theorem rthere_any (w : World) (a : Int) : Calls Tryz.prog 91 #[.int .i64 a] w fun e w' => e = .returned (.bool (inB a)) ∧ w' = w := by
  by_cases h0 : 0 ≤ a
  · by_cases h1 : a < 4096
    · have hi : inB a = true := inB_iff.2 ⟨h0, h1⟩
      rw [hi]
      go_enter Tryz.func91, Tryz.ntmps91
      go_wp2_with fail
      go_ret
      exact ⟨rfl, rfl⟩
    · have hi : inB a = false := by simp [inB]; omega
      have h1' : (4096 : Int) ≤ a := by omega
      rw [hi]
      clear h1
      go_enter Tryz.func91, Tryz.ntmps91
      go_wp2_with fail
      go_ret
      exact ⟨congrArg (fun x => Ending.returned (Value.bool x)) (decide_eq_false (by omega)), rfl⟩
  · have hi : inB a = false := by simp [inB]; omega
    have h0' : a < 0 := by omega
    rw [hi]
    clear h0
    go_enter Tryz.func91, Tryz.ntmps91
    go_wp2_with fail
    go_ret
    exact ⟨rfl, rfl⟩
section
variable {w : World} {b : Nat} {S : Nat → Prop} {s : PgS}
theorem pgFind_none {m : List PgE} {a : Int} (h : ∀ i p, i < m.length → m[i]? = some p → p.1 ≠ a) : pgFind m a = none := by
  unfold pgFind
  rw [List.findIdx?_eq_none_iff]
  intro p hp
  obtain ⟨i, hi, e⟩ := List.getElem_of_mem hp
  have := h i p hi (by rw [List.getElem?_eq_getElem hi, e])
  simpa using this
theorem pgFind_some {m : List PgE} {a : Int} {k : Nat} {p : PgE} (hk : m[k]? = some p) (hp : p.1 = a) (h : ∀ i q, i < k → m[i]? = some q → q.1 ≠ a) : pgFind m a = some k := by
  have hl := (List.getElem?_eq_some_iff.1 hk)
  obtain ⟨hl, e⟩ := hl
  unfold pgFind
  rw [List.findIdx?_eq_some_iff_getElem]
  refine ⟨hl, by rw [e]; simpa using hp, fun j hj => ?_⟩
  have := h j m[j] hj (List.getElem?_eq_getElem _)
  simpa using this
set_option maxHeartbeats 1000000 in
theorem rfind_any (h : RPgAt w b S s) (a : Int) (hl : s.m.length ≤ 1000000) : Calls Tryz.prog 93 #[.pointer (some ⟨b, 0, none⟩), .int .i64 a] w (FindPost w s.m a) := by
  obtain ⟨ao, cap, c0, hr⟩ := h.row
  have HR := Lib.hid hr
  obtain ⟨m, hm⟩ : ∃ m, m = s.m := ⟨_, rfl⟩
  rw [← hm] at c0 HR hl ⊢
  have Hm := Lib.hid hm
  clear hr h hm
  go_enter Tryz.func93, Tryz.ntmps93
  go_wp2_with fail
  go_loopg [5] m.length (fun g s5 wr => FindRel w m a g s5 wr)
  case atStart => exact ⟨0, rfl, Nat.zero_le _, rfl, rfl, fun i p hi => absurd hi (by omega)⟩
  case round =>
    obtain ⟨k, rfl, hk, rfl, rfl, hno⟩ := hrel
    have Hno := Lib.hid hno
    clear hno
    by_cases hkl : k < m.length
    · obtain ⟨rb, off, rfl, -, -, hc⟩ := rowAt HR.out (by omega)
      obtain ⟨p, hp⟩ : ∃ p, m[k]? = some p := ⟨_, List.getElem?_eq_getElem hkl⟩
      obtain ⟨k0, -, -⟩ := hc k p hp
      have Hp := Lib.hid hp
      have n0 : (0 : Int) ≤ k := by omega
      have n1 : (k : Int) < m.length := by omega
      clear hc hp
      by_cases ha : p.1 = a
      · have ha' : (p.1 == a) = true := by simpa using ha
        have Ha := Lib.hid ha
        clear ha
        go_wp2_with fail
        go_ret
        refine ⟨?_, rfl⟩
        rw [pgFind_some Hp.out Ha.out Hno.out]
        rfl
      · have ha' : (p.1 == a) = false := by simpa using ha
        have Ha := Lib.hid ha
        clear ha
        go_wp2_with fail
        go_roundg (m.length - (k + 1))
        case measure => omega
        case rel => exact ⟨k + 1, rfl, by omega, by go_num, rfl, fun i q hi hq => by
          by_cases e : i = k
          · subst e
            have e2 := Hp.out
            rw [hq] at e2
            cases e2
            exact Ha.out
          · exact Hno.out i q (by omega) hq⟩
    · obtain rfl : k = m.length := by omega
      clear hkl hk
      go_wp2_with fail
      go_ret
      refine ⟨?_, rfl⟩
      rw [pgFind_none Hno.out]
      rfl
set_option maxHeartbeats 1000000 in
theorem rkind_any (h : RPgAt w b S s) (a : Int) (hl : s.m.length ≤ 1000000) : Calls Tryz.prog 92 #[.pointer (some ⟨b, 0, none⟩), .int .i64 a] w fun e w' => e = .returned (.int .i64 (s.kind a)) ∧ w' = w := by
  have hth := rthere_any w a
  have hfd := rfind_any h a hl
  have c2 := h.c2
  obtain ⟨ao, cap, c0, hr⟩ := h.row
  have HR := Lib.hid hr
  have Hl := Lib.hid hl
  clear hr h hl
  obtain ⟨kd, hkd⟩ : ∃ kd, kd = s.kind a := ⟨_, rfl⟩
  rw [← hkd]
  have Hkd := Lib.hid hkd
  clear hkd
  obtain ⟨f, hf⟩ : ∃ f, f = pgFind s.m a := ⟨_, rfl⟩
  unfold FindPost at hfd
  rw [← hf] at hfd
  have Hf := Lib.hid hf
  have hg := pgFind_get s.m a
  rw [← hf] at hg
  have Hg := Lib.hid hg
  clear hf hg
  go_enter Tryz.func92, Tryz.ntmps92
  go_wp2_with fail
  refine hth.mono ?_
  clear hth
  rintro e w1 ⟨rfl, rfl⟩
  cases hi : inB a with
  | false =>
    have e0 : kd = 0 := by rw [Hkd.out]; unfold PgS.kind; rw [if_pos hi]
    subst e0
    clear hi
    go_wp2_with fail
    go_ret
    exact ⟨rfl, rfl⟩
  | true =>
    have Hi := Lib.hid hi
    clear hi
    by_cases he : a < s.edge
    · have e0 : kd = 3 := by rw [Hkd.out]; unfold PgS.kind; rw [if_neg (by rw [Hi.out]; simp), if_pos he]
      subst e0
      go_wp2_with fail
      go_ret
      exact ⟨rfl, rfl⟩
    · have he' : (s.edge : Int) ≤ a := by omega
      have Hk2 := Lib.hid (show kd = ((get s.m a).map (·.1)).getD 0 by rw [Hkd.out]; unfold PgS.kind; rw [if_neg (by rw [Hi.out]; simp), if_neg he])
      clear he
      go_wp2_with fail
      refine hfd.mono ?_
      clear hfd
      rintro e w2 ⟨rfl, rfl⟩
      cases f with
      | none =>
        have e0 : kd = 0 := by rw [Hk2.out, Hg.out]; rfl
        subst e0
        simp only
        go_wp2_with fail
        go_ret
        exact ⟨rfl, rfl⟩
      | some k =>
        simp only
        have hk := Hf.out.symm
        unfold pgFind at hk
        rw [List.findIdx?_eq_some_iff_getElem] at hk
        obtain ⟨hkl, -⟩ := hk
        obtain ⟨rb, off, rfl, -, -, hc⟩ := rowAt HR.out (by omega)
        obtain ⟨-, k1, -⟩ := hc k _ (List.getElem?_eq_getElem hkl)
        have e0 : kd = (s.m[k]).2.1 := by rw [Hk2.out, Hg.out, Option.bind_some, List.getElem?_eq_getElem hkl]; rfl
        rw [← e0] at k1
        have n0 : (0 : Int) ≤ k := by omega
        have n1 : (k : Int) < s.m.length := by omega
        clear hc e0 hkl
        go_wp2_with fail
        go_ret
        exact ⟨rfl, rfl⟩
theorem rused_any (h : RPgAt w b S s) : Calls Tryz.prog 47 #[.pointer (some ⟨b, 0, none⟩)] w fun e w' => e = .returned (.int .i64 s.m.length) ∧ w' = w := by
  obtain ⟨ao, cap, c0, -⟩ := h.row
  clear h
  go_enter Tryz.func47, Tryz.ntmps47
  go_wp2_with fail
  go_ret
  exact ⟨rfl, rfl⟩
theorem redge_any (h : RPgAt w b S s) : Calls Tryz.prog 51 #[.pointer (some ⟨b, 0, none⟩)] w fun e w' => e = .returned (.int .i64 s.edge) ∧ w' = w := by
  have c2 := h.c2
  clear h
  go_enter Tryz.func51, Tryz.ntmps51
  go_wp2_with fail
  go_ret
  exact ⟨rfl, rfl⟩
end
end Go.Proofs.YtnojjohkpkmliaaGreat
