/- appends that go on between each other: plain Lean -/
import Derived.Test.YtohmmjaikhpcfaaGreatEndsM
namespace Go.Proofs.YtohmmjaikhpcfaaGreat
open Go.RowKit Esch

abbrev qO : Proj := ⟨0, [[0, 1], [2, 3]]⟩
theorem ofP_qO {x : Int} (h0 : 0 ≤ x) (h1 : x < 16384) : ofP qO x = (x % 2, x / 2, true) := by
  unfold ofP
  rw [if_pos ⟨by decide, h0, h1⟩]
  rfl
theorem chainP_qO {x : Int} (h0 : 0 ≤ x) (h1 : x < 16384) : (chainP qO x = [0, 1] ∧ x % 2 = 0) ∨ (chainP qO x = [2, 3] ∧ x % 2 = 1) := by
  unfold chainP
  rw [ofP_qO h0 h1, if_pos rfl]
  have : x % 2 = 0 ∨ x % 2 = 1 := by omega
  rcases this with e | e
  · exact Or.inl ⟨by simp only [e]; rfl, e⟩
  · exact Or.inr ⟨by simp only [e]; rfl, e⟩
/-- unit j of address x -/
def uO (x : Int) (j : Nat) : Nat := 2 * (x % 2).toNat + j
theorem uO_lt (x : Int) {j : Nat} (hj : j < 2) : uO x j < 4 := by unfold uO; omega
theorem uO_div (x : Int) {j : Nat} (hj : j < 2) : ((uO x j / 2 : Nat) : Int) = x % 2 := by unfold uO; omega
theorem uO_mod (x : Int) {j : Nat} (hj : j < 2) : uO x j % 2 = j := by unfold uO; omega
theorem chain_len {x : Int} (h0 : 0 ≤ x) (h1 : x < 16384) : (chainP qO x).length = 2 := by
  rcases chainP_qO h0 h1 with ⟨e, -⟩ | ⟨e, -⟩ <;> (rw [e]; rfl)
theorem chain_uO {x : Int} (h0 : 0 ≤ x) (h1 : x < 16384) {j : Nat} (hj : j < 2) : (chainP qO x).getD j 0 = ((uO x j : Nat) : Int) := by
  have : j = 0 ∨ j = 1 := by omega
  unfold uO
  rcases chainP_qO h0 h1 with ⟨e, e'⟩ | ⟨e, e'⟩ <;> rw [e, e'] <;> rcases this with rfl | rfl <;> rfl
def upA (f : Nat → ApS) (j : Nat) (s : ApS) : Nat → ApS := fun i => if i = j then s else f i
theorem upA_at (f : Nat → ApS) (j : Nat) (s : ApS) : upA f j s j = s := if_pos rfl
theorem upA_ne (f : Nat → ApS) {i j : Nat} (s : ApS) (h : i ≠ j) : upA f j s i = f i := if_neg h
theorem upA_same {f : Nat → ApS} {j : Nat} {s : ApS} (h : f j = s) : upA f j s = f := by
  funext i
  unfold upA
  by_cases e : i = j
  · rw [if_pos e, e, h]
  · rw [if_neg e]
theorem upA_upA (f : Nat → ApS) (j : Nat) (s s' : ApS) : upA (upA f j s) j s' = upA f j s' := by
  funext i
  unfold upA
  by_cases e : i = j
  · rw [if_pos e, if_pos e]
  · rw [if_neg e, if_neg e, if_neg e]
/-- questions that it has yet at most -/
def muO (s : ApS) : Nat := if s.at = 2 then 3 else if s.at = 3 then 2 - s.i.toNat else 0
theorem muO_le (s : ApS) : muO s ≤ 3 := by
  unfold muO
  repeat' split
  all_goals omega
def smO (f : Nat → ApS) : Nat → Nat
  | 0 => 0
  | n + 1 => smO f n + muO (f n)
theorem smO_out {f : Nat → ApS} {j : Nat} {s : ApS} : ∀ n, n ≤ j → smO (upA f j s) n = smO f n
  | 0, _ => rfl
  | n + 1, h => by
    show smO (upA f j s) n + muO (upA f j s n) = smO f n + muO (f n)
    rw [smO_out n (by omega), upA_ne f s (by omega)]
theorem smO_up {f : Nat → ApS} {j : Nat} {s : ApS} : ∀ n, j < n → smO (upA f j s) n + muO (f j) = smO f n + muO s
  | 0, h => absurd h (by omega)
  | n + 1, h => by
    show smO (upA f j s) n + muO (upA f j s n) + muO (f j) = smO f n + muO (f n) + muO s
    by_cases e : j = n
    · subst e
      rw [smO_out j (Nat.le_refl _), upA_at]
      omega
    · have := smO_up (f := f) (s := s) n (by omega : j < n)
      rw [upA_ne f s (by omega)]
      omega
theorem smO_pos {f : Nat → ApS} {j : Nat} : ∀ n, j < n → muO (f j) ≤ smO f n
  | 0, h => absurd h (by omega)
  | n + 1, h => by
    show muO (f j) ≤ smO f n + muO (f n)
    by_cases e : j = n
    · subst e; omega
    · have := smO_pos (f := f) n (by omega : j < n)
      omega
/-- one of them -/
structure ApO (rec : ByteArray) (t : Nat) (M : Pgs) (s : ApS) : Prop where
  p : s.p = qO
  txt : s.txt = rec
  err : s.err = 0
  wh : s.at = 2 ∨ ((s.at = 3 ∧ (s.i = 0 ∨ s.i = 1)) ∨ (s.at = 5 ∧ s.i = 2)) ∧ 0 ≤ s.addr ∧ s.addr < t ∧ ∀ j : Nat, (j : Int) < s.i → M (uO s.addr j) (s.addr / 2) = some (1, rec)
theorem ApO.le {rec : ByteArray} {t t' : Nat} {M M' : Pgs} {s : ApS} (h : ApO rec t M s) (ht : t ≤ t') (hM : PgLe M M') : ApO rec t' M' s :=
  ⟨h.p, h.txt, h.err, h.wh.imp id (fun ⟨h1, h2, h3, h4⟩ => ⟨h1, h2, by omega, fun j hj => hM _ _ _ (h4 j hj)⟩)⟩
/-- all of them -/
structure OI (n : Nat) (recs : Nat → ByteArray) (nd : NdS) (f : Nat → ApS) : Prop where
  at' : ∃ t c M, Vw nd 300 t c M ∧ t + smO f n ≤ 3 * n ∧ c + smO f n ≤ 3 * n ∧ (∀ i, i < n → ApO (recs i) t M (f i)) ∧
    ∀ u a v, u < 4 → M u a = some v → ∃ i, i < n ∧ (f i).at ≠ 2 ∧ (f i).addr = 2 * a + ((u / 2 : Nat) : Int) ∧ ((u % 2 : Nat) : Int) < (f i).i
  apart : ∀ i j, i < n → j < n → i ≠ j → (f i).at ≠ 2 → (f j).at ≠ 2 → (f i).addr ≠ (f j).addr
theorem ap0_qO {rec : ByteArray} (h : rec.size ≤ 4096) : ap0 qO rec = ⟨qO, rec, 2, 0, 0, 0, 0, false⟩ := by
  unfold ap0
  rw [if_neg (by decide), if_neg (by omega)]
theorem oi_new (recs : Nat → ByteArray) (f : Nat → ApS) : OI 0 recs (nd0 qO 300) f :=
  ⟨⟨0, 0, _, vw_new rfl 300, by show 0 + 0 ≤ _; omega, by show 0 + 0 ≤ _; omega, fun i hi => absurd hi (by omega), (fun _ _ _ _ h => by cases h)⟩, fun i j hi => absurd hi (by omega)⟩
variable {n : Nat} {recs : Nat → ByteArray} {nd : NdS} {f : Nat → ApS}
theorem OI.add (h : OI n recs nd f) (hs : (recs n).size ≤ 4096) : OI (n + 1) recs nd (upA f n (ap0 qO (recs n))) := by
  obtain ⟨⟨t, c, M, hV, ht, hc, hA, hM⟩, hP⟩ := h
  rw [ap0_qO hs]
  have e : smO (upA f n ⟨qO, recs n, 2, 0, 0, 0, 0, false⟩) (n + 1) = smO f n + 3 := by
    show smO (upA f n _) n + muO (upA f n _ n) = _
    rw [smO_out n (Nat.le_refl _), upA_at]
    rfl
  refine ⟨⟨t, c, M, hV, by omega, by omega, fun i hi => ?_, fun u a v hu hv => ?_⟩, fun i j hi hj hij hi2 hj2 => ?_⟩
  · by_cases g : i = n
    · subst g
      rw [upA_at]
      exact ⟨rfl, rfl, rfl, Or.inl rfl⟩
    · rw [upA_ne f _ g]
      exact hA i (by omega)
  · obtain ⟨i, h1, h2, h3, h4⟩ := hM u a v hu hv
    refine ⟨i, by omega, ?_⟩
    rw [upA_ne f _ (by omega)]
    exact ⟨h2, h3, h4⟩
  · by_cases g : i = n
    · subst g
      rw [upA_at] at hi2
      exact absurd rfl hi2
    · by_cases g' : j = n
      · subst g'
        rw [upA_at] at hj2
        exact absurd rfl hj2
      · rw [upA_ne f _ g] at hi2 ⊢
        rw [upA_ne f _ g'] at hj2 ⊢
        exact hP i j (by omega) (by omega) hij hi2 hj2
theorem ap_turn0 (hd : HdS) (s : ApS) : apTurn (hd, s) 0 = ({ hd with nd := (hd.nd.do s.ask.1).2 }, s.hear (hd.nd.do s.ask.1).1 true) := by
  unfold apTurn HdS.ask
  rw [if_pos rfl]
theorem OI.turn {hd : HdS} (h : OI n recs hd.nd f) (hn : n ≤ 12) (hs : ∀ i, i < n → (recs i).size ≤ 4096) {j : Nat} (hj : j < n) (h5 : (f j).at ≠ 5) :
    OI n recs (apTurn (hd, f j) 0).1.nd (upA f j (apTurn (hd, f j) 0).2) ∧ muO (apTurn (hd, f j) 0).2 < muO (f j) := by
  obtain ⟨⟨t, c, M, hV, ht, hc, hA, hM⟩, hP⟩ := h
  have hm := smO_pos (f := f) n hj
  rw [ap_turn0]
  obtain ⟨hp, htx, her, hw⟩ := hA j hj
  rcases hw with h2 | ⟨hw, x0, x1, hup⟩
  · have hq : (f j).ask.1 = q6 := by
      unfold ApS.ask
      rw [if_neg h5, if_neg (by omega), if_pos h2, hp]
    have hmj : muO (f j) = 3 := by unfold muO; rw [if_pos h2]
    obtain ⟨n1, n2⟩ := hV.next (show t < 16384 by omega)
    have ho : (ofP (f j).p (t : Int)).2.2 = true := by rw [hp, ofP_qO (by omega) (by omega)]
    rw [hq, n1, hear_tok h2 (x := anN t) rfl ho]
    obtain ⟨s', hs'⟩ : ∃ s' : ApS, s' = { f j with «at» := 3, i := 0, addr := (anN t).n } := ⟨_, rfl⟩
    have a1 : s'.at = 3 := by rw [hs']
    have a2 : s'.i = 0 := by rw [hs']
    have a3 : s'.addr = t := by rw [hs']; rfl
    have a4 : s'.p = qO := by rw [hs']; exact hp
    have a5 : s'.txt = recs j := by rw [hs']; exact htx
    have a6 : s'.err = 0 := by rw [hs']; exact her
    show OI n recs (hd.nd.do q6).2 (upA f j { f j with «at» := 3, i := 0, addr := (anN t).n }) ∧ muO { f j with «at» := 3, i := 0, addr := (anN t).n } < muO (f j)
    rw [← hs']
    clear hs'
    have hms : muO s' = 2 := by unfold muO; rw [if_neg (by omega), if_pos a1, a2]; rfl
    have hsum := smO_up (s := s') n hj (f := f)
    refine ⟨⟨⟨t + 1, c, M, n2, by omega, by omega, fun i hi => ?_, fun u a v hu hv => ?_⟩, fun i k hi hk hik hi2 hk2 => ?_⟩, by omega⟩
    · by_cases g : i = j
      · subst g
        rw [upA_at]
        exact ⟨a4, a5, a6, Or.inr ⟨Or.inl ⟨a1, Or.inl a2⟩, by omega, by omega, fun k hk => by omega⟩⟩
      · rw [upA_ne f _ g]
        exact (hA i hi).le (by omega) (PgLe.refl _)
    · obtain ⟨i, b1, b2, b3, b4⟩ := hM u a v hu hv
      refine ⟨i, b1, ?_⟩
      rw [upA_ne f _ (fun e => b2 (by rw [e]; exact h2))]
      exact ⟨b2, b3, b4⟩
    · have hlt : ∀ i, i < n → (f i).at ≠ 2 → (f i).addr < t := fun i hi h => by
        rcases (hA i hi).wh with e | ⟨-, -, e, -⟩
        · exact absurd e h
        · exact e
      by_cases g : i = j
      · subst g
        rw [upA_at, upA_ne f _ (fun e => hik e.symm)] at *
        have := hlt k hk hk2
        omega
      · rw [upA_ne f _ g] at hi2 ⊢
        have := hlt i hi hi2
        by_cases g' : k = j
        · subst g'
          rw [upA_at]
          omega
        · rw [upA_ne f _ g'] at hk2 ⊢
          exact hP i k hi hk hik hi2 hk2
  · rcases hw with ⟨h3, hi01⟩ | ⟨e, -⟩
    · obtain ⟨k, hk2, hik⟩ : ∃ k : Nat, k < 2 ∧ (f j).i = k := by
        rcases hi01 with e | e
        · exact ⟨0, by omega, e⟩
        · exact ⟨1, by omega, e⟩
      obtain ⟨x, hx⟩ : ∃ x, x = (f j).addr := ⟨_, rfl⟩
      rw [← hx] at x0 x1 hup
      have hof : ofP qO x = (x % 2, x / 2, true) := ofP_qO x0 (by omega)
      have hpg : inB (x / 2) = true := inB_iff.2 ⟨by omega, by omega⟩
      obtain ⟨u, hu⟩ : ∃ u, u = uO x k := ⟨_, rfl⟩
      have hu4 : u < 4 := by rw [hu]; exact uO_lt x hk2
      have hq : (f j).ask.1 = ⟨1, u, 0, x / 2, 0, 0, recs j, Esch.p0⟩ := by
        unfold ApS.ask
        rw [if_neg h5, if_neg (by omega), if_neg (by omega), if_pos h3, hp, htx, ← hx, hik, Int.toNat_natCast, chain_uO x0 (by omega) hk2, hof, ← hu]
      have hmj : muO (f j) = 2 - k := by unfold muO; rw [if_neg (by omega), if_pos h3, hik, Int.toNat_natCast]
      have hnone : M u (x / 2) = none := by
        cases hv : M u (x / 2) with
        | none => rfl
        | some v =>
          obtain ⟨i, b1, b2, b3, b4⟩ := hM u (x / 2) v hu4 hv
          rw [hu, uO_div x hk2] at b3
          rw [hu, uO_mod x hk2] at b4
          by_cases g : i = j
          · subst g
            omega
          · exact absurd (by omega : (f i).addr = (f j).addr) (hP i j b1 hj g b2 (by omega))
      obtain ⟨n1, n2⟩ := hV.write_new u (by omega) hpg (hs j hj) (show c < 300 by omega) hnone
      rw [hq, n1, hear_ok3 h3 rfl]
      have hset := setPg_at M u (x / 2) (1, recs j)
      have hle : PgLe M (setPg M u (x / 2) (1, recs j)) := PgLe.set (1, recs j) hnone
      obtain ⟨M', hM'⟩ : ∃ M', M' = setPg M u (x / 2) (1, recs j) := ⟨_, rfl⟩
      have hinv : ∀ b a v, M' b a = some v → M b a = some v ∨ (b = u ∧ a = x / 2) := fun b a v e => by
        rw [hM'] at e
        unfold setPg at e
        by_cases g : b = u ∧ a = x / 2
        · exact Or.inr g
        · rw [if_neg g] at e; exact Or.inl e
      rw [← hM'] at n2 hset hle
      clear hM'
      obtain ⟨s', hs'⟩ : ∃ s' : ApS, s' = ({ f j with perhaps := true } : ApS).next := ⟨_, rfl⟩
      have hnx : s' = { f j with perhaps := true, i := (k : Int) + 1, «at» := if k = 1 then 5 else 3 } := by
        rw [hs']
        unfold ApS.next
        simp only [hp, ← hx, chain_len x0 (show x < 16384 by omega), hik]
        have : k = 0 ∨ k = 1 := by omega
        rcases this with rfl | rfl <;> rfl
      have a1 : s'.at = if k = 1 then 5 else 3 := by rw [hnx]
      have a2 : s'.i = (k : Int) + 1 := by rw [hnx]
      have a3 : s'.addr = x := by rw [hnx]; exact hx.symm
      have a4 : s'.p = qO := by rw [hnx]; exact hp
      have a5 : s'.txt = recs j := by rw [hnx]; exact htx
      have a6 : s'.err = 0 := by rw [hnx]; exact her
      show OI n recs _ (upA f j ({ f j with perhaps := true } : ApS).next) ∧ muO ({ f j with perhaps := true } : ApS).next < muO (f j)
      rw [← hs']
      clear hs' hnx
      have a7 : s'.at ≠ 2 := by rw [a1]; split <;> omega
      have hms : muO s' = 1 - k := by
        unfold muO
        rw [if_neg a7, a1, a2]
        by_cases g : k = 1
        · subst g; rfl
        · obtain rfl : k = 0 := by omega
          rfl
      have hsum := smO_up (s := s') n hj (f := f)
      have hj2 : (f j).at ≠ 2 := by omega
      refine ⟨⟨⟨t, c + 1, M', n2, by omega, by omega, fun i hi => ?_, fun b a v hb hv => ?_⟩, fun i' l hi' hl hil hi2 hl2 => ?_⟩, by omega⟩
      · by_cases g : i = j
        · subst g
          rw [upA_at]
          refine ⟨a4, a5, a6, Or.inr ⟨?_, by omega, by omega, fun m hm => ?_⟩⟩
          · rw [a1, a2]
            by_cases g : k = 1
            · subst g; exact Or.inr ⟨rfl, rfl⟩
            · obtain rfl : k = 0 := by omega
              exact Or.inl ⟨rfl, Or.inr rfl⟩
          · rw [a3]
            by_cases g : m = k
            · subst g
              rw [← hu]
              exact hset
            · exact hle _ _ _ (hup m (by omega))
        · rw [upA_ne f _ g]
          exact (hA i hi).le (by omega) hle
      · rcases hinv b a v hv with hv | ⟨rfl, rfl⟩
        · obtain ⟨i, b1, b2, b3, b4⟩ := hM b a v hb hv
          refine ⟨i, b1, ?_⟩
          by_cases g : i = j
          · subst g
            rw [upA_at]
            exact ⟨a7, by omega, by omega⟩
          · rw [upA_ne f _ g]
            exact ⟨b2, b3, b4⟩
        · refine ⟨j, hj, ?_⟩
          rw [upA_at]
          have e1 := uO_div x hk2
          have e2 := uO_mod x hk2
          rw [← hu] at e1 e2
          exact ⟨a7, by omega, by omega⟩
      · by_cases g : i' = j
        · subst g
          rw [upA_at, upA_ne f _ (fun e => hil e.symm)]
          rw [upA_ne f _ (fun e => hil e.symm)] at hl2
          rw [a3, hx]
          exact hP i' l hi' hl hil hj2 hl2
        · rw [upA_ne f _ g] at hi2 ⊢
          by_cases g' : l = j
          · subst g'
            rw [upA_at, a3, hx]
            exact hP i' l hi' hl hil hi2 hj2
          · rw [upA_ne f _ g'] at hl2 ⊢
            exact hP i' l hi' hl hil hi2 hl2
    · exact absurd e h5
theorem OI.txt (h : OI n recs nd f) {j : Nat} (hj : j < n) : (f j).txt = recs j := by
  obtain ⟨⟨t, c, M, -, -, -, hA, -⟩, -⟩ := h
  exact (hA j hj).txt
/-- where one is over -/
theorem OI.fin (h : OI n recs nd f) (hn : n ≤ 12) {j : Nat} (hj : j < n) (h5 : (f j).at = 5) : (f j).err = 0 ∧ 0 ≤ (f j).addr ∧ (f j).addr < 64 ∧ ∀ k, k < 2 → (nd.units (uO (f j).addr k)).pg.read ((f j).addr / 2) = (recs j, 0) := by
  obtain ⟨⟨t, c, M, hV, ht, hc, hA, hM⟩, hP⟩ := h
  obtain ⟨hp, htx, her, hw⟩ := hA j hj
  rcases hw with e | ⟨hw, x0, x1, hup⟩
  · omega
  · refine ⟨her, x0, by omega, fun k hk => ?_⟩
    have hi : (f j).i = 2 := by
      rcases hw with ⟨e, -⟩ | ⟨-, e⟩
      · omega
      · exact e
    obtain ⟨g, hg, hW, hv⟩ := hV.page (uO (f j).addr k) (by have := uO_lt (f j).addr hk; omega)
    rw [hg, hW.read (inB_iff.2 ⟨by omega, by omega⟩), hv, hup k (by omega)]
    rfl
end Go.Proofs.YtohmmjaikhpcfaaGreat
