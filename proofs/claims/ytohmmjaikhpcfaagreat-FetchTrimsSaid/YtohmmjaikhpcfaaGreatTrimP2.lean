/- what a fetch that fills nothing tells over trimmed units: plain Lean -/
import Derived.Test.YtohmmjaikhpcfaaGreatTrimP
namespace Go.Proofs.YtohmmjaikhpcfaaGreat
open Go.RowKit Esch

theorem PgE.low {g : PgS} {R E c : Nat} (h : PgE g R E c) {p : Int} (hin : inB p = true) (hp : p < E) : g.kind p = 3 ∧ g.read p = (⟨#[]⟩, 43) := by
  have hk : g.kind p = 3 := by unfold PgS.kind; rw [if_neg (by rw [hin]; simp), if_pos (by rw [h.edge]; exact hp)]
  refine ⟨hk, ?_⟩
  unfold PgS.read
  rw [if_neg (by rw [hin]; simp), if_pos hk]
theorem feTurn0 {s : HdS × FeS} (h : s.2.at ≠ 6) : feTurn s 0 = ({ s.1 with nd := (s.1.nd.do s.2.ask.1).2 }, s.2.hear (s.1.nd.do s.2.ask.1).1 true) := by
  unfold feTurn HdS.ask
  rw [if_neg h, if_pos rfl]
def fe2 (a : Nat) : FeS := ⟨qT, a, false, 2, 0, 0, 0, ⟨#[]⟩, 0⟩
theorem fe0_eq {a : Nat} (ha : a < 40) : fe0 qT a false = fe2 a := by unfold fe0; rw [ofP_qT ha]; rfl
theorem fate_nil (i : Nat) : fateF [] i = 0 := if_neg (by simp)
theorem fe2_ask {a : Nat} (ha : a < 40) : (fe2 a).ask.1 = ⟨3, (uT a (lenT a - 1) : Nat), 0, ((a / 3 : Nat) : Int), 0, 0, ⟨#[]⟩, Esch.p0⟩ := by
  obtain ⟨hcl, hcu⟩ := chainP_qT ha
  have hl := lenT_le a
  have hep : (fe2 a).p.epoch = 0 := rfl
  have hcp : chainP (fe2 a).p (fe2 a).addr = chainP qT (a : Int) := rfl
  have hop : (ofP (fe2 a).p (fe2 a).addr).2.1 = ((a / 3 : Nat) : Int) := by
    have e : ofP (fe2 a).p (fe2 a).addr = ofP qT (a : Int) := rfl
    rw [e, ofP_qT ha]
  rw [FeS.ask_2' rfl, hcp, hcl, hcu _ (by omega), hop, hep]
theorem fe3_ask {a : Nat} (ha : a < 40) : ({ fe2 a with «at» := 3 } : FeS).ask.1 = ⟨3, (uT a 0 : Nat), 0, ((a / 3 : Nat) : Int), 0, 0, ⟨#[]⟩, Esch.p0⟩ := by
  obtain ⟨hcl, hcu⟩ := chainP_qT ha
  have hl := lenT_le a
  obtain ⟨s, hs⟩ : ∃ s, s = ({ fe2 a with «at» := 3 } : FeS) := ⟨_, rfl⟩
  have hat : s.at = 3 := by rw [hs]
  have hp : s.p = qT := by rw [hs]; rfl
  have hx : s.addr = (a : Int) := by rw [hs]; rfl
  rw [← hs, FeS.ask_3 hat, hp, hx, hcu _ (by omega), ofP_qT ha]
def TrOut (nd : NdS) (a n : Nat) (r : HdS × FeS) : Prop :=
  ∃ kd d, FOverV r.2 = .tuple #[.int .i64 kd, .string d, .int .i64 0, .bool true] ∧ (kd = 3 ↔ a / 3 < n) ∧ (kd = 0 ↔ ((nd.units (uT a 0)).pg.kind ((a / 3 : Nat) : Int) = 0 ∧ n ≤ a / 3)) ∧ (kd ≠ 1 → d = ⟨#[]⟩) ∧ (kd = 0 ∨ kd = 3 → ∀ k, k < lenT a → (r.1.nd.units (uT a k)).pg.m.length = (nd.units (uT a k)).pg.m.length)
theorem hlt_pg {nd : NdS} {t : Nat} {P : Nat → PgS} (h : Hlt nd t P) {u : Nat} (hu : u < 16) : (nd.units u).pg = P u := by rw [h.units u hu]
theorem stR_30 {hd : HdS} {a : Nat} {i : Nat} (hi : i ≤ 30) (h : (stR hd qT a false [] i).2.at = 6) : stR hd qT a false [] 30 = stR hd qT a false [] i := by
  have := stR_stop h (30 - i)
  rwa [show i + (30 - i) = 30 by omega] at this
theorem stR_1 {hd : HdS} {a : Nat} (ha : a < 40) : stR hd qT a false [] 1 = ({ hd with nd := (hd.nd.do (fe2 a).ask.1).2 }, (fe2 a).hear (hd.nd.do (fe2 a).ask.1).1 true) := by
  show feTurn (hd, fe0 qT a false) (fateF [] 0) = _
  rw [fe0_eq ha, fate_nil, feTurn0 (by show (2 : Int) ≠ 6; decide)]
theorem trim_out {hd : HdS} {nd : NdS} {R : Nat} {M : Pgs} (h : VI nd R M) {a n : Nat} (ha : a < 40) (hn : n ≤ 14) (hnd : hd.nd = trS nd a n (lenT a)) : TrOut hd.nd a n (stR hd qT a false [] 30) := by
  have hl := lenT_le a
  have hul : uT a (lenT a - 1) < 16 := by have := uT_lt (show lenT a - 1 < lenT a by omega); omega
  have hu0 : uT a 0 < 16 := by have := uT_lt (show 0 < lenT a by omega); omega
  have hin := inB_page ha
  have hvw := trS_vw h hn (lenT a) (Nat.le_refl _)
  rw [← hnd] at hvw
  obtain ⟨P, h1, h2⟩ := id hvw
  obtain ⟨r1, r2⟩ := h1.read _ hul ((a / 3 : Nat) : Int) ⟨#[]⟩
  have hpl := (h2 _ hul).1
  rw [edT_in (show lenT a - 1 < lenT a by omega)] at hpl
  have hp0 := (h2 _ hu0).1
  rw [edT_in (show 0 < lenT a by omega)] at hp0
  have hs1 := stR_1 (hd := hd) ha
  rw [fe2_ask ha] at hs1
  rw [r1] at hs1
  have hsame : ∀ {nd' : NdS}, Hlt nd' 0 P → ∀ k, k < lenT a → (nd'.units (uT a k)).pg.m.length = (hd.nd.units (uT a k)).pg.m.length := fun h' k hk => by
    have hu : uT a k < 16 := by have := uT_lt hk; omega
    rw [hlt_pg h' hu, hlt_pg h1 hu]
  by_cases hlow : a / 3 < n
  · have hk3 := (hpl.low hin (by omega)).2
    rw [hk3] at hs1
    have hh : (fe2 a).hear (anU 43 ⟨#[]⟩) true = (fe2 a).over 3 ⟨#[]⟩ := rfl
    rw [hh] at hs1
    have h30 := stR_30 (hd := hd) (i := 1) (by decide) (by rw [hs1]; rfl)
    rw [h30, hs1]
    refine ⟨3, ⟨#[]⟩, rfl, ⟨fun _ => hlow, fun _ => rfl⟩, ⟨fun e => absurd e (by decide), fun e => by omega⟩, fun _ => rfl, fun _ => hsame r2⟩
  · have hV := trS_above h hn (show n ≤ a / 3 by omega)
    rw [← hnd] at hV
    obtain ⟨m, v, hp, gv⟩ := hV.inv.pre a ha
    have hkind : (hd.nd.units (uT a 0)).pg.kind ((a / 3 : Nat) : Int) = if m = 0 then 0 else v.1 := by
      rw [hlt_pg h1 hu0]
      have hv := (h2 _ hu0).2 ((a / 3 : Nat) : Int)
      rw [hp.at' 0 (by omega)] at hv
      by_cases e : m = 0
      · rw [if_neg (by omega)] at hv
        rw [if_pos e]
        exact hp0.kind_none ⟨hin, by omega⟩ hv
      · rw [if_pos (by omega)] at hv
        rw [if_neg e]
        exact (hp0.kind_some ⟨hin, by omega⟩ hv).1
    by_cases hm : m = 0
    · subst hm
      rw [if_pos rfl] at hkind
      have hrd : ∀ k, k < lenT a → ∀ (hu : uT a k < 16), (P (uT a k)).read ((a / 3 : Nat) : Int) = (⟨#[]⟩, 42) := fun k hk hu => by
        have hpk := (h2 _ hu).1
        rw [edT_in hk] at hpk
        rw [hpk.read ⟨hin, by omega⟩, (h2 _ hu).2, hp.at' k hk, if_neg (by omega)]
      rw [hrd _ (by omega) hul] at hs1
      have hcl := (chainP_qT ha).1
      have hh : (fe2 a).hear (anU 42 ⟨#[]⟩) true = if lenT a = 1 then (fe2 a).over 0 ⟨#[]⟩ else { fe2 a with «at» := 3 } := by
        rw [FeS.hear_look (by show (2 : Int) ≠ 6; decide) (by show ¬ ((2 : Int) = 0 ∨ (2 : Int) = 1); decide) (by show (42 : Int) ≠ 45; decide) (by show (42 : Int) ≠ 40; decide) (by show (42 : Int) ≠ 43; decide), show chainP (fe2 a).p (fe2 a).addr = chainP qT (a : Int) from rfl, hcl, look_2_42 rfl _ rfl]
        rfl
      rw [hh] at hs1
      have fin : ∀ r : HdS × FeS, r.2 = (fe2 a).over 0 ⟨#[]⟩ → Hlt r.1.nd 0 P → TrOut hd.nd a n r := fun r hr hP => by
        refine ⟨0, ⟨#[]⟩, by rw [hr]; rfl, ⟨fun e => absurd e (by decide), fun e => absurd e hlow⟩, ⟨fun _ => ⟨hkind, by omega⟩, fun _ => rfl⟩, fun _ => rfl, fun _ => hsame hP⟩
      by_cases e1 : lenT a = 1
      · rw [if_pos e1] at hs1
        have h30 := stR_30 (hd := hd) (i := 1) (by decide) (by rw [hs1]; rfl)
        rw [h30, hs1]
        exact fin _ rfl r2
      · rw [if_neg e1] at hs1
        obtain ⟨q1, q2⟩ := r2.read _ hu0 ((a / 3 : Nat) : Int) ⟨#[]⟩
        have hs2 : stR hd qT a false [] 2 = feTurn (stR hd qT a false [] 1) (fateF [] 1) := rfl
        rw [hs1, fate_nil, feTurn0 (by show (3 : Int) ≠ 6; decide)] at hs2
        simp only at hs2
        rw [fe3_ask ha, q1, hrd 0 (by omega) hu0] at hs2
        have hh3 : ({ fe2 a with «at» := 3 } : FeS).hear (anU 42 ⟨#[]⟩) true = (fe2 a).over 0 ⟨#[]⟩ := by
          rw [FeS.hear_look (by show (3 : Int) ≠ 6; decide) (by show ¬ ((3 : Int) = 0 ∨ (3 : Int) = 1); decide) (by show (42 : Int) ≠ 45; decide) (by show (42 : Int) ≠ 40; decide) (by show (42 : Int) ≠ 43; decide), look_3_42 rfl _ rfl]
          rfl
        rw [hh3] at hs2
        have h30 := stR_30 (hd := hd) (i := 2) (by decide) (by rw [hs2]; rfl)
        rw [h30, hs2]
        exact fin _ rfl q2
    · rw [if_neg hm] at hkind
      obtain ⟨W, M', m', hW, g1, g2, g3, g4, kd, d, g5, g6⟩ := fetch_endT (hd := hd) false [] ha hV hp gv
      rw [if_neg hm] at hW
      subst hW
      have g5 : FOverV (stR hd qT a false [] 30).2 = .tuple #[.int .i64 kd, .string d, .int .i64 0, .bool true] := g5
      rcases g6 with ⟨-, g6⟩ | ⟨-, -, -, g6⟩
      · rw [g6] at hkind gv
        have hkd : kd = 1 ∨ (kd = 2 ∧ d = ⟨#[]⟩) := by
          rcases gv with e | ⟨e, -⟩
          · obtain ⟨e1, e2⟩ := Prod.mk.inj e; exact Or.inr ⟨e1, e2⟩
          · exact Or.inl e
        have hkind : (hd.nd.units (uT a 0)).pg.kind ((a / 3 : Nat) : Int) = kd := hkind
        refine ⟨kd, d, g5, ⟨fun e => by omega, fun e => absurd e hlow⟩, ⟨fun e => by omega, fun e => by rw [← hkind]; exact e.1⟩, fun e => ?_, fun e => by omega⟩
        rcases hkd with e1 | e1
        · exact absurd e1 e
        · exact e1.2
      · have e1 := hp.at' 0 (by omega)
        rw [if_pos (by omega)] at e1
        have e2 := g2 _ _ _ e1
        rw [g3.at' 0 (by omega), if_neg (by omega)] at e2
        cases e2
end Go.Proofs.YtohmmjaikhpcfaaGreat
