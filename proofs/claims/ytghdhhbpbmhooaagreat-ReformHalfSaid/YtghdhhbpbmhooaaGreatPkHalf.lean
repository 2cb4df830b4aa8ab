import Derived.Test.YtghdhhbpbmhooaaGreatKeepOk3
/- a record under way when the projection changes: plain Lean -/
namespace Go.Proofs.YtghdhhbpbmhooaaGreat
open Go.RowKit Esch

/-- a change of well nodes, all units up or those that leave down -/
theorem change_kv {hd : HdS} {q : Proj} {c : Nat} {t0 : Int} {M : Pgs} {D : Nat → Bool} (hK : Kv hd.nd 100 c M E0 D 0 t0 (lay0 qOld)) (hq : nextB qOld q = true) (hD : ∀ u : Nat, D u = true → (u : Int) ∉ q.units) (fates : List Int) :
    (stC hd q fates (fates.length + 60)).2.at = 4 ∧ (stC hd q fates (fates.length + 60)).2.overE = 0 ∧ ∃ E t, Kv (stC hd q fates (fates.length + 60)).1.nd 100 c M E D 1 (tailP qOld t) ((lay0 qOld).count q) ∧ KEnv q E D ∧ ∀ x, get t x = if x ∈ usP qOld ∧ D x.toNat = false then some (hd.nd.units x.toNat).pg.tail else none := by
  have hnx := nextO hq
  have hep := hnx.ep
  have h0 := pre_old (E := fun _ => 0) (D := D) hq (fun _ _ => Or.inl rfl) (fun u hu hd hu' => by
    have hu0 := (usP_in (p := qOld) (by decide) hu).1
    refine hD u.toNat hd ?_
    rw [show ((u.toNat : Nat) : Int) = u by omega]
    exact mem_unitsOf.1 hu')
  have hp : ChPre qOld q D (fun _ => 0) (lay0 qOld) ⟨0, true, t0⟩ := ⟨h0.hn, h0.hm, h0.lp, h0.ee, h0.dn, by show (0 : Int) < q.epoch; omega⟩
  have hI : ChI qOld q (fun i => (hd.nd.units i).pg) D (fun _ => 0) (lay0 qOld) ⟨0, true, t0⟩ hd.nd (re0 q) := ChI.start hp (fun i hi => ⟨rfl, (hK.un i hi).2.2.2⟩) (fun i hi => (hK.un i hi).2.2.1) hK.l hK.o
  have hend := stC_end hp hI fates
  obtain ⟨n', hn'⟩ : ∃ n', n' = (stC hd q fates (fates.length + 60)).1.nd := ⟨_, rfl⟩
  rw [← hn'] at hend ⊢
  obtain ⟨t, ho, ht⟩ := hend.ord
  refine ⟨hend.fin.1, hend.fin.2, fun u => (n'.units u).epoch, t, ⟨fun u hu => ?_, ?_, hend.lay⟩, ⟨hnx, fun u _ hu => ?_, fun u hu => ?_, fun u hu => ?_⟩, ht⟩
  · obtain ⟨g1, g2⟩ := hend.pg u hu
    obtain ⟨k1, k2, -⟩ := hK.un u hu
    rw [g1]
    exact ⟨k1, k2, rfl, g2⟩
  · rw [ho, hep]
  · cases hd' : D u with
    | false => rfl
    | true => exact absurd hu (hD u hd')
  · rcases hend.ep u hu with e | e
    · show (n'.units u).epoch ≤ 1; omega
    · show (n'.units u).epoch ≤ 1; omega
  · cases hd' : D u with
    | true => exact Or.inl rfl
    | false =>
      refine Or.inr ⟨rfl, ?_⟩
      have := hend.sl (u : Int) (mem_unitsOf.2 hu) (by rw [Int.toNat_natCast]; exact hd')
      rw [Int.toNat_natCast] at this
      show 0 < (n'.units u).epoch
      omega
/-- an append that has been asked j times ahead of the change -/
structure Hs (j : Nat) (n : NdS) (s : ApS) (M : Pgs) (d : ByteArray) : Prop where
  kv : Kv n 100 j M E0 D0 0 (if j = 0 then 0 else 1) (lay0 qOld)
  mv : ∀ (u : Nat) a, M u a = if u + 1 < j ∧ a = 0 then some (1, d) else none
  p : s.p = qOld
  txt : s.txt = d
  err : s.err = 0
  wh : (j = 0 ∧ s.at = 2) ∨ (1 ≤ j ∧ j ≤ 3 ∧ s.at = 3 ∧ s.addr = 0 ∧ s.i = (j : Int) - 1) ∨ (j = 4 ∧ s.at = 5 ∧ s.addr = 0)
theorem hs_start {d : ByteArray} (hd : d.size ≤ 4096) : Hs 0 hdO.nd (ap0 qOld d) (fun _ _ => none) d := by
  have hap : ap0 qOld d = ⟨qOld, d, 2, 0, 0, 0, 0, false⟩ := by unfold ap0; rw [if_neg (by decide), if_neg (by omega)]
  exact ⟨kv_start, fun u a => by rw [if_neg (fun h => by omega)], by rw [hap], by rw [hap], by rw [hap], Or.inl ⟨rfl, by rw [hap]⟩⟩
theorem chain_old0 : chainP qOld 0 = [0, 1, 2] ∧ (ofP qOld 0).2.1 = 0 ∧ (ofP qOld 0).2.2 = true := by decide
theorem hs_step {j : Nat} {n : NdS} {s : ApS} {M : Pgs} {d : ByteArray} (h : Hs j n s M d) (hj : j < 4) (hd : d.size ≤ 4096) : ∃ M', Hs (j + 1) (apN (n, s)).1 (apN (n, s)).2 M' d := by
  obtain ⟨c1, c2, c3⟩ := chain_old0
  have hK := h.kv
  rcases h.wh with ⟨rfl, h2⟩ | ⟨j1, j3, h3, ha, hi⟩ | ⟨rfl, -⟩
  · have hq : s.ask.1 = ⟨6, 0, 0, 0, 0, 0, ⟨#[]⟩, Esch.p0⟩ := by
      unfold ApS.ask
      rw [if_neg (by omega), if_neg (by omega), if_pos h2, h.p]
    rw [if_pos rfl] at hK
    obtain ⟨g1, g2, g3⟩ := hK.tok (by decide)
    have hh : s.hear (n.do ⟨6, 0, 0, 0, 0, 0, ⟨#[]⟩, Esch.p0⟩).1 true = { s with «at» := 3, i := 0, addr := 0 } := by
      rw [hear_tok h2 g1 (by rw [g2, h.p]; exact c3), g2]
    have f1 : apN (n, s) = ((n.do ⟨6, 0, 0, 0, 0, 0, ⟨#[]⟩, Esch.p0⟩).2, { s with «at» := 3, i := 0, addr := 0 }) := by
      unfold apN
      simp only
      rw [if_neg (by omega), hq, hh]
    rw [f1]
    refine ⟨M, ⟨?_, fun u a => ?_, h.p, h.txt, h.err, Or.inr (Or.inl ⟨by omega, by omega, rfl, rfl, rfl⟩)⟩⟩
    · rw [if_neg (by omega)]
      exact g3.mono (by omega)
    · rw [h.mv, if_neg (fun h => by omega), if_neg (fun h => by omega)]
  · obtain ⟨u, rfl⟩ : ∃ u, j = u + 1 := ⟨j - 1, by omega⟩
    have hu : ([0, 1, 2] : List Int).getD u 0 = (u : Int) := by
      have : u = 0 ∨ u = 1 ∨ u = 2 := by omega
      rcases this with rfl | rfl | rfl <;> rfl
    have hq : s.ask.1 = ⟨1, u, 0, 0, 0, 0, d, Esch.p0⟩ := by
      unfold ApS.ask
      rw [if_neg (by omega), if_neg (by omega), if_neg (by omega), if_pos h3, h.p, ha, c1, c2, h.txt, hi, show ((u + 1 : Nat) : Int) - 1 = u by omega, Int.toNat_natCast, hu]
    have hM : M u 0 = none := by rw [h.mv, if_neg (fun h => by omega)]
    obtain ⟨g1, g2⟩ := hK.write_new u (by omega) 0 0 rfl (Int.le_refl _) (by decide) d hd (by omega) hM
    have hlen : (chainP s.p s.addr).length = 3 := by rw [h.p, ha, c1]; rfl
    refine ⟨setPg M u 0 (1, d), ?_⟩
    have hmv : ∀ (v : Nat) a, setPg M u 0 (1, d) v a = if v + 1 < u + 1 + 1 ∧ a = 0 then some (1, d) else none := fun v a => by
      unfold setPg
      by_cases e : v = u ∧ a = 0
      · rw [if_pos e, if_pos ⟨by omega, e.2⟩]
      · rw [if_neg e, h.mv]
        by_cases e2 : v + 1 < u + 1 ∧ a = 0
        · rw [if_pos e2, if_pos ⟨by omega, e2.2⟩]
        · rw [if_neg e2, if_neg (fun e3 => by
            by_cases e4 : v = u
            · exact e ⟨e4, e3.2⟩
            · exact e2 ⟨by omega, e3.2⟩)]
    rw [if_neg (by omega)] at g2
    by_cases h4 : u + 1 = 3
    · have hh : s.hear (n.do ⟨1, u, 0, 0, 0, 0, d, Esch.p0⟩).1 true = { s with perhaps := true, i := s.i + 1, «at» := 5 } := by
        rw [hear_ok3 h3 g1]
        unfold ApS.next
        rw [if_pos (by show s.i + 1 = ((chainP s.p s.addr).length : Int); rw [hlen, hi]; omega)]
      have f1 : apN (n, s) = ((n.do ⟨1, u, 0, 0, 0, 0, d, Esch.p0⟩).2, { s with perhaps := true, i := s.i + 1, «at» := 5 }) := by
        unfold apN
        simp only
        rw [if_neg (by omega), hq, hh]
      rw [f1]
      exact ⟨by rw [if_neg (by omega)]; exact g2, hmv, h.p, h.txt, h.err, Or.inr (Or.inr ⟨by omega, rfl, ha⟩)⟩
    · have hh : s.hear (n.do ⟨1, u, 0, 0, 0, 0, d, Esch.p0⟩).1 true = { s with perhaps := true, i := s.i + 1, «at» := 3 } := by
        rw [hear_ok3 h3 g1]
        unfold ApS.next
        rw [if_neg (by show ¬ s.i + 1 = ((chainP s.p s.addr).length : Int); rw [hlen, hi]; omega)]
      have f1 : apN (n, s) = ((n.do ⟨1, u, 0, 0, 0, 0, d, Esch.p0⟩).2, { s with perhaps := true, i := s.i + 1, «at» := 3 }) := by
        unfold apN
        simp only
        rw [if_neg (by omega), hq, hh]
      rw [f1]
      exact ⟨by rw [if_neg (by omega)]; exact g2, hmv, h.p, h.txt, h.err, Or.inr (Or.inl ⟨by omega, by omega, rfl, ha, by show s.i + 1 = _; rw [hi]; omega⟩)⟩
  · omega
/-- the tail that such a change finds -/
theorem hs_tail {j : Nat} {n : NdS} {s : ApS} {M : Pgs} {d : ByteArray} (h : Hs j n s M d) {u : Nat} (hu : u < 5) : (n.units u).pg.tail = if u + 1 < j then 1 else 0 := by
  obtain ⟨h1, h2, -⟩ := h.kv.un u (by omega)
  by_cases e : u + 1 < j
  · rw [if_pos e]
    exact h1.tail (K := 1) (fun a v hv => by
      rw [h2, h.mv] at hv
      by_cases e2 : u + 1 < j ∧ a = 0
      · omega
      · rw [if_neg e2] at hv; cases hv) (Or.inr ⟨(1, d), by rw [h2, h.mv, if_pos ⟨e, by omega⟩]⟩)
  · rw [if_neg e]
    exact h1.tail (K := 0) (fun a v hv => by
      rw [h2, h.mv, if_neg (fun e2 => e e2.1)] at hv
      cases hv) (Or.inl rfl)
theorem tail_half {j : Nat} {n : NdS} {s : ApS} {M : Pgs} {d : ByteArray} {t : List (Int × Int)} (h : Hs j n s M d) (hj : j ≤ 4) (ht : ∀ x, get t x = if x ∈ usP qOld ∧ D0 x.toNat = false then some (n.units x.toNat).pg.tail else none) : tailP qOld t = if j ≤ 1 then 0 else 1 := by
  have hin : ∀ x, x ∈ spotsP t qOld.chains 2 → ∃ c u : Nat, c < 2 ∧ (u : Int) ∈ chO c ∧ x = ((c : Int), if u + 1 < j then 1 else 0) := fun x hx => by
    have key : ∀ c : Nat, c < 2 → x ∈ spotC t c (chO c) → ∃ u : Nat, (u : Int) ∈ chO c ∧ x = ((c : Int), if u + 1 < j then 1 else 0) := fun c hc hx => by
      simp only [spotC, List.mem_filterMap, Option.map_eq_some_iff] at hx
      obtain ⟨u, hu, n', hn, rfl⟩ := hx
      have hu0 : 0 ≤ u := (nextO_old.mem hc hu).2.1
      obtain ⟨v, rfl⟩ : ∃ v : Nat, u = v := ⟨u.toNat, by omega⟩
      refine ⟨v, hu, ?_⟩
      rw [ht, if_pos ⟨mem_unitsOf.2 (chO_units hc hu), rfl⟩, Int.toNat_natCast, hs_tail h (chO_cases hc hu)] at hn
      rw [← Option.some.inj hn]
      by_cases e : v + 1 < j
      · simp only [if_pos e]; rfl
      · simp only [if_neg e]; rfl
    have hx : x ∈ ([] ++ spotC t 0 (chO 0)) ++ spotC t 1 (chO 1) := hx
    rw [List.nil_append, List.mem_append] at hx
    rcases hx with hx | hx
    · obtain ⟨u, g1, g2⟩ := key 0 (by omega) hx
      exact ⟨0, u, by omega, g1, g2⟩
    · obtain ⟨u, g1, g2⟩ := key 1 (by omega) hx
      exact ⟨1, u, by omega, g1, g2⟩
  unfold tailP
  rw [if_pos (by decide)]
  show maxV 2 (spotsP t qOld.chains 2) = _
  refine maxV_eq (fun x hx => ?_) ?_ ?_
  · obtain ⟨c, u, hc, hu, rfl⟩ := hin x hx
    unfold spotV
    simp only
    by_cases e : u + 1 < j
    · have hc0 : c = 0 := by
        have : c = 0 ∨ c = 1 := by omega
        rcases this with rfl | rfl
        · rfl
        · have hu : (u : Int) ∈ ([3, 4] : List Int) := hu
          simp only [List.mem_cons, List.not_mem_nil, or_false] at hu
          omega
      subst hc0
      rw [if_pos e, if_pos (by decide), if_neg (by omega)]
      decide
    · rw [if_neg e, if_neg (by decide)]
      by_cases e1 : j ≤ 1
      · rw [if_pos e1]; decide
      · rw [if_neg e1]; decide
  · by_cases e1 : j ≤ 1
    · rw [if_pos e1]; decide
    · rw [if_neg e1]; decide
  · by_cases e1 : j ≤ 1
    · rw [if_pos e1]; exact Or.inl rfl
    · rw [if_neg e1]
      refine Or.inr ⟨(0, 1), ?_, rfl⟩
      show _ ∈ ([] ++ spotC t 0 (chO 0)) ++ spotC t 1 (chO 1)
      rw [List.nil_append, List.mem_append]
      refine Or.inl ?_
      simp only [spotC, List.mem_filterMap, Option.map_eq_some_iff]
      refine ⟨0, by decide, 1, ?_, rfl⟩
      rw [ht, if_pos ⟨by decide, rfl⟩]
      have := hs_tail h (u := 0) (by omega)
      rw [if_pos (by omega)] at this
      exact congrArg some this
end Go.Proofs.YtghdhhbpbmhooaaGreat

/- a record under way when the projection changes: what becomes of it, and of what is read; plain Lean -/
namespace Go.Proofs.YtghdhhbpbmhooaaGreat
open Go.RowKit Esch

abbrev noB : ByteArray := ⟨#[]⟩
section
variable {q : Proj} {x : Int} {C : List Int} {pg : Int} {R : Nat} {E : Nat → Int} {D : Nat → Bool} {e t : Int} {L : LayS}
/-- all units are there; on this page nothing lies, or junk -/
def Rdy2 (C : List Int) (M : Pgs) (E : Nat → Int) (D : Nat → Bool) (ep pg : Int) : Prop := ∀ k, k < C.length → ∃ u : Nat, u < 16 ∧ C.getD k 0 = u ∧ D u = false ∧ E u ≤ ep ∧ (M u pg = none ∨ M u pg = some (2, noB))
theorem Rdy2.ext {M M' : Pgs} {ep : Int} (h : Rdy2 C M E D ep pg) (hx : Ext M M' C pg (2, noB)) : Rdy2 C M' E D ep pg := fun k hk => by
  obtain ⟨u, h1, h2, h3, h4, h5⟩ := h k hk
  refine ⟨u, h1, h2, h3, h4, ?_⟩
  rcases hx u pg with e | ⟨-, -, -, e⟩
  · rw [e]; exact h5
  · exact Or.inr e
/-- a unit is filled -/
theorem fill_it {n : NdS} {c : Nat} {M : Pgs} (hK : Kv n R c M E D e t L) (hc : c < R) (hb : inB pg = true) {u : Nat} (hu : u < 16) (hm : (u : Int) ∈ C) {ep : Int} (h3 : D u = false) (h4 : E u ≤ ep) (h5 : M u pg = none ∨ M u pg = some (2, noB)) : ∃ M', (n.do ⟨2, u, ep, pg, 0, 0, noB, Esch.p0⟩).1.code = 0 ∧ Kv (n.do ⟨2, u, ep, pg, 0, 0, noB, Esch.p0⟩).2 R (c + 1) M' E D e t L ∧ Ext M M' C pg (2, noB) ∧ M' u pg = some (2, noB) := by
  rcases h5 with h5 | h5
  · obtain ⟨g1, g2⟩ := hK.fill_new u hu ep pg h3 h4 hb hc h5
    exact ⟨_, g1, g2, Ext.set hm h5, setPg_at _ _ _ _⟩
  · obtain ⟨g1, g2⟩ := hK.fill_old u hu ep pg h3 h4 hb h5
    rw [if_pos rfl] at g1
    exact ⟨M, g1, g2.mono (by omega), Ext.refl, h5⟩
theorem fe_mend2 (hc : Chn q x C pg) : ∀ (m : Nat) {n : NdS} {c i : Nat} {M : Pgs} {s : FeS}, Kv n R c M E D e t L → c + (m + 1) ≤ R → Rdy2 C M E D q.epoch pg → s.p = q → s.addr = x → s.at = 5 → s.kind = 2 → s.s = noB → s.i = i → i + (m + 1) = C.length →
    ∃ n' s' M', it feN (m + 1) (n, s) = (n', s') ∧ s'.at = 6 ∧ s'.kind = 2 ∧ s'.s = noB ∧ s'.err = s.err ∧ Kv n' R (c + (m + 1)) M' E D e t L ∧ Ext M M' C pg (2, noB) ∧ ∀ k, i ≤ k → k < C.length → ∀ u : Nat, C.getD k 0 = u → M' u pg = some (2, noB) := by
  intro m
  induction m with
  | zero =>
    intro n c i M s hK hR hr hp hx h5 hk hs hi hm
    obtain ⟨u, u1, u2, u3, u4, u5⟩ := hr i (by omega)
    have hmem : (u : Int) ∈ C := by rw [← u2]; exact getD_in (by omega)
    have ha : s.ask.1 = ⟨2, u, q.epoch, pg, 0, 0, noB, Esch.p0⟩ := by
      unfold FeS.ask
      rw [if_neg (by omega), if_neg (by omega), if_neg (by omega), if_neg (by omega), if_neg (by omega), if_neg (by omega), hp, hx, hc.ch, hc.of, hi, Int.toNat_natCast, u2]
    have hlen : (chainP s.p s.addr).length = C.length := by rw [hp, hx, hc.ch]
    have key : ∀ y : AnS, y.code = 0 → s.hear y true = { s with i := s.i + 1, «at» := 6 } := fun y hy => by
      rw [fe_look (by omega) (by omega) (by omega) (by omega), hlen]
      unfold FeS.look
      rw [if_neg (by omega), if_neg (by omega), if_neg (by omega), if_neg (by omega), if_neg (by omega), if_pos (Or.inl hy)]
      unfold FeS.mended
      rw [if_pos (by rw [hi]; omega)]
    obtain ⟨M', g1, g2, g3, g4⟩ := fill_it (C := C) hK (by omega) hc.inb u1 hmem u3 u4 u5
    refine ⟨(n.do ⟨2, u, q.epoch, pg, 0, 0, noB, Esch.p0⟩).2, { s with i := s.i + 1, «at» := 6 }, M', ?_, rfl, hk, hs, rfl, g2, g3, fun k hk1 hk2 w hw => ?_⟩
    · show feN (n, s) = _
      unfold feN
      simp only
      rw [if_neg (by omega), ha, key _ g1]
    · obtain rfl : k = i := by omega
      obtain rfl : w = u := by have : (w : Int) = u := by rw [← hw, u2]
                               omega
      exact g4
  | succ m ih =>
    intro n c i M s hK hR hr hp hx h5 hk hs hi hm
    obtain ⟨u, u1, u2, u3, u4, u5⟩ := hr i (by omega)
    have hmem : (u : Int) ∈ C := by rw [← u2]; exact getD_in (by omega)
    have ha : s.ask.1 = ⟨2, u, q.epoch, pg, 0, 0, noB, Esch.p0⟩ := by
      unfold FeS.ask
      rw [if_neg (by omega), if_neg (by omega), if_neg (by omega), if_neg (by omega), if_neg (by omega), if_neg (by omega), hp, hx, hc.ch, hc.of, hi, Int.toNat_natCast, u2]
    have hlen : (chainP s.p s.addr).length = C.length := by rw [hp, hx, hc.ch]
    have key : ∀ y : AnS, y.code = 0 → s.hear y true = { s with i := s.i + 1, «at» := 5 } := fun y hy => by
      rw [fe_look (by omega) (by omega) (by omega) (by omega), hlen]
      unfold FeS.look
      rw [if_neg (by omega), if_neg (by omega), if_neg (by omega), if_neg (by omega), if_neg (by omega), if_pos (Or.inl hy)]
      unfold FeS.mended
      rw [if_neg (by rw [hi]; omega)]
    obtain ⟨M1, g1, g2, g3, g4⟩ := fill_it (C := C) hK (by omega) hc.inb u1 hmem u3 u4 u5
    have h1 : feN (n, s) = ((n.do ⟨2, u, q.epoch, pg, 0, 0, noB, Esch.p0⟩).2, { s with i := s.i + 1, «at» := 5 }) := by
      unfold feN
      simp only
      rw [if_neg (by omega), ha, key _ g1]
    obtain ⟨n', s', M', b1, b2, b3, b4, b5, b6, b7, b8⟩ := ih (i := i + 1) (s := { s with i := s.i + 1, «at» := 5 }) g2 (by omega) (hr.ext g3) hp hx rfl hk hs (by show s.i + 1 = _; rw [hi]; omega) (by omega)
    refine ⟨n', s', M', ?_, b2, b3, b4, b5, by rw [show c + (m + 1 + 1) = c + 1 + (m + 1) by omega]; exact b6, g3.trans b7, fun k hk1 hk2 w hw => ?_⟩
    · show it feN (m + 1) (feN (n, s)) = _
      rw [h1]
      exact b1
    · by_cases hki : k = i
      · subst hki
        obtain rfl : w = u := by have : (w : Int) = u := by rw [← hw, u2]
                                 omega
        exact b7.keep g4
      · exact b8 k (by omega) hk2 w hw
/-- where nothing is, junk is laid -/
theorem fe_junk {n : NdS} {c : Nat} {M : Pgs} {s : FeS} (hc : Chn q x C pg) (hK : Kv n R c M E D e t L) (hR : c + 4 ≤ R) (hr : ∀ k, k < C.length → ∃ u : Nat, u < 16 ∧ C.getD k 0 = u ∧ D u = false ∧ E u ≤ q.epoch ∧ M u pg = none) (hp : s.p = q) (hx : s.addr = x) (h2 : s.at = 2) (hf : s.fill = true) :
    ∃ k, k ≤ 7 ∧ ∃ n' s' M', it feN k (n, s) = (n', s') ∧ s'.at = 6 ∧ s'.kind = 2 ∧ s'.s = noB ∧ s'.err = s.err ∧ Kv n' R (c + 4) M' E D e t L ∧ Ext M M' C pg (2, noB) ∧ ∀ k, k < C.length → ∀ u : Nat, C.getD k 0 = u → M' u pg = some (2, noB) := by
  have n0 := hc.n0
  have n4 := hc.n4
  have hr2 : Rdy2 C M E D q.epoch pg := fun k hk => by
    obtain ⟨u, h1, h2, h3, h4, h5⟩ := hr k hk
    exact ⟨u, h1, h2, h3, h4, Or.inl h5⟩
  have hcl : (chainP s.p s.addr).length = C.length := by rw [hp, hx, hc.ch]
  obtain ⟨ul, l1, l2, l3, l4, l5⟩ := hr (C.length - 1) (by omega)
  obtain ⟨u, u1, u2, u3, u4, u5⟩ := hr 0 (by omega)
  have hmem : (u : Int) ∈ C := by rw [← u2]; exact getD_in (by omega)
  -- the way to the fill of the first unit
  have fin : ∀ (n1 : NdS) (s1 : FeS), Kv n1 R c M E D e t L → s1.p = q → s1.addr = x → s1.at = 4 → ∃ k, k ≤ 5 ∧ ∃ n' s' M', it feN k (n1, s1) = (n', s') ∧ s'.at = 6 ∧ s'.kind = 2 ∧ s'.s = noB ∧ s'.err = s1.err ∧ Kv n' R (c + 4) M' E D e t L ∧ Ext M M' C pg (2, noB) ∧ ∀ k, k < C.length → ∀ u : Nat, C.getD k 0 = u → M' u pg = some (2, noB) := fun n1 s1 hK1 hp1 hx1 h4 => by
    have ha : s1.ask.1 = ⟨2, u, q.epoch, pg, 0, 0, noB, Esch.p0⟩ := by
      unfold FeS.ask
      rw [if_neg (by omega), if_neg (by omega), if_neg (by omega), if_neg (by omega), if_pos h4, hp1, hx1, hc.ch, hc.of, u2]
    have hcl1 : (chainP s1.p s1.addr).length = C.length := by rw [hp1, hx1, hc.ch]
    obtain ⟨M1, g1, g2, g3, g4⟩ := fill_it (C := C) hK1 (by omega) hc.inb u1 hmem u3 u4 (Or.inl u5)
    have hh : s1.hear (n1.do ⟨2, u, q.epoch, pg, 0, 0, noB, Esch.p0⟩).1 true = ({ s1 with kind := 2, s := noB, i := 0 } : FeS).mended C.length := by
      rw [fe_look (by omega) (by omega) (by omega) (by omega), hcl1]
      unfold FeS.look
      rw [if_neg (by omega), if_neg (by omega), if_neg (by omega), if_neg (by omega), if_pos h4, if_pos g1]
    have f1 : feN (n1, s1) = ((n1.do ⟨2, u, q.epoch, pg, 0, 0, noB, Esch.p0⟩).2, ({ s1 with kind := 2, s := noB, i := 0 } : FeS).mended C.length) := by
      unfold feN
      simp only
      rw [if_neg (by omega), ha, hh]
    by_cases hl1 : C.length = 1
    · have hm : ({ s1 with kind := 2, s := noB, i := 0 } : FeS).mended C.length = { s1 with kind := 2, s := noB, i := 1, «at» := 6 } := by
        unfold FeS.mended
        rw [if_pos (by show (C.length : Int) ≤ 0 + 1; omega)]
        rfl
      rw [hm] at f1
      refine ⟨1, by omega, _, _, M1, f1, rfl, rfl, rfl, rfl, g2.mono (by omega), g3, fun k hk w hw => ?_⟩
      obtain rfl : k = 0 := by omega
      obtain rfl : w = u := by have : (w : Int) = u := by rw [← hw, u2]
                               omega
      exact g4
    · have hm : ({ s1 with kind := 2, s := noB, i := 0 } : FeS).mended C.length = { s1 with kind := 2, s := noB, i := 1, «at» := 5 } := by
        unfold FeS.mended
        rw [if_neg (by show ¬ (C.length : Int) ≤ 0 + 1; omega)]
        rfl
      rw [hm] at f1
      obtain ⟨n', s', M', b1, b2, b3, b4, b5, b6, b7, b8⟩ := fe_mend2 hc (C.length - 2) (i := 1) (s := { s1 with kind := 2, s := noB, i := 1, «at» := 5 }) g2 (by omega) (hr2.ext g3) hp1 hx1 rfl rfl rfl rfl (by omega)
      refine ⟨C.length - 2 + 1 + 1, by omega, n', s', M', ?_, b2, b3, b4, b5, b6.mono (by omega), g3.trans b7, fun k hk w hw => ?_⟩
      · show it feN (C.length - 2 + 1) (feN (n1, s1)) = _
        rw [f1]
        exact b1
      · by_cases hk0 : k = 0
        · subst hk0
          obtain rfl : w = u := by have : (w : Int) = u := by rw [← hw, u2]
                                   omega
          exact b7.keep g4
        · exact b8 k (by omega) hk w hw
  have ha : s.ask.1 = ⟨3, ul, q.epoch, pg, 0, 0, noB, Esch.p0⟩ := by
    unfold FeS.ask
    rw [if_neg (by omega), if_neg (by omega), if_pos h2, hp, hx, hc.ch, hc.of, l2]
  obtain ⟨g1, -, g3⟩ := hK.read ul l1 q.epoch pg l3 l4 hc.inb
  rw [l5] at g1
  have g1 : (n.do ⟨3, ul, q.epoch, pg, 0, 0, noB, Esch.p0⟩).1.code = 42 := g1
  obtain ⟨n1, hn1⟩ : ∃ n1, n1 = (n.do ⟨3, ul, q.epoch, pg, 0, 0, noB, Esch.p0⟩).2 := ⟨_, rfl⟩
  have g3 : Kv n1 R c M E D e t L := by rw [hn1]; exact g3
  by_cases hl1 : C.length = 1
  · have hh : s.hear (n.do ⟨3, ul, q.epoch, pg, 0, 0, noB, Esch.p0⟩).1 true = { s with «at» := 4 } := by
      rw [fe_look (by omega) (by omega) (by omega) (by omega), hcl]
      unfold FeS.look
      rw [if_neg (by omega), if_neg (by omega), if_pos h2, if_neg (by omega), if_neg (by omega), if_pos g1, if_pos hl1]
      unfold FeS.none
      rw [hf, if_pos rfl]
    have f1 : feN (n, s) = (n1, { s with «at» := 4 }) := by
      unfold feN
      simp only
      rw [if_neg (by omega), ha, hh, hn1]
    obtain ⟨k, hk, n', s', M', b1, b⟩ := fin n1 { s with «at» := 4 } g3 hp hx rfl
    exact ⟨k + 1, by omega, n', s', M', by show it feN k (feN (n, s)) = _; rw [f1]; exact b1, b⟩
  · have hh : s.hear (n.do ⟨3, ul, q.epoch, pg, 0, 0, noB, Esch.p0⟩).1 true = { s with «at» := 3 } := by
      rw [fe_look (by omega) (by omega) (by omega) (by omega), hcl]
      unfold FeS.look
      rw [if_neg (by omega), if_neg (by omega), if_pos h2, if_neg (by omega), if_neg (by omega), if_pos g1, if_neg hl1]
    have f1 : feN (n, s) = (n1, { s with «at» := 3 }) := by
      unfold feN
      simp only
      rw [if_neg (by omega), ha, hh, hn1]
    have ha3 : ({ s with «at» := 3 } : FeS).ask.1 = ⟨3, u, q.epoch, pg, 0, 0, noB, Esch.p0⟩ := by
      unfold FeS.ask
      rw [if_neg (by simp), if_neg (by simp), if_neg (by simp), if_pos rfl]
      show QS.mk 3 ((chainP s.p s.addr).getD 0 0) s.p.epoch (ofP s.p s.addr).2.1 0 0 noB Esch.p0 = _
      rw [hp, hx, hc.ch, hc.of, u2]
    obtain ⟨k1, -, k3⟩ := g3.read u u1 q.epoch pg u3 u4 hc.inb
    rw [u5] at k1
    have k1 : (n1.do ⟨3, u, q.epoch, pg, 0, 0, noB, Esch.p0⟩).1.code = 42 := k1
    obtain ⟨n2, hn2⟩ : ∃ n2, n2 = (n1.do ⟨3, u, q.epoch, pg, 0, 0, noB, Esch.p0⟩).2 := ⟨_, rfl⟩
    have k3 : Kv n2 R c M E D e t L := by rw [hn2]; exact k3
    have hh3 : ({ s with «at» := 3 } : FeS).hear (n1.do ⟨3, u, q.epoch, pg, 0, 0, noB, Esch.p0⟩).1 true = { s with «at» := 4 } := by
      rw [fe_look (by simp) (by omega) (by omega) (by omega)]
      unfold FeS.look
      rw [if_neg (by simp), if_neg (by simp), if_neg (by simp), if_pos rfl, if_neg (by omega), if_neg (by omega), if_pos k1]
      unfold FeS.none
      rw [if_pos hf]
    have f2 : feN (n1, { s with «at» := 3 }) = (n2, { s with «at» := 4 }) := by
      unfold feN
      simp only
      rw [if_neg (by decide), ha3, hh3, hn2]
    obtain ⟨k, hk, n', s', M', b1, b⟩ := fin n2 { s with «at» := 4 } k3 hp hx rfl
    exact ⟨k + 2, by omega, n', s', M', by show it feN k (feN (feN (n, s))) = _; rw [f1, f2]; exact b1, b⟩
/-- junk is read -/
theorem fe_back {n : NdS} {c : Nat} {M : Pgs} {s : FeS} (hc : Chn q x C pg) (hK : Kv n R c M E D e t L) {u : Nat} (u1 : u < 16) (u2 : C.getD (C.length - 1) 0 = u) (u3 : D u = false) (u4 : E u ≤ q.epoch) (u5 : M u pg = some (2, noB)) (hp : s.p = q) (hx : s.addr = x) (h2 : s.at = 2) :
    ∃ n', it feN 1 (n, s) = (n', s.over 2 noB) ∧ Kv n' R c M E D e t L := by
  have ha : s.ask.1 = ⟨3, u, q.epoch, pg, 0, 0, noB, Esch.p0⟩ := by
    unfold FeS.ask
    rw [if_neg (by omega), if_neg (by omega), if_pos h2, hp, hx, hc.ch, hc.of, u2]
  obtain ⟨g1, -, g3⟩ := hK.read u u1 q.epoch pg u3 u4 hc.inb
  rw [u5] at g1
  have g1 : (n.do ⟨3, u, q.epoch, pg, 0, 0, noB, Esch.p0⟩).1.code = 46 := g1
  refine ⟨_, ?_, g3⟩
  show feN (n, s) = _
  unfold feN
  simp only
  rw [if_neg (by omega), ha, fe_look (by omega) (by omega) (by omega) (by omega)]
  unfold FeS.look
  rw [if_neg (by omega), if_neg (by omega), if_pos h2, if_neg (by omega), if_pos g1]
end
/-- the append, cut off between two units of its, comes to the new projection -/
theorem ap_mid {q : Proj} {R c : Nat} {M : Pgs} {E : Nat → Int} {D : Nat → Bool} {e t : Int} {L : LayS} {n : NdS} {s : ApS} {u : Nat} (hK : Kv n R c M E D e t L) (hL : L.p = q) (hg : goodB q = true) (hp : s.p = qOld) (h3 : s.at = 3) (ha0 : s.addr = 0) (hi : s.i = u) (hu : u < 3) (hd : D u = false) (hE : 0 < E u) :
    ∃ n' s', it apN 2 (n, s) = (n', s') ∧ Kv n' R c M E D e t L ∧ s'.p = q ∧ s'.at = 2 ∧ s'.txt = s.txt ∧ s'.err = s.err := by
  obtain ⟨c1, c2, c3⟩ := chain_old0
  have hu' : ([0, 1, 2] : List Int).getD u 0 = (u : Int) := by
    have : u = 0 ∨ u = 1 ∨ u = 2 := by omega
    rcases this with rfl | rfl | rfl <;> rfl
  have ha : s.ask.1 = ⟨1, u, 0, 0, 0, 0, s.txt, Esch.p0⟩ := by
    unfold ApS.ask
    rw [if_neg (by omega), if_neg (by omega), if_neg (by omega), if_pos h3, hp, ha0, c1, c2, hi, Int.toNat_natCast, hu']
  obtain ⟨g1, g2⟩ := hK.low u (by omega) 0 0 hd hE (k := 1) (by omega) s.txt
  obtain ⟨n1, hn1⟩ : ∃ n1, n1 = (n.do ⟨1, u, 0, 0, 0, 0, s.txt, Esch.p0⟩).2 := ⟨_, rfl⟩
  rw [← hn1] at g2
  have f1 : apN (n, s) = (n1, { s with «at» := 0 }) := by
    unfold apN
    simp only
    rw [if_neg (by omega), ha, hn1]
    unfold ApS.hear
    rw [if_neg (by omega), if_neg (by simp), if_neg (by omega), if_neg (by omega), if_pos g1]
  obtain ⟨l1, l2, l3⟩ := g2.lay
  rw [hL] at l2
  have ha1 : ({ s with «at» := 0 } : ApS).ask.1 = qLay := by
    unfold ApS.ask
    rw [if_neg (by simp), if_pos (Or.inl rfl)]
  have f2 : apN (n1, { s with «at» := 0 }) = (n1, { s with p := q, «at» := 2, addr := 0 }) := by
    unfold apN
    simp only
    rw [if_neg (by decide), ha1, l3]
    unfold ApS.hear
    rw [if_neg (by simp), if_neg (by simp), if_neg (by omega), if_neg (by omega), if_neg (by omega), if_pos rfl, if_pos ⟨l1, by rw [l2]; exact hg⟩, l2]
  exact ⟨n1, { s with p := q, «at» := 2, addr := 0 }, by show apN (apN (n, s)) = _; rw [f1, f2], g2, rfl, rfl, rfl, rfl⟩
/-- of a chain's elder units none stands ahead of the first one -/
theorem heads_ge {old : List Int} (ho : old.Pairwise (· < ·)) {x : Int} {c : List Int} : ∀ u ∈ (x :: c).take (heads old (x :: c)), x ≤ u := fun u hu => by
  unfold heads at hu
  cases hp : posOf x old with
  | none => rw [hp] at hu; simp at hu
  | some k =>
    rw [hp] at hu
    simp only [List.take_succ_cons, List.mem_cons] at hu
    rcases hu with hu | hu
    · omega
    · have h1 := heads_mem _ _ u hu
      obtain ⟨g1, g2, -⟩ := posOf_some hp
      obtain ⟨j, hj, hju⟩ := List.mem_iff_getElem.1 h1
      rw [List.length_drop] at hj
      rw [List.getElem_drop] at hju
      have hxk : old[k] = x := by
        rw [List.getElem?_eq_getElem g1] at g2
        exact Option.some.inj g2
      have := List.pairwise_iff_getElem.1 ho k (k + 1 + j) g1 (by omega) (by omega)
      rw [hxk, hju] at this
      omega
end Go.Proofs.YtghdhhbpbmhooaaGreat

/- a record under way when the projection changes: all together; plain Lean -/
namespace Go.Proofs.YtghdhhbpbmhooaaGreat
open Go.RowKit Esch

theorem next_ord {q : Proj} (h : nextB qOld q = true) {c : Nat} (hc : c < 2) {u : Int} (hu : u ∈ chQ q c) (hm : u ∈ qOld.units) : (chQ q c).getD 0 0 ≤ u := by
  have hn : qOld.next q := of_decide_eq_true h
  obtain ⟨h1, h2, h3, h4, h5⟩ := hn
  obtain ⟨g1, g2⟩ := h5 c (by rw [h4]; exact hc)
  have g2 : ∀ u ∈ (chQ q c).drop (heads (chO c) (chQ q c)), u ∉ qOld.units := g2
  have ho : (chO c).Pairwise (· < ·) := by
    have : c = 0 ∨ c = 1 := by omega
    rcases this with rfl | rfl <;> decide
  cases hq : chQ q c with
  | nil => rw [hq] at hu; cases hu
  | cons x l =>
    rw [hq] at hu g2
    have hu' : u ∈ (x :: l).take (heads (chO c) (x :: l)) ++ (x :: l).drop (heads (chO c) (x :: l)) := by rw [List.take_append_drop]; exact hu
    rcases List.mem_append.1 hu' with h | h
    · exact heads_ge ho u h
    · exact absurd hm (g2 u h)
def tupK (k : Int) (d : ByteArray) : Value := .tuple #[.int .i64 k, .string d, .int .i64 0, .bool true]
theorem run_read {hd : HdS} {q : Proj} {x : Int} {n n' : NdS} {k : Nat} {s' : FeS} (hn : hd.nd = n) (h : it feN k (n, fe0 q x true) = (n', s')) (hk : k ≤ 30) (h6 : s'.at = 6) (he : s'.err = 0) : (stR hd q x true [] 30).1 = { hd with nd := n' } ∧ FOverV (stR hd q x true [] 30).2 = tupK s'.kind s'.s := by
  have hst := stR_it hd q x true 30
  have hit : it feN 30 (hd.nd, fe0 q x true) = (n', s') := by rw [hn]; exact it_end hk h (by unfold feN; rw [if_pos h6])
  rw [hit] at hst
  rw [hst]
  refine ⟨rfl, ?_⟩
  unfold FOverV tupK
  rw [if_pos h6, he]
section
variable {q : Proj} {E : Nat → Int} {L : LayS} {J : Nat} {d : ByteArray} {n0 n2 : NdS} {s0 : ApS} {M0 : Pgs}
/-- by the tail of the new projection -/
theorem see_new {hd : HdS} {c : Nat} {M : Pgs} {t : Int} (hK : Kv hd.nd 100 c M E D0 1 t L) (hE : KEnv q E D0) (ht : 0 ≤ t ∧ t ≤ 16384) : ∃ n', (stT hd q [] 20).1 = { hd with nd := n' } ∧ TaV (stT hd q [] 20).2 = .tuple #[.int .i64 t, .int .i64 0, .bool true] ∧ Kv n' 100 c M E D0 1 t L := by
  have hg : goodB q = true := decide_eq_true hE.nx.good
  have hta : ta0 q = ⟨q, 1, 0, 0⟩ := by unfold ta0; rw [if_pos hg]
  have ha : (ta0 q).ask.1 = ⟨7, 0, 1, 0, 0, 0, ⟨#[]⟩, Esch.p0⟩ := by
    rw [hta]
    unfold TaS.ask
    rw [if_neg (by simp), if_neg (by simp)]
    show QS.mk 7 0 q.epoch 0 0 0 ⟨#[]⟩ Esch.p0 = _
    rw [hE.nx.ep]
  obtain ⟨k1, k2, k3⟩ := hK.tail
  have f1 : it taN 1 (hd.nd, ta0 q) = ((hd.nd.do ⟨7, 0, 1, 0, 0, 0, ⟨#[]⟩, Esch.p0⟩).2, { ta0 q with «at» := 2, err := 0, addr := t }) := by
    show taN (hd.nd, ta0 q) = _
    unfold taN
    simp only
    rw [if_neg (by rw [hta]; exact fun h => by cases h), ha]
    unfold TaS.hear
    rw [if_neg (by rw [hta]; simp; omega), if_neg (by omega), if_pos (by rw [hta]), if_neg (by omega), if_neg (by omega), k2]
  have hst := stT_it hd q 20
  have hit := it_end (K := 20) (by omega) f1 (by unfold taN; rw [if_pos rfl])
  rw [hit] at hst
  refine ⟨_, by rw [hst], ?_, k3⟩
  rw [hst]
  unfold TaV
  rw [if_pos rfl]
/-- the append goes on behind the change -/
theorem on_run {n : NdS} {c : Nat} {M : Pgs} {t : Nat} (hs : Hs J n0 s0 M0 d) (hJ : J ≤ 3) (hd : d.size ≤ 4096) (hK : Kv n 100 c M E D0 1 t L) (hL : L.p = q) (hE : KEnv q E D0) (ht : t < 1000) (hc : c + 4 ≤ 100) (hno : ∀ u : Nat, (u : Int) ∈ chQ q (t % 2) → M u ((t / 2 : Nat) : Int) = none) :
    ∃ n' s' M', it apN 30 (n, s0) = (n', s') ∧ s'.at = 5 ∧ s'.addr = t ∧ s'.err = 0 ∧ Kv n' 100 (c + 4) M' E D0 1 ((t : Int) + 1) L ∧ Ext M M' (chQ q (t % 2)) ((t / 2 : Nat) : Int) (1, d) ∧ ∀ k, k < (chQ q (t % 2)).length → ∀ u : Nat, (chQ q (t % 2)).getD k 0 = u → M' u ((t / 2 : Nat) : Int) = some (1, d) := by
  have hg : goodB q = true := decide_eq_true hE.nx.good
  have hep := hE.nx.ep
  have hC := chn_of hE.nx.good hE.nx.len t ht
  obtain ⟨n1, s1, f1, f2, f3, f4, f5, f6⟩ : ∃ n1 s1, it apN 2 (n, s0) = (n1, s1) ∧ Kv n1 100 c M E D0 1 t L ∧ s1.p = q ∧ s1.at = 2 ∧ s1.txt = s0.txt ∧ s1.err = s0.err := by
    rcases hs.wh with ⟨e, h2⟩ | ⟨j1, j3, h3, ha, hi⟩ | ⟨e, -⟩
    · exact ap_old (o := qOld) hK hL hg (by decide) hs.p h2
    · obtain ⟨u, rfl⟩ : ∃ u, J = u + 1 := ⟨J - 1, by omega⟩
      have hum : (u : Int) ∈ qOld.units := by
        have : u = 0 ∨ u = 1 ∨ u = 2 := by omega
        rcases this with rfl | rfl | rfl <;> decide
      have hE0 : 0 < E u := by
        rcases hE.old u hum with h | ⟨-, h⟩
        · cases h
        · exact h
      exact ap_mid (u := u) hK hL hg hs.p h3 ha (by rw [hi]; omega) (by omega) rfl hE0
    · omega
  obtain ⟨k, hk, n', s', M', h1, h2, h3, h4, h5, h6, h7⟩ := ap_run (q := q) (s := s1) hC (hE.nx.nodup (c := t % 2) (by omega)) hd (by rw [hep]; exact f2) hc (by omega) (fun k hk => by
    obtain ⟨u, u1, u2, u3, u4, u5⟩ := hE.unit (c := t % 2) (by omega) hk
    exact ⟨u, u1, u2, u4, u5, hno u u3⟩) f3 f4 (by rw [f5, hs.txt]) (by rw [f6, hs.err])
  exact ⟨n', s', M', it_end (k := 2 + k) (by omega) (by rw [it_add, f1]; exact h1) (by unfold apN; rw [if_pos h2]), h2, h3, h4, by rw [hep] at h5; exact h5, h6, h7⟩
/-- a page of a chain whose first unit has d, and no unit anything else, is read -/
theorem rd_run {hd : HdS} {n : NdS} {c : Nat} {M : Pgs} {t : Int} {i : Nat} (hn : hd.nd = n) (hds : d.size ≤ 4096) (hK : Kv n 100 c M E D0 1 t L) (hE : KEnv q E D0) (hi : i < 1000) (hc : c + 3 ≤ 100) (hall : ∀ u : Nat, (u : Int) ∈ chQ q (i % 2) → M u ((i / 2 : Nat) : Int) = none ∨ M u ((i / 2 : Nat) : Int) = some (1, d)) (h0 : ∀ u : Nat, (chQ q (i % 2)).getD 0 0 = u → M u ((i / 2 : Nat) : Int) = some (1, d)) :
    ∃ n' M', (stR hd q i true [] 30).1 = { hd with nd := n' } ∧ FOverV (stR hd q i true [] 30).2 = tupK 1 d ∧ Kv n' 100 (c + 3) M' E D0 1 t L ∧ Ext M M' (chQ q (i % 2)) ((i / 2 : Nat) : Int) (1, d) := by
  have hC := chn_of hE.nx.good hE.nx.len i hi
  have hf := fe0_of hE.nx.good hE.nx.len i hi true
  have hr : Rdy (chQ q (i % 2)) M E D0 q.epoch ((i / 2 : Nat) : Int) d := fun k hk => by
    obtain ⟨u, u1, u2, u3, u4, u5⟩ := hE.unit (c := i % 2) (by omega) hk
    exact ⟨u, u1, u2, u4, u5, hall u u3⟩
  obtain ⟨u0, a1, a2, -⟩ := hE.unit (c := i % 2) (by omega) (k := 0) (by have := hC.n0; omega)
  obtain ⟨k, hk, n', s', M', h1, h2, h3, h4, h5, h6, h7⟩ := fe_read (s := fe0 q (i : Int) true) hC hds hK hc hr ⟨u0, a2, h0 u0 a2⟩ (by rw [hf]) (by rw [hf]) (by rw [hf])
  obtain ⟨g1, g2⟩ := run_read hn h1 (by omega) h2 (by rw [h5, hf])
  exact ⟨n', M', g1, by rw [g2, h3, h4], h6, h7⟩
/-- nothing was written ahead of the change -/
theorem half0 (hs : Hs J n0 s0 M0 d) (hJ : J ≤ 1) (hds : d.size ≤ 4096) (hK : Kv n2 100 J M0 E D0 1 0 L) (hL : L.p = q) (hE : KEnv q E D0) :
    ∃ n3 s3, it apN 30 (n2, s0) = (n3, s3) ∧ s3.at = 5 ∧ s3.addr = 0 ∧ s3.err = 0 ∧ ∀ hd : HdS, hd.nd = n3 → FOverV (stR hd q 0 true [] 30).2 = tupK 1 d := by
  obtain ⟨n3, s3, M3, h1, h2, h3, h4, h5, h6, h7⟩ := on_run (t := 0) hs (by omega) hds hK hL hE (by omega) (by omega) (fun u _ => by rw [hs.mv, if_neg (fun h => by omega)])
  refine ⟨n3, s3, h1, h2, h3, h4, fun hd hn => ?_⟩
  have hall : ∀ u : Nat, (u : Int) ∈ chQ q (0 % 2) → M3 u ((0 / 2 : Nat) : Int) = some (1, d) := fun u hu => by
    obtain ⟨k, hk, hk2⟩ := List.mem_iff_getElem.1 hu
    exact h7 k hk u (by rw [List.getD_eq_getElem?_getD, List.getElem?_eq_getElem hk, Option.getD_some, hk2])
  obtain ⟨n', M', -, g2, -⟩ := rd_run (i := 0) hn hds h5 hE (by omega) (by omega) (fun u hu => Or.inr (hall u hu)) (fun u hu => hall u (by rw [← hu]; exact getD_in (by have := (hE.nx.chain (c := 0) (by omega)).1; exact this)))
  exact g2
/-- a part of it, or all, was written ahead of the change -/
theorem half1 (hq : nextB qOld q = true) (hs : Hs J n0 s0 M0 d) (hJ2 : 2 ≤ J) (hJ4 : J ≤ 4) (hds : d.size ≤ 4096) (hK : Kv n2 100 J M0 E D0 1 1 L) (hL : L.p = q) (hE : KEnv q E D0) :
    ∃ kd tx, ∀ hd : HdS, hd.nd = n2 → ∃ n3, (stR hd q 0 true [] 30).1 = { hd with nd := n3 } ∧ FOverV (stR hd q 0 true [] 30).2 = tupK kd tx ∧
      ∃ n4 s4 A, it apN 30 (n3, s0) = (n4, s4) ∧ s4.at = 5 ∧ s4.addr = A ∧ s4.err = 0 ∧ ∀ hd : HdS, hd.nd = n4 → ∃ n5, (stR hd q 0 true [] 30).1 = { hd with nd := n5 } ∧ FOverV (stR hd q 0 true [] 30).2 = tupK kd tx ∧
        ∀ hd : HdS, hd.nd = n5 → FOverV (stR hd q A true [] 30).2 = tupK 1 d := by
  have hc0 := hE.nx.chain (c := 0) (by omega)
  obtain ⟨u0, a1, a2, a3, -⟩ := hE.unit (c := 0) (by omega) (k := 0) (by omega)
  have hf0 : (u0 : Int) ∈ chO 0 := by have := hE.nx.first 0 (by omega); rw [a2] at this; exact this
  have hu02 : u0 ≤ 2 := by
    have h : (u0 : Int) ∈ ([0, 1, 2] : List Int) := hf0
    simp only [List.mem_cons, List.not_mem_nil, or_false] at h
    omega
  -- units of the second chain have nothing on their first page
  have hno1 : ∀ u : Nat, (u : Int) ∈ chQ q 1 → M0 u 0 = none := fun u hu => by
    rw [hs.mv, if_neg (fun h => ?_)]
    have hu2 : u = 0 ∨ u = 1 ∨ u = 2 := by omega
    have hm : (u : Int) ∈ chO 0 := by rcases hu2 with rfl | rfl | rfl <;> decide
    rcases hE.nx.unit 1 (by omega) _ hu with e | e
    · have := nextO_old.apart (c := 0) (d := 1) (by omega) (by omega) hm e
      omega
    · exact e (chO_units (by omega) hm)
  have hdis : ∀ u : Nat, (u : Int) ∈ chQ q 1 → (u : Int) ∈ chQ q 0 → False := fun u h1 h0 => by
    have := hE.nx.apart (c := 0) (d := 1) (by omega) (by omega) h0 h1
    omega
  by_cases hA : u0 + 1 < J
  · refine ⟨1, d, fun hd hn => ?_⟩
    obtain ⟨n3, M3, g1, g2, g3, g4⟩ := rd_run (i := 0) hn hds hK hE (by omega) (by omega) (fun u _ => by
      rw [hs.mv]
      by_cases e : u + 1 < J ∧ ((0 / 2 : Nat) : Int) = 0
      · rw [if_pos e]; exact Or.inr rfl
      · rw [if_neg e]; exact Or.inl rfl) (fun u hu => by
      have : (u : Int) = u0 := by rw [← hu]; exact a2
      obtain rfl : u = u0 := by omega
      rw [hs.mv, if_pos ⟨hA, rfl⟩])
    have g4 : Ext M0 M3 (chQ q 0) 0 (1, d) := g4
    have hM3 : ∀ u : Nat, M3 u 0 = none ∨ M3 u 0 = some (1, d) := fun u => by
      rcases g4 u 0 with e | ⟨-, -, -, e⟩
      · rw [e, hs.mv]
        by_cases e : u + 1 < J ∧ (0 : Int) = 0
        · rw [if_pos e]; exact Or.inr rfl
        · rw [if_neg e]; exact Or.inl rfl
      · exact Or.inr e
    have hF3 : ∀ u : Nat, (chQ q 0).getD 0 0 = u → M3 u 0 = some (1, d) := fun u hu => by
      have : (u : Int) = u0 := by rw [← hu]; exact a2
      obtain rfl : u = u0 := by omega
      exact g4.keep (by rw [hs.mv, if_pos ⟨hA, rfl⟩])
    refine ⟨n3, g1, g2, ?_⟩
    by_cases h4 : J = 4
    · rcases hs.wh with ⟨e, -⟩ | ⟨-, e, -⟩ | ⟨-, h5, ha⟩
      · omega
      · omega
      · refine ⟨n3, s0, 0, it_stop _ (by unfold apN; rw [if_pos h5]) 30, h5, ha, hs.err, fun hd hn => ?_⟩
        obtain ⟨n5, M5, b1, b2, b3, b4⟩ := rd_run (i := 0) hn hds g3 hE (by omega) (by omega) (fun u _ => hM3 u) hF3
        refine ⟨n5, b1, b2, fun hd hn => ?_⟩
        have b4 : Ext M3 M5 (chQ q 0) 0 (1, d) := b4
        obtain ⟨n6, M6, -, c2, -⟩ := rd_run (i := 0) hn hds b3 hE (by omega) (by omega) (fun u _ => by
          rcases b4 u 0 with e | ⟨-, -, -, e⟩
          · show M5 u 0 = _ ∨ M5 u 0 = _; rw [e]; exact hM3 u
          · exact Or.inr e) (fun u hu => b4.keep (hF3 u hu))
        exact c2
    · obtain ⟨n4, s4, M4, h1, h2, h3, h4', h5, h6, h7⟩ := on_run (t := 1) hs (by omega) hds g3 hL hE (by omega) (by omega) (fun u hu => by
        show M3 u 0 = none
        rcases g4 u 0 with e | ⟨-, e, -⟩
        · rw [e]; exact hno1 u hu
        · exact (hdis u hu e).elim)
      have h6 : Ext M3 M4 (chQ q 1) 0 (1, d) := h6
      refine ⟨n4, s4, 1, h1, h2, h3, h4', fun hd hn => ?_⟩
      obtain ⟨n5, M5, b1, b2, b3, b4⟩ := rd_run (i := 0) hn hds h5 hE (by omega) (by omega) (fun u _ => by
        rcases h6 u 0 with e | ⟨-, -, -, e⟩
        · show M4 u 0 = _ ∨ M4 u 0 = _; rw [e]; exact hM3 u
        · exact Or.inr e) (fun u hu => h6.keep (hF3 u hu))
      have b4 : Ext M4 M5 (chQ q 0) 0 (1, d) := b4
      refine ⟨n5, b1, b2, fun hd hn => ?_⟩
      have hall : ∀ u : Nat, (u : Int) ∈ chQ q 1 → M5 u 0 = some (1, d) := fun u hu => by
        obtain ⟨k, hk, hk2⟩ := List.mem_iff_getElem.1 hu
        exact b4.keep (h7 k hk u (by rw [List.getD_eq_getElem?_getD, List.getElem?_eq_getElem hk, Option.getD_some, hk2]))
      obtain ⟨n6, M6, -, c2, -⟩ := rd_run (i := 1) hn hds b3 hE (by omega) (by omega) (fun u hu => Or.inr (hall u hu)) (fun u hu => hall u (by rw [← hu]; exact getD_in (by have := (hE.nx.chain (c := 1) (by omega)).1; exact this)))
      exact c2
  · have hnone : ∀ u : Nat, (u : Int) ∈ chQ q 0 → M0 u 0 = none := fun u hu => by
      rw [hs.mv, if_neg (fun h => ?_)]
      have hu2 : u = 0 ∨ u = 1 ∨ u = 2 := by omega
      have hm : (u : Int) ∈ qOld.units := by rcases hu2 with rfl | rfl | rfl <;> decide
      have := next_ord hq (c := 0) (by omega) hu hm
      rw [a2] at this
      omega
    have hC := chn_of hE.nx.good hE.nx.len 0 (by omega)
    have hf := fe0_of hE.nx.good hE.nx.len 0 (by omega) true
    refine ⟨2, noB, fun hd hn => ?_⟩
    obtain ⟨k, hk, n3, s3, M3, h1, h2, h3, h4, h5, h6, h7, h8⟩ := fe_junk (s := fe0 q ((0 : Nat) : Int) true) hC hK (by omega) (fun k hk => by
      obtain ⟨u, u1, u2, u3, u4, u5⟩ := hE.unit (c := 0) (by omega) hk
      exact ⟨u, u1, u2, u4, u5, hnone u u3⟩) (by rw [hf]) (by rw [hf]) (by rw [hf]) (by rw [hf])
    obtain ⟨g1, g2⟩ := run_read (x := ((0 : Nat) : Int)) hn h1 (by omega) h2 (by rw [h5, hf])
    have h7 : Ext M0 M3 (chQ q 0) 0 (2, noB) := h7
    refine ⟨n3, g1, by rw [h3, h4] at g2; exact g2, ?_⟩
    obtain ⟨n4, s4, M4, k1, k2, k3, k4, k5, k6, k7⟩ := on_run (t := 1) hs (by omega) hds h6 hL hE (by omega) (by omega) (fun u hu => by
      show M3 u 0 = none
      rcases h7 u 0 with e | ⟨-, e, -⟩
      · rw [e]; exact hno1 u hu
      · exact (hdis u hu e).elim)
    have k6 : Ext M3 M4 (chQ q 1) 0 (1, d) := k6
    refine ⟨n4, s4, 1, k1, k2, k3, k4, fun hd hn => ?_⟩
    obtain ⟨ul, l1, l2, l3, l4, l5⟩ := hE.unit (c := 0) (by omega) (k := (chQ q 0).length - 1) (by omega)
    obtain ⟨n5, b1, b2⟩ := fe_back (s := fe0 q ((0 : Nat) : Int) true) hC k5 l1 l2 l4 l5 (k6.keep (h8 _ (by show (chQ q 0).length - 1 < (chQ q 0).length; omega) ul l2)) (by rw [hf]) (by rw [hf]) (by rw [hf])
    obtain ⟨g3, g4⟩ := run_read (x := ((0 : Nat) : Int)) hn b1 (by omega) rfl (by rw [hf]; rfl)
    refine ⟨n5, g3, g4, fun hd hn => ?_⟩
    have hall : ∀ u : Nat, (u : Int) ∈ chQ q 1 → M4 u 0 = some (1, d) := fun u hu => by
      obtain ⟨k, hk, hk2⟩ := List.mem_iff_getElem.1 hu
      exact k7 k hk u (by rw [List.getD_eq_getElem?_getD, List.getElem?_eq_getElem hk, Option.getD_some, hk2])
    obtain ⟨n6, M6, -, c2, -⟩ := rd_run (i := 1) hn hds b2 hE (by omega) (by omega) (fun u hu => Or.inr (hall u hu)) (fun u hu => hall u (by rw [← hu]; exact getD_in (by have := (hE.nx.chain (c := 1) (by omega)).1; exact this)))
    exact c2
end
end Go.Proofs.YtghdhhbpbmhooaaGreat
