/-
  PROVED: the law OrderPlays answers true at every input, and changes nothing that was there. No condition.
-/
import Derived.Test.YtcgcappfhjploaaOrder2
import Derived.Test.YtcgcappfhjploaaKeepAsk
import Derived.Test.YtcgcappfhjploaaReadApi
import Derived.Deep.LoopGhost
import Derived.Deep.CutRange
import Derived.Deep.DeepCutAuto
namespace Go.Proofs.Ytcgcappfhjploaa
open Go.RowKit Esch Go.ChangeShapes Go.WideShapes Go.ChangeAt

/-- two that agree but for a tail that neither knows answer alike -/
theorem ordDo_link (E : Int) (K : Bool) (t1 t2 : Int) (h : K = true → t1 = t2) (h1 : (Ord.mk E K t1).ok) (h2 : (Ord.mk E K t2).ok) (k e p : Int) :
    ∃ c n E' K' t1' t2', ordDo ⟨E, K, t1⟩ k e p = (c, n, ⟨E', K', t1'⟩) ∧ ordDo ⟨E, K, t2⟩ k e p = (c, n, ⟨E', K', t2'⟩) ∧ (K' = true → t1' = t2') ∧ (Ord.mk E' K' t1').ok ∧ (Ord.mk E' K' t2').ok := by
  have o1 := ordDo_ok h1 k e p
  have o2 := ordDo_ok h2 k e p
  cases K
  · unfold ordDo ordStart ordTold at *
    simp only [if_true] at *
    split
    · split
      · exact ⟨_, _, _, _, _, _, rfl, rfl, h, h1, h2⟩
      · split
        · exact ⟨_, _, _, _, _, _, rfl, rfl, h, h1, h2⟩
        · rename_i a b c; simp only [a, b, c, if_true, if_false] at o1; exact ⟨_, _, _, _, _, _, rfl, rfl, fun _ => rfl, o1, o1⟩
    · split
      · split
        · exact ⟨_, _, _, _, _, _, rfl, rfl, h, h1, h2⟩
        · exact ⟨_, _, _, _, _, _, rfl, rfl, h, h1, h2⟩
      · exact ⟨_, _, _, _, _, _, rfl, rfl, h, h1, h2⟩
  · obtain rfl := h rfl
    exact ⟨_, _, _, _, _, _, rfl, rfl, fun _ => rfl, o1, o1⟩

theorem answer_ans (c n ep : Int) (w : World) : Calls Try.prog 23 #[ansV c n ep, ansV c n ep] w fun r w' => r = .returned (.bool true) ∧ Below w.heap.size w w' :=
  answer_eq (fun _ => False) c n ⟨#[]⟩ 0 none none 0 0 [] 0 0 ep w (ListsAt.nil _ _ _) (ListsAt.nil _ _ _)

def PlaysRel (w : World) (b qb n g : Nat) (s5 : Value) (wr : World) : Prop :=
  ∃ (k : Nat) (E : Int) (K : Bool) (t1 t2 : Int), g = n - k ∧ k ≤ n ∧ s5 = .int .i64 k ∧ OrdAt wr b ⟨E, K, t1⟩ ∧ ROrdAt wr qb ⟨E, K, t2⟩ ∧ (K = true → t1 = t2) ∧ (Ord.mk E K t1).ok ∧ (Ord.mk E K t2).ok ∧ Below w.heap.size w wr

/-- the steps of a slice -/
def StepsAt (w : World) (oa : Option Addr) (n : Nat) (ks : Nat → Int) (qs : Nat → AskC) : Prop :=
  0 < n → ∃ b off, oa = some ⟨b, off, none⟩ ∧ b < w.heap.size ∧ ∀ i, i < n → (qs i).ok w ∧ w.cell? ⟨b, off + i * 10, none⟩ = some (.int .i64 (ks i)) ∧ ∀ j v, (qs i).cells[j]? = some v → w.cell? ⟨b, off + i * 10 + 1 + j, none⟩ = some v

set_option maxRecDepth 100000 in
set_option maxHeartbeats 2000000 in
theorem plays11_walk (oa : Option Addr) (n cap : Nat) (ks : Nat → Int) (qs : Nat → AskC) (hn : n ≤ 9223372036854775807) (w : World) (hoa : StepsAt w oa n ks qs) :
    Calls Try.prog 8 #[.slice oa n cap] w fun e w' => e = .returned (.bool true) ∧ Below w.heap.size w w' := by
  have Hoa := Lib.hid hoa
  clear hoa
  go_enter Try.func8, Try.ntmps8
  go_wp2_with fail
  refine (ordNew_any _).mono ?_
  rintro e w1 ⟨b, rfl, h1, hb, hB⟩
  go_wp2_with fail
  refine (rordNew_any _).mono ?_
  rintro e w2 ⟨qb, rfl, h2, hqb, hB2⟩
  have hbl := h1.lt
  have hqne : qb ≠ b := by omega
  have hbw : w.heap.size ≤ b := hb
  have hqw : w.heap.size ≤ qb := Nat.le_trans hB.size hqb
  have h1' := h1.mod (F := none') (Mod.of_below hB2) id
  have hBw2 := hB.trans (hB2.mono hB.size)
  clear h1 hB hB2 hbl hb hqb
  go_wp2_with fail
  go_loopg [5] n (fun g s5 wr => PlaysRel w b qb n g s5 wr)
  case atStart => exact ⟨0, -1, false, 0, 0, rfl, Nat.zero_le _, rfl, h1', h2, fun _ => rfl, ⟨by decide, by decide⟩, ⟨by decide, by decide⟩, hBw2⟩
  case round =>
    clear h1' h2 hBw2
    obtain ⟨k, E, K, t1, t2, rfl, hk, rfl, hO, hR, hKt, ok1, ok2, hBr⟩ := hrel
    have HKt := Lib.hid hKt
    clear hKt
    by_cases hlt : k < n ∧ k < 200
    · obtain ⟨hlt1, hlt2⟩ := hlt
      obtain ⟨bo, offo, rfl, hbo, hco⟩ := Hoa.out (by omega)
      obtain ⟨hq, hc0, hc⟩ := hco k hlt1
      obtain ⟨⟨qk, qu, qe, qp, qz, qn, qd, qpe, qca, qls, qcc⟩, hqk⟩ : ∃ q, q = qs k := ⟨_, rfl⟩
      obtain ⟨kk, hkk⟩ : ∃ kk, kk = ks k := ⟨_, rfl⟩
      rw [← hqk] at hq hc
      rw [← hkk] at hc0
      clear hqk hkk hco
      obtain ⟨hqd, hql⟩ := hq
      simp only at hqd hql
      have e0 : wr.cell? ⟨bo, offo + k * 10, none⟩ = some (.int .i64 kk) := below_at hBr hc0 hbo
      have e1 : wr.cell? ⟨bo, offo + k * 10 + 1, none⟩ = some (.int .i64 qk) := below_at hBr (hc 0 _ rfl) hbo
      have e2 : wr.cell? ⟨bo, offo + k * 10 + 2, none⟩ = some (.int .i64 qu) := below_at hBr (hc 1 _ rfl) hbo
      have e3 : wr.cell? ⟨bo, offo + k * 10 + 3, none⟩ = some (.int .i64 qe) := below_at hBr (hc 2 _ rfl) hbo
      have e4 : wr.cell? ⟨bo, offo + k * 10 + 4, none⟩ = some (.int .i64 qp) := below_at hBr (hc 3 _ rfl) hbo
      have e5 : wr.cell? ⟨bo, offo + k * 10 + 5, none⟩ = some (.int .i64 qz) := below_at hBr (hc 4 _ rfl) hbo
      have e6 : wr.cell? ⟨bo, offo + k * 10 + 6, none⟩ = some (.int .i64 qn) := below_at hBr (hc 5 _ rfl) hbo
      have e7 : wr.cell? ⟨bo, offo + k * 10 + 7, none⟩ = some (.string qd) := below_at hBr (hc 6 _ rfl) hbo
      have e8 : wr.cell? ⟨bo, offo + k * 10 + 8, none⟩ = some (.int .i64 qpe) := below_at hBr (hc 7 _ rfl) hbo
      have e9 : wr.cell? ⟨bo, offo + k * 10 + 9, none⟩ = some (.slice qca qls.length qcc) := below_at hBr (hc 8 _ rfl) hbo
      clear hc hc0
      have hla := largeAsk_any (Old w) qk qu qe qp qz qn qd hqd qpe qca qcc qls wr (hql.mod (F := fun k => ¬ k < w.heap.size) ⟨hBr.os, hBr.tape, hBr.output, hBr.size, fun k _ h => hBr.block k (Decidable.not_not.1 h)⟩ (fun k hk _ h => h hk))
      go_wp2_with fail
      refine hla.mono ?_
      clear hla
      rintro r w3 ⟨rfl, hB3⟩
      generalize (decide (6000 < qd.size) || largeProj qls) = lg
      have hz3 := hB3.size
      have hbo3 : bo < wr.heap.size := cell_lt e0
      have hbow : bo ≠ b := by omega
      have hboq : bo ≠ qb := by omega
      have hBw3 := hBr.trans (hB3.mono hBr.size)
      have hO3 := hO.mod (F := none') (Mod.of_below hB3) id
      have hR3 := hR.mod (F := none') (Mod.of_below hB3) id
      replace e0 := below_at hB3 e0 hbo3
      replace e1 := below_at hB3 e1 hbo3
      replace e2 := below_at hB3 e2 hbo3
      replace e3 := below_at hB3 e3 hbo3
      replace e4 := below_at hB3 e4 hbo3
      replace e5 := below_at hB3 e5 hbo3
      replace e6 := below_at hB3 e6 hbo3
      replace e7 := below_at hB3 e7 hbo3
      replace e8 := below_at hB3 e8 hbo3
      replace e9 := below_at hB3 e9 hbo3
      clear hO hR hBr hB3 hbo3
      cases lg
      · by_cases hk1 : kk = 1
        · have hk1' : (kk == 1) = true := by simp [hk1]
          clear hk1
          go_wp2_with fail
          refine (crash_any _ b _ hO3).mono ?_
          rintro e w4 ⟨rfl, hO4, hM4⟩
          have hR4 := hR3.mod hM4 hqne
          obtain ⟨rc0, rc1, rc2, rf0, rf1, rf2⟩ := hR4
          have hBw4 := hBw3.trans (hM4.below_at hBw3.size fun j hj e => by omega)
          have hqz := cell_lt rc0
          go_wp2_with fail
          have hO5 : OrdAt (w4.setCell ⟨qb, 2, none⟩ (.bool false)) b ⟨E, false, 0⟩ := hO4.mod (F := (· = qb)) ((Mod.refl (· = qb) w4).setCellAt (fun _ => rfl) _) (fun e => hqne e.symm)
          have hR5 : ROrdAt (w4.setCell ⟨qb, 2, none⟩ (.bool false)) qb ⟨E, false, t2⟩ := ⟨by go_simp, by go_simp, by go_simp, by go_simp, by go_simp, by go_simp⟩
          have hBw5 : Below w.heap.size w (w4.setCell ⟨qb, 2, none⟩ (.bool false)) := hBw4.setCell hqw _
          generalize w4.setCell ⟨qb, 2, none⟩ (.bool false) = w5 at hO5 hR5 hBw5 ⊢
          obtain ⟨E', rfl⟩ : ∃ E', E' = E := ⟨_, rfl⟩
          obtain ⟨K', hK'⟩ : ∃ K', K' = false := ⟨_, rfl⟩
          rw [← hK'] at hO5 hR5
          obtain ⟨t1', ht1'⟩ : ∃ t1', t1' = (0 : Int) := ⟨_, rfl⟩
          rw [← ht1'] at hO5
          obtain ⟨t2', rfl⟩ : ∃ t2', t2' = t2 := ⟨_, rfl⟩
          have HK : Hid (K' = true → t1' = t2') := Lib.hid (fun h => by rw [hK'] at h; cases h)
          have ok1' : (Ord.mk E' K' t1').ok := by subst ht1'; exact ⟨by show (0:Int) ≤ 0; decide, by show (0:Int) ≤ 16384; decide⟩
          have ok2' : (Ord.mk E' K' t2').ok := ok2
          clear hK' ht1' hO4 hR3 hO3 rc0 rc1 rc2 rf0 rf1 rf2 hBw4 hBw3 ok1 ok2 hM4
          have ep := epoch_any w5.drew b ⟨E', K', t1'⟩ (hO5.mod ((Mod.refl none' _).drew) id)
          have kn := knows_any w5.drew b ⟨E', K', t1'⟩ (hO5.mod ((Mod.refl none' _).drew) id)
          have hR5' := hR5
          obtain ⟨rc0, rc1, rc2, rf0, rf1, rf2⟩ := hR5'
          simp only at ep kn rc0 rc1 rc2
          go_region_held3 (fun w' => w' = w5.drew) (first | rfl | assumption)
            (first
              | (go_at_call 25; (with_reducible refine ep.mono ?_); rintro e w' ⟨rfl, rfl⟩)
              | (go_at_call 26; (with_reducible refine kn.mono ?_); rintro e w' ⟨rfl, rfl⟩))
          clear ep kn rc0 rc1 rc2 rf0 rf1 rf2
          go_wp2_with fail
          go_roundg (n - (k + 1))
          case measure => omega
          case rel => exact ⟨k + 1, E', K', t1', t2', rfl, by omega, by go_num, hO5.mod ((Mod.refl none' _).drew) id, hR5.mod ((Mod.refl none' _).drew) id, HK.out, ok1', ok2', hBw5.drew⟩
        · have hk1' : (kk == 1) = false := by simp [hk1]
          clear hk1
          go_wp2_with fail
          obtain ⟨c, nn, E', K', t1', t2', d1, d2, hK, ok1', ok2'⟩ := ordDo_link E K t1 t2 HKt.out ok1 ok2 qk qe qp
          have n1 := ordDo_any qu qe qp qz qn qd qpe qca qls.length qcc qk w3.drew b ⟨E, K, t1⟩ ok1 (hO3.mod ((Mod.refl none' _).drew) id)
          have n2 := fun W h => rordDo_any qu qe qp qz qn qd qpe qca qls.length qcc qk W qb ⟨E, K, t2⟩ ok2 h
          rw [d1] at n1
          simp only [d2] at n2
          have HK := Lib.hid hK
          clear d1 d2 hK
          have hR3' := hR3.mod ((Mod.refl none' _).drew) id
          go_region_held3 (fun w' => w'.cell? ⟨bo, offo + k * 10 + 1, none⟩ = some (.int .i64 qk) ∧ w'.cell? ⟨bo, offo + k * 10 + 2, none⟩ = some (.int .i64 qu) ∧ w'.cell? ⟨bo, offo + k * 10 + 3, none⟩ = some (.int .i64 qe) ∧ w'.cell? ⟨bo, offo + k * 10 + 4, none⟩ = some (.int .i64 qp) ∧ w'.cell? ⟨bo, offo + k * 10 + 5, none⟩ = some (.int .i64 qz) ∧ w'.cell? ⟨bo, offo + k * 10 + 6, none⟩ = some (.int .i64 qn) ∧ w'.cell? ⟨bo, offo + k * 10 + 7, none⟩ = some (.string qd) ∧ w'.cell? ⟨bo, offo + k * 10 + 8, none⟩ = some (.int .i64 qpe) ∧ w'.cell? ⟨bo, offo + k * 10 + 9, none⟩ = some (.slice qca qls.length qcc))
            (first
              | exact ⟨e1, e2, e3, e4, e5, e6, e7, e8, e9⟩
              | exact ⟨hM6.at (hM5.at (hM4.at e1 hbow) hboq) id, hM6.at (hM5.at (hM4.at e2 hbow) hboq) id, hM6.at (hM5.at (hM4.at e3 hbow) hboq) id, hM6.at (hM5.at (hM4.at e4 hbow) hboq) id, hM6.at (hM5.at (hM4.at e5 hbow) hboq) id, hM6.at (hM5.at (hM4.at e6 hbow) hboq) id, hM6.at (hM5.at (hM4.at e7 hbow) hboq) id, hM6.at (hM5.at (hM4.at e8 hbow) hboq) id, hM6.at (hM5.at (hM4.at e9 hbow) hboq) id⟩
              | exact ⟨hM5.at (hM4.at e1 hbow) hboq, hM5.at (hM4.at e2 hbow) hboq, hM5.at (hM4.at e3 hbow) hboq, hM5.at (hM4.at e4 hbow) hboq, hM5.at (hM4.at e5 hbow) hboq, hM5.at (hM4.at e6 hbow) hboq, hM5.at (hM4.at e7 hbow) hboq, hM5.at (hM4.at e8 hbow) hboq, hM5.at (hM4.at e9 hbow) hboq⟩
              | exact ⟨hM4.at e1 hbow, hM4.at e2 hbow, hM4.at e3 hbow, hM4.at e4 hbow, hM4.at e5 hbow, hM4.at e6 hbow, hM4.at e7 hbow, hM4.at e8 hbow, hM4.at e9 hbow⟩)
            (first
              | (go_at_call 18; (with_reducible refine n1.mono ?_); rintro e w4 ⟨rfl, hO4, hM4⟩; have n2' := n2 w4 (hR3'.mod hM4 hqne))
              | (go_at_call 24; (with_reducible refine n2'.mono ?_); rintro e w5 ⟨rfl, hR5, hM5⟩; have n3 := answer_ans c nn E' w5; simp only [ansV] at n3)
              | (go_at_call 23; (with_reducible refine n3.mono ?_); rintro e w6 ⟨rfl, hB6⟩; have hM6 : Mod none' w5 w6 := Mod.of_below hB6))
          have hbq : b ≠ qb := fun e => hqne e.symm
          have hO6 := (hO4.mod hM5 hbq).mod hM6 id
          have hR6 := hR5.mod hM6 id
          have hBw4 := hBw3.drew.trans (hM4.below_at hBw3.drew.size fun j hj e => by omega)
          have hBw5 := hBw4.trans (hM5.below_at hBw4.size fun j hj e => by omega)
          have hBw6 := hBw5.trans (hB6.mono hBw5.size)
          clear hO4 hR5 hM4 hM5 hM6 hB6 hBw4 hBw5 hO3 hR3 hR3' hBw3 n1 n2 n2' n3 ok1 ok2
          go_wp2_with fail
          have ep := epoch_any w6.drew b ⟨E', K', t1'⟩ (hO6.mod ((Mod.refl none' _).drew) id)
          have kn := knows_any w6.drew b ⟨E', K', t1'⟩ (hO6.mod ((Mod.refl none' _).drew) id)
          have hR6' := hR6
          obtain ⟨rc0, rc1, rc2, rf0, rf1, rf2⟩ := hR6'
          simp only at ep kn rc0 rc1 rc2
          go_region_held3 (fun w' => w' = w6.drew) (first | rfl | assumption)
            (first
              | (go_at_call 25; (with_reducible refine ep.mono ?_); rintro e w' ⟨rfl, rfl⟩)
              | (go_at_call 26; (with_reducible refine kn.mono ?_); rintro e w' ⟨rfl, rfl⟩))
          clear ep kn rc0 rc1 rc2 rf0 rf1 rf2
          go_wp2_with fail
          go_roundg (n - (k + 1))
          case measure => omega
          case rel => exact ⟨k + 1, E', K', t1', t2', rfl, by omega, by go_num, hO6.mod ((Mod.refl none' _).drew) id, hR6.mod ((Mod.refl none' _).drew) id, HK.out, ok1', ok2', hBw6.drew⟩
      · go_wp2_with fail
        refine (wakes11_any _).mono ?_
        rintro e w9 ⟨rfl, hB9⟩
        go_wp2_with fail
        go_ret
        exact ⟨rfl, hBw3.trans (hB9.mono hBw3.size)⟩
    · have hge : n ≤ k ∨ 200 ≤ k := by omega
      clear hlt
      rcases hge with hge | hge
      all_goals go_wp2_with fail
      all_goals
        refine (wakes11_any _).mono ?_
        rintro e w9 ⟨rfl, hB9⟩
        go_wp2_with fail
        go_ret
        exact ⟨rfl, hBr.trans (hB9.mono hBr.size)⟩

theorem rd_steps11 {w : World} {cs : List Value} {d : D} (h : Rd w (.slice (.struct [.int .i64, tyAsk])) cs d) : ∃ (oa : Option Addr) (n cap : Nat) (ks : Nat → Int) (qs : Nat → AskC), cs.headD undef = .slice oa n cap ∧ n ≤ 9223372036854775807 ∧ StepsAt w oa n ks qs := by
  obtain ⟨l, f, rfl, ⟨a0, cap, hv, -, hn, hc⟩, hl⟩ := rd_sliceAt h
  obtain ⟨xs, hxl, hx⟩ := choose_list l.length (fun i (x : Int × AskC) => f i = Value.int .i64 x.1 :: x.2.cells ∧ x.2.ok w) (fun i hi => by
    have hi' := hl i hi
    simp only [rd_struct, rds_cons, rds_nil, rd_int] at hi'
    obtain ⟨ds, -, c0, r0, d0, s0, e0, -, -, ⟨k, rfl, -⟩, c1, r1, d1, s1, rfl, -, -, h1, rfl, -⟩ := hi'
    obtain ⟨q, rfl, hq⟩ := rd_ask h1
    exact ⟨(k, q), by rw [e0]; simp, hq⟩)
  refine ⟨a0, l.length, cap, fun i => (xs.getD i default).1, fun i => (xs.getD i default).2, hv, hn, fun h0 => ?_⟩
  obtain ⟨b, off, rfl, hb, hcell⟩ := hc h0 (by decide)
  refine ⟨b, off, rfl, hb, fun i hi => ?_⟩
  obtain ⟨h1, h2⟩ := hx i hi
  refine ⟨h2, ?_, fun j v hj => ?_⟩
  · have := hcell i hi 0 (by decide)
    rw [h1] at this
    exact this
  · have hj9 : j < 9 := by
      have := (List.getElem?_eq_some_iff.1 hj).1
      rw [AskC.cells_len] at this
      exact this
    have := hcell i hi (j + 1) (by show j + 1 < 10; omega)
    rw [h1, List.getElem?_cons_succ, hj] at this
    rw [← this]
    show w.cell? _ = w.cell? _
    congr 2
    show off + i * 10 + 1 + j = off + i * 10 + (j + 1)
    omega

theorem Try.ownP : ownKnob Try.prog.godebug = none := by kernel_rfl
theorem Try.laidOutP : laidOutB Try.prog = true := by kernel_rfl

set_option maxRecDepth 100000 in
set_option maxHeartbeats 2000000 in
theorem plays11_lifted (os : Os) (started : os.Started) (H : Type) (enc : TypeId × Value → H) :
    ReturnsInHanded {} Try.checked os 8 .any (Rows.orderPlaysSpec.pre6 enc Try.prog Try.f8 Rows.orderPlaysRow.domain false) (Rows.orderPlaysSpec.post enc Try.prog Try.f8 false true false false) := by
  refine returnsInHanded_of_change (C := Try.checked) Try.ownP started (by kernel_rfl) Try.func8
    (ChangeSpec.witness6 (enc := enc) (C := Try.checked) false ⟨#[], #[.slice none 0 0], []⟩ 8 (by kernel_rfl) (by kernel_rfl) (by kernel_rfl) (by kernel_rfl)) ?_
  intro W base args ds gs before hval0 hW hcnd _
  have hval : ∀ (j : Nat) t v, Try.f8.params[j]? = some t → args[j]? = some v → Value.okWide Try.prog W .any base t v := hval0
  have hW' := hW
  obtain ⟨p, q, hA0, hV, rfl, hfz, hnd⟩ := hW
  have hA : DataW.TrodAll enc Try.prog W 0 (fun _ => true) true Try.f8.params.toList args.toList ds p := hA0
  rw [Try.params8] at hA hval
  obtain ⟨v0, vs0, d0, ds0, p0, q0, hargs, rfl, rfl, h0, r0⟩ := trodAll_cons hA
  obtain ⟨rfl, rfl, rfl⟩ := trodAll_nil r0
  obtain rfl : args = #[v0] := by cases args; simp_all
  obtain ⟨rfl, rfl⟩ := trodVars_none hV
  obtain ⟨cs0, x0, hv0, hr0⟩ := open_arg (n := 7) (T := .slice (.struct [.int .i64, tyAsk])) (by kernel_rfl) (hval 0 48 v0 rfl rfl) h0
  simp only [Ty.isStruct, Bool.false_eq_true, if_false] at hv0
  obtain ⟨oa, m, cap, ks, qs, e0, hm, hoa⟩ := rd_steps11 hr0
  rw [e0] at hv0
  subst hv0
  clear hA0 hval0
  refine (plays11_walk oa m cap ks qs hm W hoa).mono fun e W' ⟨he, hb⟩ => ?_
  subst he
  exact ⟨_, rfl, law_post Try.laidOutP (by kernel_rfl) rfl Try.underlying4 hW' rfl rfl rfl rfl hb⟩

theorem orderPlays_holds : Rows.OrderPlaysSaid :=
  OpenClaim.holds_of_wide 8 Try.f8 rfl rfl rfl rfl rfl rfl rfl ⟨rfl, rfl, rfl, rfl, rfl⟩ rfl rfl rfl rfl rfl (by kernel_rfl) Try.func8 (by kernel_rfl)
    (of_decide_eq_true (by kernel_rfl)) (by unfold Func.isWrapper; first | (rw [if_pos (by decide +kernel)]; kernel_rfl) | (rw [if_neg (by decide +kernel)]; exact ⟨rfl, rfl⟩))
    (fun os started H enc _ => plays11_lifted os started H enc)
end Go.Proofs.Ytcgcappfhjploaa
