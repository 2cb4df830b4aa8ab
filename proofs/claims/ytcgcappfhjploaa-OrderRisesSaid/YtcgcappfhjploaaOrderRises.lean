/-
  PROVED: the law OrderRises answers true at every input, and changes nothing that was there. No condition.
-/
import Derived.Test.YtcgcappfhjploaaOrderPlays
namespace Go.Proofs.Ytcgcappfhjploaa
open Go.RowKit Esch Go.ChangeShapes Go.WideShapes Go.ChangeAt

/-- what a question's answer says of how it stands -/
theorem ordDo_rises (E : Int) (K : Bool) (t : Int) (ok : (Ord.mk E K t).ok) (k e p : Int) : ∃ c n E' K' t', ordDo ⟨E, K, t⟩ k e p = (c, n, ⟨E', K', t'⟩) ∧ (Ord.mk E' K' t').ok ∧
    ((k = 8 ∧ c = 0 ∧ E < e ∧ E' = e ∧ K' = true ∧ t' = p) ∨ (k = 6 ∧ c = 0 ∧ K = true ∧ e = E ∧ n = t ∧ t < 16384 ∧ E' = E ∧ K' = K ∧ t' = t + 1) ∨
     (k = 7 ∧ c = 0 ∧ K = true ∧ e = E ∧ n = t ∧ E' = E ∧ K' = K ∧ t' = t) ∨ (c ≠ 0 ∧ E' = E ∧ K' = K ∧ t' = t)) := by
  have o1 := ordDo_ok ok k e p
  have h0 := ok
  unfold Ord.ok at h0
  simp only at h0
  obtain ⟨c, n, ⟨E', K', t'⟩, hd⟩ : ∃ c n s, ordDo ⟨E, K, t⟩ k e p = (c, n, s) := ⟨_, _, _, rfl⟩
  rw [hd] at o1
  refine ⟨c, n, E', K', t', hd, o1, ?_⟩
  clear o1 ok
  unfold ordDo ordStart ordTold at hd
  simp only at hd
  by_cases h8 : k = 8
  · rw [if_pos h8] at hd
    by_cases he : e ≤ E
    · simp only [if_pos he, Prod.mk.injEq, Ord.mk.injEq] at hd
      obtain ⟨rfl, rfl, rfl, rfl, rfl⟩ := hd
      exact .inr (.inr (.inr ⟨by decide, rfl, rfl, rfl⟩))
    · by_cases hp : p < 0 ∨ 16384 < p
      · simp only [if_neg he, if_pos hp, Prod.mk.injEq, Ord.mk.injEq] at hd
        obtain ⟨rfl, rfl, rfl, rfl, rfl⟩ := hd
        exact .inr (.inr (.inr ⟨by decide, rfl, rfl, rfl⟩))
      · simp only [if_neg he, if_neg hp, Prod.mk.injEq, Ord.mk.injEq] at hd
        obtain ⟨rfl, rfl, rfl, rfl, rfl⟩ := hd
        exact .inl ⟨h8, rfl, by omega, rfl, rfl, rfl⟩
  · rw [if_neg h8] at hd
    by_cases h67 : k = 6 ∨ k = 7
    · rw [if_pos h67] at hd
      by_cases he : e = E
      · rw [if_neg (by simpa using he)] at hd
        cases K
        · simp only [if_true, Prod.mk.injEq, Ord.mk.injEq] at hd
          obtain ⟨rfl, rfl, rfl, rfl, rfl⟩ := hd
          exact .inr (.inr (.inr ⟨by decide, rfl, rfl, rfl⟩))
        · rw [if_neg (by decide)] at hd
          by_cases h6 : k = 6
          · rw [if_pos h6] at hd
            by_cases ht : t = 16384
            · simp only [if_pos ht, Prod.mk.injEq, Ord.mk.injEq] at hd
              obtain ⟨rfl, rfl, rfl, rfl, rfl⟩ := hd
              exact .inr (.inr (.inr ⟨by decide, rfl, rfl, rfl⟩))
            · simp only [if_neg ht, Prod.mk.injEq, Ord.mk.injEq] at hd
              obtain ⟨rfl, rfl, rfl, rfl, rfl⟩ := hd
              exact .inr (.inl ⟨h6, rfl, rfl, he, rfl, by omega, rfl, rfl, rfl⟩)
          · simp only [if_neg h6, Prod.mk.injEq, Ord.mk.injEq] at hd
            obtain ⟨rfl, rfl, rfl, rfl, rfl⟩ := hd
            exact .inr (.inr (.inl ⟨by omega, rfl, rfl, he, rfl, rfl, rfl, rfl⟩))
      · simp only [if_pos (show e ≠ E from he), Prod.mk.injEq, Ord.mk.injEq] at hd
        obtain ⟨rfl, rfl, rfl, rfl, rfl⟩ := hd
        exact .inr (.inr (.inr ⟨by decide, rfl, rfl, rfl⟩))
    · simp only [if_neg h67, Prod.mk.injEq, Ord.mk.injEq] at hd
      obtain ⟨rfl, rfl, rfl, rfl, rfl⟩ := hd
      exact .inr (.inr (.inr ⟨by decide, rfl, rfl, rfl⟩))

@[simp] theorem fieldAns0R (x0 x1 x2 x3 x4 x5 x6 x7 : Value) (w : World) : (Instr.field 56 (.agg #[x0, x1, x2, x3, x4, x5, x6, x7]) 0).run Try.prog w = .ok x0 w := by kernel_rfl

theorem below_drewN11 {B : Nat} {a w : World} (h : Below B a w) (n : Nat) : Below B a (w.drewN n) := ⟨h.os, h.tape, h.output, h.size, h.block⟩

def RisesRel (w : World) (b n g : Nat) (s6 s7 s8 s9 : Value) (wr : World) : Prop :=
  ∃ (k : Nat) (E : Int) (K : Bool) (t a : Int), g = n - k ∧ k ≤ n ∧ s6 = .int .i64 a ∧ s7 = .int .i64 E ∧ s8 = .bool K ∧ s9 = .int .i64 k ∧ OrdAt wr b ⟨E, K, t⟩ ∧ (K = true → a = t) ∧ (Ord.mk E K t).ok ∧ Below w.heap.size w wr

set_option maxRecDepth 100000 in
set_option maxHeartbeats 2000000 in
theorem rises_walk (oa : Option Addr) (n cap : Nat) (ks : Nat → Int) (qs : Nat → AskC) (hn : n ≤ 9223372036854775807) (fr : Nat) (hfr : fr ≤ 65535) (w : World) (hoa : StepsAt w oa n ks qs) :
    Calls Try.prog 6 #[.slice oa n cap, .int .u16 fr] w fun e w' => e = .returned (.bool true) ∧ Below w.heap.size w w' := by
  have Hoa := Lib.hid hoa
  clear hoa
  go_enter Try.func6, Try.ntmps6
  go_wp2_with fail
  refine (ordNew_any _).mono ?_
  rintro e w1 ⟨b, rfl, h1, hb, hB⟩
  have hbw : w.heap.size ≤ b := hb
  go_wp2_with fail
  obtain ⟨a0, ha0⟩ : ∃ a0 : Int, a0 = (fr : Int) % 16384 := ⟨_, rfl⟩
  rw [← ha0]
  have ha1 : 0 ≤ a0 := by omega
  have ha2 : a0 < 16384 := by omega
  clear ha0
  refine (ordDo_at 8 0 a0 _ b _ ⟨by decide, by decide⟩ h1 0 0 0 ⟨0, true, a0⟩ (by simp only [ordDo, ordStart, if_true]; rw [if_neg (by decide), if_neg (by omega)]) rfl).mono ?_
  rintro e w2 ⟨rfl, h2, hM2⟩
  have hB2 : Below w.heap.size w w2 := hB.trans (hM2.below_at hB.size fun j hj e => by omega)
  clear h1 hM2 hB
  go_wp2_with fail
  go_loopg [6, 7, 8, 9] n (fun g s6 s7 s8 s9 wr => RisesRel w b n g s6 s7 s8 s9 wr)
  case atStart => exact ⟨0, 0, true, a0, a0, rfl, Nat.zero_le _, rfl, rfl, rfl, rfl, h2, fun _ => rfl, ⟨by show 0 ≤ a0; omega, by show a0 ≤ 16384; omega⟩, hB2⟩
  case round =>
    clear h2 hB2
    obtain ⟨k, E, K, t, a, rfl, hk, rfl, rfl, rfl, rfl, hO, hKt, ok1, hBr⟩ := hrel
    have HKt := Lib.hid hKt
    clear hKt
    by_cases hlt : k < n ∧ k < 200
    · obtain ⟨hlt1, hlt2⟩ := hlt
      obtain ⟨bo, offo, rfl, hbo, hco⟩ := Hoa.out (by omega)
      obtain ⟨hq, hc0, hc⟩ := hco k hlt1
      obtain ⟨⟨qk, qu, qe, qp, qz, qn, qd, qpe, qca, qls, qcc⟩, hqk⟩ : ∃ q, q = qs k := ⟨_, rfl⟩
      obtain ⟨kk, hkk⟩ : ∃ kk, kk = ks k := ⟨_, rfl⟩
      rw [← hqk] at hq hc
      rw [← hkk] at hc0
      clear hqk hkk hco
      obtain ⟨hqd, hql⟩ := hq
      simp only at hqd hql
      have e0 : wr.cell? ⟨bo, offo + k * 10, none⟩ = some (.int .i64 kk) := below_at hBr hc0 hbo
      have e1 : wr.cell? ⟨bo, offo + k * 10 + 1, none⟩ = some (.int .i64 qk) := below_at hBr (hc 0 _ rfl) hbo
      have e2 : wr.cell? ⟨bo, offo + k * 10 + 2, none⟩ = some (.int .i64 qu) := below_at hBr (hc 1 _ rfl) hbo
      have e3 : wr.cell? ⟨bo, offo + k * 10 + 3, none⟩ = some (.int .i64 qe) := below_at hBr (hc 2 _ rfl) hbo
      have e4 : wr.cell? ⟨bo, offo + k * 10 + 4, none⟩ = some (.int .i64 qp) := below_at hBr (hc 3 _ rfl) hbo
      have e5 : wr.cell? ⟨bo, offo + k * 10 + 5, none⟩ = some (.int .i64 qz) := below_at hBr (hc 4 _ rfl) hbo
      have e6 : wr.cell? ⟨bo, offo + k * 10 + 6, none⟩ = some (.int .i64 qn) := below_at hBr (hc 5 _ rfl) hbo
      have e7 : wr.cell? ⟨bo, offo + k * 10 + 7, none⟩ = some (.string qd) := below_at hBr (hc 6 _ rfl) hbo
      have e8 : wr.cell? ⟨bo, offo + k * 10 + 8, none⟩ = some (.int .i64 qpe) := below_at hBr (hc 7 _ rfl) hbo
      have e9 : wr.cell? ⟨bo, offo + k * 10 + 9, none⟩ = some (.slice qca qls.length qcc) := below_at hBr (hc 8 _ rfl) hbo
      have hbo3 : bo < wr.heap.size := cell_lt e0
      clear hc hc0
      have hla := fun W (hW : Below w.heap.size w W) => largeAsk_any (Old w) qk qu qe qp qz qn qd hqd qpe qca qcc qls W (hql.mod (F := fun k => ¬ k < w.heap.size) ⟨hW.os, hW.tape, hW.output, hW.size, fun k _ h => hW.block k (Decidable.not_not.1 h)⟩ (fun k hk _ h => h hk))
      go_wp2_with fail
      refine (hla _ (hBr.alloc hBr.size _)).mono ?_
      clear hla
      rintro r w3 ⟨rfl, hB3⟩
      generalize (decide (6000 < qd.size) || largeProj qls) = lg
      have hBw3 := (hBr.alloc hBr.size _).trans (hB3.mono (hBr.alloc hBr.size _).size)
      have hO3 := hO.mod (F := none') (((Mod.refl none' _).alloc _).trans (Mod.of_below hB3)) id
      have M3 : Mod none' wr w3 := ((Mod.refl none' _).alloc _).trans (Mod.of_below hB3)
      have e0' := M3.at e0 id
      have q0 : w3.cell? ⟨wr.heap.size, 0, none⟩ = some (.int .i64 qk) := below_at hB3 (by go_simp) (by simp)
      have q1 : w3.cell? ⟨wr.heap.size, 1, none⟩ = some (.int .i64 qu) := below_at hB3 (by go_simp) (by simp)
      have q2 : w3.cell? ⟨wr.heap.size, 2, none⟩ = some (.int .i64 qe) := below_at hB3 (by go_simp) (by simp)
      have q3 : w3.cell? ⟨wr.heap.size, 3, none⟩ = some (.int .i64 qp) := below_at hB3 (by go_simp) (by simp)
      have q4 : w3.cell? ⟨wr.heap.size, 4, none⟩ = some (.int .i64 qz) := below_at hB3 (by go_simp) (by simp)
      have q5 : w3.cell? ⟨wr.heap.size, 5, none⟩ = some (.int .i64 qn) := below_at hB3 (by go_simp) (by simp)
      have q6 : w3.cell? ⟨wr.heap.size, 6, none⟩ = some (.string qd) := below_at hB3 (by go_simp) (by simp)
      have q7 : w3.cell? ⟨wr.heap.size, 7, none⟩ = some (.int .i64 qpe) := below_at hB3 (by go_simp) (by simp)
      have q8 : w3.cell? ⟨wr.heap.size, 8, none⟩ = some (.slice qca qls.length qcc) := below_at hB3 (by go_simp) (by simp)
      have hbl := hO.lt
      have hwz := hBr.size
      obtain ⟨ab, hab⟩ : ∃ ab, ab = wr.heap.size := ⟨_, rfl⟩
      rw [← hab] at q0 q1 q2 q3 q4 q5 q6 q7 q8 ⊢
      have habb : ab ≠ b := by omega
      have hwab : w.heap.size ≤ ab := by omega
      clear hab hO hBr hB3 e1 e2 e3 e4 e5 e6 e7 e8 e9 e0 M3
      cases lg
      · by_cases hk1 : kk = 1
        · have hk1' : (kk == 1) = true := by simp [hk1]
          clear hk1
          go_wp2_with fail
          refine (crash_any _ b _ hO3).mono ?_
          rintro e w4 ⟨rfl, hO4, hM4⟩
          have hBw4 := hBw3.trans (hM4.below_at hBw3.size fun j hj e => by omega)
          go_wp2_with fail
          go_roundg (n - (k + 1))
          case measure => omega
          case rel => exact ⟨k + 1, E, false, 0, a, rfl, by omega, rfl, rfl, rfl, by go_num, hO4, fun h => by (cases h), ⟨by show (0:Int) ≤ 0; decide, by show (0:Int) ≤ 16384; decide⟩, hBw4⟩
        · have hk1' : (kk == 1) = false := by simp [hk1]
          clear hk1
          go_wp2_with fail
          obtain ⟨c, nn, E', K', t', d1, ok1', hcs⟩ := ordDo_rises E K t ok1 qk qe qp
          have n1 := ordDo_any qu qe qp qz qn qd qpe qca qls.length qcc qk w3 b ⟨E, K, t⟩ ok1 hO3
          rw [d1] at n1
          refine n1.mono ?_
          clear n1 d1
          rintro e w4 ⟨rfl, hO4, hM4⟩
          have hBw4 := hBw3.trans (hM4.below_at hBw3.size fun j hj e => by omega)
          replace q0 := hM4.at q0 habb
          replace q2 := hM4.at q2 habb
          replace q3 := hM4.at q3 habb
          have hab4 := cell_lt q0
          clear hM4 hO3 hBw3 e0' q1 q4 q5 q6 q7 q8
          simp only [ansV]
          rcases hcs with ⟨rfl, rfl, he, rfl, rfl, rfl⟩ | ⟨rfl, rfl, rfl, rfl, rfl, ht, rfl, rfl, rfl⟩ | ⟨rfl, rfl, rfl, rfl, rfl, rfl, rfl, rfl⟩ | ⟨hc0, rfl, rfl, rfl⟩
          · go_wp2_with fail
            go_quiet (fail)
            go_wp2_with fail
            go_roundg (n - (k + 1))
            case measure => omega
            case rel => exact ⟨k + 1, _, true, _, _, rfl, by omega, rfl, rfl, rfl, by go_num, hO4.mod (F := none') (by repeat' (first | (with_reducible exact Mod.refl _ _) | (with_reducible apply Mod.drew) | (with_reducible apply Mod.drewN) | (with_reducible apply Mod.alloc))) id, fun _ => rfl, ok1', below_drewN11 (hBw4.alloc hBw4.size _) _⟩
          · obtain rfl := HKt.out rfl
            have h1 := ok1.1
            simp only at h1
            go_wp2_with fail
            go_roundg (n - (k + 1))
            case measure => omega
            case rel => exact ⟨k + 1, _, true, a + 1, a + 1, rfl, by omega, by go_num, rfl, rfl, by go_num, hO4.mod (F := none') (by repeat' (first | (with_reducible exact Mod.refl _ _) | (with_reducible apply Mod.drew) | (with_reducible apply Mod.drewN) | (with_reducible apply Mod.alloc))) id, fun _ => rfl, ok1', hBw4.alloc hBw4.size _⟩
          · obtain rfl := HKt.out rfl
            go_wp2_with fail
            go_roundg (n - (k + 1))
            case measure => omega
            case rel => exact ⟨k + 1, _, true, a, a, rfl, by omega, rfl, rfl, rfl, by go_num, hO4.mod (F := none') ((Mod.refl none' _).alloc _) id, fun _ => rfl, ok1', hBw4.alloc hBw4.size _⟩
          · have hc1 : (c == 0) = false := by simp [hc0]
            clear hc0
            by_cases k8 : qk = 8
            · subst k8
              go_wp2_with fail
              go_roundg (n - (k + 1))
              case measure => omega
              case rel => exact ⟨k + 1, _, _, _, a, rfl, by omega, rfl, rfl, rfl, by go_num, hO4.mod (F := none') ((Mod.refl none' _).alloc _) id, HKt.out, ok1', hBw4.alloc hBw4.size _⟩
            · have k8' : (qk == 8) = false := by simp [k8]
              clear k8
              by_cases k6 : qk = 6
              · subst k6
                go_wp2_with fail
                go_roundg (n - (k + 1))
                case measure => omega
                case rel => exact ⟨k + 1, _, _, _, a, rfl, by omega, rfl, rfl, rfl, by go_num, hO4.mod (F := none') ((Mod.refl none' _).alloc _) id, HKt.out, ok1', hBw4.alloc hBw4.size _⟩
              · have k6' : (qk == 6) = false := by simp [k6]
                clear k6
                by_cases k7 : qk = 7
                · subst k7
                  go_wp2_with fail
                  go_roundg (n - (k + 1))
                  case measure => omega
                  case rel => exact ⟨k + 1, _, _, _, a, rfl, by omega, rfl, rfl, rfl, by go_num, hO4.mod (F := none') ((Mod.refl none' _).alloc _) id, HKt.out, ok1', hBw4.alloc hBw4.size _⟩
                · have k7' : (qk == 7) = false := by simp [k7]
                  clear k7
                  go_wp2_with fail
                  go_roundg (n - (k + 1))
                  case measure => omega
                  case rel => exact ⟨k + 1, _, _, _, a, rfl, by omega, rfl, rfl, rfl, by go_num, hO4.mod (F := none') ((Mod.refl none' _).alloc _) id, HKt.out, ok1', hBw4.alloc hBw4.size _⟩
      · go_wp2_with fail
        refine (wakes11_any _).mono ?_
        rintro e w9 ⟨rfl, hB9⟩
        go_wp2_with fail
        go_ret
        exact ⟨rfl, hBw3.trans (hB9.mono hBw3.size)⟩
    · have hge : n ≤ k ∨ 200 ≤ k := by omega
      clear hlt
      rcases hge with hge | hge
      all_goals go_wp2_with fail
      all_goals
        refine (wakes11_any _).mono ?_
        rintro e w9 ⟨rfl, hB9⟩
        go_wp2_with fail
        go_ret
        exact ⟨rfl, hBr.trans (hB9.mono hBr.size)⟩

set_option maxRecDepth 100000 in
set_option maxHeartbeats 2000000 in
theorem rises_lifted (os : Os) (started : os.Started) (H : Type) (enc : TypeId × Value → H) :
    ReturnsInHanded {} Try.checked os 6 .any (Rows.orderRisesSpec.pre6 enc Try.prog Try.f6 Rows.orderRisesRow.domain false) (Rows.orderRisesSpec.post enc Try.prog Try.f6 false true false false) := by
  refine returnsInHanded_of_change (C := Try.checked) Try.ownP started (by kernel_rfl) Try.func6
    (ChangeSpec.witness6 (enc := enc) (C := Try.checked) false ⟨#[], #[.slice none 0 0, .int .u16 0], []⟩ 8 (by kernel_rfl) (by kernel_rfl) (by kernel_rfl) (by kernel_rfl)) ?_
  intro W base args ds gs before hval0 hW hcnd _
  have hval : ∀ (j : Nat) t v, Try.f6.params[j]? = some t → args[j]? = some v → Value.okWide Try.prog W .any base t v := hval0
  have hW' := hW
  obtain ⟨p, q, hA0, hV, rfl, hfz, hnd⟩ := hW
  have hA : DataW.TrodAll enc Try.prog W 0 (fun _ => true) true Try.f6.params.toList args.toList ds p := hA0
  rw [Try.params6] at hA hval
  obtain ⟨v0, vs0, d0, ds0, p0, q0, hargs, rfl, rfl, h0, r0⟩ := trodAll_cons hA
  obtain ⟨v1, vs1, d1, ds1, p1, q1, rfl, rfl, rfl, h1, r1⟩ := trodAll_cons r0
  obtain ⟨rfl, rfl, rfl⟩ := trodAll_nil r1
  obtain rfl : args = #[v0, v1] := by cases args; simp_all
  obtain ⟨rfl, rfl⟩ := trodVars_none hV
  obtain ⟨cs0, x0, hv0, hr0⟩ := open_arg (n := 7) (T := .slice (.struct [.int .i64, tyAsk])) (by kernel_rfl) (hval 0 48 v0 rfl rfl) h0
  simp only [Ty.isStruct, Bool.false_eq_true, if_false] at hv0
  obtain ⟨cs1, x1, hv1, hr1⟩ := open_arg (n := 5) (T := .int .u16) (by kernel_rfl) (hval 1 49 v1 rfl rfl) h1
  simp only [Ty.isStruct, Bool.false_eq_true, if_false] at hv1
  obtain ⟨cl, rfl, -, hc1, hc2⟩ := rd_int.1 hr1
  simp only [List.headD_cons] at hv1
  subst hv1
  obtain ⟨oa, m, cap, ks, qs, e0, hm, hoa⟩ := rd_steps11 hr0
  rw [e0] at hv0
  subst hv0
  clear hA0 hval0
  have hc1 : 0 ≤ cl := hc1
  have hc2 : cl ≤ 65535 := hc2
  obtain ⟨n, rfl⟩ : ∃ n : Nat, cl = n := ⟨cl.toNat, by omega⟩
  refine (rises_walk oa m cap ks qs hm n (by omega) W hoa).mono fun e W' ⟨he, hb⟩ => ?_
  subst he
  exact ⟨_, rfl, law_post Try.laidOutP (by kernel_rfl) rfl Try.underlying4 hW' rfl rfl rfl rfl hb⟩

theorem orderRises_holds : Rows.OrderRisesSaid :=
  OpenClaim.holds_of_wide 6 Try.f6 rfl rfl rfl rfl rfl rfl rfl ⟨rfl, rfl, rfl, rfl, rfl⟩ rfl rfl rfl rfl rfl (by kernel_rfl) Try.func6 (by kernel_rfl)
    (of_decide_eq_true (by kernel_rfl)) (by unfold Func.isWrapper; first | (rw [if_pos (by decide +kernel)]; kernel_rfl) | (rw [if_neg (by decide +kernel)]; exact ⟨rfl, rfl⟩))
    (fun os started H enc _ => rises_lifted os started H enc)
end Go.Proofs.Ytcgcappfhjploaa
