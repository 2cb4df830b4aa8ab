import Derived.Test.YtpkdpmkiplopmaaEncM
import Derived.Test.YtpkdpmkiplopmaaPack2
import Derived.Test.YtpkdpmkiplopmaaGood
import Derived.Test.YtpkdpmkiplopmaaLayM
/- a projection's text: the program's -/
namespace Go.Proofs.Ytpkdpmkiplopmaa
open Go.RowKit Esch

theorem PkAt.keep {B b : Nat} {bs : List UInt8} {bad : Bool} {w w' : World} (h : PkAt B b bs bad w) (hB : Below w.heap.size w w') : PkAt B b bs bad w' := by
  obtain ⟨h1, p, q, h2, h3, h4, h5⟩ := h
  refine ⟨h1, p, q, (hB.block b h2.lt).trans h2, h3, ⟨h4.1, ?_⟩, h5⟩
  rcases h4.2 with hh | ⟨g, cap, cur, e, hg, hgb, rest⟩
  · exact .inl hh
  · exact .inr ⟨g, cap, cur, e, hg, (hB.block g (block_lt hgb)).trans hgb, rest⟩
def PkPost (w : World) (B b : Nat) (bs : List UInt8) (e : Ending) (w' : World) : Prop := e = .returned (.tuple #[]) ∧ PkAt B b bs false w' ∧ Below B w w'
theorem pkNum4 (w : World) (B b : Nat) (bs : List UInt8) (v : Nat) (hv : v < 4294967296) (h : PkAt B b bs false w) (hlen : bs.length ≤ 900000) (hBw : B ≤ w.heap.size) :
    Calls Try.prog 46 #[.pointer (some ⟨b, 0, none⟩), .int .i64 v, .int .i64 4] w (PkPost w B b (bs ++ putB v 4)) := pkNum_ok w B b bs false v 4 rfl (by omega) (by omega) h hlen hBw
theorem pkNum1 (w : World) (B b : Nat) (bs : List UInt8) (v : Nat) (hv : v < 256) (h : PkAt B b bs false w) (hlen : bs.length ≤ 900000) (hBw : B ≤ w.heap.size) :
    Calls Try.prog 46 #[.pointer (some ⟨b, 0, none⟩), .int .i64 v, .int .i64 1] w (PkPost w B b (bs ++ putB v 1)) := pkNum_ok w B b bs false v 1 rfl (by omega) (by omega) h hlen hBw
def EncRel (w1 : World) (b : Nat) (pre : List UInt8) (cs : List (List Int)) (g : Nat) (s : Value) (wr : World) : Prop :=
  ∃ k : Nat, g = cs.length - k ∧ k ≤ cs.length ∧ s = .int .i64 k ∧ PkAt w1.heap.size b (pre ++ (cs.take k).flatMap encC) false wr ∧ Below w1.heap.size w1 wr
def EncRel2 (w1 : World) (b : Nat) (pre : List UInt8) (c : List Int) (g : Nat) (s : Value) (wr : World) : Prop :=
  ∃ k : Nat, g = c.length - k ∧ k ≤ c.length ∧ s = .int .i64 k ∧ PkAt w1.heap.size b (pre ++ (c.take k).flatMap fun u => putB u.toNat 1) false wr ∧ Below w1.heap.size w1 wr
def EncPost (w : World) (q : Proj) (e : Ending) (w' : World) : Prop := e = .returned (if q.good then .tuple #[.string ⟨(encL q).toArray⟩, .int .i64 0] else .tuple #[.string ⟨#[]⟩, .int .i64 11]) ∧ Below w.heap.size w w'
set_option maxRecDepth 100000 in
set_option maxHeartbeats 2000000 in
theorem enc_any (S : Nat → Prop) (w : World) (q : Proj) (a : Option Addr) (c : Nat) (hl : ListsAt S w a q.chains) :
    Calls Try.prog 15 #[.agg #[.int .i64 q.epoch, .slice a q.chains.length c]] w (EncPost w q) := by
  obtain ⟨W0, hW0, hB0, hz0, c0, c1⟩ : ∃ W, W = w.alloc (.cells #[.int .i64 q.epoch, .slice a q.chains.length c] 24) ∧ Below w.heap.size w W ∧ W.heap.size = w.heap.size + 1 ∧
    W.cell? ⟨w.heap.size, 0, none⟩ = some (.int .i64 q.epoch) ∧ W.cell? ⟨w.heap.size, 1, none⟩ = some (.slice a q.chains.length c) := ⟨_, rfl, by (repeat (first | with_reducible exact (Below.refl _ _) | with_reducible refine Below.drew ?_ | with_reducible refine Esch.below_drewN ?_ _ | with_reducible refine Below.setCell ?_ (by first | omega | (simp; done) | (simp; omega)) _ | with_reducible refine Below.alloc ?_ (by first | omega | (simp; done) | (simp; omega)) _)), by simp, by go_simp, by go_simp⟩
  have HW0 := Lib.hid hW0
  have hl0 := (hl.sub (T := fun k => k < w.heap.size) (fun k hk _ => hk)).mod (Mod.of_below (F := none') hB0) (fun _ _ _ => id)
  have hg := good_any _ W0 q.epoch a c q.chains hl0
  by_cases hq : q.good
  · rw [show goodB ⟨q.epoch, q.chains⟩ = true from decide_eq_true hq] at hg
    unfold EncPost
    rw [if_pos hq]
    have Hl := Lib.hid hl0
    obtain ⟨g0, g1, g2, g3, g4, g5, -⟩ := hq
    have G4 := Lib.hid g4
    have G5 := Lib.hid g5
    obtain ⟨qb, hqb⟩ : ∃ qb, qb = w.heap.size := ⟨_, rfl⟩
    have hq1 : qb < W0.heap.size := by omega
    have hq2 : w.heap.size ≤ qb := by omega
    have hq3 : qb ≤ w.heap.size := by omega
    rw [← hqb] at c0 c1
    have Hqb := Lib.hid hqb
    clear hW0 hl hl0 g4 g5 hqb
    go_enter Try.func15, Try.ntmps15
    go_wp2_with fail
    rw [← HW0.out, ← Hqb.out]
    refine hg.mono ?_
    clear hg
    rintro e w1 ⟨rfl, hB1⟩
    have hz1 := hB1.size
    have c0 := below_at hB1 c0 hq1
    have c1 := below_at hB1 c1 hq1
    have hnw := packNew_any w1
    go_wp2_with fail
    refine hnw.mono ?_
    clear hnw
    rintro e w2 ⟨b, rfl, hP2, hB2⟩
    have hz2 := hB2.size
    have c0 := below_at hB2 c0 (by omega)
    have c1 := below_at hB2 c1 (by omega)
    obtain ⟨en, hen⟩ : ∃ n : Nat, q.epoch = n := ⟨q.epoch.toNat, by omega⟩
    rw [hen] at c0
    have hn1 := pkNum4 w2 w1.heap.size b [] en (by omega) hP2 (by simp) hz2
    have Hen := Lib.hid hen
    clear hen
    go_wp2_with fail
    refine hn1.mono ?_
    clear hn1
    rintro e w3 ⟨rfl, hP3, hB3⟩
    have hz3 := hB3.size
    have c0 := below_at hB3 c0 (by omega)
    have c1 := below_at hB3 c1 (by omega)
    have hn2 := pkNum1 w3 w1.heap.size b _ q.chains.length (by omega) hP3 (by simp [putB_length]) (by omega)
    go_wp2_with fail
    refine hn2.mono ?_
    clear hn2
    rintro e w4 ⟨rfl, hP4, hB4⟩
    have hz4 := hB4.size
    have c0 := below_at hB4 c0 (by omega)
    have c1 := below_at hB4 c1 (by omega)
    have hB14 : Below w1.heap.size w1 w4 := hB2.trans ((hB3.trans hB4))
    obtain ⟨pre, hpre⟩ : ∃ pre, pre = [] ++ putB en 4 ++ putB q.chains.length 1 := ⟨_, rfl⟩
    rw [← hpre] at hP4
    have hpl : pre.length = 5 := by rw [hpre]; simp [putB_length]
    have Hpre := Lib.hid hpre
    have HP4 := Lib.hid hP4
    clear hpre hP4 hP3 hP2 hB2 hB3 hB4
    go_wp2_with fail
    go_loopg [25] q.chains.length (fun g s25 wr => EncRel w1 b pre q.chains g s25 wr)
    case atStart => exact ⟨0, rfl, Nat.zero_le _, rfl, by simpa using HP4.out, hB14⟩
    case round =>
      obtain ⟨k, rfl, hk, rfl, hPr, hBr⟩ := hrel
      have hzr := hBr.size
      by_cases hlt : k < q.chains.length
      · obtain ⟨lb, lo, rfl, -, hlb, hlc⟩ := Hl.out.2 (by omega)
        obtain ⟨ia, ic, hc1, hi1, -⟩ := hlc k hlt
        have hM := (Mod.of_below (F := none') hB1).trans (Mod.of_below hBr)
        replace hc1 := hM.at hc1 id
        replace hi1 := hi1.mod (F := none') (Mod.of_below hB1) (fun _ _ _ => id)
        have hmem : q.chains.getD k [] ∈ q.chains := by rw [List.getD_eq_getElem?_getD, List.getElem?_eq_getElem hlt, Option.getD_some]; exact List.getElem_mem hlt
        have hcl := G4.out _ hmem
        have hun : ∀ u ∈ q.chains.getD k [], 0 ≤ u ∧ u ≤ 15 := fun u hu => G5.out u (List.mem_flatten.2 ⟨_, hmem, hu⟩)
        have htk := enc_take hlt
        have hpk : ((q.chains.take k).flatMap encC).length ≤ 4 * 5 := by
          refine Nat.le_trans (enc_len_le (m := 4) (fun x hx => (G4.out x (List.mem_of_mem_take hx)).2)) ?_
          have := List.length_take_le k q.chains
          omega
        generalize q.chains.getD k [] = l at hc1 hi1 hcl hun htk
        generalize (q.chains.take k).flatMap encC = prk at hPr htk hpk
        have Htk := Lib.hid htk
        have Hun := Lib.hid hun
        have Hi1 := Lib.hid hi1
        have hn3 := pkNum1 wr w1.heap.size b _ l.length (by omega) hPr (by rw [List.length_append]; omega) (by omega)
        clear htk hun hi1 hmem hM hlc hPr
        go_wp2_with fail
        refine hn3.mono ?_
        clear hn3
        rintro e w5 ⟨rfl, hP5, hB5⟩
        have hB15 := hBr.trans hB5
        obtain ⟨pre2, hpre2⟩ : ∃ pre2, pre2 = pre ++ prk ++ putB l.length 1 := ⟨_, rfl⟩
        rw [← hpre2] at hP5
        have Hpre2 := Lib.hid hpre2
        have hpl2 : pre2.length ≤ 26 := by rw [hpre2, List.length_append, List.length_append, putB_length]; omega
        have HP5 := Lib.hid hP5
        have hlm := Hi1.out.1
        clear hP5 hpre2 hBr hB5
        go_wp2_with fail
        go_loopg [35] l.length (fun g s35 wr => EncRel2 w1 b pre2 l g s35 wr)
        case atStart => exact ⟨0, rfl, Nat.zero_le _, rfl, by simpa using HP5.out, hB15⟩
        case round =>
          obtain ⟨k2, rfl, hk2, rfl, hPr2, hBr2⟩ := hrel
          have hzr2 := hBr2.size
          by_cases hlt2 : k2 < l.length
          · obtain ⟨lb2, lo2, rfl, -, hlb2, hlc2⟩ := Hi1.out.2 (by omega)
            have e0 : wr.cell? ⟨lb2, lo2 + k2, none⟩ = some (.int .i64 (l.getD k2 0)) := below_at hBr2 (hlc2 k2 hlt2) hlb2
            have hmem2 : l.getD k2 0 ∈ l := by rw [List.getD_eq_getElem?_getD, List.getElem?_eq_getElem hlt2, Option.getD_some]; exact List.getElem_mem hlt2
            obtain ⟨hu0, hu1⟩ := Hun.out _ hmem2
            have htk2 := encu_take hlt2
            have hpk2 : ((l.take k2).flatMap fun u => putB u.toNat 1).length ≤ 4 := by
              rw [encu_len]; have := List.length_take_le k2 l; omega
            generalize l.getD k2 0 = u at e0 hu0 hu1 htk2
            obtain ⟨un, rfl⟩ : ∃ n : Nat, u = n := ⟨u.toNat, by omega⟩
            rw [Int.toNat_natCast] at htk2
            generalize (l.take k2).flatMap (fun u => putB u.toNat 1) = pru at hPr2 htk2 hpk2
            have Htk2 := Lib.hid htk2
            have hn4 := pkNum1 wr w1.heap.size b _ un (by omega) hPr2 (by rw [List.length_append]; omega) hzr2
            clear htk2 hmem2 hlc2 hPr2
            go_wp2_with fail
            refine hn4.mono ?_
            clear hn4
            rintro e w6 ⟨rfl, hP6, hB6⟩
            go_wp2_with fail
            go_roundg (l.length - (k2 + 1))
            case measure => omega
            case rel =>
              refine ⟨k2 + 1, rfl, by omega, by go_num, ?_, hBr2.trans hB6⟩
              rw [Htk2.out, ← List.append_assoc]
              exact hP6
          · have hkn2 : k2 = l.length := by omega
            subst hkn2
            have hPf : PkAt w1.heap.size b (pre ++ (q.chains.take (k + 1)).flatMap encC) false wr := by
              rw [Htk.out]
              unfold encC
              rw [List.take_length, Hpre2.out] at hPr2
              simpa only [List.append_assoc] using hPr2
            have HPf := Lib.hid hPf
            clear hPr2 hPf
            go_wp2_with fail
            go_roundg (q.chains.length - (k + 1))
            case measure => omega
            case rel => exact ⟨k + 1, rfl, by omega, by go_num, HPf.out, hBr2⟩
      · have hkn : k = q.chains.length := by omega
        subst hkn
        rw [List.take_length] at hPr
        have hfin : pre ++ q.chains.flatMap encC = encL q := by
          rw [Hpre.out]
          unfold encL
          rw [Hen.out, Int.toNat_natCast]
          simp
        rw [hfin] at hPr
        have hel : (encL q).length ≤ 65536 := by
          rw [← hfin, List.length_append]
          have := enc_len_le (cs := q.chains) (m := 4) (fun x hx => (G4.out x hx).2)
          omega
        have hne : encL q ≠ [] := by
          intro e
          rw [e] at hfin
          have := congrArg List.length hfin
          rw [List.length_append, List.length_nil] at this
          omega
        have hdn := pkDone_ok wr w1.heap.size b (encL q) hPr hne hel hzr
        clear hfin hel hne hPr
        go_wp2_with fail
        refine hdn.mono ?_
        clear hdn
        rintro e w7 ⟨rfl, hB7⟩
        go_wp2_with fail
        go_ret2
        exact ⟨rfl, hB0.trans ((hB1.trans ((hBr.trans hB7).mono hz1)).mono (by omega))⟩
  · rw [show goodB ⟨q.epoch, q.chains⟩ = false from decide_eq_false hq] at hg
    unfold EncPost
    rw [if_neg hq]
    clear hW0 hl hl0 hq
    go_enter Try.func15, Try.ntmps15
    go_wp2_with fail
    rw [← HW0.out]
    refine hg.mono ?_
    clear hg
    rintro e w1 ⟨rfl, hB1⟩
    go_wp2_with fail
    go_ret2
    exact ⟨rfl, hB0.trans (hB1.mono (by omega))⟩
end Go.Proofs.Ytpkdpmkiplopmaa
