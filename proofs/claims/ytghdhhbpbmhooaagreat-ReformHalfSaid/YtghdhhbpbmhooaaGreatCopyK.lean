/- the statements' copy of a projection -/
import Derived.Test.YtghdhhbpbmhooaaGreatCopy
import Derived.Laws.OwnMore
namespace Go.Proofs.YtghdhhbpbmhooaaGreat
open Go.RowKit Esch

theorem wpList_append_nil {P : Program} {w : World} {ops : Array Oper} {rest : List Oper} {o : Oper} {a : Act} {Q : Exit → Act → World → Prop} (hgd : o.guard = none) (s x : Operand) (t : TypeId)
    (ho : o.op = .call { callee := .builtin .append, args := #[s, x], argTypes := #[t, t] })
    (base : Nat) (e : TypeId) (i : TypeInfo) (size : Nat) (ht : P.underlying t = some (.slice e)) (hi : P.info? e = some i)
    (v : Value) (n c : Nat) (xs : List Value) (hs : a.eval s = v) (hown : w.ownsRow base e size v n xs) (hx : a.eval x = .slice none 0 c)
    (h : wpList P ops Q rest (a.put o.dst v) w) : wpList P ops Q (o :: rest) a w := by
  refine wpList_plain hgd fun K hK => ?_
  have hrun := run_append_nil (P := P) (w := w) base t o.type e i size ht hi v n c xs hown
  unfold Oper.wp
  simp [execOp, ho, resolve, invoke, builtin, hs, hx, hrun, Result.andThen]
  exact hK _ _ h

/-- the copy that is made, so far -/
structure CopyAtK (w0 : World) (B : Nat) (va : Option Addr) (vc : Nat) (xs : List Value) (ls : List (List Int)) (w : World) : Prop where
  row : w.ownsRow B 85 1 (.slice va ls.length vc) ls.length xs
  heads : HeadsOf (fun j => B ≤ j ∧ (Value.slice va ls.length vc).ownBlock ≠ some j) w xs ls
  below : Below B w0 w
def CopyRelK (w0 : World) (ls : List (List Int)) (g : Nat) (s3 s4 : Value) (wr : World) : Prop :=
  ∃ (k : Nat) (va : Option Addr) (vc : Nat) (xs : List Value), g = ls.length - k ∧ k ≤ ls.length ∧ s4 = .int .i64 k ∧ s3 = .slice va k vc ∧ CopyAtK w0 w0.heap.size va vc xs (ls.take k) wr
theorem CopyAtK.step {w0 wr w2 w4 : World} {va : Option Addr} {vc gg cap k : Nat} {xs : List Value} {pre : List (List Int)} {l : List Int} {ja : Option Addr} {jc : Nat} {o : Obj} (hC : CopyAtK w0 w0.heap.size va vc xs pre wr) (hB2 : Below wr.heap.size wr w2) (hi2 : IntsAt (From wr.heap.size) w2 ja l)
    (hown1 : w4.ownsRow w0.heap.size 85 1 (.slice (some ⟨gg, 0, none⟩) (k + 1) cap) (k + 1) (xs ++ [.slice ja l.length jc])) (hgrow : (w2.alloc o).grownBy w4 (Value.slice va k vc).ownBlock)
    (hat : (Value.slice va k vc).ownBlock = some gg ∨ gg = w2.heap.size + 1) (hk : pre.length = k) (hcp : CapOk l jc) :
    CopyAtK w0 w0.heap.size (some ⟨gg, 0, none⟩) cap (xs ++ [.slice ja l.length jc]) (pre ++ [l]) w4 := by
  subst hk
  have hz := hB2.size
  have hgz := hgrow.size
  simp only [World.size_alloc] at hgz
  have hlen : (pre ++ [l]).length = pre.length + 1 := by simp
  have hz0 := hC.below.size
  have hg : ∀ j, (Value.slice va pre.length vc).ownBlock = some j → w0.heap.size ≤ j ∧ j < wr.heap.size := by
    intro j hj
    rcases hC.row.2 with ⟨e, -⟩ | ⟨g, cap', cur, e, hbg, hg, -⟩
    · rw [e] at hj; cases hj
    · rw [e] at hj; have hj : g = j := Option.some.inj hj; subst hj; exact ⟨hbg, block_lt hg⟩
  refine ⟨?_, ?_, ?_⟩
  · rw [hlen]; exact hown1
  · refine HeadsOf.snoc (S := fun j => w0.heap.size ≤ j ∧ (Value.slice va pre.length vc).ownBlock ≠ some j) hC.heads ?_ ?_ hcp
    · rintro a' l' ⟨h1, h2⟩
      refine ⟨h1, fun h0 => ?_⟩
      obtain ⟨b, off, rfl, ⟨hb1, hb2⟩, hb3, hb4⟩ := h2 h0
      have hbl : w4.heap[b]? = wr.heap[b]? := by rw [hgrow.block b (by simp only [World.size_alloc]; omega) (fun e => hb2 e.symm), Below.heap_alloc _ _ _ (by omega), hB2.block b hb3]
      refine ⟨b, off, rfl, ⟨hb1, ?_⟩, by omega, fun i hi => (World.cell?_of_block hbl).trans (hb4 i hi)⟩
      intro e
      have e : gg = b := Option.some.inj e
      rcases hat with h | h
      · exact hb2 (by rw [h, e])
      · omega
    · refine ⟨hi2.1, fun h0 => ?_⟩
      obtain ⟨b, off, rfl, hb1, hb3, hb4⟩ := hi2.2 h0
      have hb1' : wr.heap.size ≤ b := hb1
      have hne : (Value.slice va pre.length vc).ownBlock ≠ some b := fun e => by have := (hg b e).2; omega
      refine ⟨b, off, rfl, ⟨by omega, ?_⟩, by omega, fun i hi => ?_⟩
      · intro e
        have e : gg = b := Option.some.inj e
        rcases hat with h | h
        · exact hne (by rw [h, e])
        · omega
      · refine (World.cell?_of_block ?_).trans (hb4 i hi)
        rw [hgrow.block b (by simp only [World.size_alloc]; omega) (fun e => hne e.symm), Below.heap_alloc _ _ _ hb3]
  · exact ((hC.below.trans (hB2.mono hz0)).alloc (by omega) o).grown hgrow (by simp only [World.size_alloc]; omega) (fun j hj => (hg j hj).1)

set_option maxRecDepth 100000 in
set_option maxHeartbeats 2000000 in
theorem copyK_any (S : Nat → Prop) (w : World) (ep : Int) (a : Option Addr) (c : Nat) (ls : List (List Int)) (hs : Small ls) (h : ListsAt S w a ls) :
    Calls Tryz.prog 11 #[.agg #[.int .i64 ep, .slice a ls.length c]] w (CopyPost w ep ls) := by
  have Hs := Lib.hid hs
  have hn := hs.1
  clear hs
  obtain ⟨hm, h⟩ := h
  have H := Lib.hid h
  clear h
  obtain ⟨i0, hi, hz0, hz1, hz2⟩ := info_parts Tryz.infoInts
  obtain ⟨i1, gi, gz0, gz1, gz2⟩ := info_parts Tryz.infoInt
  go_enter Tryz.func11, Tryz.ntmps11
  go_wp2_with fail
  have hB0 : Below w.heap.size w ((w.alloc (.cells #[.int .i64 ep, .slice a ls.length c] 24)).alloc (.cells #[.int .i64 0, .slice none 0 0] 24)) := by exact belC (Below.refl _ _)
  obtain ⟨W0, hW0⟩ : ∃ W0, W0 = ((w.alloc (.cells #[.int .i64 ep, .slice a ls.length c] 24)).alloc (.cells #[.int .i64 0, .slice none 0 0] 24)) := ⟨_, rfl⟩
  have r0 : W0.cell? ⟨w.heap.size + 1, 0, none⟩ = some (.int .i64 0) := by rw [hW0]; go_simp
  have r1 : W0.cell? ⟨w.heap.size + 1, 1, none⟩ = some (.slice none 0 0) := by rw [hW0]; go_simp
  have r2 : W0.frozen? ⟨w.heap.size + 1, 0, none⟩ = false := by rw [hW0]; go_simp
  have r3 : W0.frozen? ⟨w.heap.size + 1, 1, none⟩ = false := by rw [hW0]; go_simp
  have q0 : W0.cell? ⟨w.heap.size, 0, none⟩ = some (.int .i64 ep) := by rw [hW0]; go_simp
  have q1 : W0.cell? ⟨w.heap.size, 1, none⟩ = some (.slice a ls.length c) := by rw [hW0]; go_simp
  have q3 : W0.frozen? ⟨w.heap.size, 1, none⟩ = false := by rw [hW0]; go_simp
  have hsz : W0.heap.size = w.heap.size + 2 := by rw [hW0]; simp
  rw [← hW0] at hB0 ⊢
  have HW0 := Lib.hid hW0
  clear hW0
  obtain ⟨rb, hrb⟩ : ∃ rb, rb = w.heap.size + 1 := ⟨_, rfl⟩
  obtain ⟨qb, hqb⟩ : ∃ qb, qb = w.heap.size := ⟨_, rfl⟩
  rw [← hrb] at r0 r1 r2 r3 ⊢
  rw [← hqb] at q0 q1 q3 ⊢
  have hrq : w.heap.size ≤ qb ∧ qb < rb ∧ rb < W0.heap.size := by omega
  have hqw : qb ≤ w.heap.size := by omega
  have Hsz := Lib.hid hsz
  clear hqb hrb hsz
  go_loopg [3, 4] ls.length (fun g s3 s4 wr => CopyRelK W0 ls g s3 s4 wr)
  case atStart => exact ⟨0, none, 0, [], rfl, Nat.zero_le _, rfl, rfl, ⟨World.ownsRow_nil _ _ _ _, HeadsOf.nil _ _, Below.refl _ _⟩⟩
  case round =>
    obtain ⟨k, va, vc, xs, rfl, hk, rfl, rfl, hC⟩ := hrel
    have t1 := below_at hC.below q1 (by omega)
    by_cases hlt : k < ls.length
    · obtain ⟨b, off, rfl, -, hb, hc⟩ := H.out (by omega)
      obtain ⟨ia, ic, hc1, hi1, -⟩ := hc k hlt
      clear hc
      have hl50 := Hs.out.2 k hlt
      have HT := Lib.hid (take_getD' hlt)
      replace hc1 := below_at (hB0.trans (hC.below.mono (by omega))) hc1 hb
      have hi2 := hi1.mod (Mod.of_below (F := none') (hB0.trans (hC.below.mono (by omega)))) (fun _ _ _ => id)
      clear hi1
      have hk1 : (0 : Int) ≤ k := by omega
      have hk2 : (k : Int) < ls.length := by omega
      generalize ls.getD k [] = l at *
      have htl : (ls.take k).length = k := by simp; omega
      have hrow := hC.row
      rw [htl] at hrow
      have hzr := hC.below.size
      have hqr : qb < wr.heap.size := by omega
      have hbr : b < wr.heap.size := cell_lt hc1
      have HC := Lib.hid hC
      clear hC
      clear r0 r1 r2 r3 q0 q1 q3
      have hmade := World.ownsRow_made (base := wr.heap.size) (e := 3) (size := 1) wr #[] 0 (Nat.le_refl _) (Nat.zero_le _) rfl
      have Hi2 := Lib.hid hi2
      cases ia with
      | none =>
        have h0 : l = [] := by
          rcases Nat.eq_zero_or_pos l.length with e | hp
          · exact List.length_eq_zero_iff.1 e
          · obtain ⟨b, off, e, -⟩ := hi2.2 hp; cases e
        subst h0
        clear hi2
        go_wp2_with (first
          | (at_builtin; refine wpList_append_nil rfl _ _ 85 rfl wr.heap.size 3 i1 1 Tryz.underlying85 gi _ _ ic [] rfl hmade rfl ?_)
          | (at_builtin; refine wpList_append_lies _ rfl _ _ _ rfl W0.heap.size 85 i0 _ 1 24 Tryz.underlying22 hi hz0 hz1 hz2 rfl (by omega) (.slice va k vc) k xs rfl ((hrow.alloc _).alloc _) ⟨wr.heap.size + 1, 0, none⟩ 1 1 [.slice (some ⟨wr.heap.size, 0, none⟩) 0 0] rfl rfl
              (World.news_of_block (cs := #[.slice (some ⟨wr.heap.size, 0, none⟩) 0 0]) (t := 85) (fr := (0, 0)) (by have := heap_alloc_new (wr.alloc (.cells #[] 3)) (.cells #[.slice (some ⟨wr.heap.size, 0, none⟩) 0 0] 85); simpa using this)) (by simp [Value.oneCell']) (by omega) (by unfold Go.maxLen; omega) (by omega) (by simp; omega) (wr.heap.size + 1 + 1) (by simp) ?_; intro gg cap w4 hown1 hgrow hat hlt4))
        have HR := Lib.hid (HC.out.step (l := []) (ja := some ⟨wr.heap.size, 0, none⟩) (jc := 0) (w2 := wr.alloc (.cells #[] 3)) ((Below.refl _ _).alloc (Nat.le_refl _) _) (IntsAt.nil _ _ _) hown1 hgrow (by simpa using hat) htl ⟨by simp, by omega⟩)
        go_roundg (ls.length - (k + 1))
        case measure => omega
        case rel => exact ⟨k + 1, some ⟨gg, 0, none⟩, cap, _, rfl, by omega, by go_num, rfl, by rw [HT.out]; exact HR.out⟩
      | some ad =>
        have hnew : ∀ j u, (l.map (Value.int .i64))[j]? = some u → (wr.alloc (.cells #[] 3)).cell? (ad.add j) = some u := by
          intro j u hu
          have hj := (List.getElem?_eq_some_iff.1 hu).1
          obtain ⟨b, off, e, -, hb, hcc⟩ := hi2.2 (by simp at hj; omega)
          cases e
          rw [World.cell?_alloc_lt _ _ _ (by unfold Addr.add; split <;> exact hb)]
          exact IntsAt.news hcc j u hu
        have HN := Lib.hid hnew
        clear hnew hi2
        go_wp2_with (at_builtin; refine wpList_append_own _ rfl (.tmp 13) (.tmp 18) 85 rfl wr.heap.size 3 i1 (.int .i64 0) 1 8 Tryz.underlying85 gi gz0 gz1 gz2 rfl (by decide) _ _ _ rfl hmade ad l.length ic (l.map (Value.int .i64)) rfl ?qc1 ?qc2 ?qc3 ?qc4 ?qc5 ?qc6 ?_)
        case qc1 => simp
        case qc2 => exact HN.out
        case qc3 => exact one_ints l
        case qc4 => unfold Go.maxLen; omega
        case qc5 => omega
        case qc6 => simp
        intro v' w2 hown2 hgrow2 hnil
        obtain ⟨ja, jc, rfl, hj2, hcp1, hcp2, -⟩ := own_ints (l := l) (by simpa using hown2)
        have hB2 : Below wr.heap.size wr w2 := ((Below.refl _ wr).alloc (Nat.le_refl _) _).grown hgrow2 (by simp) (by intro k hk; simp [Value.ownBlock] at hk; omega)
        have hrow2 := own_below hrow hB2
        have hzw := hB2.size
        clear hnil hown2 hgrow2
        go_wp2_with (at_builtin; refine wpList_append_lies _ (by rfl) _ _ _ (by rfl) W0.heap.size 85 i0 _ 1 24 Tryz.underlying22 hi hz0 hz1 hz2 rfl (by omega) (.slice va k vc) k xs (by rfl) (hrow2.alloc _) ⟨w2.heap.size, 0, none⟩ 1 1 [.slice ja l.length jc] (by rfl) (by rfl) (World.news_of_block (cs := #[.slice ja l.length jc]) (t := 85) (fr := (0, 0)) (heap_alloc_new _ _)) (by simp [Value.oneCell']) (by omega) (by unfold Go.maxLen; omega) (by omega) (by simp; omega) (w2.heap.size + 1) (by simp) ?_; intro gg cap w4 hown1 hgrow hat hlt4)
        have HR := Lib.hid (HC.out.step hB2 hj2 hown1 hgrow hat htl ⟨hcp1, hcp2⟩)
        go_roundg (ls.length - (k + 1))
        case measure => omega
        case rel => exact ⟨k + 1, some ⟨gg, 0, none⟩, cap, _, rfl, by omega, by go_num, rfl, by rw [HT.out]; exact HR.out⟩
    · have hk3 : k = ls.length := by omega
      subst hk3
      obtain ⟨hrow, hhd, hB⟩ := hC
      rw [List.take_length] at hrow hhd
      have Hhd := Lib.hid hhd
      have Hrow := Lib.hid hrow
      have t0 := below_at hB q0 (by omega)
      have u0 := below_at hB r0 (by omega)
      have u1 := below_at hB r1 (by omega)
      have t3 := (hB.frozen (p := ⟨qb, 1, none⟩) (by show qb < W0.heap.size; omega)).trans q3
      have u2 := (hB.frozen (p := ⟨rb, 0, none⟩) (by show rb < W0.heap.size; omega)).trans r2
      have u3 := (hB.frozen (p := ⟨rb, 1, none⟩) (by show rb < W0.heap.size; omega)).trans r3
      have hq : qb ≠ rb := by omega
      clear hhd hrow r0 r1 r2 r3 q0 q1 q3
      go_wp2_with fail
      obtain ⟨a', c', he, hls⟩ := own_lists Hrow.out rfl Hhd.out.2
      simp only [Value.slice.injEq] at he
      obtain ⟨rfl, -, rfl⟩ := he
      refine bodyPost_ret (v := .agg #[.int .i64 ep, .slice va ls.length vc]) (by simp only [results, Tryz.results11]; go_simp) rfl ?_
      refine ⟨va, vc, rfl, ?_, ?_⟩
      · refine (hls.mod (F := fun j => j = rb ∨ j = qb) ?_ ?_).sub ?_
        · exact modC (Mod.refl _ _)
        · rintro j (hj | hj) - (rfl | rfl) <;> omega
        · rintro j - (hj | hj) <;> (show w.heap.size ≤ j; omega)
      · have hBw := hB0.trans (hB.mono (by omega))
        exact belC hBw
end Go.Proofs.YtghdhhbpbmhooaaGreat
