/-
  The law TailMoves: as long as the sequencer knows nothing it is asked again; behind a new projection the tail is found by way of the layout.
  Conditions: none.
-/
import Derived.Test.YthdgochecdobnaaGreatTail5
import Derived.Test.YthdgochecdobnaaGreatRow
import Derived.Test.YthdgochecdobnaaGreatReadApi
namespace Go.Proofs.YthdgochecdobnaaGreat
open Go.RowKit Esch Go.ChangeShapes Go.WideShapes Go.ChangeAt

abbrev qM : Proj := ⟨1, [[1, 5]]⟩
abbrev lM : LayS := (lay0 qTwo).count qM
abbrev oM : Ord := ⟨0, false, 0⟩
abbrev oN (n : Nat) : Ord := ⟨1, true, n⟩
/-- what is laid in blocks of K: the projection that comes next -/
structure KeptM (K : Nat → Prop) (qb : Nat) (a : Option Addr) (w : World) : Prop where
  c0 : w.cell? ⟨qb, 0, none⟩ = some (.int .i64 1)
  c1 : w.cell? ⟨qb, 1, none⟩ = some (.slice a 1 1)
  lists : ListsAt K w a qM.chains
  kq : K qb
theorem KeptM.mod {K F : Nat → Prop} {w w' : World} {qb : Nat} {a : Option Addr} (h : KeptM K qb a w) (hM : Mod F w w') (hF : ∀ k, K k → ¬ F k) : KeptM K qb a w' :=
  ⟨hM.at h.c0 (hF qb h.kq), hM.at h.c1 (hF qb h.kq), h.lists.mod hM (fun k hk _ => hF k hk), h.kq⟩
structure TMove (w0 : World) (K : Nat → Prop) (qb hb tb : Nat) (qa : Option Addr) (c : Nat) (o : Ord) (l : LayS) (s : TaS) (w : World) : Prop where
  at' : ∃ U S, HL w0 c hb U o l w ∧ TailAt w tb S s ∧ (∀ k, S k → ¬ U k ∧ k < w.heap.size ∧ ¬ K k ∧ w0.heap.size ≤ k) ∧ (∀ k, K k → ¬ U k ∧ k < w.heap.size)
  kept : KeptM K qb qa w
/-- one question more: it has been asked (W2: boxes laid), brought (w3), and its answer heard (w4) -/
theorem TMove.step {w0 w W2 w3 w4 : World} {K U S : Nat → Prop} {qb hb tb c : Nat} {qa : Option Addr} {o' : Ord} {l' : LayS} {s s4 : TaS} (hK : KeptM K qb qa w) (hT : TailAt w tb S s) (hS : ∀ k, S k → ¬ U k ∧ k < w.heap.size ∧ ¬ K k ∧ w0.heap.size ≤ k) (hKU : ∀ k, K k → ¬ U k ∧ k < w.heap.size)
    (hB2 : Below w.heap.size w W2) (hH3 : HL w0 (c + 1) hb (grow U W2 w3) o' l' w3) (hM3 : Mod U W2 w3) (h4 : TailHearPost w3 tb S s4 (.returned (.tuple #[])) w4) : TMove w0 K qb hb tb qa (c + 1) o' l' s4 w4 := by
  obtain ⟨-, hA, hM4⟩ := h4
  have z2 := hB2.size
  have z3 := hM3.size
  have z4 := hM4.size
  have htb := hS tb hT.sb
  have hnt : ∀ k, grow U W2 w3 k → ¬ k = tb := fun k hk e => by
    subst e
    rcases hk with hk | hk
    · exact htb.1 hk
    · have := htb.2.1; omega
  refine ⟨⟨grow U W2 w3, _, hH3.mod hM4 hnt (fun k hk e => by have := htb.2.2.2; omega), hA, fun k hk => ?_, fun k hk => ?_⟩, (hK.mod (F := fun k => U k ∨ k = tb) ((mod_none (Mod.of_below hB2)).trans ((hM3.mono (fun _ _ h => Or.inl h)).trans (hM4.mono (fun _ _ h => Or.inr h)))) (fun k hk e => ?_))⟩
  · rcases hk with hk | hk
    · obtain ⟨k1, k2, k3, k4⟩ := hS k hk
      exact ⟨fun e => e.elim k1 (fun e => by omega), by omega, k3, k4⟩
    · refine ⟨fun e => by have := hH3.lt k e; omega, hk.2, fun e => by have := (hKU k e).2; omega, by have := htb.2.2.2; have := htb.2.1; omega⟩
  · obtain ⟨k1, k2⟩ := hKU k hk
    exact ⟨fun e => e.elim k1 (fun e => by omega), by omega⟩
  · rcases e with e | e
    · exact (hKU k hk).1 e
    · subst e; exact htb.2.2.1 hk
def tmS (n : Nat) : Nat → TaS
  | 0 => ⟨qTwo, 1, 0, 0⟩
  | 1 => ⟨qTwo, 0, 0, 0⟩
  | 2 => ⟨qM, 1, 0, 0⟩
  | _ => ⟨qM, 2, n, 0⟩
def MovesRel1 (w0 : World) (K : Nat → Prop) (qb hb tb : Nat) (qa : Option Addr) (g : Nat) (s9 : Value) (wr : World) : Prop := ∃ i : Nat, g = 3 - i ∧ i ≤ 3 ∧ s9 = .int .i64 i ∧ TMove w0 K qb hb tb qa (1 + i) oM lM ⟨qTwo, 1, 0, 0⟩ wr
def MovesRel2 (w0 : World) (K : Nat → Prop) (qb hb tb : Nat) (qa : Option Addr) (n g : Nat) (s12 : Value) (wr : World) : Prop := ∃ i : Nat, g = 4 - i ∧ i ≤ 4 ∧ s12 = .int .i64 i ∧ TMove w0 K qb hb tb qa (5 + i) (oN n) lM (tmS n i) wr
theorem mv_change : olDo ⟨0, true, 0⟩ (lay0 qTwo) ⟨10, 0, 0, 0, 0, 0, ⟨#[]⟩, qM⟩ = (⟨0, 0, ⟨#[]⟩, qM, 0, 0, 0⟩, ⟨0, true, 0⟩, lM) := by
  have hm : mayB (lay0 qTwo) qM = true := by decide +kernel
  unfold olDo layDo
  simp [hm]
theorem mv_none : olDo oM lM q7 = (⟨47, 0, ⟨#[]⟩, p0, 0, 0, 0⟩, oM, lM) := by
  unfold olDo ordDo ordTold
  simp
theorem mv_start (n : Nat) (hn : n ≤ 16384) : olDo oM lM ⟨8, 0, 1, n, 0, 0, ⟨#[]⟩, p0⟩ = (⟨0, 0, ⟨#[]⟩, p0, 0, 0, 1⟩, oN n, lM) := by
  have : ¬ ((n : Int) < 0 ∨ (16384 : Int) < n) := by omega
  unfold olDo ordDo ordStart
  simp [this]
theorem mv_sealed (n : Nat) : olDo (oN n) lM q7 = (⟨40, 0, ⟨#[]⟩, p0, 0, 0, 1⟩, oN n, lM) := by
  unfold olDo ordDo ordTold
  simp
theorem mv_layout (n : Nat) : olDo (oN n) lM ⟨9, 0, 0, 0, 0, 0, ⟨#[]⟩, p0⟩ = (⟨0, -1, ⟨#[]⟩, qM, -1, 0, 0⟩, oN n, lM) := by
  unfold olDo layDo
  simp [lM, LayS.count, lay0]
theorem mv_tail (n : Nat) : olDo (oN n) lM ⟨7, 0, 1, 0, 0, 0, ⟨#[]⟩, p0⟩ = (⟨0, n, ⟨#[]⟩, p0, 0, 0, 1⟩, oN n, lM) := by
  unfold olDo ordDo ordTold
  simp
theorem mh_none (x : AnS) (h : x.code = 47) : (TaS.mk qTwo 1 0 0).hear x true = ⟨qTwo, 1, 0, 0⟩ := by
  unfold TaS.hear
  rw [if_pos (Or.inr (Or.inr (Or.inr h)))]
theorem mh_sealed (x : AnS) (h : x.code = 40) : (TaS.mk qTwo 1 0 0).hear x true = ⟨qTwo, 0, 0, 0⟩ := by
  unfold TaS.hear
  rw [if_neg (by simp [h]), if_pos h]
theorem mh_layout (x : AnS) (h : x.code = 0) (hp : x.p = qM) : (TaS.mk qTwo 0 0 0).hear x true = ⟨qM, 1, 0, 0⟩ := by
  unfold TaS.hear
  rw [if_neg (by simp [h]), if_neg (by simp [h]), if_neg (by simp), if_pos ⟨h, by rw [hp]; decide +kernel⟩, hp]
theorem mh_tail (n : Nat) (hn : n ≤ 16384) (x : AnS) (h : x.code = 0) (hx : x.n = n) : (TaS.mk qM 1 0 0).hear x true = ⟨qM, 2, n, 0⟩ := by
  unfold TaS.hear
  rw [if_neg (by simp [h]), if_neg (by simp [h]), if_pos rfl, if_neg (by simp [h]), if_neg (by omega), hx]
theorem qm_boxes (w : World) : ∃ W, W = ((w.alloc (.cells #[.int .i64 1, .int .i64 5] 3)).alloc (.cells #[.slice (some ⟨w.heap.size, 0, none⟩) 2 2] 54)).alloc (.cells #[.int .i64 1, .slice (some ⟨w.heap.size + 1, 0, none⟩) 1 1] 24) ∧ Below w.heap.size w W ∧ W.heap.size = w.heap.size + 3 ∧ KeptM (fun k => w.heap.size ≤ k ∧ k < w.heap.size + 3) (w.heap.size + 1 + 1) (some ⟨w.heap.size + 1, 0, none⟩) W := by
  refine ⟨_, rfl, by (repeat (first | with_reducible exact (Below.refl _ _) | with_reducible refine Below.drew ?_ | with_reducible refine Esch.below_drewN ?_ _ | with_reducible refine Below.setCell ?_ (by first | omega | (simp; done) | (simp; omega)) _ | with_reducible refine Below.alloc ?_ (by first | omega | (simp; done) | (simp; omega)) _)), by simp, by go_simp, by go_simp, ?_, by omega⟩
  exact (((lit14 w 1 5).sub (T := fun k => w.heap.size ≤ k ∧ k < w.heap.size + 3) (fun k hk h => ⟨h, by simp only [World.size_alloc] at hk; omega⟩)).mod (F := none') ((Mod.refl none' _).alloc _) (fun _ _ _ => id))
set_option maxRecDepth 100000 in
set_option maxHeartbeats 4000000 in
theorem tailMoves_walk (kv : Int) (hk0 : 0 ≤ kv) (hk1 : kv ≤ 65535) (w : World) : Calls Tryz.prog 5 #[.int .u16 kv] w fun r w' => r = .returned (.bool true) ∧ Below w.heap.size w w' := by
  obtain ⟨n, hm, hn⟩ : ∃ n : Nat, kv % 16385 = n ∧ n ≤ 16384 := ⟨(kv % 16385).toNat, by omega, by omega⟩
  have Hm := Lib.hid hm
  clear hm
  go_enter Tryz.func5, Tryz.ntmps5
  go_wp2_with fail
  refine (two_any _).mono ?_
  rintro e w1 ⟨b1, rfl, hl1, hB1⟩
  go_wp2_with fail
  have hmk : Calls Tryz.prog 16 #[.agg #[.int .i64 0, .slice (some ⟨b1, 0, none⟩) 1 1], .int .i64 9] _ _ := made_any _ w1 qTwo _ 1 9 (by decide) hl1 (by decide) (by decide)
  refine hmk.mono ?_
  clear hmk hl1
  rintro e w2 ⟨hb, rb, nb, rfl, hH2, -, hB2⟩
  have hH := HL.start hH2 hB1 hB2
  obtain ⟨U2, hU2⟩ : ∃ U2, U2 = grow none' w1 w2 := ⟨_, rfl⟩
  rw [← hU2] at hH
  clear hH2 hB2 hB1 hU2
  go_wp2_with fail
  rw [Hm.out]
  obtain ⟨W3, hW3, hB3, hz3, hK3⟩ := qm_boxes w2
  rw [← hW3]
  have hlt2 := hH.lt
  have hH3 := hH.below' hB3
  have hc3 := hl_heard hH3 (by omega) ⟨10, 0, 0, 0, 0, 0, ⟨#[]⟩, qM⟩ (by decide) (some ⟨w2.heap.size + 1, 0, none⟩) 1 (by decide) _ hK3.lists (fun k hk _ e => by have := hlt2 k e; omega)
  rw [show lay0 qTwo = lay0 qTwo from rfl, show (⟨qTwo.epoch, true, 0⟩ : Ord) = ⟨0, true, 0⟩ from rfl, mv_change] at hc3
  simp only [qV] at hc3
  have HK3 := Lib.hid hK3
  have HH3 := Lib.hid hlt2
  clear hK3 hH hB3 hW3
  refine hc3.mono ?_
  clear hc3
  rintro e w4 ⟨a4, c4, rfl, -, hH4, hM4⟩
  have hz4 := hM4.size
  have hK4 := HK3.out.mod hM4 (fun k hk e => by have := HH3.out k e; omega)
  have hKU4 : ∀ k, (w2.heap.size ≤ k ∧ k < w2.heap.size + 3) → ¬ grow U2 W3 w4 k ∧ k < w4.heap.size := fun k hk => ⟨fun e => by rcases e with e | e; (have := HH3.out k e; omega); omega, by omega⟩
  obtain ⟨U4, hU4⟩ : ∃ U4, U4 = grow U2 W3 w4 := ⟨_, rfl⟩
  rw [← hU4] at hH4 hKU4
  clear hM4 hU4 hH3
  have hold4 := hH4.old
  have hbel4 := hH4.below
  obtain ⟨T, s, hHd, hT, ho, hl⟩ := hH4.at'
  obtain ⟨⟨nb', Un, V, C, ao, cap, es, hI, i1, i2, i3⟩, hlt⟩ := hHd
  obtain ⟨ob, hob, hUob, hcall, hback⟩ := hI.nd.order
  have hno := handNodes_at hI.c0
  have hcr := crash_any w4 ob s.nd.o hob
  have HI := Lib.hid hI
  have HBK := Lib.hid hback
  have HK4 := Lib.hid hK4
  have HKU4 := Lib.hid hKU4
  have HO := Lib.hid ho
  have HLy := Lib.hid hl
  have HOLD := Lib.hid hold4
  have HBEL := Lib.hid hbel4
  clear hI hback hK4 hKU4 ho hl hob hold4 hbel4 hH4
  go_wp2_with fail
  refine hno.mono ?_
  clear hno
  rintro e w5 ⟨rfl, hw5⟩
  subst hw5
  go_wp2_with fail
  refine hcall.mono ?_
  clear hcall
  rintro e w5 ⟨rfl, hw5⟩
  subst hw5
  go_wp2_with fail
  refine hcr.mono ?_
  clear hcr
  rintro e w6 ⟨rfl, hO6, hM6⟩
  have hz6 := hM6.size
  have hH6 : HL w 1 hb U4 oM lM w6 := by
    have hN6 := HBK.out w6 _ hO6 ⟨Int.le_refl _, by show (0 : Int) ≤ 16384; omega⟩ hM6
    refine ⟨⟨T, _, HI.out.setNd' i1 i2 i3 hlt hN6 (hM6.mono (fun k _ e => by subst e; exact hUob)), by omega, ?_, HLy.out⟩, HOLD.out, HBEL.out.trans (hM6.below_at HBEL.out.size (fun k hk e => by subst e; have := HOLD.out k (i1 k hUob); omega))⟩
    show (⟨s.nd.o.epoch, false, 0⟩ : Ord) = oM
    rw [HO.out]
  have hK6 := HK4.out.mod hM6 (fun k hk e => by subst e; exact (HKU4.out k hk).1 (i1 k hUob))
  have HH6 := Lib.hid hH6
  have HK6 := Lib.hid hK6
  clear hO6 hM6 hH6 hK6
  go_wp2_with fail
  refine (two_any _).mono ?_
  rintro e w7 ⟨b7, rfl, hl7, hB7⟩
  have hz7 := hB7.size
  have htn : Calls Tryz.prog 13 #[.agg #[.int .i64 0, .slice (some ⟨b7, 0, none⟩) 1 1]] w7 _ := tailNew_any _ w7 qTwo _ 1 small_two hl7
  have HB7 := Lib.hid hB7
  clear hB7 hl7
  go_wp2_with fail
  refine htn.mono ?_
  clear htn
  rintro e w8 ⟨tb, rfl, hT8, hB8⟩
  rw [ta0_two] at hT8
  have hz8 := hB8.size
  have hB68 : Below w6.heap.size w6 w8 := HB7.out.trans (hB8.mono hz7)
  have hR0 : TMove w (fun k => w2.heap.size ≤ k ∧ k < w2.heap.size + 3) (w2.heap.size + 1 + 1) hb tb (some ⟨w2.heap.size + 1, 0, none⟩) 1 oM lM ⟨qTwo, 1, 0, 0⟩ w8 := by
    refine ⟨⟨U4, fun k => w7.heap.size ≤ k ∧ k < w8.heap.size, HH6.out.below' hB68, hT8.sub (fun k hk h => ⟨h, hk⟩), fun k hk => ⟨fun e => by have := HH6.out.lt k e; omega, hk.2, fun e => by have := (HKU4.out k e).2; omega, by have := HBEL.out.size; omega⟩, fun k hk => ⟨(HKU4.out k hk).1, by have := (HKU4.out k hk).2; omega⟩⟩, HK6.out.mod (F := none') (Mod.of_below hB68) (fun _ _ => id)⟩
  have HR0 := Lib.hid hR0
  clear hR0 hT8 hB8 hB68 HH6 HK6 HI HBK HO HLy HK4
  generalize w2.heap.size + 1 + 1 = qb at HR0 ⊢
  generalize (some (⟨w2.heap.size + 1, 0, none⟩ : Addr)) = qa at HR0
  go_wp2_with fail
  go_loopg [9] 3 (fun g s9 wr => MovesRel1 w (fun k => w2.heap.size ≤ k ∧ k < w2.heap.size + 3) qb hb tb qa g s9 wr)
  case atStart => exact ⟨0, rfl, by omega, rfl, HR0.out⟩
  case round =>
    obtain ⟨i, rfl, hi, rfl, ⟨⟨U, S, hH, hT, hS, hKU⟩, hK⟩⟩ := hrel
    have HH := Lib.hid hH
    have HT := Lib.hid hT
    have HS := Lib.hid hS
    have HKU := Lib.hid hKU
    have HK := Lib.hid hK
    have hak := tailAsk_any hT
    have hcl : 1 + i < 1000 := by omega
    by_cases hi3 : i < 3
    · have hi3' : (i : Int) < 3 := by omega
      have hak' : Calls Tryz.prog 10 #[.pointer (some ⟨tb, 0, none⟩)] _ fun e w' => e = .returned (.tuple #[qV q7 none 0, .bool true]) ∧ Below wr.heap.size wr w' := hak
      simp only [qV, Esch.p0, List.length_nil] at hak'
      clear hak hH hT hS hKU hK
      go_wp2_with fail
      refine hak'.mono ?_
      clear hak'
      rintro e w9 ⟨rfl, hB9⟩
      obtain ⟨W9, hW9, hBW9, hzW9, a0, a1, a2, a3, a4, a5, a6, a7, a8⟩ := ask_box9 w9 (.int .i64 7) (.int .i64 0) (.int .i64 0) (.int .i64 0) (.int .i64 0) (.int .i64 0) (.string ⟨#[]⟩) (.int .i64 0) (.slice none 0 0)
      have hBr9 : Below wr.heap.size wr W9 := hB9.trans (hBW9.mono hB9.size)
      have hask := hl_heard (HH.out.below' hBr9) hcl q7 (by decide) none 0 (by decide) none' (ListsAt.nil _ _ _) (fun _ h => h.elim)
      rw [mv_none] at hask
      have HBr9 := Lib.hid hBr9
      have HW9 := Lib.hid hW9
      have HT9 := Lib.hid (HT.out.below hBr9)
      simp only [qV, Esch.p0, List.length_nil] at hask
      clear hB9 hBW9 hBr9 hW9 a0 a1 a2 a3 a4 a5 a6 a7 a8
      go_wp2_with fail
      rw [← HW9.out]
      refine hask.mono ?_
      clear hask
      rintro e w10 ⟨ca, cc, rfl, hl10, hH10, hM10⟩
      have hhe := tailHear_any ⟨47, 0, ⟨#[]⟩, Esch.p0, 0, 0, 0⟩ ca cc true (HT9.out.mod hM10 (fun k hk _ => (HS.out k hk).1)) _ hl10
      rw [mh_none _ rfl] at hhe
      have HH10 := Lib.hid hH10
      have HM10 := Lib.hid hM10
      clear hl10 hH10 hM10
      simp only [aV] at hhe ⊢
      go_wp2_with fail
      refine hhe.mono ?_
      clear hhe
      rintro e w11 h11
      obtain rfl := h11.1
      have HS11 := Lib.hid (TMove.step HK.out HT.out HS.out HKU.out HBr9.out HH10.out HM10.out h11)
      clear h11
      go_wp2_with fail
      go_roundg (3 - (i + 1))
      case measure => omega
      case rel => exact ⟨i + 1, rfl, by omega, by go_num, HS11.out⟩
    · obtain rfl : i = 3 := by omega
      have hask := hl_heard hH (by omega) ⟨8, 0, 1, n, 0, 0, ⟨#[]⟩, Esch.p0⟩ ⟨by show (6 : Int) ≤ 8; omega, by show (8 : Int) ≤ 11; omega⟩ none 0 (by show (0 : Nat) ≤ 9223372036854775807; omega) none' (ListsAt.nil _ _ _) (fun _ h => h.elim)
      rw [mv_start n hn] at hask
      simp only [qV, Esch.p0, List.length_nil] at hask
      clear hak hH hT hS hKU hK hi3
      go_wp2_with fail
      refine hask.mono ?_
      clear hask
      rintro e w9 ⟨ca, cc, rfl, -, hH9, hM9⟩
      have hz9 := hM9.size
      have hR9 : TMove w (fun k => w2.heap.size ≤ k ∧ k < w2.heap.size + 3) qb hb tb qa 5 (oN n) lM (tmS n 0) w9 := by
        refine ⟨⟨_, S, hH9, HT.out.mod hM9 (fun k hk _ => (HS.out k hk).1), fun k hk => ?_, fun k hk => ?_⟩, HK.out.mod hM9 (fun k hk => (HKU.out k hk).1)⟩
        · obtain ⟨s1, s2, s3, s4⟩ := HS.out k hk
          exact ⟨fun e => e.elim s1 (fun e => by omega), by omega, s3, s4⟩
        · obtain ⟨s1, s2⟩ := HKU.out k hk
          exact ⟨fun e => e.elim s1 (fun e => by omega), by omega⟩
      have HR9 := Lib.hid hR9
      clear hH9 hM9 hR9
      go_wp2_with fail
      go_loopg [12] 4 (fun g s12 wr => MovesRel2 w (fun k => w2.heap.size ≤ k ∧ k < w2.heap.size + 3) qb hb tb qa n g s12 wr)
      case atStart => exact ⟨0, rfl, by omega, rfl, HR9.out⟩
      case round =>
        obtain ⟨i, rfl, hi, rfl, ⟨⟨U, S, hH, hT, hS, hKU⟩, hK⟩⟩ := hrel
        have HH := Lib.hid hH
        have HT := Lib.hid hT
        have HS := Lib.hid hS
        have HKU := Lib.hid hKU
        have HK := Lib.hid hK
        have hak := tailAsk_any hT
        have hcl : 5 + i < 1000 := by omega
        have hcases : i = 0 ∨ i = 1 ∨ i = 2 ∨ i = 3 ∨ i = 4 := by omega
        rcases hcases with rfl | rfl | rfl | rfl | rfl
        · skip
          have hak' : Calls Tryz.prog 10 #[.pointer (some ⟨tb, 0, none⟩)] _ fun e w' => e = .returned (.tuple #[qV q7 none 0, .bool true]) ∧ Below wr.heap.size wr w' := hak
          simp only [qV, Esch.p0, List.length_nil] at hak'
          clear hak hH hT hS hKU hK
          go_wp2_with fail
          refine hak'.mono ?_
          clear hak'
          rintro e w9 ⟨rfl, hB9⟩
          obtain ⟨W9, hW9, hBW9, hzW9, a0, a1, a2, a3, a4, a5, a6, a7, a8⟩ := ask_box9 w9 (.int .i64 7) (.int .i64 0) (.int .i64 0) (.int .i64 0) (.int .i64 0) (.int .i64 0) (.string ⟨#[]⟩) (.int .i64 0) (.slice none 0 0)
          have hBr9 : Below wr.heap.size wr W9 := hB9.trans (hBW9.mono hB9.size)
          have hask := hl_heard (HH.out.below' hBr9) hcl q7 (by decide) none 0 (by decide) none' (ListsAt.nil _ _ _) (fun _ h => h.elim)
          rw [mv_sealed n] at hask
          have HBr9 := Lib.hid hBr9
          have HW9 := Lib.hid hW9
          have HT9 := Lib.hid (HT.out.below hBr9)
          simp only [qV, Esch.p0, List.length_nil] at hask
          clear hB9 hBW9 hBr9 hW9 a0 a1 a2 a3 a4 a5 a6 a7 a8
          go_wp2_with fail
          rw [← HW9.out]
          refine hask.mono ?_
          clear hask
          rintro e w10 ⟨ca, cc, rfl, hl10, hH10, hM10⟩
          have hhe := tailHear_any ⟨40, 0, ⟨#[]⟩, Esch.p0, 0, 0, 1⟩ ca cc true (HT9.out.mod hM10 (fun k hk _ => (HS.out k hk).1)) _ hl10
          rw [show (tmS n 0).hear _ true = tmS n 1 from mh_sealed _ rfl] at hhe
          have HH10 := Lib.hid hH10
          have HM10 := Lib.hid hM10
          clear hl10 hH10 hM10
          simp only [aV] at hhe ⊢
          go_wp2_with fail
          refine hhe.mono ?_
          clear hhe
          rintro e w11 h11
          obtain rfl := h11.1
          have HS11 := Lib.hid (TMove.step HK.out HT.out HS.out HKU.out HBr9.out HH10.out HM10.out h11)
          clear h11
          go_wp2_with fail
          go_roundg (4 - (0 + 1))
          case measure => omega
          case rel => exact ⟨0 + 1, rfl, by omega, by go_num, HS11.out⟩
        · skip
          have hak' : Calls Tryz.prog 10 #[.pointer (some ⟨tb, 0, none⟩)] _ fun e w' => e = .returned (.tuple #[qV ⟨9, 0, 0, 0, 0, 0, ⟨#[]⟩, Esch.p0⟩ none 0, .bool true]) ∧ Below wr.heap.size wr w' := hak
          simp only [qV, Esch.p0, List.length_nil] at hak'
          clear hak hH hT hS hKU hK
          go_wp2_with fail
          refine hak'.mono ?_
          clear hak'
          rintro e w9 ⟨rfl, hB9⟩
          obtain ⟨W9, hW9, hBW9, hzW9, a0, a1, a2, a3, a4, a5, a6, a7, a8⟩ := ask_box9 w9 (.int .i64 9) (.int .i64 0) (.int .i64 0) (.int .i64 0) (.int .i64 0) (.int .i64 0) (.string ⟨#[]⟩) (.int .i64 0) (.slice none 0 0)
          have hBr9 : Below wr.heap.size wr W9 := hB9.trans (hBW9.mono hB9.size)
          have hask := hl_heard (HH.out.below' hBr9) hcl ⟨9, 0, 0, 0, 0, 0, ⟨#[]⟩, Esch.p0⟩ (by decide) none 0 (by decide) none' (ListsAt.nil _ _ _) (fun _ h => h.elim)
          rw [mv_layout n] at hask
          have HBr9 := Lib.hid hBr9
          have HW9 := Lib.hid hW9
          have HT9 := Lib.hid (HT.out.below hBr9)
          simp only [qV, Esch.p0, List.length_nil] at hask
          clear hB9 hBW9 hBr9 hW9 a0 a1 a2 a3 a4 a5 a6 a7 a8
          go_wp2_with fail
          rw [← HW9.out]
          refine hask.mono ?_
          clear hask
          rintro e w10 ⟨ca, cc, rfl, hl10, hH10, hM10⟩
          have hhe := tailHear_any ⟨0, -1, ⟨#[]⟩, qM, -1, 0, 0⟩ ca cc true (HT9.out.mod hM10 (fun k hk _ => (HS.out k hk).1)) _ hl10
          rw [show (tmS n 1).hear _ true = tmS n 2 from mh_layout _ rfl rfl] at hhe
          have HH10 := Lib.hid hH10
          have HM10 := Lib.hid hM10
          clear hl10 hH10 hM10
          simp only [aV] at hhe ⊢
          go_wp2_with fail
          refine hhe.mono ?_
          clear hhe
          rintro e w11 h11
          obtain rfl := h11.1
          have HS11 := Lib.hid (TMove.step HK.out HT.out HS.out HKU.out HBr9.out HH10.out HM10.out h11)
          clear h11
          go_wp2_with fail
          go_roundg (4 - (1 + 1))
          case measure => omega
          case rel => exact ⟨1 + 1, rfl, by omega, by go_num, HS11.out⟩
        · skip
          have hak' : Calls Tryz.prog 10 #[.pointer (some ⟨tb, 0, none⟩)] _ fun e w' => e = .returned (.tuple #[qV ⟨7, 0, 1, 0, 0, 0, ⟨#[]⟩, Esch.p0⟩ none 0, .bool true]) ∧ Below wr.heap.size wr w' := hak
          simp only [qV, Esch.p0, List.length_nil] at hak'
          clear hak hH hT hS hKU hK
          go_wp2_with fail
          refine hak'.mono ?_
          clear hak'
          rintro e w9 ⟨rfl, hB9⟩
          obtain ⟨W9, hW9, hBW9, hzW9, a0, a1, a2, a3, a4, a5, a6, a7, a8⟩ := ask_box9 w9 (.int .i64 7) (.int .i64 0) (.int .i64 1) (.int .i64 0) (.int .i64 0) (.int .i64 0) (.string ⟨#[]⟩) (.int .i64 0) (.slice none 0 0)
          have hBr9 : Below wr.heap.size wr W9 := hB9.trans (hBW9.mono hB9.size)
          have hask := hl_heard (HH.out.below' hBr9) hcl ⟨7, 0, 1, 0, 0, 0, ⟨#[]⟩, Esch.p0⟩ (by decide) none 0 (by decide) none' (ListsAt.nil _ _ _) (fun _ h => h.elim)
          rw [mv_tail n] at hask
          have HBr9 := Lib.hid hBr9
          have HW9 := Lib.hid hW9
          have HT9 := Lib.hid (HT.out.below hBr9)
          simp only [qV, Esch.p0, List.length_nil] at hask
          clear hB9 hBW9 hBr9 hW9 a0 a1 a2 a3 a4 a5 a6 a7 a8
          go_wp2_with fail
          rw [← HW9.out]
          refine hask.mono ?_
          clear hask
          rintro e w10 ⟨ca, cc, rfl, hl10, hH10, hM10⟩
          have hhe := tailHear_any ⟨0, n, ⟨#[]⟩, Esch.p0, 0, 0, 1⟩ ca cc true (HT9.out.mod hM10 (fun k hk _ => (HS.out k hk).1)) _ hl10
          rw [show (tmS n 2).hear _ true = tmS n 3 from mh_tail n hn _ rfl rfl] at hhe
          have HH10 := Lib.hid hH10
          have HM10 := Lib.hid hM10
          clear hl10 hH10 hM10
          simp only [aV] at hhe ⊢
          go_wp2_with fail
          refine hhe.mono ?_
          clear hhe
          rintro e w11 h11
          obtain rfl := h11.1
          have HS11 := Lib.hid (TMove.step HK.out HT.out HS.out HKU.out HBr9.out HH10.out HM10.out h11)
          clear h11
          go_wp2_with fail
          go_roundg (4 - (2 + 1))
          case measure => omega
          case rel => exact ⟨2 + 1, rfl, by omega, by go_num, HS11.out⟩
        · have hak' : Calls Tryz.prog 10 #[.pointer (some ⟨tb, 0, none⟩)] _ fun e w' => e = .returned (.tuple #[qV qz none 0, .bool false]) ∧ Below wr.heap.size wr w' := hak
          simp only [qV, Esch.p0, List.length_nil] at hak'
          clear hak hH hT hS hKU hK
          go_wp2_with fail
          refine hak'.mono ?_
          clear hak'
          rintro e w9 ⟨rfl, hB9⟩
          have hz9 := hB9.size
          have HB9 := Lib.hid hB9
          clear hB9
          go_wp2_with fail
          go_roundg 0
          case measure => omega
          case rel =>
            have hBe := HB9.out.alloc hz9 (.cells #[.int .i64 0, .int .i64 0, .int .i64 0, .int .i64 0, .int .i64 0, .int .i64 0, .string ⟨#[]⟩, .int .i64 0, .slice none 0 0] 33)
            refine ⟨4, rfl, by omega, by go_num, ⟨⟨U, S, ?_, HT.out.below hBe, fun k hk => ?_, fun k hk => ?_⟩, HK.out.mod (F := none') (Mod.of_below hBe) (fun _ _ => id)⟩⟩
            · obtain ⟨⟨T, s, g1, g2, g3⟩, g4, g5⟩ := HH.out.below' hBe
              exact ⟨⟨T, s, g1, by omega, g3⟩, g4, g5⟩
            · obtain ⟨s1, s2, s3, s4⟩ := HS.out k hk
              exact ⟨s1, by simp only [World.size_alloc]; omega, s3, s4⟩
            · obtain ⟨s1, s2⟩ := HKU.out k hk
              exact ⟨s1, by simp only [World.size_alloc]; omega⟩
        · have hov : Calls Tryz.prog 11 #[.pointer (some ⟨tb, 0, none⟩)] _ fun e w' => e = .returned (.tuple #[.int .i64 n, .int .i64 0, .bool true]) ∧ Mod none' wr w' := tailOver_any hT
          clear hak hH hT hS hKU hK
          go_wp2_with fail
          refine hov.mono ?_
          clear hov
          rintro e w9 ⟨rfl, hM9⟩
          have hT9 := HT.out.mod hM9 (fun _ _ _ => id)
          have hK9 := HK.out.mod hM9 (fun _ _ => id)
          have hpp : Calls Tryz.prog 12 #[.pointer (some ⟨tb, 0, none⟩)] w9.drew (CopyPost w9.drew 1 qM.chains) := tailP_any (w := w9.drew) (hT9.mod (F := none') ((Mod.refl none' _).drew) (fun _ _ _ => id))
          have hbe9 : Below w.heap.size w w9 := HH.out.below.trans (hM9.below.mono HH.out.below.size)
          have k0 : w9.drew.cell? ⟨qb, 0, none⟩ = some (.int .i64 1) := hK9.c0
          have k1 : w9.drew.cell? ⟨qb, 1, none⟩ = some (.slice qa 1 1) := hK9.c1
          have hqb : qb < w9.heap.size := cell_lt hK9.c0
          have HK9 := Lib.hid hK9
          have HB9 := Lib.hid hbe9
          have hzb := hbe9.size
          clear hM9 hT9 hK9 hbe9
          go_wp2_with fail
          go_region_held3 (fun w' => w'.cell? ⟨qb, 0, none⟩ = some (.int .i64 1) ∧ w'.cell? ⟨qb, 1, none⟩ = some (.slice qa 1 1))
            (first
              | with_reducible exact ⟨k0, k1⟩
              | with_reducible exact ⟨z0, z1⟩
              | with_reducible exact ⟨y0, y1⟩
              | with_reducible exact ⟨x0, x1⟩)
            (first
              | (go_at_call 12; (with_reducible refine hpp.mono ?_); rintro e w10 ⟨ia, ic, rfl, hl10, hB10'⟩
                 have hB10 : Below w9.heap.size w9 w10 := below_drew hB10'
                 clear hB10'
                 have z0 := below_at hB10 HK9.out.c0 hqb
                 have z1 := below_at hB10 HK9.out.c1 hqb
                 have hz10 := hB10.size
                 have hpj := projection_any (fun _ => True) w10 1 1 ia qa ic 1 qM.chains qM.chains (hl10.sub (fun _ _ _ => trivial)) ((HK9.out.lists.mod (F := none') (Mod.of_below hB10) (fun _ _ _ => id)).sub (fun _ _ _ => trivial))
                 rw [decide_eq_true ⟨rfl, rfl⟩] at hpj
                 simp only [List.length_cons, List.length_nil, Nat.zero_add] at hpj)
              | (go_at_call 24; (with_reducible refine hpj.mono ?_); rintro e w11 ⟨rfl, hB11⟩
                 have y0 := below_at hB11 z0 (by omega)
                 have y1 := below_at hB11 z1 (by omega)
                 have hz11 := hB11.size
                 have hwk := wakes17_any w11)
              | (go_at_call 8; (with_reducible refine hwk.mono ?_); rintro e w12 ⟨rfl, hB12⟩
                 have x0 := below_at hB12 y0 (by omega)
                 have x1 := below_at hB12 y1 (by omega)))
          go_wp2_with fail
          go_ret
          exact ⟨rfl, HB9.out.trans ((hB10.trans ((hB11.trans (hB12.mono hz11)).mono hz10)).mono hzb)⟩

set_option maxRecDepth 100000 in
set_option maxHeartbeats 2000000 in
theorem tailMoves_lifted (os : Os) (started : os.Started) (H : Type) (enc : TypeId × Value → H) :
    ReturnsInHanded {} Tryz.checked os 5 .any (Rows.tailMovesSpec.pre6 enc Tryz.prog Tryz.f5 Rows.tailMovesRow.domain false) (Rows.tailMovesSpec.post enc Tryz.prog Tryz.f5 false true false false) := by
  refine returnsInHanded_of_change (C := Tryz.checked) Tryz.ownP started (by kernel_rfl) Tryz.func5
    (ChangeSpec.witness6 (enc := enc) (C := Tryz.checked) false ⟨#[], #[.int .u16 0], []⟩ 8 (by kernel_rfl) (by kernel_rfl) (by kernel_rfl) (by kernel_rfl)) ?_
  intro W base args ds gs before hval0 hW hcnd _
  have hval : ∀ (j : Nat) t v, Tryz.f5.params[j]? = some t → args[j]? = some v → Value.okWide Tryz.prog W .any base t v := hval0
  have hW' := hW
  obtain ⟨p, q, hA0, hV, rfl, hfz, hnd⟩ := hW
  have hA : DataW.TrodAll enc Tryz.prog W 0 (fun _ => true) true Tryz.f5.params.toList args.toList ds p := hA0
  rw [Tryz.params5] at hA hval
  obtain ⟨v0, vs0, d0, ds0, p0, q0, hargs, rfl, rfl, h0, r0⟩ := trodAll_cons hA
  obtain ⟨rfl, rfl, rfl⟩ := trodAll_nil r0
  obtain rfl : args = #[v0] := by cases args; simp_all
  obtain ⟨rfl, rfl⟩ := trodVars_none hV
  obtain ⟨cs0, x0, hv0, hr0⟩ := open_arg (n := 9) (T := .int .u16) (by kernel_rfl) (hval 0 53 v0 rfl rfl) h0
  obtain ⟨kv, rfl, rfl, hk0, hk1⟩ := rd_int.1 hr0
  simp only [Ty.isStruct, Bool.false_eq_true, if_false] at hv0
  subst hv0
  clear hA0 hval0
  refine (tailMoves_walk kv hk0 hk1 W).mono fun e W' ⟨he, hb⟩ => ?_
  subst he
  exact ⟨_, rfl, law_post Tryz.laidOutP (by kernel_rfl) rfl Tryz.underlying4 hW' rfl rfl rfl rfl hb⟩

theorem tailMoves_holds : Rows.TailMovesSaid :=
  OpenClaim.holds_of_wide 5 Tryz.f5 rfl rfl rfl rfl rfl rfl rfl ⟨rfl, rfl, rfl, rfl, rfl⟩ rfl rfl rfl rfl rfl (by kernel_rfl) Tryz.func5 (by kernel_rfl)
    (of_decide_eq_true (by kernel_rfl)) (by unfold Func.isWrapper; first | (rw [if_pos (by decide +kernel)]; kernel_rfl) | (rw [if_neg (by decide +kernel)]; exact ⟨rfl, rfl⟩))
    (fun os started H enc _ => tailMoves_lifted os started H enc)
end Go.Proofs.YthdgochecdobnaaGreat
