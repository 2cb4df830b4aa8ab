/- what the laws of a change wake them by -/
import Derived.Test.YtghdhhbpbmhooaaGreatPkRe2
namespace Go.Proofs.YtghdhhbpbmhooaaGreat
open Go.RowKit Esch

abbrev qOld : Proj := ⟨0, [[0, 1, 2], [3, 4]]⟩
abbrev qNew18 : Proj := ⟨1, [[1, 2], [3, 9]]⟩
theorem ints_row3 (w : World) (x y z : Int) : IntsAt (From w.heap.size) (w.alloc (.cells #[.int .i64 x, .int .i64 y, .int .i64 z] 3)) (some ⟨w.heap.size, 0, none⟩) [x, y, z] := by
  refine ⟨by simp, fun _ => ⟨w.heap.size, 0, rfl, Nat.le_refl _, by simp only [World.size_alloc]; omega, fun j hj => ?_⟩⟩
  simp only [List.length_cons, List.length_nil] at hj
  have : j = 0 ∨ j = 1 ∨ j = 2 := by omega
  rcases this with rfl | rfl | rfl
  all_goals go_simp
theorem ints_row2 (w : World) (x y : Int) : IntsAt (From w.heap.size) (w.alloc (.cells #[.int .i64 x, .int .i64 y] 3)) (some ⟨w.heap.size, 0, none⟩) [x, y] := by
  refine ⟨by simp, fun _ => ⟨w.heap.size, 0, rfl, Nat.le_refl _, by simp only [World.size_alloc]; omega, fun j hj => ?_⟩⟩
  simp only [List.length_cons, List.length_nil] at hj
  have : j = 0 ∨ j = 1 := by omega
  rcases this with rfl | rfl
  all_goals go_simp
theorem lists_two {w W : World} {n b0 b1 : Nat} {l0 l1 : List Int} (h0 : IntsAt (From n) w (some ⟨b0, 0, none⟩) l0) (h1 : IntsAt (From n) w (some ⟨b1, 0, none⟩) l1) (hl0 : l0.length ≤ 100) (hl1 : l1.length ≤ 100) (hn : n ≤ w.heap.size)
    (hW : W = w.alloc (.cells #[.slice (some ⟨b0, 0, none⟩) l0.length l0.length, .slice (some ⟨b1, 0, none⟩) l1.length l1.length] 85)) : ListsAt (From n) W (some ⟨w.heap.size, 0, none⟩) [l0, l1] := by
  have hM : Mod none' w W := by rw [hW]; exact (Mod.refl _ _).alloc _
  refine ⟨by simp, fun _ => ⟨w.heap.size, 0, rfl, hn, by rw [hW]; simp only [World.size_alloc]; omega, fun i hi => ?_⟩⟩
  simp only [List.length_cons, List.length_nil] at hi
  have : i = 0 ∨ i = 1 := by omega
  rcases this with rfl | rfl
  · exact ⟨some ⟨b0, 0, none⟩, l0.length, by rw [hW]; go_simp, by simpa using h0.mod hM (fun _ _ _ => id), ⟨Nat.le_refl _, by omega⟩⟩
  · exact ⟨some ⟨b1, 0, none⟩, l1.length, by rw [hW]; go_simp, by simpa using h1.mod hM (fun _ _ _ => id), ⟨Nat.le_refl _, by omega⟩⟩
theorem lists18 (w : World) (o : Obj) (x y z u v : Int) : ListsAt (From w.heap.size) ((((w.alloc o).alloc (.cells #[.int .i64 x, .int .i64 y, .int .i64 z] 3)).alloc (.cells #[.int .i64 u, .int .i64 v] 3)).alloc (.cells #[.slice (some ⟨w.heap.size + 1, 0, none⟩) 3 3, .slice (some ⟨w.heap.size + 1 + 1, 0, none⟩) 2 2] 85)) (some ⟨w.heap.size + 1 + 1 + 1, 0, none⟩) [[x, y, z], [u, v]] := by
  have h3 := ints_row3 (w.alloc o) x y z
  have h2 := ints_row2 ((w.alloc o).alloc (.cells #[.int .i64 x, .int .i64 y, .int .i64 z] 3)) u v
  have h3' := (h3.mod (F := none') ((Mod.refl _ _).alloc (.cells #[.int .i64 u, .int .i64 v] 3)) (fun _ _ _ => id)).sub (T := From w.heap.size) (fun k _ hk => by have hk : (w.alloc o).heap.size ≤ k := hk; simp only [World.size_alloc] at hk; show w.heap.size ≤ k; omega)
  have h2' := h2.sub (T := From w.heap.size) (fun k _ hk => by have hk : ((w.alloc o).alloc (.cells #[.int .i64 x, .int .i64 y, .int .i64 z] 3)).heap.size ≤ k := hk; simp only [World.size_alloc] at hk; show w.heap.size ≤ k; omega)
  simp only [World.size_alloc] at h3' h2'
  have h := lists_two h3' h2' (by simp) (by simp) (by simp only [World.size_alloc]; omega) rfl
  simp only [World.size_alloc, List.length_cons, List.length_nil] at h
  exact h
theorem lists22 (w : World) (x y u v : Int) : ListsAt (From w.heap.size) (((w.alloc (.cells #[.int .i64 x, .int .i64 y] 3)).alloc (.cells #[.int .i64 u, .int .i64 v] 3)).alloc (.cells #[.slice (some ⟨w.heap.size, 0, none⟩) 2 2, .slice (some ⟨w.heap.size + 1, 0, none⟩) 2 2] 85)) (some ⟨w.heap.size + 1 + 1, 0, none⟩) [[x, y], [u, v]] := by
  have h3 := ints_row2 w x y
  have h2 := ints_row2 (w.alloc (.cells #[.int .i64 x, .int .i64 y] 3)) u v
  have h3' := h3.mod (F := none') ((Mod.refl _ _).alloc (.cells #[.int .i64 u, .int .i64 v] 3)) (fun _ _ _ => id)
  have h2' := h2.sub (T := From w.heap.size) (fun k _ hk => by have hk : (w.alloc (.cells #[.int .i64 x, .int .i64 y] 3)).heap.size ≤ k := hk; simp only [World.size_alloc] at hk; show w.heap.size ≤ k; omega)
  simp only [World.size_alloc] at h3' h2'
  have h := lists_two h3' h2' (by simp) (by simp) (by simp only [World.size_alloc]; omega) rfl
  simp only [World.size_alloc, List.length_cons, List.length_nil] at h
  exact h
theorem box22 (w : World) (e x y u v : Int) : ∃ W, W = ((((w.alloc (.cells #[.int .i64 x, .int .i64 y] 3)).alloc (.cells #[.int .i64 u, .int .i64 v] 3)).alloc (.cells #[.slice (some ⟨w.heap.size, 0, none⟩) 2 2, .slice (some ⟨w.heap.size + 1, 0, none⟩) 2 2] 85)).alloc (.cells #[.int .i64 e, .slice (some ⟨w.heap.size + 1 + 1, 0, none⟩) 2 2] 24)) ∧ Below w.heap.size w W ∧
    W.cell? ⟨w.heap.size + 1 + 1 + 1, 0, none⟩ = some (.int .i64 e) ∧ W.cell? ⟨w.heap.size + 1 + 1 + 1, 1, none⟩ = some (.slice (some ⟨w.heap.size + 1 + 1, 0, none⟩) 2 2) ∧ ListsAt (From w.heap.size) W (some ⟨w.heap.size + 1 + 1, 0, none⟩) [[x, y], [u, v]] :=
  ⟨_, rfl, by exact belC (Below.refl _ _), by go_simp, by go_simp, (lists22 w x y u v).mod (F := none') ((Mod.refl _ _).alloc _) (fun _ _ _ => id)⟩
def Old18Post (w : World) (e : Ending) (w' : World) : Prop := ∃ b, e = .returned (.agg #[.int .i64 0, .slice (some ⟨b, 0, none⟩) 2 2]) ∧ ListsAt (From w.heap.size) w' (some ⟨b, 0, none⟩) qOld.chains ∧ Below w.heap.size w w'
theorem old18_any (w : World) : Calls Tryz.prog 24 #[] w (Old18Post w) := by
  go_enter Tryz.func24, Tryz.ntmps24
  go_wp2_with fail
  refine bodyPost_ret (v := .agg #[.int .i64 0, .slice (some ⟨w.heap.size + 1 + 1 + 1, 0, none⟩) 2 2]) (by simp only [results, Tryz.results24]; go_simp) rfl ?_
  refine ⟨_, rfl, ?_, by exact belC (Below.refl _ _)⟩
  exact lists18 w _ 0 1 2 3 4
/-- two chains in rows of their own -/
def hd18 : HdS := ⟨nd0 qOld 50, []⟩
abbrev t97 : ByteArray := ⟨#[97]⟩
abbrev t98 : ByteArray := ⟨#[98]⟩
abbrev t99 : ByteArray := ⟨#[99]⟩
def pA18 : HdS × ApS := stP hd18 qOld t97 60
def pB18 : HdS × ApS := stP pA18.1 qOld t98 60
def ch18 : HdS × ReS := stC pB18.1 qNew18 [] 60
def rd18 : HdS × FeS := stR ch18.1 qNew18 1 true [] 30
def pC18 : HdS × ApS := stP rd18.1 qOld t99 60
set_option maxRecDepth 100000 in
theorem pA18_n : putN pA18.2 = 0 := by kernel_rfl
set_option maxRecDepth 100000 in
theorem pB18_n : putN pB18.2 = 1 := by kernel_rfl
set_option maxRecDepth 100000 in
theorem ch18_e : ch18.2.overE = 0 ∧ ch18.2.at = 4 := by exact ⟨by kernel_rfl, by kernel_rfl⟩
set_option maxRecDepth 100000 in
theorem rd18_o : FOverV rd18.2 = .tuple #[.int .i64 1, .string t98, .int .i64 0, .bool true] := by kernel_rfl
set_option maxRecDepth 100000 in
theorem rd18_l : rd18.1.nd.l.p.epoch = 1 := by kernel_rfl
set_option maxRecDepth 100000 in
theorem pC18_n : putN pC18.2 = 2 := by kernel_rfl
/-- the projection that counts, as a hand's nodes have it -/
structure LayR (w : World) (hb : Nat) (p : Proj) : Prop where
  at' : ∃ nb lb, (∀ W, Mod none' w W → Calls Tryz.prog 27 #[.pointer (some ⟨hb, 0, none⟩)] W fun e w' => e = .returned (.pointer (some ⟨nb, 0, none⟩)) ∧ w' = W) ∧
    (∀ W, Mod none' w W → Calls Tryz.prog 28 #[.pointer (some ⟨nb, 0, none⟩)] W fun e w' => e = .returned (.pointer (some ⟨lb, 0, none⟩)) ∧ w' = W) ∧
    ∀ W, Mod none' w W → Calls Tryz.prog 29 #[.pointer (some ⟨lb, 0, none⟩)] W (CopyPost W p.epoch p.chains)
theorem Hd1.lay {w0 w : World} {c hb : Nat} {V : Nat → Prop} {hd : HdS} (h : Hd1 w0 c hb V hd w) : LayR w hb hd.nd.l.p ∧ hd.nd.l.ok := by
  obtain ⟨⟨U, T, hH, -⟩, -⟩ := h
  obtain ⟨⟨nb, Un, Vv, C, ao, cap, es, hI, -⟩, -⟩ := hH
  obtain ⟨⟨g, cap, ob, lb, lm, ub, pb, mb, D, hN, hU⟩, hlt⟩ := hI.nd
  refine ⟨⟨nb, lb, fun W hM => handNodes_at (hM.at hI.c0 id), fun W hM => rpcLayout_any (hN.mod hM (fun _ _ _ => id)), fun W hM => ?_⟩, hN.lok⟩
  exact layNow_any _ W lb lm _ _ hN.lok ((hN.mod hM (fun _ _ _ => id)).lay)
@[simp] theorem fieldProj0 (x y : Value) (w : World) : (Instr.field 24 (.agg #[x, y]) 0).run Tryz.prog w = .ok x w := by kernel_rfl
set_option maxRecDepth 100000 in
set_option maxHeartbeats 2000000 in
theorem wakes18_any (w : World) : Calls Tryz.prog 9 #[] w fun e w' => e = .returned (.bool true) ∧ Below w.heap.size w w' := by
  go_enter Tryz.func9, Tryz.ntmps9
  go_wp2_with fail
  refine (old18_any _).mono ?_
  rintro e w1 ⟨b1, rfl, hl1, hB1⟩
  go_wp2_with fail
  have hmk : Calls Tryz.prog 25 #[.agg #[.int .i64 0, .slice (some ⟨b1, 0, none⟩) 2 2], .int .i64 50] _ _ := made_any _ w1 qOld _ 2 50 (by decide) hl1 (by decide) (by decide)
  refine hmk.mono ?_
  clear hmk hl1
  rintro e w2 ⟨hb, rb, nb, rfl, hH2, -, hB2⟩
  have hD : Hd1 w 0 hb _ hd18 w2 := Hd1.start hH2 hB1 hB2
  clear hH2 hB1 hB2
  go_wp2_with fail
  refine (old18_any _).mono ?_
  rintro e WT ⟨TB, rfl, hlT, hBT⟩
  replace hD := hD.below' hBT
  clear hBT
  have hpu : Calls Tryz.prog 39 #[.pointer (some ⟨hb, 0, none⟩), .agg #[.int .i64 0, .slice (some ⟨TB, 0, none⟩) 2 2], .string t97] _ _ := put18_any hD (by first | omega | (simp only [List.length_nil]; omega)) _ qOld t97 _ 2 ⟨by decide, by decide⟩ hlT (by decide)
  unfold Pu18Post at hpu
  rw [show (stP hd18 qOld t97 60).2 = pA18.2 from rfl, show (stP hd18 qOld t97 60).1 = pA18.1 from rfl, pA18_n] at hpu
  clear hlT hD
  go_wp2_with fail
  refine hpu.mono ?_
  clear hpu
  rintro e WR ⟨rfl, hD, -⟩
  go_wp2_with fail
  refine (old18_any _).mono ?_
  rintro e WT ⟨TB, rfl, hlT, hBT⟩
  replace hD := hD.below' hBT
  clear hBT
  have hpu : Calls Tryz.prog 39 #[.pointer (some ⟨hb, 0, none⟩), .agg #[.int .i64 0, .slice (some ⟨TB, 0, none⟩) 2 2], .string t98] _ _ := put18_any hD (by first | omega | (simp only [List.length_nil]; omega)) _ qOld t98 _ 2 ⟨by decide, by decide⟩ hlT (by decide)
  unfold Pu18Post at hpu
  rw [show (stP pA18.1 qOld t98 60).2 = pB18.2 from rfl, show (stP pA18.1 qOld t98 60).1 = pB18.1 from rfl, pB18_n] at hpu
  clear hlT hD
  go_wp2_with fail
  refine hpu.mono ?_
  clear hpu
  rintro e WR ⟨rfl, hD, -⟩
  go_wp2_with fail
  obtain ⟨W3, hW3, hB3, c0, c1, hl3⟩ := box22 WR 1 1 2 3 9
  obtain ⟨bb, hbb⟩ : ∃ bb, bb = WR.heap.size + 1 + 1 + 1 := ⟨_, rfl⟩
  obtain ⟨qb, hqb⟩ : ∃ qb, qb = WR.heap.size + 1 + 1 := ⟨_, rfl⟩
  have hbl := hD.lt
  rw [← hW3, ← hbb, ← hqb]
  rw [← hbb] at c0 c1
  rw [← hqb] at hl3 c1
  have hVn : ∀ k, WR.heap.size ≤ k → ¬ _ := fun k hk e => Nat.lt_irrefl _ (Nat.lt_of_lt_of_le (hbl k e) hk)
  have hD3 := hD.below' hB3
  have hch : Calls Tryz.prog 30 #[.pointer (some ⟨hb, 0, none⟩), .agg #[.int .i64 1, .slice (some ⟨qb, 0, none⟩) 2 2], .slice none 0 0] _ _ := change18_any hD3 (by omega) _ qNew18 _ 2 ⟨by decide, by decide⟩ hl3 none [] 0 (fun h => absurd h (by simp)) (by simp) (fun _ _ e => by cases e)
  unfold Ch18Post at hch
  rw [show (stC pB18.1 qNew18 [] ([].length + 60)).2 = ch18.2 from rfl, show (stC pB18.1 qNew18 [] ([].length + 60)).1 = ch18.1 from rfl, ch18_e.1, decide_eq_true ch18_e.2] at hch
  have hbb' : WR.heap.size ≤ bb := by omega
  clear hD hD3 hW3 hB3 hbb hqb hbl
  refine hch.mono ?_
  clear hch
  rintro e W4 ⟨rfl, hD, hM4⟩
  replace c0 := hM4.at c0 (hVn _ hbb')
  replace c1 := hM4.at c1 (hVn _ hbb')
  replace hl3 := hl3.mod hM4 (fun k hk _ => hVn k hk)
  clear hM4 hVn hbb'
  go_wp2_with fail
  have hrd : Calls Tryz.prog 37 #[.pointer (some ⟨hb, 0, none⟩), .agg #[.int .i64 1, .slice (some ⟨qb, 0, none⟩) 2 2], .int .i64 1, .bool true, .slice none 0 0] _ _ := read16_any hD (by first | omega | (simp only [List.length_nil]; omega)) _ qNew18 1 true _ 2 ⟨by decide, by decide⟩ hl3 none [] 0 (fun h => absurd h (by simp)) (by simp) (fun _ _ e => by cases e)
  unfold Rd16Post at hrd
  rw [show (stR ch18.1 qNew18 1 true [] ([].length + 30)).2 = rd18.2 from rfl, show (stR ch18.1 qNew18 1 true [] ([].length + 30)).1 = rd18.1 from rfl, rd18_o] at hrd
  refine hrd.mono ?_
  clear hrd hl3 hD
  rintro e WR ⟨rfl, hD, -⟩
  obtain ⟨⟨nb', lb, hn, hla, hno⟩, -⟩ := hD.lay
  have hn := hn WR (Mod.refl _ _)
  have hla := hla WR (Mod.refl _ _)
  have hno := hno WR (Mod.refl _ _)
  unfold CopyPost at hno
  rw [rd18_l] at hno
  go_wp2_with fail
  refine hn.mono ?_
  rintro e _ ⟨rfl, rfl⟩
  go_wp2_with fail
  refine hla.mono ?_
  rintro e _ ⟨rfl, rfl⟩
  go_wp2_with fail
  refine hno.mono ?_
  rintro e W8 ⟨a8, n8, rfl, -, hB8⟩
  replace hD := hD.below' hB8
  clear hn hla hno hB8
  go_wp2_with fail
  refine (old18_any _).mono ?_
  rintro e WT ⟨TB, rfl, hlT, hBT⟩
  replace hD := hD.below' hBT
  clear hBT
  have hpu : Calls Tryz.prog 39 #[.pointer (some ⟨hb, 0, none⟩), .agg #[.int .i64 0, .slice (some ⟨TB, 0, none⟩) 2 2], .string t99] _ _ := put18_any hD (by first | omega | (simp only [List.length_nil]; omega)) _ qOld t99 _ 2 ⟨by decide, by decide⟩ hlT (by decide)
  unfold Pu18Post at hpu
  rw [show (stP rd18.1 qOld t99 60).2 = pC18.2 from rfl, show (stP rd18.1 qOld t99 60).1 = pC18.1 from rfl, pC18_n] at hpu
  clear hlT hD
  go_wp2_with fail
  refine hpu.mono ?_
  clear hpu
  rintro e WR ⟨rfl, hD, -⟩
  have hBe := hD.below
  clear hD
  go_wp2_with fail
  go_ret
  exact ⟨rfl, hBe⟩
end Go.Proofs.YtghdhhbpbmhooaaGreat
