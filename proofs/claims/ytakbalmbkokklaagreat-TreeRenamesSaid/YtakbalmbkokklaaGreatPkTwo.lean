import Derived.Test.YtakbalmbkokklaaGreatRTree11
import Derived.Test.YtakbalmbkokklaaGreatDo22
import Derived.Test.YtakbalmbkokklaaGreatPkMv
import Derived.Test.YtakbalmbkokklaaGreatSameTree
import Derived.Test.YtakbalmbkokklaaGreatPkTreeM
/- law 22: Does on the document's tree; Fair, with what it says of each step -/
namespace Go.Proofs.YtakbalmbkokklaaGreat
open Go.RowKit Esch

set_option maxRecDepth 100000 in
set_option maxHeartbeats 4000000 in
theorem does22_any (w : World) (b : Nat) (R : Nat → Prop) (s : TrS) (h : RTreeAt w b R s) (hg : GK s) (k z : Int) (p q : Nm) (hp : p.length ≤ 100000) (hq : q.length ≤ 100000) : Calls Tryz.prog 31 #[.pointer (some ⟨b, 0, none⟩), .agg #[.int .i64 k, .int .i64 z, .string (bs p), .string (bs q)]] w (RTPost w b R (s.step k z p q).2 (.int .i64 (s.step k z p q).1)) := by
  have H := Lib.hid h
  have HO := Lib.hid hg
  have Hp := Lib.hid hp
  have Hq := Lib.hid hq
  clear h hg hp hq
  by_cases h1 : k = 1
  · subst h1
    rw [show s.step 1 z p q = (s.mk' p 1).run s from rfl]
    have hcl := fun W hW => rtMkdir_any W b R s hW HO.out p Hp.out
    go_enter Tryz.func31, Tryz.ntmps31
    go_wp2_with fail
    obtain ⟨W1, hW1, hB1⟩ : ∃ W1, W1 = w.alloc (.cells #[.int .i64 1, .int .i64 z, .string (bs p), .string (bs q)] 48) ∧ Below w.heap.size w W1 := ⟨_, rfl, by exact belC (Below.refl _ _)⟩
    rw [← hW1]
    have HB1 := Lib.hid hB1
    clear hW1 hB1
    refine (hcl _ (H.out.below' HB1.out)).mono ?_
    rintro e w2 hP
    have hA := Lib.hid (hP.after H.out.lt HB1.out)
    obtain ⟨rfl, -, -⟩ := hP
    go_wp2_with fail
    go_ret
    exact ⟨rfl, hA.out⟩
  by_cases h2 : k = 2
  · subst h2
    rw [show s.step 2 z p q = (s.rmdir p).run s from rfl]
    have hcl := fun W hW => rtRmdir_any W b R s hW HO.out p Hp.out
    go_enter Tryz.func31, Tryz.ntmps31
    go_wp2_with fail
    obtain ⟨W1, hW1, hB1⟩ : ∃ W1, W1 = w.alloc (.cells #[.int .i64 2, .int .i64 z, .string (bs p), .string (bs q)] 48) ∧ Below w.heap.size w W1 := ⟨_, rfl, by exact belC (Below.refl _ _)⟩
    rw [← hW1]
    have HB1 := Lib.hid hB1
    clear hW1 hB1
    refine (hcl _ (H.out.below' HB1.out)).mono ?_
    rintro e w2 hP
    have hA := Lib.hid (hP.after H.out.lt HB1.out)
    obtain ⟨rfl, -, -⟩ := hP
    go_wp2_with fail
    go_ret
    exact ⟨rfl, hA.out⟩
  by_cases h3 : k = 3
  · subst h3
    rw [show s.step 3 z p q = (s.mk' p 2).run s from rfl]
    have hcl := fun W hW => rtCreate_any W b R s hW HO.out p Hp.out
    go_enter Tryz.func31, Tryz.ntmps31
    go_wp2_with fail
    obtain ⟨W1, hW1, hB1⟩ : ∃ W1, W1 = w.alloc (.cells #[.int .i64 3, .int .i64 z, .string (bs p), .string (bs q)] 48) ∧ Below w.heap.size w W1 := ⟨_, rfl, by exact belC (Below.refl _ _)⟩
    rw [← hW1]
    have HB1 := Lib.hid hB1
    clear hW1 hB1
    refine (hcl _ (H.out.below' HB1.out)).mono ?_
    rintro e w2 hP
    have hA := Lib.hid (hP.after H.out.lt HB1.out)
    obtain ⟨rfl, -, -⟩ := hP
    go_wp2_with fail
    go_ret
    exact ⟨rfl, hA.out⟩
  by_cases h4 : k = 4
  · subst h4
    rw [show s.step 4 z p q = (s.lnk p q).run s from rfl]
    have hcl := fun W hW => rtLink_any W b R s hW HO.out p q Hp.out Hq.out
    go_enter Tryz.func31, Tryz.ntmps31
    go_wp2_with fail
    obtain ⟨W1, hW1, hB1⟩ : ∃ W1, W1 = w.alloc (.cells #[.int .i64 4, .int .i64 z, .string (bs p), .string (bs q)] 48) ∧ Below w.heap.size w W1 := ⟨_, rfl, by exact belC (Below.refl _ _)⟩
    rw [← hW1]
    have HB1 := Lib.hid hB1
    clear hW1 hB1
    refine (hcl _ (H.out.below' HB1.out)).mono ?_
    rintro e w2 hP
    have hA := Lib.hid (hP.after H.out.lt HB1.out)
    obtain ⟨rfl, -, -⟩ := hP
    go_wp2_with fail
    go_ret
    exact ⟨rfl, hA.out⟩
  by_cases h5 : k = 5
  · subst h5
    rw [show s.step 5 z p q = (s.unlink p).run s from rfl]
    have hcl := fun W hW => rtUnlink_any W b R s hW HO.out p Hp.out
    go_enter Tryz.func31, Tryz.ntmps31
    go_wp2_with fail
    obtain ⟨W1, hW1, hB1⟩ : ∃ W1, W1 = w.alloc (.cells #[.int .i64 5, .int .i64 z, .string (bs p), .string (bs q)] 48) ∧ Below w.heap.size w W1 := ⟨_, rfl, by exact belC (Below.refl _ _)⟩
    rw [← hW1]
    have HB1 := Lib.hid hB1
    clear hW1 hB1
    refine (hcl _ (H.out.below' HB1.out)).mono ?_
    rintro e w2 hP
    have hA := Lib.hid (hP.after H.out.lt HB1.out)
    obtain ⟨rfl, -, -⟩ := hP
    go_wp2_with fail
    go_ret
    exact ⟨rfl, hA.out⟩
  by_cases h6 : k = 6
  · subst h6
    rw [show s.step 6 z p q = (s.rename p q).run s from rfl]
    have hcl := fun W hW => rtRename_any W b R s hW HO.out p q Hp.out Hq.out
    go_enter Tryz.func31, Tryz.ntmps31
    go_wp2_with fail
    obtain ⟨W1, hW1, hB1⟩ : ∃ W1, W1 = w.alloc (.cells #[.int .i64 6, .int .i64 z, .string (bs p), .string (bs q)] 48) ∧ Below w.heap.size w W1 := ⟨_, rfl, by exact belC (Below.refl _ _)⟩
    rw [← hW1]
    have HB1 := Lib.hid hB1
    clear hW1 hB1
    refine (hcl _ (H.out.below' HB1.out)).mono ?_
    rintro e w2 hP
    have hA := Lib.hid (hP.after H.out.lt HB1.out)
    obtain ⟨rfl, -, -⟩ := hP
    go_wp2_with fail
    go_ret
    exact ⟨rfl, hA.out⟩
  by_cases h7 : k = 7
  · subst h7
    rw [show s.step 7 z p q = (s.trunc p z).run s from rfl]
    have hcl := fun W hW => rtTruncate_any W b R s hW HO.out p Hp.out z
    go_enter Tryz.func31, Tryz.ntmps31
    go_wp2_with fail
    obtain ⟨W1, hW1, hB1⟩ : ∃ W1, W1 = w.alloc (.cells #[.int .i64 7, .int .i64 z, .string (bs p), .string (bs q)] 48) ∧ Below w.heap.size w W1 := ⟨_, rfl, by exact belC (Below.refl _ _)⟩
    rw [← hW1]
    have HB1 := Lib.hid hB1
    clear hW1 hB1
    refine (hcl _ (H.out.below' HB1.out)).mono ?_
    rintro e w2 hP
    have hA := Lib.hid (hP.after H.out.lt HB1.out)
    obtain ⟨rfl, -, -⟩ := hP
    go_wp2_with fail
    go_ret
    exact ⟨rfl, hA.out⟩
  rw [show s.step k z p q = (0, s) from by unfold TrS.step; rw [if_neg h1, if_neg h2, if_neg h3, if_neg h4, if_neg h5, if_neg h6, if_neg h7]]
  go_enter Tryz.func31, Tryz.ntmps31
  go_wp2_with fail
  go_ret
  exact RTPost.keep H.out (by exact belC (Below.refl _ _)) _
end Go.Proofs.YtakbalmbkokklaaGreat
/- law 22: Fair, with what it says of each step -/
namespace Go.Proofs.YtakbalmbkokklaaGreat
open Go.RowKit Esch

def Fair22 (ps : List St22) : Prop := ps.length ≤ 100 ∧ ∀ x ∈ ps, x.p.length ≤ 2000 ∧ x.q.length ≤ 2000
def Fair22bPost (w : World) (ps : List St22) (e : Ending) (w' : World) : Prop := ∃ v : Bool, e = .returned (.bool v) ∧ (v = true → Fair22 ps) ∧ Below w.heap.size w w'
set_option maxRecDepth 100000 in
set_option maxHeartbeats 4000000 in
theorem fair22b_any (w : World) (oa : Option Addr) (cap : Nat) (ps : List St22) (h : Sts22 w oa ps) (hn : ps.length ≤ 9223372036854775807) :
    Calls Tryz.prog 24 #[.slice oa ps.length cap] w (Fair22bPost w ps) := by
  have H := Lib.hid h
  clear h
  go_enter Tryz.func24, Tryz.ntmps24
  go_wp2_with fail
  go_loopg [3] ps.length (fun g s3 wr => ∃ i : Nat, g = ps.length - i ∧ i ≤ ps.length ∧ s3 = .int .i64 i ∧ (∀ x ∈ ps.take i, x.p.length ≤ 2000 ∧ x.q.length ≤ 2000) ∧ wr = w)
  case atStart => exact ⟨0, rfl, Nat.zero_le _, rfl, by simp, rfl⟩
  case round =>
    obtain ⟨i, rfl, hi, rfl, hall, rfl⟩ := hrel
    have HA := Lib.hid hall
    clear hall
    by_cases hlt : i < ps.length
    · obtain ⟨b, off, rfl, hb, hc⟩ := H.out (by omega)
      obtain ⟨-, -, c2, c3⟩ := hc i hlt
      have HT : Hid (ps.take (i + 1) = ps.take i ++ [ps.getD i default]) := Lib.hid (by rw [List.take_succ_eq_append_getElem hlt, List.getD_eq_getElem?_getD, List.getElem?_eq_getElem hlt]; rfl)
      generalize ps.getD i default = x at *
      obtain ⟨xk, xz, xp, xq⟩ := x
      simp only at c2 c3
      have i0 : (0 : Int) ≤ i := by omega
      have i1 : (i : Int) < ps.length := by omega
      clear hc
      by_cases hp : 2000 < xp.length
      · have hp' : (2000 : Int) < xp.length := by omega
        go_wp2_with fail
        go_ret
        exact ⟨false, rfl, fun h => (by cases h), Below.refl _ _⟩
      · by_cases hq : 2000 < xq.length
        · have hp' : decide (2000 < xp.length) = false := decide_eq_false hp
          have hp2 : ¬ (2000 : Int) < xp.length := by omega
          have hq' : (2000 : Int) < xq.length := by omega
          clear hp
          go_wp2_with fail
          go_ret
          exact ⟨false, rfl, fun h => (by cases h), Below.refl _ _⟩
        · have hp' : decide (2000 < xp.length) = false := decide_eq_false hp
          have hq' : decide (2000 < xq.length) = false := decide_eq_false hq
          have hp2 : ¬ (2000 : Int) < xp.length := by omega
          have hq2 : ¬ (2000 : Int) < xq.length := by omega
          have HPQ := Lib.hid (show xp.length ≤ 2000 ∧ xq.length ≤ 2000 by omega)
          clear hp hq
          go_wp2_with fail
          go_roundg (ps.length - (i + 1))
          case measure => omega
          case rel => exact ⟨i + 1, rfl, by omega, by go_num, fun x hx => by
            rw [HT.out] at hx
            rcases List.mem_append.1 hx with hx | hx
            · exact HA.out x hx
            · rw [List.mem_singleton] at hx
              subst hx
              exact HPQ.out, rfl⟩
    · obtain rfl : i = ps.length := by omega
      have ha := HA.out
      rw [List.take_length] at ha
      have HA2 := Lib.hid ha
      clear hlt hi ha
      go_wp2_with fail
      go_ret
      refine ⟨decide ((ps.length : Int) ≤ 100), rfl, fun h => ⟨?_, HA2.out⟩, Below.refl _ _⟩
      have := of_decide_eq_true h
      omega
end Go.Proofs.YtakbalmbkokklaaGreat
/- renamed, and renamed back: plain -/
namespace Esch
open Go

theorem SpotOk.place {s : TrS} {p : Nm} {x : SpotS} (h : SpotOk s p x) (r : Int) : s.place p r = .ok x := by
  obtain ⟨⟨l, hl, hne, hres, hnm, -⟩, hd, -, hi⟩ := h
  unfold TrS.place
  rw [hl]
  simp only
  rw [if_neg hne, hres]
  show (if s.kind x.dir ≠ 1 then Res.err 62 else _) = _
  rw [if_neg (by simpa using hd)]
  obtain ⟨xd, xn, xi⟩ := x
  simp only at hnm hi ⊢
  rw [← hnm, ← hi]
def optRes (o : Option Int) : Res Int := match o with
  | none => .err 60
  | some i => .ok i
theorem SpotOk.res {s : TrS} {p : Nm} {x : SpotS} (h : SpotOk s p x) : s.resolve p = optRes (s.n.find x.dir x.name) := by
  obtain ⟨⟨l, hl, hne, hres, hnm, hcat⟩, hd, -, hi⟩ := h
  unfold TrS.resolve
  rw [hl]
  simp only
  rw [← hcat, res_app, hres]
  show s.res x.dir [x.name] = _
  unfold TrS.res
  rw [if_neg (by simpa using hd)]
  cases s.n.find x.dir x.name <;> rfl
theorem GoodS.pos {s : TrS} (h : GoodS s) {d : Int} {a : Nm} {j : Int} (hf : s.n.find d a = some j) : 1 ≤ j := by
  have := h.ino j (h.good.ent _ ((mem_iff_get h.ok.n.nd (d, a) j).2 hf)).1
  omega
theorem rename_of {s : TrS} {p q : Nm} {x y : SpotS} (hr : RenOk s p q x y) : s.rename p q = .ok (s.renS x y) := by
  obtain ⟨hx, hy, hx0, hne, hins, hfree, hdir, hfile⟩ := hr
  unfold TrS.rename
  rw [hx.place 70]
  show (stopB 60 (decide (x.ino = 0))).bind _ = _
  rw [decide_eq_false hx0]
  show (s.place q 61).bind _ = _
  rw [hy.place 61]
  show (if x.ino = y.ino then _ else _) = _
  rw [if_neg hne]
  have e1 : (decide (s.kind x.ino = 1) && insideOf (namesOf q) (namesOf p)) = false := by
    by_cases hk : s.kind x.ino = 1
    · rw [hins hk, Bool.and_false]
    · rw [decide_eq_false hk, Bool.false_and]
  rw [e1]
  show (if y.ino = 0 then _ else _ : Res Unit).bind _ = _
  by_cases hy0 : y.ino = 0
  · rw [if_pos hy0]
    have e2 : (decide (64 ≤ s.n.count y.dir) && decide (y.dir ≠ x.dir)) = false := by
      rcases hfree hy0 with h | h
      · rw [decide_eq_false (by omega), Bool.false_and]
      · rw [h]; simp
    rw [e2]
    rfl
  · rw [if_neg hy0]
    by_cases hk : s.kind x.ino = 1
    · obtain ⟨h1, h2⟩ := hdir hy0 hk
      rw [if_pos hk, decide_eq_false (by simpa using h1), decide_eq_false h2]
      rfl
    · rw [if_neg hk, decide_eq_false (hfile hy0 hk)]
      rfl
theorem find_ino {s : TrS} {p : Nm} {x : SpotS} (h : SpotOk s p x) {j : Int} (hf : s.n.find x.dir x.name = some j) : x.ino = j := by rw [h.ino, hf]; rfl
section
variable {s s' : TrS} {p q : Nm} {x y : SpotS}
theorem ren_keys (hr : RenOk s p q x y) : (y.dir, y.name) ≠ (x.dir, x.name) := fun e => hr.ne (by
  have e1 : y.dir = x.dir := congrArg Prod.fst e
  have e2 : y.name = x.name := congrArg Prod.snd e
  rw [hr.sx.ino, hr.sy.ino, e1, e2])
theorem moved_keep (h : GoodS s) (hr : RenOk s p q x y) (hm : Moved s s' p q x y) (d : Int) (a : Nm) (j : Int) (hk : s.kind d = 1) (hf : s.n.find d a = some j) (hb : ¬ (j = x.ino ∨ (y.ino ≠ 0 ∧ j = y.ino))) : s'.kind d = 1 ∧ s'.n.find d a = some j := by
  have hj := h.pos hf
  have hd : d ≠ y.ino := fun e => by
    by_cases hy0 : y.ino = 0
    · have := (h.dlt hk).1; omega
    · exact hm.noout hy0 _ ((mem_iff_get h.ok.n.nd (d, a) j).2 hf) e
  refine ⟨?_, ?_⟩
  · unfold TrS.kind at *
    rw [hm.at' d hd]; exact hk
  · show get s'.n.m (d, a) = some j
    rw [hm.find]
    split
    · rename_i e
      exfalso
      have e1 : y.ino = j := find_ino hr.sy (by show get s.n.m (y.dir, y.name) = _; rw [e]; exact hf)
      exact hb (Or.inr ⟨by omega, e1.symm⟩)
    · split
      · rename_i e
        exact absurd (Or.inl (find_ino hr.sx (by show get s.n.m (x.dir, x.name) = _; rw [e]; exact hf)).symm) hb
      · exact hf
theorem res_cons_ok {s : TrS} {d i : Int} {n : Nm} {l : List Nm} (h : s.res d (n :: l) = .ok i) : s.kind d = 1 ∧ ∃ j, s.n.find d n = some j ∧ s.res j l = .ok i := by
  rw [show n :: l = [n] ++ l from rfl, res_app] at h
  obtain ⟨j, h1, h2⟩ := Res.bind_ok h
  exact ⟨(res_one.1 h1).1, j, (res_one.1 h1).2, h2⟩
theorem moved_path (h : GoodS s) (hr : RenOk s p q x y) (hm : Moved s s' p q x y) : ∃ l, namesOf p = some l ∧ l ≠ [] ∧ s'.res 1 l.dropLast = .ok x.dir ∧ x.name = l.getLastD [] ∧ l.dropLast ++ [x.name] = l := by
  obtain ⟨l, hl, hne, hres, hnm, hcat⟩ := hr.sx.ex
  have hfx := find_some hr.sx.ino.symm hr.x0
  have hall : s.res 1 l = .ok x.ino := by rw [← hcat, res_app, hres]; exact res_one.2 ⟨hr.sx.dir, hfx⟩
  refine ⟨l, hl, hne, res_keep (fun j => j = x.ino ∨ (y.ino ≠ 0 ∧ j = y.ino)) (moved_keep h hr hm) _ 1 x.dir hres fun pre suf j e hp hj => ?_, hnm, hcat⟩
  have hsuf : s.res j suf = .ok x.dir := by
    rw [e, res_app, hj] at hres
    exact hres
  rintro (rfl | ⟨hy0, rfl⟩)
  · have hk : s.kind x.ino = 1 := by
      cases suf with
      | nil =>
        have h0 : (Res.ok x.ino : Res Int) = .ok x.dir := hsuf
        have h1 : x.ino = x.dir := by injection h0
        rw [h1]
        exact hr.sx.dir
      | cons n suf => exact (res_cons_ok hsuf).1
    have e2 := h.uniq pre.length pre l x.ino (Nat.le_refl _) hj hall hk
    have e3 := congrArg List.length hcat
    rw [e, ← e2] at e3
    simp only [List.length_append, List.length_singleton] at e3
    omega
  · cases suf with
    | nil =>
      have h0 : (Res.ok y.ino : Res Int) = .ok x.dir := hsuf
      have h1 : y.ino = x.dir := by injection h0
      rcases hm.xy with e4 | e4
      · exact hy0 e4
      · exact e4.2 h1.symm
    | cons n suf =>
      obtain ⟨-, i, hf, -⟩ := res_cons_ok hsuf
      exact hm.noout hy0 _ ((mem_iff_get h.ok.n.nd (y.ino, n) i).2 hf) rfl
theorem moved_spots (h : GoodS s) (hr : RenOk s p q x y) (hm : Moved s s' p q x y) : SpotOk s' q ⟨y.dir, y.name, x.ino⟩ ∧ SpotOk s' p ⟨x.dir, x.name, 0⟩ := by
  obtain ⟨lq, hlq, hneq, hresq, hnmq, hcatq⟩ := hr.sy.ex
  have hkx : s'.kind x.dir = 1 := by
    have : x.dir ≠ y.ino := by
      rcases hm.xy with e | e
      · have := (h.dlt hr.sx.dir).1; omega
      · exact e.2
    unfold TrS.kind
    rw [hm.at' _ this]
    exact hr.sx.dir
  have f1 : s'.n.find y.dir y.name = some x.ino := by show get s'.n.m _ = _; rw [hm.find, if_pos rfl]
  have f2 : s'.n.find x.dir x.name = none := by show get s'.n.m _ = _; rw [hm.find, if_neg (ren_keys hr), if_pos rfl]
  exact ⟨⟨⟨lq, hlq, hneq, hm.path lq hlq, hnmq, hcatq⟩, hm.ydir, hr.sy.name, by show x.ino = (s'.n.find y.dir y.name).getD 0; rw [f1]; rfl⟩, ⟨moved_path (x := x) (y := y) (q := q) h hr hm, hkx, hr.sx.name, by show (0 : Int) = (s'.n.find x.dir x.name).getD 0; rw [f2]; rfl⟩⟩
/-- what lies in it lies in it -/
theorem moved_in (h : GoodS s) (hr : RenOk s p q x y) (hm : Moved s s' p q x y) (hk : s.kind x.ino = 1) (a : Nm) : get s'.n.m (x.ino, a) = get s.n.m (x.ino, a) := by
  obtain ⟨lp, hlp, hnep, hresp, hnmp, hcatp⟩ := hr.sx.ex
  obtain ⟨lq, hlq, hneq, hresq, hnmq, hcatq⟩ := hr.sy.ex
  have hfx := find_some hr.sx.ino.symm hr.x0
  have hall : s.res 1 lp = .ok x.ino := by rw [← hcatp, res_app, hresp]; exact res_one.2 ⟨hr.sx.dir, hfx⟩
  rw [hm.find]
  split
  · rename_i e
    exfalso
    have e1 : y.dir = x.ino := congrArg Prod.fst e
    rw [e1] at hresq
    have e2 := h.uniq _ lq.dropLast lp x.ino (Nat.le_refl _) hresq hall hk
    exact inside_no hlp hlq (hr.ins hk) ⟨[y.name], by rw [← e2]; exact hcatq.symm⟩
  · split
    · rename_i e
      exfalso
      have e1 : x.dir = x.ino := congrArg Prod.fst e
      rw [e1] at hresp
      have e2 := h.uniq _ lp.dropLast lp x.ino (Nat.le_refl _) hresp hall hk
      have e3 := congrArg List.length hcatp
      rw [e2] at e3
      simp at e3
    · rfl
theorem count_add_ne {s : DirS} {d d' i : Int} {n : Nm} (h : d ≠ d') : (s.add d n i).2.count d' = s.count d' := by
  unfold DirS.add
  split; · rfl
  split; · rfl
  split; · rfl
  split; · rfl
  rw [count_set, if_neg h]
/-- the way back -/
theorem moved_back (h : GoodS s) (hr : RenOk s p q x y) (hy0 : y.ino = 0) : RenOk (s.renS x y) q p ⟨y.dir, y.name, x.ino⟩ ⟨x.dir, x.name, 0⟩ := by
  have hm := h.renx hr
  obtain ⟨h1, h2⟩ := moved_spots h hr hm
  obtain ⟨lp, hlp, hnep, hresp, hnmp, hcatp⟩ := hr.sx.ex
  obtain ⟨lq, hlq, hneq, hresq, hnmq, hcatq⟩ := hr.sy.ex
  have hfx := find_some hr.sx.ino.symm hr.x0
  have hall : s.res 1 lp = .ok x.ino := by rw [← hcatp, res_app, hresp]; exact res_one.2 ⟨hr.sx.dir, hfx⟩
  refine ⟨h1, h2, hr.x0, hr.x0, fun _ => ?_, fun _ => ?_, fun e => absurd rfl e, fun e => absurd rfl e⟩
  · cases e : insideOf (namesOf p) (namesOf q) with
    | false => rfl
    | true =>
      exfalso
      rw [hlp, hlq] at e
      unfold insideOf at e
      simp only [Bool.and_eq_true, decide_eq_true_eq] at e
      have hsp : lp = lq ++ lp.drop lq.length := by
        conv => lhs; rw [← List.take_append_drop lq.length lp, e.2]
      rw [hsp, res_app] at hall
      obtain ⟨j, hj, -⟩ := Res.bind_ok hall
      rw [← hcatq, res_app, hresq] at hj
      have hf := (res_one.1 hj).2
      have := h.pos hf
      have := find_ino hr.sy hf
      omega
  · by_cases e : x.dir = y.dir
    · exact Or.inr e
    · refine Or.inl ?_
      rw [renS_no hy0]
      show (((s.n.drop x.dir x.name).2.add y.dir y.name x.ino).2).count x.dir < 64
      rw [count_add_ne (fun e' => e e'.symm), count_drop hfx, if_pos rfl]
      have := h.ok.n.le x.dir
      omega
theorem moved_twice (h : GoodS s) (hr : RenOk s p q x y) (hy0 : y.ino = 0) : ∃ s2, (s.renS x y).rename q p = .ok s2 ∧ GoodS s2 ∧ s2.t = s.t ∧ s2.n.m.Perm s.n.m := by
  have hm := h.renx hr
  have hb := moved_back h hr hy0
  have hm2 := hm.good.renx hb
  have hfx := find_some hr.sx.ino.symm hr.x0
  have hfy : s.n.find y.dir y.name = none := h.zero (hr.sy.ino ▸ hy0)
  refine ⟨_, rename_of hb, hm2.good, (hm2.tab rfl).trans (hm.tab hy0), ?_⟩
  have hget : ∀ k, get ((s.renS x y).renS ⟨y.dir, y.name, x.ino⟩ ⟨x.dir, x.name, 0⟩).n.m k = get s.n.m k := fun k => by
    rw [hm2.find k, hm.find k]
    simp only
    split
    · rename_i e; rw [← e]; exact hfx.symm
    · rename_i e1
      split
      · rename_i e2; rw [← e2]; exact hfy.symm
      · rfl
  have n1 := hm2.good.ok.n.nd
  have n2 := h.ok.n.nd
  have nn : ∀ {m : List Ent}, (m.map (·.1)).Nodup → m.Nodup := fun {m} hm => List.Pairwise.of_map _ (fun a b h e => h (by rw [e])) hm
  refine (List.perm_ext_iff_of_nodup (nn n1) (nn n2)).2 fun e => ?_
  rw [mem_iff_get n1 e.1 e.2, mem_iff_get n2 e.1 e.2, hget]
end
theorem Srt.like {m m' L : List Ent} (h : Srt m L) (hp : m'.Perm m) : Srt m' L := Srt.mk' (h.perm.trans hp.symm) h.2
theorem RTreeAt.like {w : World} {q : Nat} {R : Nat → Prop} {s s' : TrS} (h : RTreeAt w q R s) (ht : s'.t = s.t) (hp : s'.n.m.Perm s.n.m) : RTreeAt w q R s' := by
  obtain ⟨rq, lt, ib, nb, T1, T2, L, c0, c1, hT, hn, hs, s1, s2, d, b1, b2⟩ := h
  exact ⟨rq, lt, ib, nb, T1, T2, L, c0, c1, ht ▸ hT, hn, hs.like hp, s1, s2, d, b1, b2⟩
end Esch
/- law 22: a tree and the document's go on side by side -/
namespace Esch
open Go Go.RowKit
theorem run_err {s : TrS} {r : Res TrS} (h : (r.run s).1 ≠ 0) : (r.run s).2 = s := by
  cases r with
  | ok a => exact absurd rfl h
  | err e => rfl
theorem step_err {s : TrS} {k z : Int} {p q : Nm} (h : (s.step k z p q).1 ≠ 0) : (s.step k z p q).2 = s := by
  unfold TrS.step at h ⊢
  split; · rename_i h1; rw [if_pos h1] at h; exact run_err h
  rename_i h1; rw [if_neg h1] at h
  split; · rename_i h1; rw [if_pos h1] at h; exact run_err h
  rename_i h1; rw [if_neg h1] at h
  split; · rename_i h1; rw [if_pos h1] at h; exact run_err h
  rename_i h1; rw [if_neg h1] at h
  split; · rename_i h1; rw [if_pos h1] at h; exact run_err h
  rename_i h1; rw [if_neg h1] at h
  split; · rename_i h1; rw [if_pos h1] at h; exact run_err h
  rename_i h1; rw [if_neg h1] at h
  split; · rename_i h1; rw [if_pos h1] at h; exact run_err h
  rename_i h1; rw [if_neg h1] at h
  split; · rename_i h1; rw [if_pos h1] at h; exact run_err h
  rfl
/-- both trees, of one state; all blocks of theirs are of B or above -/
structure Two22 (B : World) (b q : Nat) (S R : Nat → Prop) (s : TrS) (wr : World) : Prop where
  t : TreeAt wr b S s
  r : RTreeAt wr q R s
  s0 : ∀ k, S k → B.heap.size ≤ k
  r0 : ∀ k, R k → B.heap.size ≤ k
  d : ∀ k, R k → ¬ S k
  bel : Below B.heap.size B wr
theorem Two22.below {B : World} {b q : Nat} {S R : Nat → Prop} {s : TrS} {w w' : World} (h : Two22 B b q S R s w) (hB : Below w.heap.size w w') : Two22 B b q S R s w' :=
  ⟨h.t.below' hB, h.r.below' hB, h.s0, h.r0, h.d, h.bel.trans (hB.mono h.bel.size)⟩
/-- a call on the program's tree -/
theorem Two22.left {B : World} {b q : Nat} {S R : Nat → Prop} {s s' : TrS} {w w' : World} (h : Two22 B b q S R s w) (ht : TreeAt w' b S s') (hM : Mod S w w') : TreeAt w' b S s' ∧ RTreeAt w' q R s ∧ Below B.heap.size B w' :=
  ⟨ht, h.r.mod hM h.d, h.bel.trans (hM.below_at h.bel.size (fun k hk e => by have := h.s0 k e; omega))⟩
/-- then the same on the document's -/
theorem Two22.right {B : World} {b q : Nat} {S R : Nat → Prop} {s s' : TrS} {w w1 w2 : World} (h : Two22 B b q S R s w) (h1 : TreeAt w1 b S s' ∧ RTreeAt w1 q R s ∧ Below B.heap.size B w1) (hr : RTreeAt w2 q (growS R w1 w2) s') (hM : Mod R w1 w2) :
    Two22 B b q S (growS R w1 w2) s' w2 := by
  obtain ⟨ht, -, hB⟩ := h1
  refine ⟨ht.mod hM (fun k hk hR => h.d k hR hk), hr, h.s0, fun k hk => ?_, fun k hk hs => ?_, hB.trans (hM.below_at hB.size (fun k hk e => by have := h.r0 k e; omega))⟩
  · rcases hk with hk | hk
    · exact h.r0 k hk
    · exact Nat.le_trans hB.size hk.1
  · rcases hk with hk | hk
    · exact h.d k hk hs
    · have := ht.lt k hs; omega
/-- what is known of the state behind i steps -/
structure Gs22 (s : TrS) (i : Nat) : Prop where
  good : GoodS s
  len : s.t.m.length ≤ 64
  nlen : s.n.m.length ≤ i
  rise : Rise s.t
theorem Gs22.gk {s : TrS} {i : Nat} (h : Gs22 s i) (hi : i ≤ 1000) : GK s := ⟨h.good, h.len, Nat.le_trans h.nlen hi⟩
theorem Gs22.step {s : TrS} {i : Nat} (h : Gs22 s i) (k z : Int) (p q : Nm) : Gs22 (s.step k z p q).2 (i + 1) :=
  ⟨h.good.step k z p q, h.good.step64 h.len k z p q, by have := (step_len s k z p q).1; have := h.nlen; omega, h.good.step_rise h.rise k z p q⟩
theorem gs22_0 : Gs22 tr0 0 := ⟨tr0_good, by decide, by decide, List.pairwise_singleton _ _⟩
end Esch
