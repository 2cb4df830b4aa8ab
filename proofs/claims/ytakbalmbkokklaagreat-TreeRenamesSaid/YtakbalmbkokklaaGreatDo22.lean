/- law 22: Do on a made tree; lists of steps, how they are read; are they fair? -/
import Derived.Test.YtakbalmbkokklaaGreatPkTreeM
import Derived.Test.YtakbalmbkokklaaGreatWakes22
import Derived.Test.YtakbalmbkokklaaGreatPkT10
import Derived.Test.YtakbalmbkokklaaGreatPkLaw22
namespace Esch
open Go Go.RowKit
structure St22 where
  k : Int
  z : Int
  p : Nm
  q : Nm
instance : Inhabited St22 := ⟨⟨0, 0, [], []⟩⟩
def Sts22 (w : World) (oa : Option Addr) (ps : List St22) : Prop :=
  0 < ps.length → ∃ b off, oa = some ⟨b, off, none⟩ ∧ b < w.heap.size ∧ ∀ i, i < ps.length → w.cell? ⟨b, off + i * 4, none⟩ = some (.int .i64 (ps.getD i default).k) ∧ w.cell? ⟨b, off + i * 4 + 1, none⟩ = some (.int .i64 (ps.getD i default).z) ∧
    w.cell? ⟨b, off + i * 4 + 2, none⟩ = some (.string (bs (ps.getD i default).p)) ∧ w.cell? ⟨b, off + i * 4 + 3, none⟩ = some (.string (bs (ps.getD i default).q))
theorem Sts22.below {w w' : World} {oa : Option Addr} {ps : List St22} (h : Sts22 w oa ps) (hB : Below w.heap.size w w') : Sts22 w' oa ps := fun h0 => by
  obtain ⟨b, off, e, hb, hc⟩ := h h0
  refine ⟨b, off, e, Nat.lt_of_lt_of_le hb hB.size, fun i hi => ?_⟩
  obtain ⟨h1, h2, h3, h4⟩ := hc i hi
  exact ⟨below_at hB h1 hb, below_at hB h2 hb, below_at hB h3 hb, below_at hB h4 hb⟩
end Esch
namespace Go.Proofs.YtakbalmbkokklaaGreat
open Go.RowKit Esch

def ty22 : Ty := .struct [.int .i64, .int .i64, .str, .str]
theorem rd_st22 {w : World} {cs : List Value} {d : D} (h : Rd w ty22 cs d) : ∃ x : St22, cs = [.int .i64 x.k, .int .i64 x.z, .string (bs x.p), .string (bs x.q)] := by
  simp only [ty22, rd_struct, rds_cons, rds_nil, rd_int, rd_str] at h
  obtain ⟨ds, rfl, c0, r0, d0, s0, rfl, rfl, -, ⟨k, rfl, rfl, -⟩, c1, r1, d1, s1, rfl, rfl, -, ⟨u, rfl, rfl, -⟩, c2, r2, d2, s2, rfl, rfl, -, ⟨s, rfl, rfl, hs⟩, c3, r3, d3, s3, rfl, rfl, -, ⟨t, rfl, rfl, ht⟩, rfl, rfl⟩ := h
  exact ⟨⟨k, u, s.data.toList, t.data.toList⟩, rfl⟩
theorem rd_sts22 {w : World} {cs : List Value} {d : D} (h : Rd w (.slice ty22) cs d) : ∃ (oa : Option Addr) (cap : Nat) (ps : List St22), cs.headD undef = .slice oa ps.length cap ∧ ps.length ≤ 9223372036854775807 ∧ Sts22 w oa ps := by
  obtain ⟨l, f, rfl, ⟨a0, cap, hv, -, hn, hc⟩, hl⟩ := rd_sliceAt h
  obtain ⟨xs, hxl, hx⟩ := pick_list l.length (fun i (x : St22) => f i = [.int .i64 x.k, .int .i64 x.z, .string (bs x.p), .string (bs x.q)]) (fun i hi => rd_st22 (hl i hi))
  refine ⟨a0, cap, xs, by rw [hv, hxl], by rw [hxl]; exact hn, fun h0 => ?_⟩
  rw [hxl] at h0
  obtain ⟨b, off, rfl, hb, hcell⟩ := hc h0 (by decide)
  refine ⟨b, off, rfl, hb, fun i hi => ?_⟩
  rw [hxl] at hi
  have h1 := hx i hi
  have h2 := fun j (hj : j < 4) => hcell i hi j hj
  rw [h1] at h2
  exact ⟨h2 0 (by decide), h2 1 (by decide), h2 2 (by decide), h2 3 (by decide)⟩
set_option maxRecDepth 100000 in
set_option maxHeartbeats 4000000 in
theorem do22_any (w : World) (b : Nat) (S : Nat → Prop) (s : TrS) (h : TreeAt w b S s) (hok : s.ok) (k z : Int) (p q : Nm) : Calls Tryz.prog 25 #[.pointer (some ⟨b, 0, none⟩), .agg #[.int .i64 k, .int .i64 z, .string (bs p), .string (bs q)]] w (ErrPost w b S (s.step k z p q)) := by
  have H := Lib.hid h
  have HO := Lib.hid hok
  clear h hok
  by_cases h1 : k = 1
  · subst h1
    rw [show s.step 1 z p q = (s.mk' p 1).run s from rfl]
    have hcl := fun W hW => trMkdir_any W b S s hW HO.out p
    go_enter Tryz.func25, Tryz.ntmps25
    go_wp2_with fail
    refine (hcl _ (H.out.below' (by exact belC (Below.refl _ _)))).mono ?_
    rintro e w2 ⟨rfl, hT, hM⟩
    have HT := Lib.hid hT
    have HM := Lib.hid hM
    clear hT hM
    go_wp2_with fail
    go_ret
    exact ⟨rfl, HT.out, (Mod.of_below (by exact belC (Below.refl _ _))).trans HM.out⟩
  by_cases h2 : k = 2
  · subst h2
    rw [show s.step 2 z p q = (s.rmdir p).run s from rfl]
    have hcl := fun W hW => trRmdir_any W b S s hW HO.out p
    go_enter Tryz.func25, Tryz.ntmps25
    go_wp2_with fail
    refine (hcl _ (H.out.below' (by exact belC (Below.refl _ _)))).mono ?_
    rintro e w2 ⟨rfl, hT, hM⟩
    have HT := Lib.hid hT
    have HM := Lib.hid hM
    clear hT hM
    go_wp2_with fail
    go_ret
    exact ⟨rfl, HT.out, (Mod.of_below (by exact belC (Below.refl _ _))).trans HM.out⟩
  by_cases h3 : k = 3
  · subst h3
    rw [show s.step 3 z p q = (s.mk' p 2).run s from rfl]
    have hcl := fun W hW => trCreate_any W b S s hW HO.out p
    go_enter Tryz.func25, Tryz.ntmps25
    go_wp2_with fail
    refine (hcl _ (H.out.below' (by exact belC (Below.refl _ _)))).mono ?_
    rintro e w2 ⟨rfl, hT, hM⟩
    have HT := Lib.hid hT
    have HM := Lib.hid hM
    clear hT hM
    go_wp2_with fail
    go_ret
    exact ⟨rfl, HT.out, (Mod.of_below (by exact belC (Below.refl _ _))).trans HM.out⟩
  by_cases h4 : k = 4
  · subst h4
    rw [show s.step 4 z p q = (s.lnk p q).run s from rfl]
    have hcl := fun W hW => trLink_any W b S s hW HO.out p q
    go_enter Tryz.func25, Tryz.ntmps25
    go_wp2_with fail
    refine (hcl _ (H.out.below' (by exact belC (Below.refl _ _)))).mono ?_
    rintro e w2 ⟨rfl, hT, hM⟩
    have HT := Lib.hid hT
    have HM := Lib.hid hM
    clear hT hM
    go_wp2_with fail
    go_ret
    exact ⟨rfl, HT.out, (Mod.of_below (by exact belC (Below.refl _ _))).trans HM.out⟩
  by_cases h5 : k = 5
  · subst h5
    rw [show s.step 5 z p q = (s.unlink p).run s from rfl]
    have hcl := fun W hW => trUnlink_any W b S s hW HO.out p
    go_enter Tryz.func25, Tryz.ntmps25
    go_wp2_with fail
    refine (hcl _ (H.out.below' (by exact belC (Below.refl _ _)))).mono ?_
    rintro e w2 ⟨rfl, hT, hM⟩
    have HT := Lib.hid hT
    have HM := Lib.hid hM
    clear hT hM
    go_wp2_with fail
    go_ret
    exact ⟨rfl, HT.out, (Mod.of_below (by exact belC (Below.refl _ _))).trans HM.out⟩
  by_cases h6 : k = 6
  · subst h6
    rw [show s.step 6 z p q = (s.rename p q).run s from rfl]
    have hcl := fun W hW => trRename_any W b S s hW HO.out p q
    go_enter Tryz.func25, Tryz.ntmps25
    go_wp2_with fail
    refine (hcl _ (H.out.below' (by exact belC (Below.refl _ _)))).mono ?_
    rintro e w2 ⟨rfl, hT, hM⟩
    have HT := Lib.hid hT
    have HM := Lib.hid hM
    clear hT hM
    go_wp2_with fail
    go_ret
    exact ⟨rfl, HT.out, (Mod.of_below (by exact belC (Below.refl _ _))).trans HM.out⟩
  by_cases h7 : k = 7
  · subst h7
    rw [show s.step 7 z p q = (s.trunc p z).run s from rfl]
    have hcl := fun W hW => trTruncate_any W b S s hW HO.out p z
    go_enter Tryz.func25, Tryz.ntmps25
    go_wp2_with fail
    refine (hcl _ (H.out.below' (by exact belC (Below.refl _ _)))).mono ?_
    rintro e w2 ⟨rfl, hT, hM⟩
    have HT := Lib.hid hT
    have HM := Lib.hid hM
    clear hT hM
    go_wp2_with fail
    go_ret
    exact ⟨rfl, HT.out, (Mod.of_below (by exact belC (Below.refl _ _))).trans HM.out⟩
  rw [show s.step k z p q = (0, s) from by unfold TrS.step; rw [if_neg h1, if_neg h2, if_neg h3, if_neg h4, if_neg h5, if_neg h6, if_neg h7]]
  go_enter Tryz.func25, Tryz.ntmps25
  go_wp2_with fail
  go_ret
  exact ⟨rfl, H.out.below' (by exact belC (Below.refl _ _)), Mod.of_below (by exact belC (Below.refl _ _))⟩
def Fair22Post (w : World) (n : Nat) (e : Ending) (w' : World) : Prop := ∃ v : Bool, e = .returned (.bool v) ∧ (v = true → n ≤ 100) ∧ Below w.heap.size w w'
set_option maxRecDepth 100000 in
set_option maxHeartbeats 4000000 in
theorem fair22_any (w : World) (oa : Option Addr) (cap : Nat) (ps : List St22) (h : Sts22 w oa ps) (hn : ps.length ≤ 9223372036854775807) :
    Calls Tryz.prog 24 #[.slice oa ps.length cap] w (Fair22Post w ps.length) := by
  have H := Lib.hid h
  clear h
  go_enter Tryz.func24, Tryz.ntmps24
  go_wp2_with fail
  go_loopg [3] ps.length (fun g s3 wr => ∃ i : Nat, g = ps.length - i ∧ i ≤ ps.length ∧ s3 = .int .i64 i ∧ wr = w)
  case atStart => exact ⟨0, rfl, Nat.zero_le _, rfl, rfl⟩
  case round =>
    obtain ⟨i, rfl, hi, rfl, rfl⟩ := hrel
    by_cases hlt : i < ps.length
    · obtain ⟨b, off, rfl, hb, hc⟩ := H.out (by omega)
      obtain ⟨-, -, c2, c3⟩ := hc i hlt
      generalize ps.getD i default = x at c2 c3
      obtain ⟨xk, xz, xp, xq⟩ := x
      simp only at c2 c3
      have i0 : (0 : Int) ≤ i := by omega
      have i1 : (i : Int) < ps.length := by omega
      clear hc
      go_wp2_with fail
      all_goals first
        | (go_ret; exact ⟨false, rfl, fun h => (by cases h), Below.refl _ _⟩)
        | (go_roundg (ps.length - (i + 1))
           case measure => omega
           case rel => exact ⟨i + 1, rfl, by omega, by go_num, rfl⟩)
    · obtain rfl : i = ps.length := by omega
      clear hlt hi
      go_wp2_with fail
      go_ret
      refine ⟨decide ((ps.length : Int) ≤ 100), rfl, fun h => ?_, Below.refl _ _⟩
      have := of_decide_eq_true h
      omega
end Go.Proofs.YtakbalmbkokklaaGreat
