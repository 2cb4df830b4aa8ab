import Derived.Test.YtmnkackkeppheaaGreatPkDir
import Derived.Test.YtmnkackkeppheaaGreatShelf4
import Derived.StillTailTactics
import Derived.Deep.DrawnRows
import Derived.Shelf.SlSortCmp.NoneTotal
/- package handle: the map's keys; New, client, Of, Close, Lease -/
namespace Esch
open Go Go.RowKit
abbrev HK := Int × Int
abbrev Hd := HK × Int
structure HdS where
  m : List Hd
  ls : List Int
def kH (k : HK) : Value := .agg #[.int .i64 k.1, .int .i64 k.2]
section
variable {P : Program} {t e : TypeId}
theorem keyOK_2i (ht : P.underlying t = some (.array 2 e)) (he : P.underlying e = some (.int .i64)) (hs : ∀ w, (Go.sizeOf e).run P w = .ok 1 w) : KeyOK P t kH := by
  refine keyOK_agg ht (fun a v => by cases v <;> simp [Instr.sameNow]) (fun a b w => ?_) (fun eb k w => ?_) (fun k => ?_)
  · show (Op.equalIn (9998 + 1 + 1) t (kH a) (kH b)).run P w = _
    generalize 9998 = n
    unfold Op.equalIn
    rw [run_bind' _ _ _ _ (run_underlying ht w)]
    obtain ⟨a1, a2⟩ := a
    obtain ⟨b1, b2⟩ := b
    simp only [kH]
    rw [run_bind' _ _ _ _ (hs w)]
    have f1 := fun w => part_int he (#[Value.int .i64 a1, Value.int .i64 a2] : Array Value) 0 (.int .i64 a1) rfl w
    have f2 := fun w => part_int he (#[Value.int .i64 b1, Value.int .i64 b2] : Array Value) 0 (.int .i64 b1) rfl w
    have g1 := fun w => part_int he (#[Value.int .i64 a1, Value.int .i64 a2] : Array Value) 1 (.int .i64 a2) rfl w
    have g2 := fun w => part_int he (#[Value.int .i64 b1, Value.int .i64 b2] : Array Value) 1 (.int .i64 b2) rfl w
    have q1 := fun w => equal_int he a1 b1 w n
    have q2 := fun w => equal_int he a2 b2 w n
    by_cases h : a1 = b1
    · subst h
      by_cases h2 : a2 = b2
      · subst h2
        simp [show List.range' 0 2 = [0, 1] from rfl, f1, g1, q1, q2, Result.andThen]
      · simp [show List.range' 0 2 = [0, 1] from rfl, f1, f2, g1, g2, q1, q2, Result.andThen, h2]
    · simp [show List.range' 0 2 = [0, 1] from rfl, f1, f2, q1, Result.andThen, h]
  · show (Instr.checkKey eb (9998 + 1 + 1) t (kH k)).run P w = _
    generalize 9998 = n
    unfold Instr.checkKey
    rw [run_bind' _ _ _ _ (run_underlying ht w)]
    obtain ⟨a1, a2⟩ := k
    have f1 := fun w => part_int he (#[Value.int .i64 a1, Value.int .i64 a2] : Array Value) 0 (.int .i64 a1) rfl w
    have g1 := fun w => part_int he (#[Value.int .i64 a1, Value.int .i64 a2] : Array Value) 1 (.int .i64 a2) rfl w
    simp [show List.range' 0 2 = [0, 1] from rfl, kH, f1, g1, hs, check_int he, Result.andThen]
  · show Instr.sameBits (9998 + 1 + 1) _ _ = true
    generalize 9998 = n
    simp [Instr.sameBits, kH]
end
/-- handles and leases as they lie -/
structure HdlAt (w : World) (b : Nat) (S : Nat → Prop) (s : HdS) : Prop where
  sb : S b
  lt : ∀ k, S k → k < w.heap.size
  len : s.ls.length = 8
  ex : ∃ mb, w.cell? ⟨b, 0, none⟩ = some (.map (some mb)) ∧ (∀ i, i < 8 → w.cell? ⟨b, 1 + i, none⟩ = some (.int .i64 (s.ls.getD i 0)) ∧ w.frozen? ⟨b, 1 + i, none⟩ = false) ∧ MpAt w mb kH iV s.m ∧ S mb ∧ mb ≠ b
theorem HdlAt.mod {w w' : World} {b : Nat} {S F : Nat → Prop} {s : HdS} (h : HdlAt w b S s) (hM : Mod F w w') (hF : ∀ k, S k → ¬ F k) : HdlAt w' b S s := by
  obtain ⟨sb, lt, ln, mb, c0, c1, hm, sm, n1⟩ := h
  exact ⟨sb, fun k hk => Nat.lt_of_lt_of_le (lt k hk) hM.size, ln, mb, hM.at c0 (hF b sb), fun i hi => ⟨hM.at (c1 i hi).1 (hF b sb), (hM.frozen (p := ⟨b, 1 + i, none⟩) (cell_lt c0) (hF b sb)).trans (c1 i hi).2⟩, hm.mod hM (hF mb sm), sm, n1⟩
theorem HdlAt.below' {w w' : World} {b : Nat} {S : Nat → Prop} {s : HdS} (h : HdlAt w b S s) (hB : Below w.heap.size w w') : HdlAt w' b S s := h.mod (F := none') (Mod.of_below hB) fun _ _ => id
def clientB (c : Int) : Bool := decide (0 ≤ c) && decide (c < 8)
def HdS.of (s : HdS) (c n : Int) : Option Int := get s.m (c, n)
def HdS.lease (s : HdS) (c : Int) : Int := if clientB c then s.ls.getD c.toNat 0 else 0
def HdS.renew (s : HdS) (c t : Int) : Int × HdS := if clientB c = false ∨ t < 0 ∨ 1099511627776 < t then (1, s) else (0, { s with ls := s.ls.set c.toNat (max (s.ls.getD c.toNat 0) t) })
def hd0 : HdS := ⟨[], List.replicate 8 0⟩
end Esch
namespace Go.Proofs.YtmnkackkeppheaaGreat
open Go.RowKit Esch Go.Shelf

theorem keyHd : KeyOK Tryz.prog 182 kH := keyOK_2i Tryz.underlying182 Tryz.underlying3 (fun w => by kernel_rfl)
theorem client_any (c : Int) (w : World) : Calls Tryz.prog 84 #[.int .i64 c] w fun e w' => e = .returned (.bool (clientB c)) ∧ w' = w := by
  go_enter Tryz.func84, Tryz.ntmps84
  go_wp2
  all_goals
    go_ret
    refine ⟨?_, rfl⟩
    first | (simp [clientB, *]; done) | (simp [clientB]; omega)
set_option maxHeartbeats 1000000 in
theorem hdlNew_any (w : World) : Calls Tryz.prog 47 #[] w fun e w' => ∃ b, e = .returned (.pointer (some ⟨b, 0, none⟩)) ∧ HdlAt w' b (fun k => w.heap.size ≤ k ∧ k < w'.heap.size) hd0 ∧ Below w.heap.size w w' := by
  have hmm := @run_makeMap Tryz.prog
  go_enter Tryz.func47, Tryz.ntmps47
  go_wp2_with fail
  go_ret
  refine ⟨w.heap.size + 1, rfl, ⟨⟨by omega, by simp⟩, fun k hk => hk.2, rfl, w.heap.size, by go_simp, fun i hi => ?_, ⟨#[], 0, ?_, rfl, List.nodup_nil, List.Pairwise.nil, fun e h => by simp at h⟩, ⟨Nat.le_refl _, by simp; omega⟩, by omega⟩, by exact belC (Below.refl _ _)⟩
  · have : i = 0 ∨ i = 1 ∨ i = 2 ∨ i = 3 ∨ i = 4 ∨ i = 5 ∨ i = 6 ∨ i = 7 := by omega
    rcases this with rfl | rfl | rfl | rfl | rfl | rfl | rfl | rfl <;> exact ⟨by go_simp; rfl, by go_simp⟩
  · rw [alloc_old _ _ _ (by simp), alloc_new]
theorem _root_.Esch.HdlAt.put {w W : World} {b mb : Nat} {S : Nat → Prop} {s : HdS} {m' : List Hd} (h : HdlAt w b S s) (c0 : w.cell? ⟨b, 0, none⟩ = some (.map (some mb))) (hM : Mod (· = mb) w W) (hm : MpAt W mb kH iV m') : HdlAt W b S { s with m := m' } ∧ Mod S w W := by
  obtain ⟨sb, lt, ln, mb', d0, c1, -, sm, n1⟩ := h
  obtain rfl : mb' = mb := by rw [d0] at c0; cases c0; rfl
  have hb : ¬ b = mb' := fun e => n1 e.symm
  exact ⟨⟨sb, fun k hk => Nat.lt_of_lt_of_le (lt k hk) hM.size, ln, mb', hM.at d0 hb, fun i hi => ⟨hM.at (c1 i hi).1 hb, (hM.frozen (p := ⟨b, 1 + i, none⟩) (cell_lt d0) hb).trans (c1 i hi).2⟩, hm, sm, n1⟩, hM.mono fun k _ hk => by rcases hk with rfl; assumption⟩
end Go.Proofs.YtmnkackkeppheaaGreat
/- package handle: Lease, Renew -/
namespace Go.Proofs.YtmnkackkeppheaaGreat
open Go.RowKit Esch Go.Shelf

set_option maxHeartbeats 1000000 in
theorem hdlLease_any (w : World) (b : Nat) (S : Nat → Prop) (s : HdS) (h : HdlAt w b S s) (c : Int) :
    Calls Tryz.prog 55 #[.pointer (some ⟨b, 0, none⟩), .int .i64 c] w fun e w' => e = .returned (.int .i64 (s.lease c)) ∧ w' = w := by
  obtain ⟨sb, lt, ln, mb, c0, c1, hm, sm, n1⟩ := h
  have hcl := fun W => client_any c W
  unfold HdS.lease
  cases hc : clientB c
  · rw [hc] at hcl
    clear hm c1 hc
    go_enter Tryz.func55, Tryz.ntmps55
    go_wp2_with (go_at_call 84; refine (hcl _).mono ?_; rintro e w' ⟨rfl, rfl⟩)
    go_ret
    exact ⟨rfl, rfl⟩
  · rw [hc] at hcl
    obtain ⟨k, rfl⟩ : ∃ k : Nat, c = k := ⟨c.toNat, by simp [clientB] at hc; omega⟩
    have hk : k < 8 := by simp [clientB] at hc; omega
    have e0 := (c1 k hk).1
    rw [if_pos rfl]
    simp only [Int.toNat_natCast]
    generalize s.ls.getD k 0 = x at e0 ⊢
    clear hm c1 hc
    go_enter Tryz.func55, Tryz.ntmps55
    go_wp2_with (go_at_call 84; refine (hcl _).mono ?_; rintro e w' ⟨rfl, rfl⟩)
    go_ret
    exact ⟨rfl, rfl⟩
def RenewPost (w : World) (b : Nat) (S : Nat → Prop) (r : Int × HdS) (e : Ending) (w' : World) : Prop := e = .returned (.int .i64 r.1) ∧ HdlAt w' b S r.2 ∧ Mod S w w'
set_option maxRecDepth 100000 in
set_option maxHeartbeats 2000000 in
theorem hdlRenew_any (w : World) (b : Nat) (S : Nat → Prop) (s : HdS) (h : HdlAt w b S s) (c t : Int) :
    Calls Tryz.prog 95 #[.pointer (some ⟨b, 0, none⟩), .int .i64 c, .int .i64 t] w (RenewPost w b S (s.renew c t)) := by
  have H := Lib.hid h
  obtain ⟨sb, lt, ln, mb, c0, c1, hm, sm, n1⟩ := h
  have hcl := fun W => client_any c W
  obtain ⟨r, hr⟩ : ∃ r, r = s.renew c t := ⟨_, rfl⟩
  rw [← hr]
  unfold HdS.renew at hr
  cases hc : clientB c
  · rw [hc] at hcl
    clear hm c1
    rw [if_pos (by simp [*])] at hr
    subst hr
    go_enter Tryz.func95, Tryz.ntmps95
    go_wp2_with (go_at_call 84; refine (hcl _).mono ?_; rintro e w' ⟨rfl, rfl⟩)
    go_ret
    exact ⟨rfl, H.out, Mod.refl _ _⟩
  rw [hc] at hcl
  by_cases h1 : t < 0
  · have q1 : decide (t < 0) = true := decide_eq_true h1
    clear hm c1
    rw [if_pos (by simp [*])] at hr
    subst hr
    go_enter Tryz.func95, Tryz.ntmps95
    go_wp2_with (go_at_call 84; refine (hcl _).mono ?_; rintro e w' ⟨rfl, rfl⟩)
    go_ret
    exact ⟨rfl, H.out, Mod.refl _ _⟩
  have q1 : decide (t < 0) = false := decide_eq_false h1
  by_cases h2 : 1099511627776 < t
  · have q2 : decide (1099511627776 < t) = true := decide_eq_true h2
    clear hm c1
    rw [if_pos (by simp [*])] at hr
    subst hr
    go_enter Tryz.func95, Tryz.ntmps95
    go_wp2_with (go_at_call 84; refine (hcl _).mono ?_; rintro e w' ⟨rfl, rfl⟩)
    go_ret
    exact ⟨rfl, H.out, Mod.refl _ _⟩
  have q2 : decide (1099511627776 < t) = false := decide_eq_false h2
  rw [if_neg (by simp [hc, h1, h2])] at hr
  obtain ⟨k, rfl⟩ : ∃ k : Nat, c = k := ⟨c.toNat, by simp [clientB] at hc; omega⟩
  have hk : k < 8 := by simp [clientB] at hc; omega
  have e0 := (c1 k hk).1
  have f0 := (c1 k hk).2
  simp only [Int.toNat_natCast] at hr
  have hkI : (k : Int) < 8 := by omega
  have hX : ∀ W, W = w.setCell ⟨b, 1 + k, none⟩ (.int .i64 (max (s.ls.getD k 0) t)) → RenewPost w b S r (.returned (.int .i64 0)) W := fun W hW => by
    subst hW
    subst hr
    refine ⟨rfl, ⟨sb, fun k' hk' => by simpa using lt k' hk', by simpa using ln, mb, by go_simp, fun i hi => ⟨?_, ?_⟩, hm.mod (F := (· = b)) ((Mod.refl (· = b) w).setCellAt (fun _ => rfl) _) n1, sm, n1⟩, (Mod.refl S w).setCellAt (fun _ => sb) _⟩
    · by_cases e : i = k
      · subst e
        have : (s.ls.set i (max (s.ls.getD i 0) t)).getD i 0 = max (s.ls.getD i 0) t := by rw [List.getD_eq_getElem?_getD, List.getElem?_set_self (by omega)]; rfl
        rw [this]
        go_simp
      · have : (s.ls.set k (max (s.ls.getD k 0) t)).getD i 0 = s.ls.getD i 0 := by rw [List.getD_eq_getElem?_getD, List.getElem?_set_ne (fun h => e h.symm), List.getD_eq_getElem?_getD]
        rw [this]
        have := (c1 i hi).1
        have hne : ¬ 1 + i = 1 + k := by omega
        go_simp
    · have := (c1 i hi).2
      go_simp
  generalize s.ls.getD k 0 = x at e0 hX
  have HX := Lib.hid hX
  clear hm c1 hc hr hX
  go_enter Tryz.func95, Tryz.ntmps95
  go_wp2_with (go_at_call 84; refine (hcl _).mono ?_; rintro e w' ⟨rfl, rfl⟩)
  refine region_tail 13 (by kernel_rfl) (by kernel_rfl) (fun T hT K hK => ?_)
  simp only [List.take_succ_cons, List.take_zero]
  repeat still_step
  refine wpStill_nil (hK _ ?_)
  clear hK
  simp only [List.drop_succ_cons, List.drop_zero] at hT
  subst hT
  go_wp2
  go_ret
  obtain ⟨a1, a2, a3⟩ := HX.out _ rfl
  exact ⟨a1, a2.below' ((Below.refl _ _).drew), a3.drew⟩
end Go.Proofs.YtmnkackkeppheaaGreat
/- package handle: All, in order -/
namespace Esch
open Go Go.RowKit
def hkLt (a b : HK) : Bool := decide (a.1 < b.1) || (decide (a.1 = b.1) && decide (a.2 < b.2))
theorem hkLt_total {a b : HK} (h1 : hkLt a b = false) (h2 : hkLt b a = false) : a = b := by
  obtain ⟨a1, a2⟩ := a
  obtain ⟨b1, b2⟩ := b
  simp [hkLt] at h1 h2
  have e : a1 = b1 := by omega
  have e2 : a2 = b2 := by omega
  rw [e, e2]
theorem hkLt_trans {a b c : HK} (h1 : hkLt a b = true) (h2 : hkLt b c = true) : hkLt a c = true := by
  simp [hkLt] at *
  omega
theorem hkLt_irrefl (a : HK) : hkLt a a = false := by simp [hkLt]
theorem hkLt_asymm {a b : HK} (h : hkLt a b = true) : hkLt b a = false := by
  cases e : hkLt b a
  · rfl
  · have := hkLt_trans h e
    rw [hkLt_irrefl] at this; cases this
def hdLt (x y : Hd) : Bool := hkLt x.1 y.1
theorem hdLt_swo : Sort.SWO hdLt where
  irrefl x := hkLt_irrefl _
  trans x y z := hkLt_trans
  ntrans x y z h1 h2 := by
    cases e : hdLt x z
    · rfl
    · exfalso
      unfold hdLt at *
      simp [hkLt] at h1 h2 e
      omega
/-- the handles, in order -/
def HSorted (m l : List Hd) : Prop := l.Perm m ∧ l.Pairwise (fun x y => hdLt x y = true)
theorem hsorted_strict {l : List Hd} (hs : l.Pairwise (fun x y => hdLt y x = false)) (hn : (l.map (·.1)).Nodup) : l.Pairwise (fun x y => hdLt x y = true) := by
  induction l with
  | nil => exact List.Pairwise.nil
  | cons a l ih =>
    rw [List.pairwise_cons] at hs ⊢
    rw [List.map_cons, List.nodup_cons] at hn
    refine ⟨fun b hb => ?_, ih hs.2 hn.2⟩
    cases e : hdLt a b
    · exact absurd (List.mem_map.2 ⟨b, hb, (hkLt_total e (hs.1 b hb)).symm⟩) hn.1
    · rfl
theorem HSorted.unique {m m' l k : List Hd} (hl : HSorted m l) (hk : HSorted m' k) (hm : m.Perm m') : l = k :=
  ((hl.1.trans hm).trans hk.1.symm).eq_of_pairwise (fun a b _ _ h1 h2 => by
    have := hkLt_asymm h1
    unfold hdLt at h2
    rw [this] at h2; cases h2) hl.2 hk.2
def hdC (e : Hd) : List Value := [.int .i64 e.1.1, .int .i64 e.1.2, .int .i64 e.2]
/-- handles in memory -/
def HdsAt (S : Nat → Prop) (w : World) (a : Option Addr) (l : List Hd) : Prop :=
  0 < l.length → ∃ b off, a = some ⟨b, off, none⟩ ∧ S b ∧ b < w.heap.size ∧ ∀ i, i < l.length → w.cell? ⟨b, off + i * 3, none⟩ = some (.int .i64 (l.getD i default).1.1) ∧ w.cell? ⟨b, off + i * 3 + 1, none⟩ = some (.int .i64 (l.getD i default).1.2) ∧ w.cell? ⟨b, off + i * 3 + 2, none⟩ = some (.int .i64 (l.getD i default).2)
theorem HdsAt.nil (S : Nat → Prop) (w : World) (a : Option Addr) : HdsAt S w a [] := fun h => absurd h (by simp)
theorem HdsAt.mod {S F : Nat → Prop} {w w' : World} {a : Option Addr} {l : List Hd} (h : HdsAt S w a l) (hM : Mod F w w') (hS : ∀ k, S k → k < w.heap.size → ¬ F k) : HdsAt S w' a l := fun h0 => by
  obtain ⟨b, off, e, hb, hl, hc⟩ := h h0
  refine ⟨b, off, e, hb, Nat.lt_of_lt_of_le hl hM.size, fun i hi => ?_⟩
  obtain ⟨h1, h2, h3⟩ := hc i hi
  exact ⟨hM.at h1 (hS b hb hl), hM.at h2 (hS b hb hl), hM.at h3 (hS b hb hl)⟩
theorem HdsAt.below {S : Nat → Prop} {w w' : World} {a : Option Addr} {l : List Hd} (h : HdsAt S w a l) (hB : Below w.heap.size w w') : HdsAt S w' a l := h.mod (F := none') (Mod.of_below hB) fun _ _ _ => id
end Esch
namespace Go.Proofs.YtmnkackkeppheaaGreat
open Go.RowKit Esch Go.Shelf

def cmpH (x y : Hd) : Int := if cmpI x.1.1 y.1.1 = 0 then cmpI x.1.2 y.1.2 else cmpI x.1.1 y.1.1
theorem cmpH_lt (x y : Hd) : ltOf cmpH x y = hdLt x y := by
  unfold ltOf cmpH hdLt hkLt cmpI
  by_cases h1 : x.1.1 < y.1.1
  · simp [h1]
  · by_cases h2 : y.1.1 < x.1.1
    · have : ¬ x.1.1 = y.1.1 := by omega
      simp [h1, h2, this]
    · have : x.1.1 = y.1.1 := by omega
      rw [this]
      by_cases h3 : x.1.2 < y.1.2
      · simp [h3]
      · by_cases h4 : y.1.2 < x.1.2 <;> simp [h3, h4]
set_option maxRecDepth 100000 in
set_option maxHeartbeats 2000000 in
theorem cmpHd_any (W : World) (x y : Hd) : Calls Tryz.prog 81 #[.agg (hdC x).toArray, .agg (hdC y).toArray] W fun e w' => e = .returned (.int .i64 (cmpH x y)) ∧ ∃ q os', w' = Sort.grow (W.drewN q) os' := by
  obtain ⟨⟨xd, xn⟩, xi⟩ := x
  obtain ⟨⟨yd, yn⟩, yi⟩ := y
  simp only [hdC]
  have hci := fun W' => cmpInt_any W' xd yd
  have hcs := fun W' => cmpInt_any W' xn yn
  rw [show cmpH ((xd, xn), xi) ((yd, yn), yi) = if cmpI xd yd = 0 then cmpI xn yn else cmpI xd yd from rfl]
  generalize cmpI xd yd = a at hci ⊢
  generalize cmpI xn yn = b at hcs ⊢
  have hor := fun W' b0 c h0 h1 => cmpOr_any W' b0 a b c h0 h1
  generalize (if a = 0 then b else a) = r at hor ⊢
  obtain ⟨W1, hW1⟩ : ∃ W1, W1 = (W.alloc (.cells #[.int .i64 xd, .int .i64 xn, .int .i64 xi] 108)).alloc (.cells #[.int .i64 yd, .int .i64 yn, .int .i64 yi] 108) := ⟨_, rfl⟩
  have c0 : W1.drew.cell? ⟨W.heap.size, 0, none⟩ = some (.int .i64 xd) := by rw [hW1]; go_simp
  have c1 : W1.drew.cell? ⟨W.heap.size, 1, none⟩ = some (.int .i64 xn) := by rw [hW1]; go_simp
  have c2 : W1.drew.cell? ⟨W.heap.size + 1, 0, none⟩ = some (.int .i64 yd) := by rw [hW1]; go_simp
  have c3 : W1.drew.cell? ⟨W.heap.size + 1, 1, none⟩ = some (.int .i64 yn) := by rw [hW1]; go_simp
  have HW1 := Lib.hid hW1
  clear hW1
  go_enter Tryz.func81, Tryz.ntmps81
  go_wp2_with fail
  rw [← HW1.out]
  refine wp_region_held_drew (S := fun w' => w'.cell? ⟨W.heap.size, 0, none⟩ = some (.int .i64 xd) ∧ w'.cell? ⟨W.heap.size, 1, none⟩ = some (.int .i64 xn) ∧ w'.cell? ⟨W.heap.size + 1, 0, none⟩ = some (.int .i64 yd) ∧ w'.cell? ⟨W.heap.size + 1, 1, none⟩ = some (.int .i64 yn)) (by kernel_rfl) ⟨c0, c1, c2, c3⟩ (fun hHeld => ?_)
  refine takeL 0 ?_
  refine takeL 1 ?_
  refine takeL 2 ?_
  refine takeL 3 ?_
  refine takeL 5 ?_
  refine takeL 6 ?_
  refine takeL 7 ?_
  refine takeL 8 ?_
  refine wpAnyH_ready (rs := [4]) (by kernel_rfl) (by simp) ?_
  refine AllReadyH.cons (o := _) rfl (fun K hK => ?_) AllReadyH.nil
  go_simp
  go_at_call 83
  with_reducible refine (hci _).mono ?_
  clear hci
  rintro e w2 ⟨rfl, rfl⟩
  try go_wp2_with fail
  refine hK.out _ _ ⟨c0, c1, c2, c3⟩ (fun hHeld => ?_)
  clear hK K
  try simp only [Act.put, List.setIfInBounds_toArray, List.set_cons_zero, List.set_cons_succ]
  refine wpAnyH_ready (rs := [9]) (by kernel_rfl) (by simp) ?_
  refine AllReadyH.cons (o := _) rfl (fun K hK => ?_) AllReadyH.nil
  go_simp
  go_at_call 83
  with_reducible refine (hcs _).mono ?_
  clear hcs
  rintro e w2 ⟨rfl, rfl⟩
  try go_wp2_with fail
  refine hK.out _ _ ⟨c0, c1, c2, c3⟩ (fun hHeld => ?_)
  clear hK K
  try simp only [Act.put, List.setIfInBounds_toArray, List.set_cons_zero, List.set_cons_succ]
  refine wpAnyH_ready (rs := [10]) (by kernel_rfl) (by simp) ?_
  refine AllReadyH.cons (o := _) rfl (fun K hK => ?_) AllReadyH.nil
  go_simp
  obtain ⟨W2, hW2⟩ : ∃ W2, W2 = (W1.alloc (.cells #[.int .i64 a, .int .i64 b] 3)).drew := ⟨_, rfl⟩
  have hl : W.heap.size + 1 < W1.heap.size := cell_lt c2
  have d0 : W2.cell? ⟨W1.heap.size, 0, none⟩ = some (.int .i64 a) := by rw [hW2]; go_simp
  have d1 : W2.cell? ⟨W1.heap.size, 1, none⟩ = some (.int .i64 b) := by rw [hW2]; go_simp
  have hB : Below W1.heap.size W1.drew W2 := by
    rw [hW2]
    show Below W1.heap.size W1.drew (W1.drew.alloc _)
    exact belC (Below.refl _ _)
  have e0 := below_at hB c0 (by omega)
  have e1 := below_at hB c1 (by omega)
  have e2 := below_at hB c2 (by omega)
  have e3 := below_at hB c3 (by omega)
  have HW2 := Lib.hid hW2
  rw [← hW2]
  clear hW2 hB
  try go_wp2_with fail
  refine hK.out _ _ ⟨e0, e1, e2, e3⟩ (fun hHeld => ?_)
  clear hK K
  try simp only [Act.put, List.setIfInBounds_toArray, List.set_cons_zero, List.set_cons_succ]
  refine wpAnyH_ready (rs := [11]) (by kernel_rfl) (by simp) ?_
  refine AllReadyH.cons (o := _) rfl (fun K hK => ?_) AllReadyH.nil
  go_simp
  go_at_call 82
  with_reducible refine (hor _ _ _ d0 d1).mono ?_
  clear hor
  rintro e w3 ⟨rfl, rfl⟩
  try go_wp2_with fail
  refine hK.out _ _ ⟨e0, e1, e2, e3⟩ (fun hHeld => ?_)
  clear hK K
  try simp only [Act.put, List.setIfInBounds_toArray, List.set_cons_zero, List.set_cons_succ]
  refine takeL 12 ?_
  refine wpAnyH_done (by kernel_rfl) ?_ _
  go_wp2_with fail
  go_ret
  refine ⟨rfl, 1, #[.cells #[.int .i64 xd, .int .i64 xn, .int .i64 xi] 108, .cells #[.int .i64 yd, .int .i64 yn, .int .i64 yi] 108, .cells #[.int .i64 a, .int .i64 b] 3], ?_⟩
  rw [HW2.out, HW1.out]
  show ((((W.drew).alloc _).alloc _).alloc _) = Sort.grow W.drew _
  rw [Sort.alloc_eq_grow, Sort.alloc_eq_grow, Sort.alloc_eq_grow, Sort.grow_grow, Sort.grow_grow]
  rfl
theorem cmpLaysH (blk off size : Nat) (w : World) : CmpLays Tryz.prog 81 #[] hdC 3 cmpH blk off size w := fun _ _ _ _ x y => cmpHd_any _ x y
end Go.Proofs.YtmnkackkeppheaaGreat
