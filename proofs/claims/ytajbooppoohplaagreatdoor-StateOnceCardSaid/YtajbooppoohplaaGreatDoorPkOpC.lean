import Derived.Test.YtajbooppoohplaaGreatDoorMac
import Derived.Test.YtajbooppoohplaaGreatDoorPkOpB
import Derived.Test.YtajbooppoohplaaGreatDoorPkExt
import Derived.Test.YtajbooppoohplaaGreatDoorPkBase
/- package op: get, a field of a text -/
set_option maxRecDepth 100000
set_option maxHeartbeats 8000000
namespace Esch
open Go Go.RowKit
def OpS.withM (o : OpS) (mp : Option Addr) (ml mc : Nat) : OpS := { o with mp := mp, ml := ml, mc := mc }
/-- a record that is being read: its moves lie in blocks of S -/
def OpBox (w : World) (b : Nat) (S : Nat → Prop) (o : OpS) (mv : List Mv) : Prop := ∃ mp mc, OpAt w b (o.withM mp mv.length mc) ∧ GRowAt w S 4 mv.length mc mp (mv.flatMap mvC)
theorem OpAt.mod {F : Nat → Prop} {w w' : World} {b : Nat} {o : OpS} (h : OpAt w b o) (hM : Mod F w w') (hb : ¬ F b) : OpAt w' b o := by
 have hl : b < w.heap.size := cell_lt (h.1 0 (by decide))
 exact ⟨fun j hj => (hM.cell (p := ⟨b, j, none⟩) hl hb).trans (h.1 j hj), fun j => (hM.frozen (p := ⟨b, j, none⟩) hl hb).trans (h.2 j)⟩
theorem OpBox.mod {F S : Nat → Prop} {w w' : World} {b : Nat} {o : OpS} {mv : List Mv} (h : OpBox w b S o mv) (hM : Mod F w w') (hb : ¬ F b) (hS : ∀ k, S k → ¬ F k) : OpBox w' b S o mv := by
 obtain ⟨mp, mc, h1, h2⟩ := h
 exact ⟨mp, mc, h1.mod hM hb, h2.mod hM (fun k hk _ => hS k hk)⟩
theorem OpBox.set {S : Nat → Prop} {w : World} {b : Nat} {o o' : OpS} {mv : List Mv} (h : OpBox w b S o mv) (hS : ¬ S b) (j : Nat) (v : Value) (hj : j < 12) (hv : ∀ mp ml mc, (o'.withM mp ml mc).cells = (o.withM mp ml mc).cells.set j v) : OpBox (w.setCell ⟨b, j, none⟩ v) b S o' mv := by
 obtain ⟨mp, mc, h1, h2⟩ := h
 exact ⟨mp, mc, h1.set j v hj (hv _ _ _), h2.mod (F := (· = b)) ((Mod.refl (· = b) w).setCellAt (fun _ => rfl) _) (fun k hk _ e => hS (by rw [← e]; exact hk))⟩
theorem OpBox.wide {S T : Nat → Prop} {w : World} {b : Nat} {o : OpS} {mv : List Mv} (h : OpBox w b S o mv) (hS : ∀ k, S k → T k) : OpBox w b T o mv := by
 obtain ⟨mp, mc, h1, h2⟩ := h
 exact ⟨mp, mc, h1, h2.sub fun k _ hk => hS k hk⟩
end Esch
namespace Go.Proofs.YtajbooppoohplaaGreatDoor
open Go.RowKit Esch

def unMv (s : ByteArray) (bad : Bool) : Mv × ByteArray × Bool :=
  let a := unNum s bad 2
  let b := unNum a.2.1 a.2.2 2
  let c := unNum b.2.1 b.2.2 2
  let d := unNum c.2.1 c.2.2 2
  ((a.1, b.1, c.1, d.1), d.2)
def unMvs : Nat → List Mv → ByteArray → Bool → List Mv × ByteArray × Bool
  | 0, l, s, b => (l, s, b)
  | n + 1, l, s, b => unMvs n (l ++ [(unMv s b).1]) (unMv s b).2.1 (unMv s b).2.2
/-- one field of a text, by its letter -/
def getF (o : OpS) (mv : List Mv) (s : ByteArray) (bad : Bool) (c : UInt8) : (OpS × List Mv) × ByteArray × Bool :=
  if c = 112 then (({ o with path := (unText s bad 4096).1.data.toList }, mv), (unText s bad 4096).2)
  else if c = 116 then (({ o with dest := (unText s bad 4096).1.data.toList }, mv), (unText s bad 4096).2)
  else if c = 100 then (({ o with data := (unText s bad 1024).1 }, mv), (unText s bad 1024).2)
  else if c = 107 then (({ o with tick := (unNum s bad 8).1 }, mv), (unNum s bad 8).2)
  else if c = 109 then ((o, (unMvs (min (unNum s bad 1).1 17) mv (unNum s bad 1).2.1 (unNum s bad 1).2.2).1), (unMvs (min (unNum s bad 1).1 17) mv (unNum s bad 1).2.1 (unNum s bad 1).2.2).2)
  else if c = 115 then (({ o with size := (unNum s bad 4).1 }, mv), (unNum s bad 4).2)
  else if c = 104 then (({ o with hd := (unNum s bad 4).1 }, mv), (unNum s bad 4).2)
  else if c = 111 then (({ o with off := (unNum s bad 4).1 }, mv), (unNum s bad 4).2)
  else if c = 105 then (({ o with ino := (unNum s bad 4).1 }, mv), (unNum s bad 4).2)
  else ((o, mv), s, bad)
def GetFPost (w : World) (ub ob : Nat) (S : Nat → Prop) (r : (OpS × List Mv) × ByteArray × Bool) (e : Ending) (w' : World) : Prop :=
  e = .returned (.tuple #[]) ∧ UnpAt w' ub r.2.1 r.2.2 ∧ OpBox w' ob (growI S w w') r.1.1 r.1.2 ∧ Mod (fun k => k = ub ∨ k = ob ∨ S k) w w'
theorem getP_any (w : World) (ub ob : Nat) (S : Nat → Prop) (o : OpS) (mv : List Mv) (s : ByteArray) (bad : Bool) (hU : UnpAt w ub s bad) (hO : OpBox w ob S o mv) (hne : ub ≠ ob) (hSu : ¬ S ub) (hSo : ¬ S ob) :
    Calls Tryz.prog 72 #[.pointer (some ⟨ub, 0, none⟩), .int .u8 112, .pointer (some ⟨ob, 0, none⟩)] w (GetFPost w ub ob S (getF o mv s bad 112)) := by
 have hcall : Calls Tryz.prog 121 #[.pointer (some ⟨ub, 0, none⟩), .int .i64 4096] w (TextPost w ub (unText s bad 4096)) := unText_any w ub s bad 4096 hU
 have hg : getF o mv s bad 112 = (({ o with path := (unText s bad 4096).1.data.toList }, mv), (unText s bad 4096).2) := rfl
 rw [hg]
 obtain ⟨r, hr⟩ : ∃ r, r = unText s bad 4096 := ⟨_, rfl⟩
 rw [← hr] at hcall ⊢
 obtain ⟨v, s1, b1⟩ := r
 simp only at hcall ⊢
 have hOl : ob < w.heap.size := by
  exact mK93
 have HO := Lib.hid hO
 clear hO hU hr
 go_enter Tryz.func72, Tryz.ntmps72
 go_wp2_with fail
 refine hcall.mono ?_
 clear hcall
 rintro e w1 ⟨rfl, hU1, hM1⟩
 simp only at hU1
 have hB1 := HO.out.mod hM1 (fun e => hne e.symm) (fun k hk e => hSu (by rw [← e]; exact hk))
 have z0 : ∃ x, w1.cell? ⟨ob, 3, none⟩ = some x := by
  obtain ⟨mp, mc, h1, h2⟩ := hB1
  exact ⟨_, h1.1 3 (by decide)⟩
 have r0 : w1.frozen? ⟨ob, 3, none⟩ = false := by
  obtain ⟨mp, mc, h1, h2⟩ := hB1
  exact h1.2 3
 obtain ⟨x0, z0⟩ := z0
 have hl1 := cell_lt z0
 have HB1 := Lib.hid hB1
 clear hB1
 go_wp2_with fail
 go_end0
 refine ⟨rfl, ?_, ?_, ?_⟩
 · exact mK92
 · exact (HB1.out.set hSo 3 _ (by decide) (fun _ _ _ => rfl)).wide (fun k hk => Or.inl hk)
 · exact mK91
theorem getT_any (w : World) (ub ob : Nat) (S : Nat → Prop) (o : OpS) (mv : List Mv) (s : ByteArray) (bad : Bool) (hU : UnpAt w ub s bad) (hO : OpBox w ob S o mv) (hne : ub ≠ ob) (hSu : ¬ S ub) (hSo : ¬ S ob) :
    Calls Tryz.prog 72 #[.pointer (some ⟨ub, 0, none⟩), .int .u8 116, .pointer (some ⟨ob, 0, none⟩)] w (GetFPost w ub ob S (getF o mv s bad 116)) := by
 have hcall : Calls Tryz.prog 121 #[.pointer (some ⟨ub, 0, none⟩), .int .i64 4096] w (TextPost w ub (unText s bad 4096)) := unText_any w ub s bad 4096 hU
 have hg : getF o mv s bad 116 = (({ o with dest := (unText s bad 4096).1.data.toList }, mv), (unText s bad 4096).2) := rfl
 rw [hg]
 obtain ⟨r, hr⟩ : ∃ r, r = unText s bad 4096 := ⟨_, rfl⟩
 rw [← hr] at hcall ⊢
 obtain ⟨v, s1, b1⟩ := r
 simp only at hcall ⊢
 have hOl : ob < w.heap.size := by
  exact mK93
 have HO := Lib.hid hO
 clear hO hU hr
 go_enter Tryz.func72, Tryz.ntmps72
 go_wp2_with fail
 refine hcall.mono ?_
 clear hcall
 rintro e w1 ⟨rfl, hU1, hM1⟩
 simp only at hU1
 have hB1 := HO.out.mod hM1 (fun e => hne e.symm) (fun k hk e => hSu (by rw [← e]; exact hk))
 have z0 : ∃ x, w1.cell? ⟨ob, 4, none⟩ = some x := by
  obtain ⟨mp, mc, h1, h2⟩ := hB1
  exact ⟨_, h1.1 4 (by decide)⟩
 have r0 : w1.frozen? ⟨ob, 4, none⟩ = false := by
  obtain ⟨mp, mc, h1, h2⟩ := hB1
  exact h1.2 4
 obtain ⟨x0, z0⟩ := z0
 have hl1 := cell_lt z0
 have HB1 := Lib.hid hB1
 clear hB1
 go_wp2_with fail
 go_end0
 refine ⟨rfl, ?_, ?_, ?_⟩
 · exact mK92
 · exact (HB1.out.set hSo 4 _ (by decide) (fun _ _ _ => rfl)).wide (fun k hk => Or.inl hk)
 · exact mK91
theorem getD_any (w : World) (ub ob : Nat) (S : Nat → Prop) (o : OpS) (mv : List Mv) (s : ByteArray) (bad : Bool) (hU : UnpAt w ub s bad) (hO : OpBox w ob S o mv) (hne : ub ≠ ob) (hSu : ¬ S ub) (hSo : ¬ S ob) :
    Calls Tryz.prog 72 #[.pointer (some ⟨ub, 0, none⟩), .int .u8 100, .pointer (some ⟨ob, 0, none⟩)] w (GetFPost w ub ob S (getF o mv s bad 100)) := by
 have hcall : Calls Tryz.prog 121 #[.pointer (some ⟨ub, 0, none⟩), .int .i64 1024] w (TextPost w ub (unText s bad 1024)) := unText_any w ub s bad 1024 hU
 have hg : getF o mv s bad 100 = (({ o with data := (unText s bad 1024).1 }, mv), (unText s bad 1024).2) := rfl
 rw [hg]
 obtain ⟨r, hr⟩ : ∃ r, r = unText s bad 1024 := ⟨_, rfl⟩
 rw [← hr] at hcall ⊢
 obtain ⟨v, s1, b1⟩ := r
 simp only at hcall ⊢
 have hOl : ob < w.heap.size := by
  exact mK93
 have HO := Lib.hid hO
 clear hO hU hr
 go_enter Tryz.func72, Tryz.ntmps72
 go_wp2_with fail
 refine hcall.mono ?_
 clear hcall
 rintro e w1 ⟨rfl, hU1, hM1⟩
 simp only at hU1
 have hB1 := HO.out.mod hM1 (fun e => hne e.symm) (fun k hk e => hSu (by rw [← e]; exact hk))
 have z0 : ∃ x, w1.cell? ⟨ob, 8, none⟩ = some x := by
  obtain ⟨mp, mc, h1, h2⟩ := hB1
  exact ⟨_, h1.1 8 (by decide)⟩
 have r0 : w1.frozen? ⟨ob, 8, none⟩ = false := by
  obtain ⟨mp, mc, h1, h2⟩ := hB1
  exact h1.2 8
 obtain ⟨x0, z0⟩ := z0
 have hl1 := cell_lt z0
 have HB1 := Lib.hid hB1
 clear hB1
 go_wp2_with fail
 go_end0
 refine ⟨rfl, ?_, ?_, ?_⟩
 · exact mK92
 · exact (HB1.out.set hSo 8 _ (by decide) (fun _ _ _ => rfl)).wide (fun k hk => Or.inl hk)
 · exact mK91
theorem getK_any (w : World) (ub ob : Nat) (S : Nat → Prop) (o : OpS) (mv : List Mv) (s : ByteArray) (bad : Bool) (hU : UnpAt w ub s bad) (hO : OpBox w ob S o mv) (hne : ub ≠ ob) (hSu : ¬ S ub) (hSo : ¬ S ob) :
    Calls Tryz.prog 72 #[.pointer (some ⟨ub, 0, none⟩), .int .u8 107, .pointer (some ⟨ob, 0, none⟩)] w (GetFPost w ub ob S (getF o mv s bad 107)) := by
 have hcall : Calls Tryz.prog 70 #[.pointer (some ⟨ub, 0, none⟩), .int .i64 8] w (NumPost w ub (unNum s bad 8)) := unNum_any w ub s bad 8 rfl hU
 have hg : getF o mv s bad 107 = (({ o with tick := (unNum s bad 8).1 }, mv), (unNum s bad 8).2) := rfl
 rw [hg]
 obtain ⟨r, hr⟩ : ∃ r, r = unNum s bad 8 := ⟨_, rfl⟩
 rw [← hr] at hcall ⊢
 obtain ⟨v, s1, b1⟩ := r
 simp only at hcall ⊢
 have hOl : ob < w.heap.size := by
  exact mK93
 have HO := Lib.hid hO
 clear hO hU hr
 go_enter Tryz.func72, Tryz.ntmps72
 go_wp2_with fail
 refine hcall.mono ?_
 clear hcall
 rintro e w1 ⟨rfl, hU1, hM1⟩
 simp only at hU1
 have hB1 := HO.out.mod hM1 (fun e => hne e.symm) (fun k hk e => hSu (by rw [← e]; exact hk))
 have z0 : ∃ x, w1.cell? ⟨ob, 9, none⟩ = some x := by
  obtain ⟨mp, mc, h1, h2⟩ := hB1
  exact ⟨_, h1.1 9 (by decide)⟩
 have r0 : w1.frozen? ⟨ob, 9, none⟩ = false := by
  obtain ⟨mp, mc, h1, h2⟩ := hB1
  exact h1.2 9
 obtain ⟨x0, z0⟩ := z0
 have hl1 := cell_lt z0
 have HB1 := Lib.hid hB1
 clear hB1
 go_wp2_with fail
 go_end0
 refine ⟨rfl, ?_, ?_, ?_⟩
 · exact mK92
 · exact (HB1.out.set hSo 9 _ (by decide) (fun _ _ _ => rfl)).wide (fun k hk => Or.inl hk)
 · exact mK91
theorem getS_any (w : World) (ub ob : Nat) (S : Nat → Prop) (o : OpS) (mv : List Mv) (s : ByteArray) (bad : Bool) (hU : UnpAt w ub s bad) (hO : OpBox w ob S o mv) (hne : ub ≠ ob) (hSu : ¬ S ub) (hSo : ¬ S ob) :
    Calls Tryz.prog 72 #[.pointer (some ⟨ub, 0, none⟩), .int .u8 115, .pointer (some ⟨ob, 0, none⟩)] w (GetFPost w ub ob S (getF o mv s bad 115)) := by
 have hcall : Calls Tryz.prog 70 #[.pointer (some ⟨ub, 0, none⟩), .int .i64 4] w (NumPost w ub (unNum s bad 4)) := unNum_any w ub s bad 4 rfl hU
 have hg : getF o mv s bad 115 = (({ o with size := (unNum s bad 4).1 }, mv), (unNum s bad 4).2) := rfl
 rw [hg]
 obtain ⟨r, hr⟩ : ∃ r, r = unNum s bad 4 := ⟨_, rfl⟩
 rw [← hr] at hcall ⊢
 obtain ⟨v, s1, b1⟩ := r
 simp only at hcall ⊢
 have hOl : ob < w.heap.size := by
  exact mK93
 have HO := Lib.hid hO
 clear hO hU hr
 go_enter Tryz.func72, Tryz.ntmps72
 go_wp2_with fail
 refine hcall.mono ?_
 clear hcall
 rintro e w1 ⟨rfl, hU1, hM1⟩
 simp only at hU1
 have hB1 := HO.out.mod hM1 (fun e => hne e.symm) (fun k hk e => hSu (by rw [← e]; exact hk))
 have z0 : ∃ x, w1.cell? ⟨ob, 5, none⟩ = some x := by
  obtain ⟨mp, mc, h1, h2⟩ := hB1
  exact ⟨_, h1.1 5 (by decide)⟩
 have r0 : w1.frozen? ⟨ob, 5, none⟩ = false := by
  obtain ⟨mp, mc, h1, h2⟩ := hB1
  exact h1.2 5
 obtain ⟨x0, z0⟩ := z0
 have hl1 := cell_lt z0
 have HB1 := Lib.hid hB1
 clear hB1
 go_wp2_with fail
 go_end0
 refine ⟨rfl, ?_, ?_, ?_⟩
 · exact mK92
 · exact (HB1.out.set hSo 5 _ (by decide) (fun _ _ _ => rfl)).wide (fun k hk => Or.inl hk)
 · exact mK91
theorem getH_any (w : World) (ub ob : Nat) (S : Nat → Prop) (o : OpS) (mv : List Mv) (s : ByteArray) (bad : Bool) (hU : UnpAt w ub s bad) (hO : OpBox w ob S o mv) (hne : ub ≠ ob) (hSu : ¬ S ub) (hSo : ¬ S ob) :
    Calls Tryz.prog 72 #[.pointer (some ⟨ub, 0, none⟩), .int .u8 104, .pointer (some ⟨ob, 0, none⟩)] w (GetFPost w ub ob S (getF o mv s bad 104)) := by
 have hcall : Calls Tryz.prog 70 #[.pointer (some ⟨ub, 0, none⟩), .int .i64 4] w (NumPost w ub (unNum s bad 4)) := unNum_any w ub s bad 4 rfl hU
 have hg : getF o mv s bad 104 = (({ o with hd := (unNum s bad 4).1 }, mv), (unNum s bad 4).2) := rfl
 rw [hg]
 obtain ⟨r, hr⟩ : ∃ r, r = unNum s bad 4 := ⟨_, rfl⟩
 rw [← hr] at hcall ⊢
 obtain ⟨v, s1, b1⟩ := r
 simp only at hcall ⊢
 have hOl : ob < w.heap.size := by
  exact mK93
 have HO := Lib.hid hO
 clear hO hU hr
 go_enter Tryz.func72, Tryz.ntmps72
 go_wp2_with fail
 refine hcall.mono ?_
 clear hcall
 rintro e w1 ⟨rfl, hU1, hM1⟩
 simp only at hU1
 have hB1 := HO.out.mod hM1 (fun e => hne e.symm) (fun k hk e => hSu (by rw [← e]; exact hk))
 have z0 : ∃ x, w1.cell? ⟨ob, 6, none⟩ = some x := by
  obtain ⟨mp, mc, h1, h2⟩ := hB1
  exact ⟨_, h1.1 6 (by decide)⟩
 have r0 : w1.frozen? ⟨ob, 6, none⟩ = false := by
  obtain ⟨mp, mc, h1, h2⟩ := hB1
  exact h1.2 6
 obtain ⟨x0, z0⟩ := z0
 have hl1 := cell_lt z0
 have HB1 := Lib.hid hB1
 clear hB1
 go_wp2_with fail
 go_end0
 refine ⟨rfl, ?_, ?_, ?_⟩
 · exact mK92
 · exact (HB1.out.set hSo 6 _ (by decide) (fun _ _ _ => rfl)).wide (fun k hk => Or.inl hk)
 · exact mK91
theorem getO_any (w : World) (ub ob : Nat) (S : Nat → Prop) (o : OpS) (mv : List Mv) (s : ByteArray) (bad : Bool) (hU : UnpAt w ub s bad) (hO : OpBox w ob S o mv) (hne : ub ≠ ob) (hSu : ¬ S ub) (hSo : ¬ S ob) :
    Calls Tryz.prog 72 #[.pointer (some ⟨ub, 0, none⟩), .int .u8 111, .pointer (some ⟨ob, 0, none⟩)] w (GetFPost w ub ob S (getF o mv s bad 111)) := by
 have hcall : Calls Tryz.prog 70 #[.pointer (some ⟨ub, 0, none⟩), .int .i64 4] w (NumPost w ub (unNum s bad 4)) := unNum_any w ub s bad 4 rfl hU
 have hg : getF o mv s bad 111 = (({ o with off := (unNum s bad 4).1 }, mv), (unNum s bad 4).2) := rfl
 rw [hg]
 obtain ⟨r, hr⟩ : ∃ r, r = unNum s bad 4 := ⟨_, rfl⟩
 rw [← hr] at hcall ⊢
 obtain ⟨v, s1, b1⟩ := r
 simp only at hcall ⊢
 have hOl : ob < w.heap.size := by
  exact mK93
 have HO := Lib.hid hO
 clear hO hU hr
 go_enter Tryz.func72, Tryz.ntmps72
 go_wp2_with fail
 refine hcall.mono ?_
 clear hcall
 rintro e w1 ⟨rfl, hU1, hM1⟩
 simp only at hU1
 have hB1 := HO.out.mod hM1 (fun e => hne e.symm) (fun k hk e => hSu (by rw [← e]; exact hk))
 have z0 : ∃ x, w1.cell? ⟨ob, 7, none⟩ = some x := by
  obtain ⟨mp, mc, h1, h2⟩ := hB1
  exact ⟨_, h1.1 7 (by decide)⟩
 have r0 : w1.frozen? ⟨ob, 7, none⟩ = false := by
  obtain ⟨mp, mc, h1, h2⟩ := hB1
  exact h1.2 7
 obtain ⟨x0, z0⟩ := z0
 have hl1 := cell_lt z0
 have HB1 := Lib.hid hB1
 clear hB1
 go_wp2_with fail
 go_end0
 refine ⟨rfl, ?_, ?_, ?_⟩
 · exact mK92
 · exact (HB1.out.set hSo 7 _ (by decide) (fun _ _ _ => rfl)).wide (fun k hk => Or.inl hk)
 · exact mK91
theorem getI_any (w : World) (ub ob : Nat) (S : Nat → Prop) (o : OpS) (mv : List Mv) (s : ByteArray) (bad : Bool) (hU : UnpAt w ub s bad) (hO : OpBox w ob S o mv) (hne : ub ≠ ob) (hSu : ¬ S ub) (hSo : ¬ S ob) :
    Calls Tryz.prog 72 #[.pointer (some ⟨ub, 0, none⟩), .int .u8 105, .pointer (some ⟨ob, 0, none⟩)] w (GetFPost w ub ob S (getF o mv s bad 105)) := by
 have hcall : Calls Tryz.prog 70 #[.pointer (some ⟨ub, 0, none⟩), .int .i64 4] w (NumPost w ub (unNum s bad 4)) := unNum_any w ub s bad 4 rfl hU
 have hg : getF o mv s bad 105 = (({ o with ino := (unNum s bad 4).1 }, mv), (unNum s bad 4).2) := rfl
 rw [hg]
 obtain ⟨r, hr⟩ : ∃ r, r = unNum s bad 4 := ⟨_, rfl⟩
 rw [← hr] at hcall ⊢
 obtain ⟨v, s1, b1⟩ := r
 simp only at hcall ⊢
 have hOl : ob < w.heap.size := by
  exact mK93
 have HO := Lib.hid hO
 clear hO hU hr
 go_enter Tryz.func72, Tryz.ntmps72
 go_wp2_with fail
 refine hcall.mono ?_
 clear hcall
 rintro e w1 ⟨rfl, hU1, hM1⟩
 simp only at hU1
 have hB1 := HO.out.mod hM1 (fun e => hne e.symm) (fun k hk e => hSu (by rw [← e]; exact hk))
 have z0 : ∃ x, w1.cell? ⟨ob, 10, none⟩ = some x := by
  obtain ⟨mp, mc, h1, h2⟩ := hB1
  exact ⟨_, h1.1 10 (by decide)⟩
 have r0 : w1.frozen? ⟨ob, 10, none⟩ = false := by
  obtain ⟨mp, mc, h1, h2⟩ := hB1
  exact h1.2 10
 obtain ⟨x0, z0⟩ := z0
 have hl1 := cell_lt z0
 have HB1 := Lib.hid hB1
 clear hB1
 go_wp2_with fail
 go_end0
 refine ⟨rfl, ?_, ?_, ?_⟩
 · exact mK92
 · exact (HB1.out.set hSo 10 _ (by decide) (fun _ _ _ => rfl)).wide (fun k hk => Or.inl hk)
 · exact mK91
end Go.Proofs.YtajbooppoohplaaGreatDoor
/- package op: get, the moves -/
namespace Esch
open Go Go.RowKit
theorem mvC_one (m : Mv) : ∀ u ∈ mvC m, u.oneCell' = true := fun u hu => by
  simp only [mvC, List.mem_cons, List.not_mem_nil, or_false] at hu
  rcases hu with rfl | rfl | rfl | rfl <;> rfl
theorem src_mv {P : Program} {W : World} (tx e' : TypeId) (hk : P.underlying tx = some (.slice e')) (b : Nat) (x : Mv) (t : TypeId) (hb : W.heap[b]? = some (.cells (mvC x).toArray t)) (c : Nat) : Src P 4 tx (.slice (some ⟨b, 0, none⟩) 1 c) 1 (mvC x) W := by
 refine Src.ofSlice W hk _ 1 c (mvC x) rfl (fun j u hu => ?_) (mvC_one x)
 exact mK31
end Esch
namespace Go.Proofs.YtajbooppoohplaaGreatDoor
open Go.RowKit Esch

theorem Tryz.infoMv : (Tryz.prog.info? 203).map (fun i => (i.zero, i.size, i.bytes)) = some (some (.agg #[.int .i64 0, .int .i64 0, .int .i64 0, .int .i64 0]), 4, 32) := by kernel_rfl
theorem UnpAt.mod {F : Nat → Prop} {w w' : World} {b : Nat} {s : ByteArray} {bad : Bool} (h : UnpAt w b s bad) (hM : Mod F w w') (hb : ¬ F b) : UnpAt w' b s bad :=
  ⟨hM.at h.c0 hb, hM.at h.c1 hb, (hM.frozen (p := ⟨b, 0, none⟩) (cell_lt h.c0) hb).trans h.f0, (hM.frozen (p := ⟨b, 1, none⟩) (cell_lt h.c0) hb).trans h.f1, h.size⟩
theorem unMvs_len : ∀ (n : Nat) (l : List Mv) (s : ByteArray) (b : Bool), (unMvs n l s b).1.length = l.length + n
  | 0, _, _, _ => rfl
  | n + 1, l, s, b => by rw [unMvs, unMvs_len n]; simp; omega
def MvRel (w1 : World) (ub ob : Nat) (S : Nat → Prop) (o : OpS) (l : List Mv) (s : ByteArray) (bad : Bool) (n : Nat) (g : Nat) (v : Value) (wr : World) : Prop :=
  ∃ (i : Nat) (mv : List Mv) (s1 : ByteArray) (b1 : Bool), g = n - i ∧ i ≤ n ∧ v = .int .i64 i ∧ unMvs (n - i) mv s1 b1 = unMvs n l s bad ∧ mv.length = l.length + i ∧ UnpAt wr ub s1 b1 ∧ OpBox wr ob (growI S w1 wr) o mv ∧ Mod (fun k => k = ub ∨ k = ob ∨ S k) w1 wr
theorem getM_any (w : World) (ub ob : Nat) (S : Nat → Prop) (o : OpS) (mv : List Mv) (s : ByteArray) (bad : Bool) (hU : UnpAt w ub s bad) (hO : OpBox w ob S o mv) (hne : ub ≠ ob) (hSu : ¬ S ub) (hSo : ¬ S ob) (hml : mv.length ≤ 1000) :
    Calls Tryz.prog 72 #[.pointer (some ⟨ub, 0, none⟩), .int .u8 109, .pointer (some ⟨ob, 0, none⟩)] w (GetFPost w ub ob S (getF o mv s bad 109)) := by
 have hcall : Calls Tryz.prog 70 #[.pointer (some ⟨ub, 0, none⟩), .int .i64 1] w (NumPost w ub (unNum s bad 1)) := unNum_any w ub s bad 1 rfl hU
 have hg : getF o mv s bad 109 = ((o, (unMvs (min (unNum s bad 1).1 17) mv (unNum s bad 1).2.1 (unNum s bad 1).2.2).1), (unMvs (min (unNum s bad 1).1 17) mv (unNum s bad 1).2.1 (unNum s bad 1).2.2).2) := rfl
 rw [hg]
 obtain ⟨r, hr⟩ : ∃ r, r = unNum s bad 1 := ⟨_, rfl⟩
 rw [← hr] at hcall ⊢
 obtain ⟨v, s1, b1⟩ := r
 simp only at hcall ⊢
 obtain ⟨fin, hfin⟩ : ∃ fin, fin = unMvs (min v 17) mv s1 b1 := ⟨_, rfl⟩
 rw [← hfin]
 have HFIN := Lib.hid hfin
 have HO := Lib.hid hO
 obtain ⟨n, hn⟩ : ∃ n, n = min v 17 := ⟨_, rfl⟩
 have hnI : (min (v : Int) 17) = (n : Int) := by rw [hn]; omega
 have hn17 : n ≤ 17 := by omega
 have HN := Lib.hid hn
 have hul : ub < w.heap.size := cell_lt hU.c0
 have hol : ob < w.heap.size := by
  exact mK93
 clear hO hU hr hg hfin hn
 go_enter Tryz.func72, Tryz.ntmps72
 go_wp2_with fail
 refine hcall.mono ?_
 clear hcall
 rintro e w1 ⟨rfl, hU1, hM1⟩
 simp only at hU1
 have hB1 := HO.out.mod hM1 (fun e => hne e.symm) (fun k hk e => hSu (by rw [← e]; exact hk))
 have HU1 := Lib.hid hU1
 have HM1 := Lib.hid hM1
 have HB1 := Lib.hid hB1
 clear hU1 hM1 hB1 HO
 go_wp2_with fail
 go_loopg [40] n (fun g sv wr => MvRel w1 ub ob S o mv s1 b1 n g sv wr)
 case atStart => exact ⟨0, mv, s1, b1, rfl, Nat.zero_le _, rfl, by rw [Nat.sub_zero], rfl, HU1.out, HB1.out.wide (fun k hk => Or.inl hk), Mod.refl _ _⟩
 case round =>
  obtain ⟨i, mv2, s2, b2, rfl, hi, rfl, hun, hlen, hU2, hO2, hM2⟩ := hrel
  by_cases hlt : i < n
  · have hil2 : (0 : Int) ≤ i ∧ (i : Int) < n := by omega
    have hms : n - (i + 1) < n - i := by omega
    have hwr1 := Lib.hid (show wrap64 ((i : Int) + 1) = ((i + 1 : Nat) : Int) by unfold wrap64; omega)
    obtain ⟨mp, mc, hOA, hG⟩ := hO2
    have cm : wr.drew.cell? ⟨ob, 11, none⟩ = some (.slice mp mv2.length mc) := hOA.1 11 (by decide)
    have HU2 := Lib.hid (show UnpAt wr.drew ub s2 b2 from ⟨hU2.c0, hU2.c1, hU2.f0, hU2.f1, hU2.size⟩)
    have HM2 := Lib.hid hM2
    have HV2 := Lib.hid ((Mod.refl (· = ub) wr).drew)
    have HUN := Lib.hid hun
    have HLN := Lib.hid hlen
    have HOA := Lib.hid hOA
    have HG := Lib.hid hG
    have hol2 := cell_lt cm
    have hnu : ∀ k, growI S w1 wr k → ¬ k = ub := fun k hk e => by
     subst e
     rcases hk with hk | hk
     · exact hSu hk
     · have := HM1.out.size; omega
    have hno : ∀ k, growI S w1 wr k → ¬ k = ob := fun k hk e => by
     subst e
     rcases hk with hk | hk
     · exact hSo hk
     · have := HM1.out.size; omega
    obtain ⟨j0, hji, hy0, hy1, hy2⟩ := info_parts Tryz.infoMv
    clear hU2 hM2 hun hlen hOA hG
    go_wp2_with fail
    refine anyX_begin 18 (fun W' => W'.cell? ⟨ob, 11, none⟩ = some (.slice mp mv2.length mc)) (by kernel_rfl) cm (fun hHeld => ?_)
    refine takeX 0 ?_
    refine takeX 1 ?_
    refine takeX 2 ?_
    refine takeX 3 ?_
    refine takeX 4 ?_
    refine takeX 5 ?_
    refine takeX 7 ?_
    refine takeX 9 ?_
    refine takeX 11 ?_
    have hnn : Calls Tryz.prog 70 #[.pointer (some ⟨ub, 0, none⟩), .int .i64 2] wr.drew (NumPost wr.drew ub (unNum s2 b2 2)) := unNum_any wr.drew ub s2 b2 2 rfl HU2.out
    obtain ⟨r3, hr3⟩ : ∃ r, r = unNum s2 b2 2 := ⟨_, rfl⟩
    rw [← hr3] at hnn
    have HR3 := Lib.hid hr3
    clear hr3
    refine anyX_ready (rs := [6]) (by kernel_rfl) (by simp) ?_
    refine anyX_cons (o := ?_) ?_ (fun K hK => ?_) ?_
    rotate_left 1
    · simp only [List.getElem?_toArray, List.getElem?_cons_succ, List.getElem?_cons_zero]; rfl
    rotate_left 1
    · exact anyX_nil
    go_simp
    refine hnn.mono ?_
    clear hnn
    rintro e w3 ⟨rfl, hUy, hMy⟩
    have cm := hMy.at cm (fun e => hne e.symm)
    have HU3 := Lib.hid hUy
    have HV3 := Lib.hid (HV2.out.trans hMy)
    clear hUy hMy
    try go_wp2_with fail
    refine hK.out _ _ cm (fun hHeld => ?_)
    clear hK K
    try simp only [Act.put, List.setIfInBounds_toArray, List.set_cons_zero, List.set_cons_succ]
    have hnn : Calls Tryz.prog 70 #[.pointer (some ⟨ub, 0, none⟩), .int .i64 2] w3 (NumPost w3 ub (unNum r3.2.1 r3.2.2 2)) := unNum_any w3 ub r3.2.1 r3.2.2 2 rfl HU3.out
    obtain ⟨r4, hr4⟩ : ∃ r, r = unNum r3.2.1 r3.2.2 2 := ⟨_, rfl⟩
    rw [← hr4] at hnn
    have HR4 := Lib.hid hr4
    clear hr4
    refine anyX_ready (rs := [8]) (by kernel_rfl) (by simp) ?_
    refine anyX_cons (o := ?_) ?_ (fun K hK => ?_) ?_
    rotate_left 1
    · simp only [List.getElem?_toArray, List.getElem?_cons_succ, List.getElem?_cons_zero]; rfl
    rotate_left 1
    · exact anyX_nil
    go_simp
    refine hnn.mono ?_
    clear hnn
    rintro e w4 ⟨rfl, hUy, hMy⟩
    have cm := hMy.at cm (fun e => hne e.symm)
    have HU4 := Lib.hid hUy
    have HV4 := Lib.hid (HV3.out.trans hMy)
    clear hUy hMy
    try go_wp2_with fail
    refine hK.out _ _ cm (fun hHeld => ?_)
    clear hK K
    try simp only [Act.put, List.setIfInBounds_toArray, List.set_cons_zero, List.set_cons_succ]
    have hnn : Calls Tryz.prog 70 #[.pointer (some ⟨ub, 0, none⟩), .int .i64 2] w4 (NumPost w4 ub (unNum r4.2.1 r4.2.2 2)) := unNum_any w4 ub r4.2.1 r4.2.2 2 rfl HU4.out
    obtain ⟨r5, hr5⟩ : ∃ r, r = unNum r4.2.1 r4.2.2 2 := ⟨_, rfl⟩
    rw [← hr5] at hnn
    have HR5 := Lib.hid hr5
    clear hr5
    refine anyX_ready (rs := [10]) (by kernel_rfl) (by simp) ?_
    refine anyX_cons (o := ?_) ?_ (fun K hK => ?_) ?_
    rotate_left 1
    · simp only [List.getElem?_toArray, List.getElem?_cons_succ, List.getElem?_cons_zero]; rfl
    rotate_left 1
    · exact anyX_nil
    go_simp
    refine hnn.mono ?_
    clear hnn
    rintro e w5 ⟨rfl, hUy, hMy⟩
    have cm := hMy.at cm (fun e => hne e.symm)
    have HU5 := Lib.hid hUy
    have HV5 := Lib.hid (HV4.out.trans hMy)
    clear hUy hMy
    try go_wp2_with fail
    refine hK.out _ _ cm (fun hHeld => ?_)
    clear hK K
    try simp only [Act.put, List.setIfInBounds_toArray, List.set_cons_zero, List.set_cons_succ]
    have hnn : Calls Tryz.prog 70 #[.pointer (some ⟨ub, 0, none⟩), .int .i64 2] w5 (NumPost w5 ub (unNum r5.2.1 r5.2.2 2)) := unNum_any w5 ub r5.2.1 r5.2.2 2 rfl HU5.out
    obtain ⟨r6, hr6⟩ : ∃ r, r = unNum r5.2.1 r5.2.2 2 := ⟨_, rfl⟩
    rw [← hr6] at hnn
    have HR6 := Lib.hid hr6
    clear hr6
    refine anyX_ready (rs := [12]) (by kernel_rfl) (by simp) ?_
    refine anyX_cons (o := ?_) ?_ (fun K hK => ?_) ?_
    rotate_left 1
    · simp only [List.getElem?_toArray, List.getElem?_cons_succ, List.getElem?_cons_zero]; rfl
    rotate_left 1
    · exact anyX_nil
    go_simp
    refine hnn.mono ?_
    clear hnn
    rintro e w6 ⟨rfl, hUy, hMy⟩
    have cm := hMy.at cm (fun e => hne e.symm)
    have HU6 := Lib.hid hUy
    have HV6 := Lib.hid (HV5.out.trans hMy)
    clear hUy hMy
    try go_wp2_with fail
    refine hK.out _ _ cm (fun hHeld => ?_)
    clear hK K
    try simp only [Act.put, List.setIfInBounds_toArray, List.set_cons_zero, List.set_cons_succ]
    refine takeX 13 ?_
    obtain ⟨m, hm⟩ : ∃ m : Mv, m = ((r3.1 : Int), (r4.1 : Int), (r5.1 : Int), (r6.1 : Int)) := ⟨_, rfl⟩
    have hol6 := cell_lt cm
    refine anyX_ready (rs := [14]) (by kernel_rfl) (by simp) ?_
    refine anyX_cons (o := ?_) ?_ (fun K hK => ?_) ?_
    rotate_left 1
    · simp only [List.getElem?_toArray, List.getElem?_cons_succ, List.getElem?_cons_zero]; rfl
    rotate_left 1
    · exact anyX_nil
    go_simp
    obtain ⟨W7, hW7⟩ : ∃ W7, W7 = w6.alloc (.cells #[.int .i64 r3.1, .int .i64 r4.1, .int .i64 r5.1, .int .i64 r6.1] 203) := ⟨_, rfl⟩
    have cm7 : W7.cell? ⟨ob, 11, none⟩ = some (.slice mp mv2.length mc) := by rw [hW7]; go_simp
    have hh7 : W7.heap[w6.heap.size]? = some (.cells (mvC m).toArray 203) := by rw [hW7, hm]; exact heap_alloc_new _ _
    have hM7 : Mod (· = ub) wr W7 := by rw [hW7]; exact HV6.out.alloc _
    have hU7 : UnpAt W7 ub r6.2.1 r6.2.2 := by rw [hW7]; exact HU6.out.mod (F := none') ((Mod.refl none' _).alloc _) id
    have hz7 : W7.heap.size = w6.heap.size + 1 := by rw [hW7]; simp
    have HW7 := Lib.hid hW7
    rw [← hW7]
    clear hW7
    try go_wp2_with fail
    refine hK.out _ _ cm7 (fun hHeld => ?_)
    clear hK K
    try simp only [Act.put, List.setIfInBounds_toArray, List.set_cons_zero, List.set_cons_succ]
    refine anyX_ready (rs := [15]) (by kernel_rfl) (by simp) ?_
    refine anyX_cons (o := ?_) ?_ (fun K hK => ?_) ?_
    rotate_left 1
    · simp only [List.getElem?_toArray, List.getElem?_cons_succ, List.getElem?_cons_zero]; rfl
    rotate_left 1
    · exact anyX_nil
    refine step_append_g (by rfl) (.tmp 46) (.tmp 56) 29 29 (by rfl) 203 j0 _ 32 Tryz.underlying29 hji hy0 hy1 hy2 (by rfl) (by rfl) (HG.out.mod hM7 (fun k hk _ => hnu k hk)) _ 1 (mvC m) (by rfl) (src_mv _ _ Tryz.underlying29 w6.heap.size m 203 hh7 _) (by have := HLN.out; omega) (by have := HLN.out; omega) ?_
    intro a8 cap8 w8 hg8 hM8 hz8
    have cm8 := hM8.at cm7 (fun hk => hno ob hk rfl)
    have hf0 : W7.frozen? ⟨ob, 11, none⟩ = false := (hM7.frozen (p := ⟨ob, 11, none⟩) hol2 (fun e => hne e.symm)).trans (HOA.out.2 11)
    have f8 : w8.frozen? ⟨ob, 11, none⟩ = false := (hM8.frozen (p := ⟨ob, 11, none⟩) (cell_lt cm7) (fun hk => hno ob hk rfl)).trans hf0
    have hol8 := cell_lt cm8
    have hU8 := hU7.mod hM8 (fun hk => hnu ub hk rfl)
    have hO8 := (HOA.out.mod hM7 (fun e => hne e.symm)).mod hM8 (fun hk => hno ob hk rfl)
    have HB8 : Hid (OpBox (w8.setCell ⟨ob, 11, none⟩ (.slice a8 (mv2.length + 1) cap8)) ob (growI S w1 w8) o (mv2 ++ [m])) := Lib.hid (by
      refine ⟨a8, cap8, ?_, ?_⟩
      · rw [List.length_append, List.length_singleton]
        exact hO8.set 11 _ (by decide) rfl
      · rw [List.length_append, List.length_singleton, List.flatMap_append, show ([m] : List Mv).flatMap mvC = mvC m from List.append_nil _]
        refine (hg8.sub fun k hk8 hk => ?_).mod (F := (· = ob)) ((Mod.refl (· = ob) w8).setCellAt (fun _ => rfl) _) (fun k hk hk8 e => ?_)
        · rcases hk with (hk | hk) | hk
          · exact Or.inl hk
          · exact Or.inr ⟨hk.1, hk8⟩
          · exact Or.inr ⟨by have := HM2.out.size; have := hM7.size; omega, hk8⟩
        · rcases hk with hk | hk
          · exact hSo (by rw [← e]; exact hk)
          · have := HM1.out.size; have e : k = ob := e; omega)
    have HMM : Hid (Mod (fun k => k = ub ∨ k = ob ∨ S k) w1 (w8.setCell ⟨ob, 11, none⟩ (.slice a8 (mv2.length + 1) cap8))) := Lib.hid (by
      have h1 : Mod (fun k => k = ub ∨ k = ob ∨ S k) w1 W7 := HM2.out.trans (hM7.mono fun k _ hk => Or.inl hk)
      have h2 : Mod (fun k => k = ub ∨ k = ob ∨ S k) w1 w8 := h1.trans' hM8 (fun k hk hg => by
        rcases hg with hg | hg
        · exact Or.inr (Or.inr hg)
        · omega)
      exact h2.setCellAt (b := ob) (fun _ => Or.inr (Or.inl rfl)) _)
    have HU9 : Hid (UnpAt (w8.setCell ⟨ob, 11, none⟩ (.slice a8 (mv2.length + 1) cap8)) ub r6.2.1 r6.2.2) := Lib.hid (hU8.mod (F := (· = ob)) ((Mod.refl (· = ob) w8).setCellAt (fun _ => rfl) _) hne)
    clear hg8 hM8 hU8 hO8 hU7 hM7 hz8 hh7 cm7 hf0
    try go_wp2_with fail
    refine hK.out _ _ cm8 (fun hHeld => ?_)
    clear hK K
    try simp only [Act.put, List.setIfInBounds_toArray, List.set_cons_zero, List.set_cons_succ]
    refine anyX_ready (rs := [16]) (by kernel_rfl) (by simp) ?_
    refine anyX_cons (o := ?_) ?_ (fun K hK => ?_) ?_
    rotate_left 1
    · simp only [List.getElem?_toArray, List.getElem?_cons_succ, List.getElem?_cons_zero]; rfl
    rotate_left 1
    · exact anyX_nil
    go_simp
    try go_wp2_with fail
    refine hK.out _ _ hHeld (fun hHeld => ?_)
    clear hK K
    try simp only [Act.put, List.setIfInBounds_toArray, List.set_cons_zero, List.set_cons_succ]
    refine anyX_ready (rs := [17]) (by kernel_rfl) (by simp) ?_
    refine anyX_cons (o := ?_) ?_ (fun K hK => ?_) ?_
    rotate_left 1
    · simp only [List.getElem?_toArray, List.getElem?_cons_succ, List.getElem?_cons_zero]; rfl
    rotate_left 1
    · exact anyX_nil
    go_simp
    try go_wp2_with fail
    refine hK.out _ _ hHeld (fun hHeld => ?_)
    clear hK K
    try simp only [Act.put, List.setIfInBounds_toArray, List.set_cons_zero, List.set_cons_succ]
    refine anyX_ready (rs := [18]) (by kernel_rfl) (by simp) ?_
    refine anyX_last (o := ?_) ?_ (fun K hK => ?_)
    rotate_left 1
    · simp only [List.getElem?_toArray, List.getElem?_cons_succ, List.getElem?_cons_zero]; rfl
    go_simp
    refine hK.out _ _ (anyX_done (by kernel_rfl) ?_ _)
    clear hK K hHeld
    go_wp2_with fail
    go_roundg (n - (i + 1))
    case measure => exact hms
    case rel =>
     refine ⟨i + 1, mv2 ++ [m], r6.2.1, r6.2.2, rfl, hlt, by first | rfl | rw [hwr1.out], ?_, by rw [List.length_append, List.length_singleton, HLN.out]; omega, HU9.out, HB8.out.wide (fun k hk => hk.imp id fun h => ⟨h.1, by simpa using h.2⟩), HMM.out⟩
     have h1 := HUN.out
     rw [show n - i = (n - (i + 1)) + 1 by omega, unMvs] at h1
     have h2 : unMv s2 b2 = (m, r6.2.1, r6.2.2) := by
      rw [hm]
      unfold unMv
      simp only [← HR3.out, ← HR4.out, ← HR5.out, ← HR6.out]
     rw [h2] at h1
     exact h1
  · obtain rfl : i = n := by omega
    have hge : ¬ (i : Int) < i := by omega
    rw [Nat.sub_self] at hun
    have hfin := HFIN.out
    rw [← HN.out, ← hun, unMvs] at hfin
    subst hfin
    have HX := Lib.hid hU2
    have HY := Lib.hid (hO2.wide (T := growI S w wr) (fun k hk => hk.imp id fun h => ⟨Nat.le_trans HM1.out.size h.1, h.2⟩))
    have HZ := Lib.hid ((HM1.out.mono (G := fun k => k = ub ∨ k = ob ∨ S k) fun k _ hk => Or.inl hk).trans hM2)
    clear hU2 hO2 hM2 hun hlt HFIN
    go_wp2_with fail
    go_end0
    exact ⟨rfl, HX.out, HY.out, HZ.out⟩
end Go.Proofs.YtajbooppoohplaaGreatDoor
