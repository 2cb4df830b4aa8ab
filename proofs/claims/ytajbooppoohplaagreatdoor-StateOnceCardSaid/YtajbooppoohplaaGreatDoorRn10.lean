/- the document's text of any record -/
import Derived.Test.YtajbooppoohplaaGreatDoorMac
import Derived.Test.YtajbooppoohplaaGreatDoorPkRG
import Derived.Test.YtajbooppoohplaaGreatDoorPkRPk
set_option maxRecDepth 100000
set_option maxHeartbeats 8000000
namespace Esch
open Go Go.RowKit
def txB (p : Nm) : List UInt8 := putB p.length 2 ++ p
def mvB (ms : List Mv) : List UInt8 := ms.flatMap fun m => putB m.1.toNat 2 ++ putB m.2.1.toNat 2 ++ putB m.2.2.1.toNat 2 ++ putB m.2.2.2.toNat 2
theorem lenB {l : List UInt8} (h : l.length ≤ 900000 := by (first | (simp only [List.length_append, putB_length, List.length_nil]; omega) | (simp only [List.length_append, putB_length, txB, List.length_nil]; omega))) : l.length ≤ 900000 := h
theorem lenC {l : List UInt8} (h : l.length ≤ 65536 := by (first | (simp only [List.length_append, putB_length, List.length_nil]; omega) | (simp only [List.length_append, putB_length, txB, List.length_nil]; omega))) : l.length ≤ 65536 := h
theorem mvB_len : ∀ ms : List Mv, (mvB ms).length = 8 * ms.length
  | [] => rfl
  | m :: ms => by
    have := mvB_len ms
    unfold mvB at this ⊢
    rw [List.flatMap_cons, List.length_append, this]
    simp [putB_length]
    omega
theorem mvB_snoc (ms : List Mv) (m : Mv) : mvB (ms ++ [m]) = mvB ms ++ putB m.1.toNat 2 ++ putB m.2.1.toNat 2 ++ putB m.2.2.1.toNat 2 ++ putB m.2.2.2.toNat 2 := by
 unfold mvB
 rw [List.flatMap_append, List.flatMap_cons, List.flatMap_nil, List.append_nil]
 simp [List.append_assoc]
def hdB (k c s : Int) : List UInt8 := [] ++ putB k.toNat 1 ++ putB c.toNat 1 ++ putB s.toNat 4
/-- the letters of a good record -/
def OpS.enL (x : OpS) (mv : List Mv) : List UInt8 :=
  if x.kind = 4 ∨ x.kind = 6 then hdB x.kind x.client x.seq ++ txB x.path ++ txB x.dest
  else if x.kind = 7 then hdB x.kind x.client x.seq ++ txB x.path ++ putB x.size.toNat 4
  else if x.kind = 9 then hdB x.kind x.client x.seq ++ putB x.hd.toNat 4
  else if x.kind = 10 then hdB x.kind x.client x.seq ++ putB x.hd.toNat 4 ++ putB x.off.toNat 4 ++ txB x.data.data.toList
  else if x.kind = 11 ∨ x.kind = 12 then hdB x.kind x.client x.seq ++ putB x.tick.toNat 8
  else if x.kind = 13 then hdB x.kind x.client x.seq ++ putB x.ino.toNat 4 ++ putB x.ml 1 ++ mvB mv ++ txB x.data.data.toList
  else if x.kind = 14 then hdB x.kind x.client x.seq ++ txB x.data.data.toList ++ putB x.size.toNat 4 ++ putB x.off.toNat 4
  else hdB x.kind x.client x.seq ++ txB x.path
def OpS.enT (x : OpS) (mv : List Mv) : List UInt8 × Int := if x.good mv = true then (x.enL mv, 0) else ([], 11)
theorem _root_.Esch.OpBx.belowB {w W W' : World} {x : OpS} {B : Nat} (h : OpBx w x W) (hB : Below B W W') (hl : w.heap.size < B) : OpBx w x W' :=
  ⟨fun j hj => (hB.cell (p := ⟨w.heap.size, j, none⟩) hl).trans (h.c j hj), h.b.trans (hB.mono (Nat.le_of_lt hl)), Nat.lt_of_lt_of_le h.h hB.size⟩
end Esch
namespace Go.Proofs.YtajbooppoohplaaGreatDoor
open Go.RowKit Esch

structure RcIn (w : World) (x : OpS) (B b : Nat) (l : List UInt8) (W : World) : Prop where
  ox : OpBx w x W
  pk : PkAtR B b l W
  hb : B ≤ W.heap.size
  hw : w.heap.size < B
def RcPost (w : World) (x : OpS) (B b : Nat) (l : List UInt8) (e : Ending) (W' : World) : Prop := e = .returned (.tuple #[]) ∧ RcIn w x B b l W'
theorem enStep {w W : World} {x : OpS} {B b : Nat} {l l' : List UInt8} {f : FuncId} {av : Array Value} (h : RcIn w x B b l W) (hc : Calls Tryz.prog f av W (PkPostR W B b l')) : Calls Tryz.prog f av W (RcPost w x B b l') :=
  hc.mono fun _ _ h2 => ⟨h2.1, h.ox.belowB h2.2.2 h.hw, h2.2.1, Nat.le_trans h.hb h2.2.2.size, h.hw⟩
theorem enN1 {w W : World} {x : OpS} {B b : Nat} {l : List UInt8} (h : RcIn w x B b l W) (v : Int) (h0 : 0 ≤ v) (h1 : v < 256) (hl : l.length ≤ 900000) : Calls Tryz.prog 110 #[.pointer (some ⟨b, 0, none⟩), .int .i64 v, .int .i64 1] W (RcPost w x B b (l ++ putB v.toNat 1)) := by
 have hc := rpNum1 W B b l v.toNat (by omega) h.pk hl h.hb
 exact mK73
theorem enN2 {w W : World} {x : OpS} {B b : Nat} {l : List UInt8} (h : RcIn w x B b l W) (v : Int) (h0 : 0 ≤ v) (h1 : v < 65536) (hl : l.length ≤ 900000) : Calls Tryz.prog 110 #[.pointer (some ⟨b, 0, none⟩), .int .i64 v, .int .i64 2] W (RcPost w x B b (l ++ putB v.toNat 2)) := by
 have hc := rpNum2 W B b l v.toNat (by omega) h.pk hl h.hb
 exact mK73
theorem enN4 {w W : World} {x : OpS} {B b : Nat} {l : List UInt8} (h : RcIn w x B b l W) (v : Int) (h0 : 0 ≤ v) (h1 : v < 4294967296) (hl : l.length ≤ 900000) : Calls Tryz.prog 110 #[.pointer (some ⟨b, 0, none⟩), .int .i64 v, .int .i64 4] W (RcPost w x B b (l ++ putB v.toNat 4)) := by
 have hc := rpNum4 W B b l v.toNat (by omega) h.pk hl h.hb
 exact mK73
theorem enN8 {w W : World} {x : OpS} {B b : Nat} {l : List UInt8} (h : RcIn w x B b l W) (v : Int) (h0 : 0 ≤ v) (h1 : v < 9223372036854775808) (hl : l.length ≤ 900000) : Calls Tryz.prog 110 #[.pointer (some ⟨b, 0, none⟩), .int .i64 v, .int .i64 8] W (RcPost w x B b (l ++ putB v.toNat 8)) := by
 have hc := rpNum8 W B b l v.toNat (by omega) h.pk hl h.hb
 exact mK73
theorem enT1 {w W : World} {x : OpS} {B b : Nat} {l : List UInt8} (h : RcIn w x B b l W) (t : Nm) (ht : t.length ≤ 65535) (hl : l.length ≤ 900000) : Calls Tryz.prog 111 #[.pointer (some ⟨b, 0, none⟩), .string (bs t)] W (RcPost w x B b (l ++ txB t)) := enStep h (rpText_any W B b l t ht h.pk hl h.hb)
def EncIs (w : World) (l : List UInt8) (e : Ending) (w' : World) : Prop := e = .returned (.tuple #[.string (bs l), .int .i64 0]) ∧ Below w.heap.size w w'
/-- what Good of the record tells -/
def GdIs (w : World) (x : OpS) (v : Bool) : Prop := ∀ W, OpBx w x W → Calls Tryz.prog 108 #[.agg x.cells.toArray] W (BoolB W v)
theorem enk1 (w : World) (xc xs : Int) (p q : Nm) (xz xh xo : Int) (xt : ByteArray) (xi xn : Int) (mp : Option Addr) (ml mc : Nat) (hc : 0 ≤ xc ∧ xc ≤ 7) (hs : 1 ≤ xs ∧ xs ≤ 2147483647) (hp : p.length ≤ 2000) (hgd : GdIs w ⟨xc, xs, 1, p, q, xz, xh, xo, xt, xi, xn, mp, ml, mc⟩ true) : Calls Tryz.prog 60 #[.agg (OpS.mk xc xs 1 p q xz xh xo xt xi xn mp ml mc).cells.toArray] w (EncIs w ([] ++ putB (1 : Int).toNat 1 ++ putB xc.toNat 1 ++ putB xs.toNat 4 ++ txB p)) := by
 unfold GdIs at hgd
 simp only [OpS.cells] at hgd ⊢
 go_enter Tryz.func60, Tryz.ntmps60
 go_wp2_with fail
 refine (hgd _ (OpBx.new w ⟨xc, xs, 1, p, q, xz, xh, xo, xt, xi, xn, mp, ml, mc⟩ 31)).low (fun w2 hB2 => ?_)
 have HO2 := Lib.hid ((OpBx.new w ⟨xc, xs, 1, p, q, xz, xh, xo, xt, xi, xn, mp, ml, mc⟩ 31).below hB2)
 clear hgd hB2
 go_wp2_with fail
 refine (rpNew_any w2).mono ?_
 rintro e w3 ⟨pb, rfl, hP3, hB3⟩
 have HE : Hid (RcIn w ⟨xc, xs, 1, p, q, xz, xh, xo, xt, xi, xn, mp, ml, mc⟩ w2.heap.size pb [] w3) := Lib.hid ⟨HO2.out.below hB3, hP3, hB3.size, HO2.out.h⟩
 obtain ⟨c0, c1, c2, c3, c4, c5, c6, c7, c8, c9, c10, c11⟩ := HE.out.ox.parts
 clear hP3 hB3 HO2
 go_wp2_with fail
 refine (enN1 HE.out 1 (by decide) (by decide) (by decide)).mono ?_
 exact mK75
theorem enk2 (w : World) (xc xs : Int) (p q : Nm) (xz xh xo : Int) (xt : ByteArray) (xi xn : Int) (mp : Option Addr) (ml mc : Nat) (hc : 0 ≤ xc ∧ xc ≤ 7) (hs : 1 ≤ xs ∧ xs ≤ 2147483647) (hp : p.length ≤ 2000) (hgd : GdIs w ⟨xc, xs, 2, p, q, xz, xh, xo, xt, xi, xn, mp, ml, mc⟩ true) : Calls Tryz.prog 60 #[.agg (OpS.mk xc xs 2 p q xz xh xo xt xi xn mp ml mc).cells.toArray] w (EncIs w ([] ++ putB (2 : Int).toNat 1 ++ putB xc.toNat 1 ++ putB xs.toNat 4 ++ txB p)) := by
 unfold GdIs at hgd
 simp only [OpS.cells] at hgd ⊢
 go_enter Tryz.func60, Tryz.ntmps60
 go_wp2_with fail
 refine (hgd _ (OpBx.new w ⟨xc, xs, 2, p, q, xz, xh, xo, xt, xi, xn, mp, ml, mc⟩ 31)).low (fun w2 hB2 => ?_)
 have HO2 := Lib.hid ((OpBx.new w ⟨xc, xs, 2, p, q, xz, xh, xo, xt, xi, xn, mp, ml, mc⟩ 31).below hB2)
 clear hgd hB2
 go_wp2_with fail
 refine (rpNew_any w2).mono ?_
 rintro e w3 ⟨pb, rfl, hP3, hB3⟩
 have HE : Hid (RcIn w ⟨xc, xs, 2, p, q, xz, xh, xo, xt, xi, xn, mp, ml, mc⟩ w2.heap.size pb [] w3) := Lib.hid ⟨HO2.out.below hB3, hP3, hB3.size, HO2.out.h⟩
 obtain ⟨c0, c1, c2, c3, c4, c5, c6, c7, c8, c9, c10, c11⟩ := HE.out.ox.parts
 clear hP3 hB3 HO2
 go_wp2_with fail
 refine (enN1 HE.out 2 (by decide) (by decide) (by decide)).mono ?_
 exact mK75
theorem enk3 (w : World) (xc xs : Int) (p q : Nm) (xz xh xo : Int) (xt : ByteArray) (xi xn : Int) (mp : Option Addr) (ml mc : Nat) (hc : 0 ≤ xc ∧ xc ≤ 7) (hs : 1 ≤ xs ∧ xs ≤ 2147483647) (hp : p.length ≤ 2000) (hgd : GdIs w ⟨xc, xs, 3, p, q, xz, xh, xo, xt, xi, xn, mp, ml, mc⟩ true) : Calls Tryz.prog 60 #[.agg (OpS.mk xc xs 3 p q xz xh xo xt xi xn mp ml mc).cells.toArray] w (EncIs w ([] ++ putB (3 : Int).toNat 1 ++ putB xc.toNat 1 ++ putB xs.toNat 4 ++ txB p)) := by
 unfold GdIs at hgd
 simp only [OpS.cells] at hgd ⊢
 go_enter Tryz.func60, Tryz.ntmps60
 go_wp2_with fail
 refine (hgd _ (OpBx.new w ⟨xc, xs, 3, p, q, xz, xh, xo, xt, xi, xn, mp, ml, mc⟩ 31)).low (fun w2 hB2 => ?_)
 have HO2 := Lib.hid ((OpBx.new w ⟨xc, xs, 3, p, q, xz, xh, xo, xt, xi, xn, mp, ml, mc⟩ 31).below hB2)
 clear hgd hB2
 go_wp2_with fail
 refine (rpNew_any w2).mono ?_
 rintro e w3 ⟨pb, rfl, hP3, hB3⟩
 have HE : Hid (RcIn w ⟨xc, xs, 3, p, q, xz, xh, xo, xt, xi, xn, mp, ml, mc⟩ w2.heap.size pb [] w3) := Lib.hid ⟨HO2.out.below hB3, hP3, hB3.size, HO2.out.h⟩
 obtain ⟨c0, c1, c2, c3, c4, c5, c6, c7, c8, c9, c10, c11⟩ := HE.out.ox.parts
 clear hP3 hB3 HO2
 go_wp2_with fail
 refine (enN1 HE.out 3 (by decide) (by decide) (by decide)).mono ?_
 exact mK75
theorem enk5 (w : World) (xc xs : Int) (p q : Nm) (xz xh xo : Int) (xt : ByteArray) (xi xn : Int) (mp : Option Addr) (ml mc : Nat) (hc : 0 ≤ xc ∧ xc ≤ 7) (hs : 1 ≤ xs ∧ xs ≤ 2147483647) (hp : p.length ≤ 2000) (hgd : GdIs w ⟨xc, xs, 5, p, q, xz, xh, xo, xt, xi, xn, mp, ml, mc⟩ true) : Calls Tryz.prog 60 #[.agg (OpS.mk xc xs 5 p q xz xh xo xt xi xn mp ml mc).cells.toArray] w (EncIs w ([] ++ putB (5 : Int).toNat 1 ++ putB xc.toNat 1 ++ putB xs.toNat 4 ++ txB p)) := by
 unfold GdIs at hgd
 simp only [OpS.cells] at hgd ⊢
 go_enter Tryz.func60, Tryz.ntmps60
 go_wp2_with fail
 refine (hgd _ (OpBx.new w ⟨xc, xs, 5, p, q, xz, xh, xo, xt, xi, xn, mp, ml, mc⟩ 31)).low (fun w2 hB2 => ?_)
 have HO2 := Lib.hid ((OpBx.new w ⟨xc, xs, 5, p, q, xz, xh, xo, xt, xi, xn, mp, ml, mc⟩ 31).below hB2)
 clear hgd hB2
 go_wp2_with fail
 refine (rpNew_any w2).mono ?_
 rintro e w3 ⟨pb, rfl, hP3, hB3⟩
 have HE : Hid (RcIn w ⟨xc, xs, 5, p, q, xz, xh, xo, xt, xi, xn, mp, ml, mc⟩ w2.heap.size pb [] w3) := Lib.hid ⟨HO2.out.below hB3, hP3, hB3.size, HO2.out.h⟩
 obtain ⟨c0, c1, c2, c3, c4, c5, c6, c7, c8, c9, c10, c11⟩ := HE.out.ox.parts
 clear hP3 hB3 HO2
 go_wp2_with fail
 refine (enN1 HE.out 5 (by decide) (by decide) (by decide)).mono ?_
 exact mK75
theorem enk8 (w : World) (xc xs : Int) (p q : Nm) (xz xh xo : Int) (xt : ByteArray) (xi xn : Int) (mp : Option Addr) (ml mc : Nat) (hc : 0 ≤ xc ∧ xc ≤ 7) (hs : 1 ≤ xs ∧ xs ≤ 2147483647) (hp : p.length ≤ 2000) (hgd : GdIs w ⟨xc, xs, 8, p, q, xz, xh, xo, xt, xi, xn, mp, ml, mc⟩ true) : Calls Tryz.prog 60 #[.agg (OpS.mk xc xs 8 p q xz xh xo xt xi xn mp ml mc).cells.toArray] w (EncIs w ([] ++ putB (8 : Int).toNat 1 ++ putB xc.toNat 1 ++ putB xs.toNat 4 ++ txB p)) := by
 unfold GdIs at hgd
 simp only [OpS.cells] at hgd ⊢
 go_enter Tryz.func60, Tryz.ntmps60
 go_wp2_with fail
 refine (hgd _ (OpBx.new w ⟨xc, xs, 8, p, q, xz, xh, xo, xt, xi, xn, mp, ml, mc⟩ 31)).low (fun w2 hB2 => ?_)
 have HO2 := Lib.hid ((OpBx.new w ⟨xc, xs, 8, p, q, xz, xh, xo, xt, xi, xn, mp, ml, mc⟩ 31).below hB2)
 clear hgd hB2
 go_wp2_with fail
 refine (rpNew_any w2).mono ?_
 rintro e w3 ⟨pb, rfl, hP3, hB3⟩
 have HE : Hid (RcIn w ⟨xc, xs, 8, p, q, xz, xh, xo, xt, xi, xn, mp, ml, mc⟩ w2.heap.size pb [] w3) := Lib.hid ⟨HO2.out.below hB3, hP3, hB3.size, HO2.out.h⟩
 obtain ⟨c0, c1, c2, c3, c4, c5, c6, c7, c8, c9, c10, c11⟩ := HE.out.ox.parts
 clear hP3 hB3 HO2
 go_wp2_with fail
 refine (enN1 HE.out 8 (by decide) (by decide) (by decide)).mono ?_
 exact mK75
theorem enk4 (w : World) (xc xs : Int) (p q : Nm) (xz xh xo : Int) (xt : ByteArray) (xi xn : Int) (mp : Option Addr) (ml mc : Nat) (hc : 0 ≤ xc ∧ xc ≤ 7) (hs : 1 ≤ xs ∧ xs ≤ 2147483647) (hp : p.length ≤ 2000) (hq : q.length ≤ 2000) (hgd : GdIs w ⟨xc, xs, 4, p, q, xz, xh, xo, xt, xi, xn, mp, ml, mc⟩ true) : Calls Tryz.prog 60 #[.agg (OpS.mk xc xs 4 p q xz xh xo xt xi xn mp ml mc).cells.toArray] w (EncIs w ([] ++ putB (4 : Int).toNat 1 ++ putB xc.toNat 1 ++ putB xs.toNat 4 ++ txB p ++ txB q)) := by
 unfold GdIs at hgd
 simp only [OpS.cells] at hgd ⊢
 go_enter Tryz.func60, Tryz.ntmps60
 go_wp2_with fail
 refine (hgd _ (OpBx.new w ⟨xc, xs, 4, p, q, xz, xh, xo, xt, xi, xn, mp, ml, mc⟩ 31)).low (fun w2 hB2 => ?_)
 have HO2 := Lib.hid ((OpBx.new w ⟨xc, xs, 4, p, q, xz, xh, xo, xt, xi, xn, mp, ml, mc⟩ 31).below hB2)
 clear hgd hB2
 go_wp2_with fail
 refine (rpNew_any w2).mono ?_
 rintro e w3 ⟨pb, rfl, hP3, hB3⟩
 have HE : Hid (RcIn w ⟨xc, xs, 4, p, q, xz, xh, xo, xt, xi, xn, mp, ml, mc⟩ w2.heap.size pb [] w3) := Lib.hid ⟨HO2.out.below hB3, hP3, hB3.size, HO2.out.h⟩
 obtain ⟨c0, c1, c2, c3, c4, c5, c6, c7, c8, c9, c10, c11⟩ := HE.out.ox.parts
 clear hP3 hB3 HO2
 go_wp2_with fail
 refine (enN1 HE.out 4 (by decide) (by decide) (by decide)).mono ?_
 exact mK76
theorem enk6 (w : World) (xc xs : Int) (p q : Nm) (xz xh xo : Int) (xt : ByteArray) (xi xn : Int) (mp : Option Addr) (ml mc : Nat) (hc : 0 ≤ xc ∧ xc ≤ 7) (hs : 1 ≤ xs ∧ xs ≤ 2147483647) (hp : p.length ≤ 2000) (hq : q.length ≤ 2000) (hgd : GdIs w ⟨xc, xs, 6, p, q, xz, xh, xo, xt, xi, xn, mp, ml, mc⟩ true) : Calls Tryz.prog 60 #[.agg (OpS.mk xc xs 6 p q xz xh xo xt xi xn mp ml mc).cells.toArray] w (EncIs w ([] ++ putB (6 : Int).toNat 1 ++ putB xc.toNat 1 ++ putB xs.toNat 4 ++ txB p ++ txB q)) := by
 unfold GdIs at hgd
 simp only [OpS.cells] at hgd ⊢
 go_enter Tryz.func60, Tryz.ntmps60
 go_wp2_with fail
 refine (hgd _ (OpBx.new w ⟨xc, xs, 6, p, q, xz, xh, xo, xt, xi, xn, mp, ml, mc⟩ 31)).low (fun w2 hB2 => ?_)
 have HO2 := Lib.hid ((OpBx.new w ⟨xc, xs, 6, p, q, xz, xh, xo, xt, xi, xn, mp, ml, mc⟩ 31).below hB2)
 clear hgd hB2
 go_wp2_with fail
 refine (rpNew_any w2).mono ?_
 rintro e w3 ⟨pb, rfl, hP3, hB3⟩
 have HE : Hid (RcIn w ⟨xc, xs, 6, p, q, xz, xh, xo, xt, xi, xn, mp, ml, mc⟩ w2.heap.size pb [] w3) := Lib.hid ⟨HO2.out.below hB3, hP3, hB3.size, HO2.out.h⟩
 obtain ⟨c0, c1, c2, c3, c4, c5, c6, c7, c8, c9, c10, c11⟩ := HE.out.ox.parts
 clear hP3 hB3 HO2
 go_wp2_with fail
 refine (enN1 HE.out 6 (by decide) (by decide) (by decide)).mono ?_
 exact mK76
theorem enk7 (w : World) (xc xs : Int) (p q : Nm) (xz xh xo : Int) (xt : ByteArray) (xi xn : Int) (mp : Option Addr) (ml mc : Nat) (hc : 0 ≤ xc ∧ xc ≤ 7) (hs : 1 ≤ xs ∧ xs ≤ 2147483647) (hp : p.length ≤ 2000) (hz : 0 ≤ xz ∧ xz ≤ 8192) (hgd : GdIs w ⟨xc, xs, 7, p, q, xz, xh, xo, xt, xi, xn, mp, ml, mc⟩ true) : Calls Tryz.prog 60 #[.agg (OpS.mk xc xs 7 p q xz xh xo xt xi xn mp ml mc).cells.toArray] w (EncIs w ([] ++ putB (7 : Int).toNat 1 ++ putB xc.toNat 1 ++ putB xs.toNat 4 ++ txB p ++ putB (xz).toNat 4)) := by
 unfold GdIs at hgd
 simp only [OpS.cells] at hgd ⊢
 go_enter Tryz.func60, Tryz.ntmps60
 go_wp2_with fail
 refine (hgd _ (OpBx.new w ⟨xc, xs, 7, p, q, xz, xh, xo, xt, xi, xn, mp, ml, mc⟩ 31)).low (fun w2 hB2 => ?_)
 have HO2 := Lib.hid ((OpBx.new w ⟨xc, xs, 7, p, q, xz, xh, xo, xt, xi, xn, mp, ml, mc⟩ 31).below hB2)
 clear hgd hB2
 go_wp2_with fail
 refine (rpNew_any w2).mono ?_
 rintro e w3 ⟨pb, rfl, hP3, hB3⟩
 have HE : Hid (RcIn w ⟨xc, xs, 7, p, q, xz, xh, xo, xt, xi, xn, mp, ml, mc⟩ w2.heap.size pb [] w3) := Lib.hid ⟨HO2.out.below hB3, hP3, hB3.size, HO2.out.h⟩
 obtain ⟨c0, c1, c2, c3, c4, c5, c6, c7, c8, c9, c10, c11⟩ := HE.out.ox.parts
 clear hP3 hB3 HO2
 go_wp2_with fail
 refine (enN1 HE.out 7 (by decide) (by decide) (by decide)).mono ?_
 clear c0 c1 c2 c3 c4 c5 c6 c7 c8 c9 c10 c11
 rintro e wn ⟨rfl, hE⟩
 have HE := Lib.hid hE
 obtain ⟨c0, c1, c2, c3, c4, c5, c6, c7, c8, c9, c10, c11⟩ := HE.out.ox.parts
 clear hE
 go_wp2_with fail
 refine (enN1 HE.out xc (by omega) (by omega) lenB).mono ?_
 clear c0 c1 c2 c3 c4 c5 c6 c7 c8 c9 c10 c11
 rintro e wn ⟨rfl, hE⟩
 have HE := Lib.hid hE
 obtain ⟨c0, c1, c2, c3, c4, c5, c6, c7, c8, c9, c10, c11⟩ := HE.out.ox.parts
 clear hE
 go_wp2_with fail
 refine (enN4 HE.out xs (by omega) (by omega) lenB).mono ?_
 clear c0 c1 c2 c3 c4 c5 c6 c7 c8 c9 c10 c11
 rintro e wn ⟨rfl, hE⟩
 have HE := Lib.hid hE
 obtain ⟨c0, c1, c2, c3, c4, c5, c6, c7, c8, c9, c10, c11⟩ := HE.out.ox.parts
 clear hE
 go_wp2_with fail
 refine (enT1 HE.out p (by omega) lenB).mono ?_
 clear c0 c1 c2 c3 c4 c5 c6 c7 c8 c9 c10 c11
 rintro e wn ⟨rfl, hE⟩
 have HE := Lib.hid hE
 obtain ⟨c0, c1, c2, c3, c4, c5, c6, c7, c8, c9, c10, c11⟩ := HE.out.ox.parts
 clear hE
 go_wp2_with fail
 refine (enN4 HE.out xz (by omega) (by omega) lenB).mono ?_
 exact mK74
theorem enk9 (w : World) (xc xs : Int) (p q : Nm) (xz xh xo : Int) (xt : ByteArray) (xi xn : Int) (mp : Option Addr) (ml mc : Nat) (hc : 0 ≤ xc ∧ xc ≤ 7) (hs : 1 ≤ xs ∧ xs ≤ 2147483647) (hh : 0 ≤ xh ∧ xh ≤ 16383) (hgd : GdIs w ⟨xc, xs, 9, p, q, xz, xh, xo, xt, xi, xn, mp, ml, mc⟩ true) : Calls Tryz.prog 60 #[.agg (OpS.mk xc xs 9 p q xz xh xo xt xi xn mp ml mc).cells.toArray] w (EncIs w ([] ++ putB (9 : Int).toNat 1 ++ putB xc.toNat 1 ++ putB xs.toNat 4 ++ putB (xh).toNat 4)) := by
 unfold GdIs at hgd
 simp only [OpS.cells] at hgd ⊢
 go_enter Tryz.func60, Tryz.ntmps60
 go_wp2_with fail
 refine (hgd _ (OpBx.new w ⟨xc, xs, 9, p, q, xz, xh, xo, xt, xi, xn, mp, ml, mc⟩ 31)).low (fun w2 hB2 => ?_)
 have HO2 := Lib.hid ((OpBx.new w ⟨xc, xs, 9, p, q, xz, xh, xo, xt, xi, xn, mp, ml, mc⟩ 31).below hB2)
 clear hgd hB2
 go_wp2_with fail
 refine (rpNew_any w2).mono ?_
 rintro e w3 ⟨pb, rfl, hP3, hB3⟩
 have HE : Hid (RcIn w ⟨xc, xs, 9, p, q, xz, xh, xo, xt, xi, xn, mp, ml, mc⟩ w2.heap.size pb [] w3) := Lib.hid ⟨HO2.out.below hB3, hP3, hB3.size, HO2.out.h⟩
 obtain ⟨c0, c1, c2, c3, c4, c5, c6, c7, c8, c9, c10, c11⟩ := HE.out.ox.parts
 clear hP3 hB3 HO2
 go_wp2_with fail
 refine (enN1 HE.out 9 (by decide) (by decide) (by decide)).mono ?_
 clear c0 c1 c2 c3 c4 c5 c6 c7 c8 c9 c10 c11
 rintro e wn ⟨rfl, hE⟩
 have HE := Lib.hid hE
 obtain ⟨c0, c1, c2, c3, c4, c5, c6, c7, c8, c9, c10, c11⟩ := HE.out.ox.parts
 clear hE
 go_wp2_with fail
 refine (enN1 HE.out xc (by omega) (by omega) lenB).mono ?_
 clear c0 c1 c2 c3 c4 c5 c6 c7 c8 c9 c10 c11
 rintro e wn ⟨rfl, hE⟩
 have HE := Lib.hid hE
 obtain ⟨c0, c1, c2, c3, c4, c5, c6, c7, c8, c9, c10, c11⟩ := HE.out.ox.parts
 clear hE
 go_wp2_with fail
 refine (enN4 HE.out xs (by omega) (by omega) lenB).mono ?_
 clear c0 c1 c2 c3 c4 c5 c6 c7 c8 c9 c10 c11
 rintro e wn ⟨rfl, hE⟩
 have HE := Lib.hid hE
 obtain ⟨c0, c1, c2, c3, c4, c5, c6, c7, c8, c9, c10, c11⟩ := HE.out.ox.parts
 clear hE
 go_wp2_with fail
 refine (enN4 HE.out xh (by omega) (by omega) lenB).mono ?_
 exact mK74
theorem enk10 (w : World) (xc xs : Int) (p q : Nm) (xz xh xo : Int) (d : Nm) (xi xn : Int) (mp : Option Addr) (ml mc : Nat) (hc : 0 ≤ xc ∧ xc ≤ 7) (hs : 1 ≤ xs ∧ xs ≤ 2147483647) (hh : 0 ≤ xh ∧ xh ≤ 16383) (ho : 0 ≤ xo ∧ xo ≤ 8192) (hd : d.length ≤ 1024) (hgd : GdIs w ⟨xc, xs, 10, p, q, xz, xh, xo, bs d, xi, xn, mp, ml, mc⟩ true) : Calls Tryz.prog 60 #[.agg (OpS.mk xc xs 10 p q xz xh xo (bs d) xi xn mp ml mc).cells.toArray] w (EncIs w ([] ++ putB (10 : Int).toNat 1 ++ putB xc.toNat 1 ++ putB xs.toNat 4 ++ putB (xh).toNat 4 ++ putB (xo).toNat 4 ++ txB d)) := by
 unfold GdIs at hgd
 simp only [OpS.cells] at hgd ⊢
 go_enter Tryz.func60, Tryz.ntmps60
 go_wp2_with fail
 refine (hgd _ (OpBx.new w ⟨xc, xs, 10, p, q, xz, xh, xo, bs d, xi, xn, mp, ml, mc⟩ 31)).low (fun w2 hB2 => ?_)
 have HO2 := Lib.hid ((OpBx.new w ⟨xc, xs, 10, p, q, xz, xh, xo, bs d, xi, xn, mp, ml, mc⟩ 31).below hB2)
 clear hgd hB2
 go_wp2_with fail
 refine (rpNew_any w2).mono ?_
 rintro e w3 ⟨pb, rfl, hP3, hB3⟩
 have HE : Hid (RcIn w ⟨xc, xs, 10, p, q, xz, xh, xo, bs d, xi, xn, mp, ml, mc⟩ w2.heap.size pb [] w3) := Lib.hid ⟨HO2.out.below hB3, hP3, hB3.size, HO2.out.h⟩
 obtain ⟨c0, c1, c2, c3, c4, c5, c6, c7, c8, c9, c10, c11⟩ := HE.out.ox.parts
 clear hP3 hB3 HO2
 go_wp2_with fail
 refine (enN1 HE.out 10 (by decide) (by decide) (by decide)).mono ?_
 clear c0 c1 c2 c3 c4 c5 c6 c7 c8 c9 c10 c11
 rintro e wn ⟨rfl, hE⟩
 have HE := Lib.hid hE
 obtain ⟨c0, c1, c2, c3, c4, c5, c6, c7, c8, c9, c10, c11⟩ := HE.out.ox.parts
 clear hE
 go_wp2_with fail
 refine (enN1 HE.out xc (by omega) (by omega) lenB).mono ?_
 clear c0 c1 c2 c3 c4 c5 c6 c7 c8 c9 c10 c11
 rintro e wn ⟨rfl, hE⟩
 have HE := Lib.hid hE
 obtain ⟨c0, c1, c2, c3, c4, c5, c6, c7, c8, c9, c10, c11⟩ := HE.out.ox.parts
 clear hE
 go_wp2_with fail
 refine (enN4 HE.out xs (by omega) (by omega) lenB).mono ?_
 clear c0 c1 c2 c3 c4 c5 c6 c7 c8 c9 c10 c11
 rintro e wn ⟨rfl, hE⟩
 have HE := Lib.hid hE
 obtain ⟨c0, c1, c2, c3, c4, c5, c6, c7, c8, c9, c10, c11⟩ := HE.out.ox.parts
 clear hE
 go_wp2_with fail
 refine (enN4 HE.out xh (by omega) (by omega) lenB).mono ?_
 clear c0 c1 c2 c3 c4 c5 c6 c7 c8 c9 c10 c11
 rintro e wn ⟨rfl, hE⟩
 have HE := Lib.hid hE
 obtain ⟨c0, c1, c2, c3, c4, c5, c6, c7, c8, c9, c10, c11⟩ := HE.out.ox.parts
 clear hE
 go_wp2_with fail
 refine (enN4 HE.out xo (by omega) (by omega) lenB).mono ?_
 clear c0 c1 c2 c3 c4 c5 c6 c7 c8 c9 c10 c11
 rintro e wn ⟨rfl, hE⟩
 have HE := Lib.hid hE
 obtain ⟨c0, c1, c2, c3, c4, c5, c6, c7, c8, c9, c10, c11⟩ := HE.out.ox.parts
 clear hE
 go_wp2_with fail
 refine (enT1 HE.out d (by omega) lenB).mono ?_
 exact mK74
theorem enk11 (w : World) (xc xs : Int) (p q : Nm) (xz xh xo : Int) (xt : ByteArray) (xi xn : Int) (mp : Option Addr) (ml mc : Nat) (hc : 0 ≤ xc ∧ xc ≤ 7) (hs : 1 ≤ xs ∧ xs ≤ 2147483647) (hi : 0 ≤ xi ∧ xi ≤ 1099511627776) (hgd : GdIs w ⟨xc, xs, 11, p, q, xz, xh, xo, xt, xi, xn, mp, ml, mc⟩ true) : Calls Tryz.prog 60 #[.agg (OpS.mk xc xs 11 p q xz xh xo xt xi xn mp ml mc).cells.toArray] w (EncIs w ([] ++ putB (11 : Int).toNat 1 ++ putB xc.toNat 1 ++ putB xs.toNat 4 ++ putB (xi).toNat 8)) := by
 unfold GdIs at hgd
 simp only [OpS.cells] at hgd ⊢
 go_enter Tryz.func60, Tryz.ntmps60
 go_wp2_with fail
 refine (hgd _ (OpBx.new w ⟨xc, xs, 11, p, q, xz, xh, xo, xt, xi, xn, mp, ml, mc⟩ 31)).low (fun w2 hB2 => ?_)
 have HO2 := Lib.hid ((OpBx.new w ⟨xc, xs, 11, p, q, xz, xh, xo, xt, xi, xn, mp, ml, mc⟩ 31).below hB2)
 clear hgd hB2
 go_wp2_with fail
 refine (rpNew_any w2).mono ?_
 rintro e w3 ⟨pb, rfl, hP3, hB3⟩
 have HE : Hid (RcIn w ⟨xc, xs, 11, p, q, xz, xh, xo, xt, xi, xn, mp, ml, mc⟩ w2.heap.size pb [] w3) := Lib.hid ⟨HO2.out.below hB3, hP3, hB3.size, HO2.out.h⟩
 obtain ⟨c0, c1, c2, c3, c4, c5, c6, c7, c8, c9, c10, c11⟩ := HE.out.ox.parts
 clear hP3 hB3 HO2
 go_wp2_with fail
 refine (enN1 HE.out 11 (by decide) (by decide) (by decide)).mono ?_
 exact mK77
theorem enk12 (w : World) (xc xs : Int) (p q : Nm) (xz xh xo : Int) (xt : ByteArray) (xi xn : Int) (mp : Option Addr) (ml mc : Nat) (hc : 0 ≤ xc ∧ xc ≤ 7) (hs : 1 ≤ xs ∧ xs ≤ 2147483647) (hi : 0 ≤ xi ∧ xi ≤ 1099511627776) (hgd : GdIs w ⟨xc, xs, 12, p, q, xz, xh, xo, xt, xi, xn, mp, ml, mc⟩ true) : Calls Tryz.prog 60 #[.agg (OpS.mk xc xs 12 p q xz xh xo xt xi xn mp ml mc).cells.toArray] w (EncIs w ([] ++ putB (12 : Int).toNat 1 ++ putB xc.toNat 1 ++ putB xs.toNat 4 ++ putB (xi).toNat 8)) := by
 unfold GdIs at hgd
 simp only [OpS.cells] at hgd ⊢
 go_enter Tryz.func60, Tryz.ntmps60
 go_wp2_with fail
 refine (hgd _ (OpBx.new w ⟨xc, xs, 12, p, q, xz, xh, xo, xt, xi, xn, mp, ml, mc⟩ 31)).low (fun w2 hB2 => ?_)
 have HO2 := Lib.hid ((OpBx.new w ⟨xc, xs, 12, p, q, xz, xh, xo, xt, xi, xn, mp, ml, mc⟩ 31).below hB2)
 clear hgd hB2
 go_wp2_with fail
 refine (rpNew_any w2).mono ?_
 rintro e w3 ⟨pb, rfl, hP3, hB3⟩
 have HE : Hid (RcIn w ⟨xc, xs, 12, p, q, xz, xh, xo, xt, xi, xn, mp, ml, mc⟩ w2.heap.size pb [] w3) := Lib.hid ⟨HO2.out.below hB3, hP3, hB3.size, HO2.out.h⟩
 obtain ⟨c0, c1, c2, c3, c4, c5, c6, c7, c8, c9, c10, c11⟩ := HE.out.ox.parts
 clear hP3 hB3 HO2
 go_wp2_with fail
 refine (enN1 HE.out 12 (by decide) (by decide) (by decide)).mono ?_
 exact mK77
theorem enk14 (w : World) (xc xs : Int) (p q : Nm) (xz xh xo : Int) (d : Nm) (xi xn : Int) (mp : Option Addr) (ml mc : Nat) (hc : 0 ≤ xc ∧ xc ≤ 7) (hs : 1 ≤ xs ∧ xs ≤ 2147483647) (hd : d.length ≤ 1024) (hz : 0 ≤ xz ∧ xz ≤ 65536) (ho : 0 ≤ xo ∧ xo ≤ 65536) (hgd : GdIs w ⟨xc, xs, 14, p, q, xz, xh, xo, bs d, xi, xn, mp, ml, mc⟩ true) : Calls Tryz.prog 60 #[.agg (OpS.mk xc xs 14 p q xz xh xo (bs d) xi xn mp ml mc).cells.toArray] w (EncIs w ([] ++ putB (14 : Int).toNat 1 ++ putB xc.toNat 1 ++ putB xs.toNat 4 ++ txB d ++ putB (xz).toNat 4 ++ putB (xo).toNat 4)) := by
 unfold GdIs at hgd
 simp only [OpS.cells] at hgd ⊢
 go_enter Tryz.func60, Tryz.ntmps60
 go_wp2_with fail
 refine (hgd _ (OpBx.new w ⟨xc, xs, 14, p, q, xz, xh, xo, bs d, xi, xn, mp, ml, mc⟩ 31)).low (fun w2 hB2 => ?_)
 have HO2 := Lib.hid ((OpBx.new w ⟨xc, xs, 14, p, q, xz, xh, xo, bs d, xi, xn, mp, ml, mc⟩ 31).below hB2)
 clear hgd hB2
 go_wp2_with fail
 refine (rpNew_any w2).mono ?_
 rintro e w3 ⟨pb, rfl, hP3, hB3⟩
 have HE : Hid (RcIn w ⟨xc, xs, 14, p, q, xz, xh, xo, bs d, xi, xn, mp, ml, mc⟩ w2.heap.size pb [] w3) := Lib.hid ⟨HO2.out.below hB3, hP3, hB3.size, HO2.out.h⟩
 obtain ⟨c0, c1, c2, c3, c4, c5, c6, c7, c8, c9, c10, c11⟩ := HE.out.ox.parts
 clear hP3 hB3 HO2
 go_wp2_with fail
 refine (enN1 HE.out 14 (by decide) (by decide) (by decide)).mono ?_
 clear c0 c1 c2 c3 c4 c5 c6 c7 c8 c9 c10 c11
 rintro e wn ⟨rfl, hE⟩
 have HE := Lib.hid hE
 obtain ⟨c0, c1, c2, c3, c4, c5, c6, c7, c8, c9, c10, c11⟩ := HE.out.ox.parts
 clear hE
 go_wp2_with fail
 refine (enN1 HE.out xc (by omega) (by omega) lenB).mono ?_
 clear c0 c1 c2 c3 c4 c5 c6 c7 c8 c9 c10 c11
 rintro e wn ⟨rfl, hE⟩
 have HE := Lib.hid hE
 obtain ⟨c0, c1, c2, c3, c4, c5, c6, c7, c8, c9, c10, c11⟩ := HE.out.ox.parts
 clear hE
 go_wp2_with fail
 refine (enN4 HE.out xs (by omega) (by omega) lenB).mono ?_
 clear c0 c1 c2 c3 c4 c5 c6 c7 c8 c9 c10 c11
 rintro e wn ⟨rfl, hE⟩
 have HE := Lib.hid hE
 obtain ⟨c0, c1, c2, c3, c4, c5, c6, c7, c8, c9, c10, c11⟩ := HE.out.ox.parts
 clear hE
 go_wp2_with fail
 refine (enT1 HE.out d (by omega) lenB).mono ?_
 clear c0 c1 c2 c3 c4 c5 c6 c7 c8 c9 c10 c11
 rintro e wn ⟨rfl, hE⟩
 have HE := Lib.hid hE
 obtain ⟨c0, c1, c2, c3, c4, c5, c6, c7, c8, c9, c10, c11⟩ := HE.out.ox.parts
 clear hE
 go_wp2_with fail
 refine (enN4 HE.out xz (by omega) (by omega) lenB).mono ?_
 clear c0 c1 c2 c3 c4 c5 c6 c7 c8 c9 c10 c11
 rintro e wn ⟨rfl, hE⟩
 have HE := Lib.hid hE
 obtain ⟨c0, c1, c2, c3, c4, c5, c6, c7, c8, c9, c10, c11⟩ := HE.out.ox.parts
 clear hE
 go_wp2_with fail
 refine (enN4 HE.out xo (by omega) (by omega) lenB).mono ?_
 exact mK74
def EmRel (w : World) (x : OpS) (B pb : Nat) (mv : List Mv) (l : List UInt8) (g : Nat) (v : Value) (wr : World) : Prop := ∃ i : Nat, g = mv.length - i ∧ i ≤ mv.length ∧ v = .int .i64 i ∧ RcIn w x B pb (l ++ mvB (mv.take i)) wr
theorem enk13 (w : World) (xc xs : Int) (p q : Nm) (xz xh xo : Int) (d : Nm) (xi xn : Int) (mp : Option Addr) (ml mc : Nat) (mv : List Mv) (hc : 0 ≤ xc ∧ xc ≤ 7) (hs : 1 ≤ xs ∧ xs ≤ 2147483647) (hn : 0 ≤ xn ∧ xn ≤ 2147483647) (hd : d.length ≤ 1024) (hlen : ml = mv.length) (h16 : mv.length ≤ 16) (hrow : RwAt w (fun _ => True) 4 ml mp (mv.flatMap mvC)) (hgm : ∀ m ∈ mv, (0 ≤ m.1 ∧ m.1 ≤ 16383) ∧ (0 ≤ m.2.1 ∧ m.2.1 ≤ 1024) ∧ (0 ≤ m.2.2.1 ∧ m.2.2.1 ≤ 1024) ∧ (0 ≤ m.2.2.2 ∧ m.2.2.2 ≤ 1024)) (hgd : GdIs w ⟨xc, xs, 13, p, q, xz, xh, xo, bs d, xi, xn, mp, ml, mc⟩ true) : Calls Tryz.prog 60 #[.agg (OpS.mk xc xs 13 p q xz xh xo (bs d) xi xn mp ml mc).cells.toArray] w (EncIs w ([] ++ putB (13 : Int).toNat 1 ++ putB xc.toNat 1 ++ putB xs.toNat 4 ++ putB xn.toNat 4 ++ putB ml 1 ++ mvB mv ++ txB d)) := by
 have HROW := Lib.hid hrow
 have HGM := Lib.hid hgm
 subst hlen
 have hm1 : (0 : Int) ≤ mv.length := by omega
 clear hrow hgm
 unfold GdIs at hgd
 simp only [OpS.cells] at hgd ⊢
 go_enter Tryz.func60, Tryz.ntmps60
 go_wp2_with fail
 refine (hgd _ (OpBx.new w ⟨xc, xs, 13, p, q, xz, xh, xo, bs d, xi, xn, mp, mv.length, mc⟩ 31)).low (fun w2 hB2 => ?_)
 have HO2 := Lib.hid ((OpBx.new w ⟨xc, xs, 13, p, q, xz, xh, xo, bs d, xi, xn, mp, mv.length, mc⟩ 31).below hB2)
 clear hgd hB2
 go_wp2_with fail
 refine (rpNew_any w2).mono ?_
 rintro e w3 ⟨pb, rfl, hP3, hB3⟩
 have HE : Hid (RcIn w ⟨xc, xs, 13, p, q, xz, xh, xo, bs d, xi, xn, mp, mv.length, mc⟩ w2.heap.size pb [] w3) := Lib.hid ⟨HO2.out.below hB3, hP3, hB3.size, HO2.out.h⟩
 obtain ⟨c0, c1, c2, c3, c4, c5, c6, c7, c8, c9, c10, c11⟩ := HE.out.ox.parts
 clear hP3 hB3 HO2
 go_wp2_with fail
 refine (enN1 HE.out 13 (by decide) (by decide) (by decide)).mono ?_
 clear c0 c1 c2 c3 c4 c5 c6 c7 c8 c9 c10 c11
 rintro e wn ⟨rfl, hE⟩
 have HE := Lib.hid hE
 obtain ⟨c0, c1, c2, c3, c4, c5, c6, c7, c8, c9, c10, c11⟩ := HE.out.ox.parts
 clear hE
 go_wp2_with fail
 refine (enN1 HE.out xc (by omega) (by omega) lenB).mono ?_
 clear c0 c1 c2 c3 c4 c5 c6 c7 c8 c9 c10 c11
 rintro e wn ⟨rfl, hE⟩
 have HE := Lib.hid hE
 obtain ⟨c0, c1, c2, c3, c4, c5, c6, c7, c8, c9, c10, c11⟩ := HE.out.ox.parts
 clear hE
 go_wp2_with fail
 refine (enN4 HE.out xs (by omega) (by omega) lenB).mono ?_
 clear c0 c1 c2 c3 c4 c5 c6 c7 c8 c9 c10 c11
 rintro e wn ⟨rfl, hE⟩
 have HE := Lib.hid hE
 obtain ⟨c0, c1, c2, c3, c4, c5, c6, c7, c8, c9, c10, c11⟩ := HE.out.ox.parts
 clear hE
 go_wp2_with fail
 refine (enN4 HE.out xn (by omega) (by omega) lenB).mono ?_
 clear c0 c1 c2 c3 c4 c5 c6 c7 c8 c9 c10 c11
 rintro e wn ⟨rfl, hE⟩
 have HE := Lib.hid hE
 obtain ⟨c0, c1, c2, c3, c4, c5, c6, c7, c8, c9, c10, c11⟩ := HE.out.ox.parts
 clear hE
 go_wp2_with fail
 refine (enN1 HE.out (mv.length : Int) (by omega) (by omega) lenB).mono ?_
 clear c0 c1 c2 c3 c4 c5 c6 c7 c8 c9 c10 c11
 rintro e wn ⟨rfl, hE⟩
 have HE := Lib.hid hE
 obtain ⟨c0, c1, c2, c3, c4, c5, c6, c7, c8, c9, c10, c11⟩ := HE.out.ox.parts
 clear hE
 go_wp2_with fail
 clear c0 c1 c2 c3 c4 c5 c6 c7 c8 c9 c10 c11
 rename_i wq _
 go_loopg [5] mv.length (fun g v wr => EmRel w ⟨xc, xs, 13, p, q, xz, xh, xo, bs d, xi, xn, mp, mv.length, mc⟩ w2.heap.size pb mv ([] ++ putB (13 : Int).toNat 1 ++ putB xc.toNat 1 ++ putB xs.toNat 4 ++ putB xn.toNat 4 ++ putB mv.length 1) g v wr)
 case atStart => exact ⟨0, rfl, Nat.zero_le _, rfl, by rw [List.take_zero, show mvB [] = [] from rfl, List.append_nil]; exact HE.out⟩
 case round =>
  clear HE
  obtain ⟨i, hg, hi, rfl, hE⟩ := hrel
  subst hg
  have HE := Lib.hid hE
  obtain ⟨c0, c1, c2, c3, c4, c5, c6, c7, c8, c9, c10, c11⟩ := HE.out.ox.parts
  have htl : (mv.take i).length = i := by rw [List.length_take]; omega
  have hml : (mvB (mv.take i)).length = 8 * i := by rw [mvB_len, htl]
  clear hE
  by_cases hlt : i < mv.length
  · obtain ⟨xb, xo', rfl, -, hxl, hxc⟩ := HROW.out.elem mvC_len default hlt
    have hmem : mv.getD i default ∈ mv := by
     exact mK78
    have hb := HGM.out _ hmem
    have HTK := Lib.hid (take_one mv default hlt)
    obtain ⟨m, hm⟩ : ∃ m, m = mv.getD i default := ⟨_, rfl⟩
    rw [← hm] at hxc hb HTK
    clear hm hmem
    obtain ⟨a, b, e0, f⟩ := m
    simp only at hb
    have r0 : w.cell? ⟨xb, xo' + i * 4, none⟩ = some (.int .i64 a) := hxc 0 (by decide)
    have r1 : w.cell? ⟨xb, xo' + i * 4 + 1, none⟩ = some (.int .i64 b) := hxc 1 (by decide)
    have r2 : w.cell? ⟨xb, xo' + i * 4 + 2, none⟩ = some (.int .i64 e0) := hxc 2 (by decide)
    have r3 : w.cell? ⟨xb, xo' + i * 4 + 3, none⟩ = some (.int .i64 f) := hxc 3 (by decide)
    have hil : (i : Int) < (mv.length : Int) := Int.ofNat_lt.2 hlt
    have hwi : wrap64 ((i : Int) + 1) = ((i + 1 : Nat) : Int) := by unfold wrap64; omega
    have HWI := Lib.hid hwi
    have hms : mv.length - (i + 1) < mv.length - i := Nat.sub_lt_sub_left hlt (Nat.lt_succ_self i)
    have hi1 : i + 1 ≤ mv.length := hlt
    have HR := Lib.hid (And.intro r0 (And.intro r1 (And.intro r2 r3)))
    clear hxc hwi r0 r1 r2 r3
    have f0 := below_at HE.out.ox.b HR.out.1 hxl
    go_wp2_with fail
    clear f0
    refine (enN2 HE.out a (by omega) (by omega) (by simp [putB_length, hml]; try omega)).mono ?_
    clear c0 c1 c2 c3 c4 c5 c6 c7 c8 c9 c10 c11
    rintro e wn ⟨rfl, hE⟩
    have HE := Lib.hid hE
    obtain ⟨c0, c1, c2, c3, c4, c5, c6, c7, c8, c9, c10, c11⟩ := HE.out.ox.parts
    clear hE
    have fn := below_at HE.out.ox.b HR.out.2.1 hxl
    go_wp2_with fail
    clear fn
    refine (enN2 HE.out b (by omega) (by omega) (by simp [putB_length, hml]; try omega)).mono ?_
    clear c0 c1 c2 c3 c4 c5 c6 c7 c8 c9 c10 c11
    rintro e wn ⟨rfl, hE⟩
    have HE := Lib.hid hE
    obtain ⟨c0, c1, c2, c3, c4, c5, c6, c7, c8, c9, c10, c11⟩ := HE.out.ox.parts
    clear hE
    have fn := below_at HE.out.ox.b HR.out.2.2.1 hxl
    go_wp2_with fail
    clear fn
    refine (enN2 HE.out e0 (by omega) (by omega) (by simp [putB_length, hml]; try omega)).mono ?_
    clear c0 c1 c2 c3 c4 c5 c6 c7 c8 c9 c10 c11
    rintro e wn ⟨rfl, hE⟩
    have HE := Lib.hid hE
    obtain ⟨c0, c1, c2, c3, c4, c5, c6, c7, c8, c9, c10, c11⟩ := HE.out.ox.parts
    clear hE
    have fn := below_at HE.out.ox.b HR.out.2.2.2 hxl
    go_wp2_with fail
    clear fn
    refine (enN2 HE.out f (by omega) (by omega) (by simp [putB_length, hml]; try omega)).mono ?_
    clear c0 c1 c2 c3 c4 c5 c6 c7 c8 c9 c10 c11
    rintro e wn ⟨rfl, hE⟩
    have HE := Lib.hid hE
    obtain ⟨c0, c1, c2, c3, c4, c5, c6, c7, c8, c9, c10, c11⟩ := HE.out.ox.parts
    clear hE
    go_wp2_with fail
    go_roundg (mv.length - (i + 1))
    case measure => exact hms
    case rel => exact ⟨i + 1, rfl, hi1, by first | rfl | rw [HWI.out], by rw [HTK.out, mvB_snoc]; simpa only [List.append_assoc] using HE.out⟩
  · obtain rfl : i = mv.length := Nat.le_antisymm hi (Nat.not_lt.1 hlt)
    have hge : ¬ (mv.length : Int) < mv.length := Int.lt_irrefl _
    have hE := HE.out
    rw [List.take_length] at hE
    have HE := Lib.hid hE
    have hml : (mvB mv).length = 8 * mv.length := mvB_len mv
    clear hlt hi hE
    go_wp2_with fail
    refine (enT1 HE.out d (by omega) (by simp [putB_length, hml]; try omega)).mono ?_
    clear c0 c1 c2 c3 c4 c5 c6 c7 c8 c9 c10 c11
    rintro e wn ⟨rfl, hE⟩
    have HE := Lib.hid hE
    clear hE
    go_wp2_with fail
    refine (rpDone_ok _ w2.heap.size pb _ HE.out.pk (by simp [putB_length, txB, hml]; omega)).low (fun wz hz => ?_)
    have HZ := Lib.hid (HE.out.ox.below hz).b
    clear hz
    go_wp2_with fail
    go_ret2
    exact ⟨rfl, HZ.out⟩
theorem enk_no (w : World) (x : OpS) (hgd : GdIs w x false) : Calls Tryz.prog 60 #[.agg x.cells.toArray] w fun e w' => e = .returned (.tuple #[.string (bs []), .int .i64 11]) ∧ Below w.heap.size w w' := by
 obtain ⟨xc, xs, xk, p, q, xz, xh, xo, xt, xi, xn, mp, ml, mc⟩ := x
 unfold GdIs at hgd
 simp only [OpS.cells] at hgd ⊢
 go_enter Tryz.func60, Tryz.ntmps60
 go_wp2_with fail
 refine (hgd _ (OpBx.new w ⟨xc, xs, xk, p, q, xz, xh, xo, xt, xi, xn, mp, ml, mc⟩ 31)).low (fun w2 hB2 => ?_)
 have HO2 := Lib.hid ((OpBx.new w ⟨xc, xs, xk, p, q, xz, xh, xo, xt, xi, xn, mp, ml, mc⟩ 31).below hB2)
 clear hgd hB2
 go_wp2_with fail
 go_ret2
 exact ⟨rfl, HO2.out.b⟩
theorem win_of {v lo hi : Int} (h : winB v lo hi = true) : lo ≤ v ∧ v ≤ hi := by simpa [winB] using h
/-- the document's text of any record -/
theorem enc_all (w : World) (x : OpS) (mv : List Mv) (hx : OpIn w x mv) (hp : x.path.length ≤ 2000) (hq : x.dest.length ≤ 2000) (hm : mv.length ≤ 100) : Calls Tryz.prog 60 #[.agg x.cells.toArray] w fun e w' => e = .returned (.tuple #[.string (bs (x.enT mv).1), .int .i64 (x.enT mv).2]) ∧ Below w.heap.size w w' := by
 have hgd : GdIs w x (x.good mv) := fun W hW => rgood_all W x mv ⟨hx.below' hW.b, by omega, by omega, by omega⟩
 unfold OpS.enT
 cases hg : x.good mv
 · rw [if_neg (by decide)]; rw [hg] at hgd; exact enk_no w x hgd
 rw [if_pos rfl]
 rw [hg] at hgd
 unfold OpS.good at hg
 simp only [Bool.and_eq_true] at hg
 obtain ⟨⟨⟨⟨hk, h1⟩, h2⟩, hf⟩, -⟩ := hg
 obtain ⟨xc, xs, xk, p, q, xz, xh, xo, xt, xi, xn, mp, ml, mc⟩ := x
 have hk2 : 0 < xk ∧ xk < 15 := by simpa [knownB] using hk
 clear hk
 have hc := win_of h1
 have hs := win_of h2
 have hrow := hx.row
 have hlen := hx.len
 obtain ⟨d, rfl⟩ : ∃ d, xt = bs d := ⟨xt.data.toList, rfl⟩
 have hdd : (bs d).size = d.length := rfl
 simp only at hrow hlen hp hq hc hs hf
 obtain rfl | rfl | rfl | rfl | rfl | rfl | rfl | rfl | rfl | rfl | rfl | rfl | rfl | rfl : xk = 1 ∨ xk = 2 ∨ xk = 3 ∨ xk = 4 ∨ xk = 5 ∨ xk = 6 ∨ xk = 7 ∨ xk = 8 ∨ xk = 9 ∨ xk = 10 ∨ xk = 11 ∨ xk = 12 ∨ xk = 13 ∨ xk = 14 := by omega
 · exact enk1 w xc xs p q xz xh xo (bs d) xi xn mp ml mc hc hs hp hgd
 · exact enk2 w xc xs p q xz xh xo (bs d) xi xn mp ml mc hc hs hp hgd
 · exact enk3 w xc xs p q xz xh xo (bs d) xi xn mp ml mc hc hs hp hgd
 · exact enk4 w xc xs p q xz xh xo (bs d) xi xn mp ml mc hc hs hp hq hgd
 · exact enk5 w xc xs p q xz xh xo (bs d) xi xn mp ml mc hc hs hp hgd
 · exact enk6 w xc xs p q xz xh xo (bs d) xi xn mp ml mc hc hs hp hq hgd
 · have hf : (goodPath p && winB xz 0 8192) = true := hf
   rw [Bool.and_eq_true] at hf
   exact enk7 w xc xs p q xz xh xo (bs d) xi xn mp ml mc hc hs hp (win_of hf.2) hgd
 · exact enk8 w xc xs p q xz xh xo (bs d) xi xn mp ml mc hc hs hp hgd
 · exact enk9 w xc xs p q xz xh xo (bs d) xi xn mp ml mc hc hs (win_of hf) hgd
 · have hf : (winB xh 0 16383 && winB xo 0 8192 && winB (bs d).size 1 1024) = true := hf
   simp only [Bool.and_eq_true] at hf
   have h9 := win_of hf.2
   exact enk10 w xc xs p q xz xh xo d xi xn mp ml mc hc hs (win_of hf.1.1) (win_of hf.1.2) (by omega) hgd
 · exact enk11 w xc xs p q xz xh xo (bs d) xi xn mp ml mc hc hs (win_of hf) hgd
 · exact enk12 w xc xs p q xz xh xo (bs d) xi xn mp ml mc hc hs (win_of hf) hgd
 · have hf : (winB xn 1 2147483647 && winB mv.length 1 16 && decide ((bs d).size ≤ 1024) && mv.all (goodMv (bs d).size)) = true := hf
   simp only [Bool.and_eq_true, decide_eq_true_eq] at hf
   obtain ⟨⟨⟨h6, h7⟩, h8⟩, h9⟩ := hf
   have h6 := win_of h6
   have h7 := win_of h7
   have hgm : ∀ m ∈ mv, (0 ≤ m.1 ∧ m.1 ≤ 16383) ∧ (0 ≤ m.2.1 ∧ m.2.1 ≤ 1024) ∧ (0 ≤ m.2.2.1 ∧ m.2.2.1 ≤ 1024) ∧ (0 ≤ m.2.2.2 ∧ m.2.2.2 ≤ 1024) := fun m hm => by
    have h := List.all_eq_true.1 h9 m hm
    obtain ⟨a, b, c, e⟩ := m
    rw [goodMv_doc _ _ _ _ _ h8] at h
    simp only [Bool.and_eq_true] at h
    have h1 := win_of h.1
    have h2 := win_of h.2.1
    have h3 := win_of h.2.2.1
    have h4 := win_of h.2.2.2.1
    exact ⟨h1, h2, ⟨by show 0 ≤ c; omega, h3.2⟩, h4⟩
   exact enk13 w xc xs p q xz xh xo d xi xn mp ml mc mv hc hs ⟨by omega, h6.2⟩ (by omega) hlen (by omega) (by rw [hlen]; exact hrow) hgm hgd
 · have hf : (winB (bs d).size 1 1024 && winB xz 1 65536 && winB xo 0 (xz - (bs d).size)) = true := hf
   simp only [Bool.and_eq_true] at hf
   have h7 := win_of hf.1.1
   have h8 := win_of hf.1.2
   have h9 := win_of hf.2
   exact enk14 w xc xs p q xz xh xo d xi xn mp ml mc hc hs (by omega) (by omega) (by omega) hgd
end Go.Proofs.YtajbooppoohplaaGreatDoor
