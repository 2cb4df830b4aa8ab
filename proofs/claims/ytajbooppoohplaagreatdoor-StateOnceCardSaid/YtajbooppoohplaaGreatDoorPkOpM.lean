import Derived.Test.YtajbooppoohplaaGreatDoorMac
import Derived.Test.YtajbooppoohplaaGreatDoorPkByt
import Derived.Test.YtajbooppoohplaaGreatDoorPkPath
import Derived.Sort.Statements
import Derived.Test.YtajbooppoohplaaGreatDoorChecked
import Derived.Test.YtajbooppoohplaaGreatDoorShelf2
import Derived.Test.YtajbooppoohplaaGreatDoorPkBase
import Derived.Lib.Hide
import Derived.Deep.LoopGhost
import Derived.Deep.RegionHeld3
import Derived.Deep.QuietTactic
/- package op: records; within, known, kept -/
set_option maxRecDepth 100000
set_option maxHeartbeats 2000000
namespace Esch
open Go Go.RowKit
/-- a record, its moves as they lie -/
structure OpS where
  client : Int
  seq : Int
  kind : Int
  path : Nm
  dest : Nm
  size : Int
  hd : Int
  off : Int
  data : ByteArray
  tick : Int
  ino : Int
  mp : Option Addr
  ml : Nat
  mc : Nat
def OpS.cells (x : OpS) : List Value := [.int .i64 x.client, .int .i64 x.seq, .int .i64 x.kind, .string (bs x.path), .string (bs x.dest), .int .i64 x.size, .int .i64 x.hd, .int .i64 x.off, .string x.data, .int .i64 x.tick, .int .i64 x.ino, .slice x.mp x.ml x.mc]
def opN (c s k : Int) : OpS := ⟨c, s, k, [], [], 0, 0, 0, ⟨#[]⟩, 0, 0, none, 0, 0⟩
/-- one field of x laid into o, by its letter -/
def OpS.put (x o : OpS) (c : UInt8) : OpS :=
  if c = 112 then { o with path := x.path } else if c = 116 then { o with dest := x.dest } else if c = 115 then { o with size := x.size } else if c = 104 then { o with hd := x.hd }
  else if c = 111 then { o with off := x.off } else if c = 100 then { o with data := x.data } else if c = 107 then { o with tick := x.tick } else if c = 105 then { o with ino := x.ino }
  else if c = 109 then { o with mp := x.mp, ml := x.ml, mc := x.mc } else o
/-- the letters of each kind -/
def fldL (k : Nat) : List UInt8 := [[], [112], [112], [112], [112, 116], [112], [112, 116], [112, 115], [112], [104], [104, 111, 100], [107], [107], [105, 109, 100], [100, 115, 111]].getD k []
def letters : List UInt8 := [112, 116, 115, 104, 111, 100, 107, 105, 109]
theorem fldL_in (k : Nat) (c : UInt8) (h : c ∈ fldL k) : c ∈ letters := by
 by_cases hk : k < 15
 · have : ∀ k : Fin 15, ∀ c ∈ fldL k, c ∈ letters := by decide
   exact this ⟨k, hk⟩ c h
 · have : fldL k = [] := by
    exact mK14
   rw [this] at h
   cases h
def OpS.kept (x : OpS) : OpS := (fldL x.kind.toNat).foldl x.put (opN x.client x.seq x.kind)
/-- the table of the letters, a global -/
def FieldsAt (w : World) : Prop := ∀ k, k < 15 → w.cell? ⟨0, k, none⟩ = some (.string ⟨(fldL k).toArray⟩)
theorem FieldsAt.below {w w' : World} {n : Nat} (h : FieldsAt w) (hB : Below n w w') (hn : 0 < n) : FieldsAt w' := fun k hk => (hB.cell (p := ⟨0, k, none⟩) hn).trans (h k hk)
/-- a record in a box -/
def OpAt (w : World) (b : Nat) (o : OpS) : Prop := (∀ j, j < 12 → w.cell? ⟨b, j, none⟩ = o.cells[j]?) ∧ ∀ j, w.frozen? ⟨b, j, none⟩ = false
theorem OpAt.set {w : World} {b : Nat} {o o' : OpS} (h : OpAt w b o) (j : Nat) (v : Value) (hj : j < 12) (hv : o'.cells = o.cells.set j v) : OpAt (w.setCell ⟨b, j, none⟩ v) b o' := by
 have hl : o.cells.length = 12 := rfl
 have hc : w.cell? ⟨b, j, none⟩ = some (o.cells[j]'(by omega)) := by rw [h.1 j hj, List.getElem?_eq_getElem (by omega)]
 refine ⟨fun i hi => ?_, fun i => (World.frozen?_setCell _ _ _ _).trans (h.2 i)⟩
 rw [hv]
 by_cases e : i = j
 · exact mK15
 · rw [List.getElem?_set_ne (fun h => e h.symm), ← h.1 i hi]
   have : ¬ j = i := fun h => e h.symm
   go_simp
end Esch
namespace Go.Proofs.YtajbooppoohplaaGreatDoor
open Go.RowKit Esch

theorem within_any (w : World) (n a b : Int) : Calls Tryz.prog 122 #[.int .i64 n, .int .i64 a, .int .i64 b] w fun e w' => e = .returned (.bool (decide (a ≤ n) && decide (n ≤ b))) ∧ w' = w := by
 go_enter Tryz.func122, Tryz.ntmps122
 exact mK16
theorem known_any (w : World) (k : Int) : Calls Tryz.prog 71 #[.int .i64 k] w fun e w' => e = .returned (.bool (decide (0 < k) && decide (k < 15))) ∧ w' = w := by
 go_enter Tryz.func71, Tryz.ntmps71
 exact mK16
end Go.Proofs.YtajbooppoohplaaGreatDoor
/- package op: the forms, one by one -/
namespace Esch
def goodPath (p : Nm) : Bool := (namesOf p).isSome
def winB (n a b : Int) : Bool := decide (a ≤ n) && decide (n ≤ b)
end Esch
namespace Go.Proofs.YtajbooppoohplaaGreatDoor
open Go.RowKit Esch

def BoolB (w : World) (r : Bool) (e : Ending) (w' : World) : Prop := e = .returned (.bool r) ∧ Below w.heap.size w w'
theorem form1_any (w : World) (x : OpS) : Calls Tryz.prog 161 #[.agg x.cells.toArray] w (BoolB w (goodPath x.path)) := by
 have hg := fun W => good_any W x.path
 unfold goodPath
 generalize (namesOf x.path).isSome = r at hg ⊢
 simp only [OpS.cells]
 go_enter Tryz.func161, Tryz.ntmps161
 go_wp2_with fail
 refine (hg _).mono ?_
 clear hg
 rintro e w1 ⟨rfl, hB⟩
 have hz := hB.size
 simp only [World.size_alloc] at hz
 go_wp2_with fail
 go_ret
 exact ⟨rfl, ((show Below w.heap.size w (w.alloc _) by exact belC (Below.refl _ _)).trans (hB.mono (by simp)))⟩
theorem form3_any (w : World) (x : OpS) : Calls Tryz.prog 164 #[.agg x.cells.toArray] w (BoolB w (decide (0 ≤ x.tick) && decide (x.tick ≤ 1099511627776))) := by
 simp only [OpS.cells]
 go_enter Tryz.func164, Tryz.ntmps164
 go_wp2
 all_goals
   go_ret
   refine ⟨?_, by exact belC (Below.refl _ _)⟩
   first | (simp [*]; done) | (simp; omega)
theorem form5_any (w : World) (x : OpS) : Calls Tryz.prog 166 #[.agg x.cells.toArray] w (BoolB w (decide (0 ≤ x.hd) && decide (x.hd ≤ 16383))) := by
 have hg := fun W => within_any W x.hd 0 16383
 generalize (decide ((0 : Int) ≤ x.hd) && decide (x.hd ≤ 16383)) = r at hg ⊢
 simp only [OpS.cells]
 go_enter Tryz.func166, Tryz.ntmps166
 go_wp2_with fail
 refine (hg _).mono ?_
 clear hg
 exact mK18
theorem form2_any (w : World) (x : OpS) : Calls Tryz.prog 163 #[.agg x.cells.toArray] w (BoolB w (goodPath x.path && goodPath x.dest)) := by
 obtain ⟨xc, xs, xk, p, q, xz, xh, xo, xt, xi, xn, mp, ml, mc⟩ := x
 have hg := fun W => good_any W p
 have hh := fun W => good_any W q
 unfold goodPath
 simp only [OpS.cells]
 obtain ⟨W1, hW1⟩ : ∃ W1, W1 = w.alloc (.cells #[.int .i64 xc, .int .i64 xs, .int .i64 xk, .string (bs p), .string (bs q), .int .i64 xz, .int .i64 xh, .int .i64 xo, .string xt, .int .i64 xi, .int .i64 xn, .slice mp ml mc] 31) := ⟨_, rfl⟩
 have c4 : W1.cell? ⟨w.heap.size, 4, none⟩ = some (.string (bs q)) := by rw [hW1]; go_simp
 have hB1 : Below w.heap.size w W1 := by rw [hW1]; exact belC (Below.refl _ _)
 cases h1 : (namesOf p).isSome
 · rw [h1] at hg
   clear hh c4 h1
   go_enter Tryz.func163, Tryz.ntmps163
   go_wp2_with fail
   rw [← hW1]
   refine (hg _).mono ?_
   clear hg
   rintro e w1 ⟨rfl, hB⟩
   exact mK19
 · rw [h1] at hg
   generalize (namesOf q).isSome = r at hh ⊢
   clear h1
   go_enter Tryz.func163, Tryz.ntmps163
   go_wp2_with fail
   rw [← hW1]
   refine (hg _).mono ?_
   clear hg
   rintro e w1 ⟨rfl, hB⟩
   have d4 := below_at hB c4 (cell_lt c4)
   go_wp2_with fail
   refine (hh _).mono ?_
   clear hh
   rintro e w2 ⟨rfl, hB2⟩
   go_wp2_with fail
   go_ret
   exact ⟨rfl, hB1.trans ((hB.trans (hB2.mono hB.size)).mono hB1.size)⟩
theorem within_b (n a b : Int) (w : World) : Calls Tryz.prog 122 #[.int .i64 n, .int .i64 a, .int .i64 b] w fun e w' => e = .returned (.bool (winB n a b)) ∧ w' = w := within_any w n a b
theorem form6_any (w : World) (x : OpS) : Calls Tryz.prog 167 #[.agg x.cells.toArray] w (BoolB w (winB x.hd 0 16383 && winB x.off 0 8192 && winB x.data.size 1 1024)) := by
 obtain ⟨xc, xs, xk, p, q, xz, xh, xo, xt, xi, xn, mp, ml, mc⟩ := x
 have g1 := within_b xh 0 16383
 have g2 := within_b xo 0 8192
 have g3 := within_b xt.size 1 1024
 simp only [OpS.cells]
 generalize winB xh 0 16383 = r1 at g1 ⊢
 generalize winB xo 0 8192 = r2 at g2 ⊢
 generalize winB xt.size 1 1024 = r3 at g3 ⊢
 cases r1
 · go_enter Tryz.func167, Tryz.ntmps167
   exact mK22
 cases r2
 · go_enter Tryz.func167, Tryz.ntmps167
   exact mK21
 go_enter Tryz.func167, Tryz.ntmps167
 exact mK20
theorem form8_any (w : World) (x : OpS) : Calls Tryz.prog 171 #[.agg x.cells.toArray] w (BoolB w (winB x.data.size 1 1024 && winB x.size 1 65536 && winB x.off 0 (x.size - x.data.size))) := by
 obtain ⟨xc, xs, xk, p, q, xz, xh, xo, xt, xi, xn, mp, ml, mc⟩ := x
 have g1 := within_b xt.size 1 1024
 have g2 := within_b xz 1 65536
 have g3 := within_b xo 0 (xz - xt.size)
 simp only [OpS.cells]
 have hw : winB xt.size 1 1024 = true → winB xz 1 65536 = true → IntKind.i64.wrap (xz - xt.size) = xz - xt.size := fun h1 h2 => by
  simp [winB] at h1 h2
  rw [IntKind.wrap_i64]; omega
 have hw2 : winB xt.size 1 1024 = true → winB xz 1 65536 = true → wrap64 (xz - xt.size) = xz - xt.size := fun h1 h2 => by
  simp [winB] at h1 h2
  unfold wrap64; omega
 generalize winB xt.size 1 1024 = r1 at g1 hw hw2 ⊢
 generalize winB xz 1 65536 = r2 at g2 hw hw2 ⊢
 generalize winB xo 0 (xz - xt.size) = r3 at g3 ⊢
 cases r1
 · clear hw hw2 g2 g3
   go_enter Tryz.func171, Tryz.ntmps171
   exact mK22
 cases r2
 · clear hw hw2 g3
   go_enter Tryz.func171, Tryz.ntmps171
   exact mK21
 have hw := hw rfl rfl
 have hw2 := hw2 rfl rfl
 go_enter Tryz.func171, Tryz.ntmps171
 exact mK20
end Go.Proofs.YtajbooppoohplaaGreatDoor
/- package op: form 4 -/
namespace Go.Proofs.YtajbooppoohplaaGreatDoor
open Go.RowKit Esch

theorem form4_any (w : World) (x : OpS) (fb : Nat) (hf : w.cell? ⟨fb, 0, none⟩ = some (.func (.func 161) #[] #[])) :
    Calls Tryz.prog 165 #[.agg x.cells.toArray, .pointer (some ⟨fb, 0, none⟩)] w (BoolB w (goodPath x.path && winB x.size 0 8192)) := by
 have g1 := fun W => form1_any W x
 have g2 := within_b x.size 0 8192
 obtain ⟨xc, xs, xk, p, q, xz, xh, xo, xt, xi, xn, mp, ml, mc⟩ := x
 simp only [OpS.cells] at *
 have hl := cell_lt hf
 obtain ⟨W1, hW1⟩ : ∃ W1, W1 = w.alloc (.cells #[.int .i64 xc, .int .i64 xs, .int .i64 xk, .string (bs p), .string (bs q), .int .i64 xz, .int .i64 xh, .int .i64 xo, .string xt, .int .i64 xi, .int .i64 xn, .slice mp ml mc] 31) := ⟨_, rfl⟩
 have c5 : W1.cell? ⟨w.heap.size, 5, none⟩ = some (.int .i64 xz) := by rw [hW1]; go_simp
 have hB1 : Below w.heap.size w W1 := by rw [hW1]; exact belC (Below.refl _ _)
 generalize goodPath p = r1 at g1 ⊢
 generalize winB xz 0 8192 = r2 at g2 ⊢
 cases r1
 · go_enter Tryz.func165, Tryz.ntmps165
   go_wp2_with fail
   rw [← hW1]
   refine (g1 _).mono ?_
   rintro e w1 ⟨rfl, hB⟩
   exact mK19
 · go_enter Tryz.func165, Tryz.ntmps165
   go_wp2_with fail
   rw [← hW1]
   refine (g1 _).mono ?_
   rintro e w1 ⟨rfl, hB⟩
   have d5 := below_at hB c5 (cell_lt c5)
   go_wp2_with fail
   refine (g2 _).mono ?_
   rintro e w2 ⟨rfl, rfl⟩
   exact mK19
end Go.Proofs.YtajbooppoohplaaGreatDoor
/- records, plain: moves; what is good; the record of a text -/
namespace Esch
open Go Go.RowKit
abbrev Mv := Int × Int × Int × Int
def mvC (m : Mv) : List Value := [.int .i64 m.1, .int .i64 m.2.1, .int .i64 m.2.2.1, .int .i64 m.2.2.2]
/-- a move that a record of so many bytes may have -/
def goodMv (dl : Nat) (m : Mv) : Bool := winB m.1 0 16383 && (winB m.2.1 0 1024 && (winB m.2.2.1 1 1024 && (decide (0 ≤ m.2.2.2) && decide (m.2.2.2 ≤ (dl : Int) - m.2.2.1))))
/-- the form of its kind -/
def OpS.form (x : OpS) (mv : List Mv) : Bool :=
  if x.kind = 4 ∨ x.kind = 6 then goodPath x.path && goodPath x.dest
  else if x.kind = 7 then goodPath x.path && winB x.size 0 8192
  else if x.kind = 9 then winB x.hd 0 16383
  else if x.kind = 10 then winB x.hd 0 16383 && winB x.off 0 8192 && winB x.data.size 1 1024
  else if x.kind = 11 ∨ x.kind = 12 then winB x.tick 0 1099511627776
  else if x.kind = 13 then winB x.ino 1 2147483647 && winB mv.length 1 16 && decide (x.data.size ≤ 1024) && mv.all (goodMv x.data.size)
  else if x.kind = 14 then winB x.data.size 1 1024 && winB x.size 1 65536 && winB x.off 0 (x.size - x.data.size)
  else goodPath x.path
/-- are a record and that of its kind's fields alone alike? -/
def OpS.alike (x y : OpS) : Bool := decide (x.client = y.client) && (decide (x.seq = y.seq) && (decide (x.kind = y.kind) && (decide (x.path = y.path) && (decide (x.dest = y.dest) && (decide (x.size = y.size) && (decide (x.hd = y.hd) && (decide (x.off = y.off) && (decide (x.data = y.data) && (decide (x.tick = y.tick) && (decide (x.ino = y.ino) && decide (x.ml = y.ml)))))))))))
def knownB (k : Int) : Bool := decide (0 < k) && decide (k < 15)
def OpS.good (x : OpS) (mv : List Mv) : Bool := knownB x.kind && winB x.client 0 7 && winB x.seq 1 2147483647 && x.form mv && x.alike x.kept
theorem mvC_len (m : Mv) : (mvC m).length = 4 := rfl
/-- moves as they lie -/
abbrev MvsAt (w : World) (S : Nat → Prop) (a : Option Addr) (l : List Mv) : Prop := RwAt w S 4 l.length a (l.flatMap mvC)
/-- a record whose moves lie -/
structure OpIn (w : World) (x : OpS) (mv : List Mv) : Prop where
  len : x.ml = mv.length
  row : MvsAt w (fun _ => True) x.mp mv
  cap : x.ml ≤ x.mc
  few : x.mc ≤ 9223372036854775807
theorem OpIn.below' {w w' : World} {x : OpS} {mv : List Mv} (h : OpIn w x mv) (hB : Below w.heap.size w w') : OpIn w' x mv := ⟨h.len, h.row.below' hB, h.cap, h.few⟩
end Esch
/- names in directories, plain: entries by key; their order; two sorted lists of one set are one -/
namespace Esch
open Go

abbrev DK := Int × Nm
abbrev Ent := DK × Int
def lexS (a b : Nm) : Bool := Op.bytesLess a b
theorem lexS_irrefl : ∀ a, lexS a a = false
  | [] => rfl
  | x :: a => by
    have := lexS_irrefl a
    unfold lexS at *
    simp [Op.bytesLess, this]
theorem lexS_trans : ∀ a b c, lexS a b = true → lexS b c = true → lexS a c = true
  | _, _, [], _, h => by simp [lexS, Op.bytesLess] at h
  | _, [], _ :: _, h, _ => by simp [lexS, Op.bytesLess] at h
  | [], _ :: _, _ :: _, _, _ => rfl
  | x :: a, y :: b, z :: c, h1, h2 => by
    have ih := lexS_trans a b c
    simp only [lexS, Op.bytesLess, Bool.or_eq_true, Bool.and_eq_true, decide_eq_true_eq, beq_iff_eq] at *
    rcases h1 with h1 | ⟨rfl, h1⟩
    · rcases h2 with h2 | ⟨rfl, h2⟩
      · exact Or.inl (UInt8.lt_trans h1 h2)
      · exact Or.inl h1
    · rcases h2 with h2 | ⟨rfl, h2⟩
      · exact Or.inl h2
      · exact Or.inr ⟨rfl, ih h1 h2⟩
theorem lexS_total : ∀ a b, lexS a b = false → lexS b a = false → a = b
  | [], [], _, _ => rfl
  | [], _ :: _, h, _ => by simp [lexS, Op.bytesLess] at h
  | _ :: _, [], _, h => by simp [lexS, Op.bytesLess] at h
  | x :: a, y :: b, h1, h2 => by
    have ih := lexS_total a b
    simp only [lexS, Op.bytesLess, Bool.or_eq_false_iff, Bool.and_eq_false_iff, decide_eq_false_iff_not, beq_eq_false_iff_ne, ne_eq] at *
    have e : x = y := UInt8.toNat_inj.1 (by have := h1.1; have := h2.1; simp only [UInt8.lt_iff_toNat_lt] at *; omega)
    subst e
    rw [ih (h1.2.resolve_left (fun h => h rfl)) (h2.2.resolve_left (fun h => h rfl))]
def keyLt (a b : DK) : Bool := decide (a.1 < b.1) || (decide (a.1 = b.1) && lexS a.2 b.2)
theorem keyLt_irrefl (a : DK) : keyLt a a = false := by simp [keyLt, lexS_irrefl]
theorem keyLt_trans {a b c : DK} (h1 : keyLt a b = true) (h2 : keyLt b c = true) : keyLt a c = true := by
 simp only [keyLt, Bool.or_eq_true, Bool.and_eq_true, decide_eq_true_eq] at *
 rcases h1 with h1 | ⟨h1, k1⟩
 · rcases h2 with h2 | ⟨h2, k2⟩ <;> exact Or.inl (by omega)
 · rcases h2 with h2 | ⟨h2, k2⟩
   · exact Or.inl (by omega)
   · exact Or.inr ⟨by omega, lexS_trans _ _ _ k1 k2⟩
theorem keyLt_total {a b : DK} (h1 : keyLt a b = false) (h2 : keyLt b a = false) : a = b := by
 simp only [keyLt, Bool.or_eq_false_iff, Bool.and_eq_false_iff, decide_eq_false_iff_not] at *
 have e : a.1 = b.1 := by omega
 exact Prod.ext e (lexS_total _ _ (h1.2.resolve_left (fun h => h e)) (h2.2.resolve_left (fun h => h e.symm)))
theorem keyLt_asymm {a b : DK} (h : keyLt a b = true) : keyLt b a = false := by
 cases e : keyLt b a
 · rfl
 · have := keyLt_trans h e
   rw [keyLt_irrefl] at this; cases this
def entLt (x y : Ent) : Bool := keyLt x.1 y.1
theorem entLt_swo : Sort.SWO entLt where
  irrefl x := keyLt_irrefl _
  trans x y z := keyLt_trans
  ntrans x y z h1 h2 := by
    cases e : entLt x z
    · rfl
    · exfalso
      unfold entLt at *
      cases e1 : keyLt y.1 x.1
      · rw [keyLt_total h1 e1] at e; rw [e] at h2; cases h2
      · have := keyLt_trans e1 e
        rw [h2] at this; cases this
/-- the entries that are such, in order -/
def SortedOf (m : List Ent) (p : Ent → Bool) (l : List Ent) : Prop := l.Perm (m.filter p) ∧ l.Pairwise (fun x y => entLt x y = true)
theorem sorted_strict {l : List Ent} (hs : l.Pairwise (fun x y => entLt y x = false)) (hn : (l.map (·.1)).Nodup) : l.Pairwise (fun x y => entLt x y = true) := by
 induction l with
 | nil => exact List.Pairwise.nil
 | cons a l ih =>
   rw [List.pairwise_cons] at hs ⊢
   rw [List.map_cons, List.nodup_cons] at hn
   refine ⟨fun b hb => ?_, ih hs.2 hn.2⟩
   cases e : entLt a b
   · exact absurd (List.mem_map.2 ⟨b, hb, (keyLt_total e (hs.1 b hb)).symm⟩) hn.1
   · rfl
theorem sorted_unique {l k : List Ent} (hp : l.Perm k) (hl : l.Pairwise (fun x y => entLt x y = true)) (hk : k.Pairwise (fun x y => entLt x y = true)) : l = k :=
  hp.eq_of_pairwise (fun a b _ _ h1 h2 => by
    have := keyLt_asymm h1
    unfold entLt at h2
    rw [this] at h2; cases h2) hl hk
theorem SortedOf.unique {m m' : List Ent} {p : Ent → Bool} {l k : List Ent} (hl : SortedOf m p l) (hk : SortedOf m' p k) (hm : m.Perm m') : l = k :=
  sorted_unique ((hl.1.trans (hm.filter p)).trans hk.1.symm) hl.2 hk.2
structure DirS where
  m : List Ent
  c : List (Int × Int)
def DirS.find (s : DirS) (d : Int) (n : Nm) : Option Int := get s.m (d, n)
def DirS.count (s : DirS) (d : Int) : Int := (get s.c d).getD 0
def DirS.add (s : DirS) (d : Int) (n : Nm) (i : Int) : Int × DirS :=
  if nameL n = false then (11, s) else if d < 1 ∨ 2147483647 < d ∨ i < 1 ∨ 2147483647 < i then (1, s) else if (s.find d n).isSome = true then (61, s)
  else if 64 ≤ s.count d then (67, s) else (0, ⟨set s.m (d, n) i, set s.c d (s.count d + 1)⟩)
def DirS.drop (s : DirS) (d : Int) (n : Nm) : Int × DirS := if s.find d n = none then (60, s) else (0, ⟨del s.m (d, n), set s.c d (s.count d - 1)⟩)
end Esch
/- the order of entries: cmp.Compare, cmp.Or, the closure of (*dir.Names).some -/
namespace Go.Proofs.YtajbooppoohplaaGreatDoor
open Go.RowKit Esch Go.Shelf

def cmpI (x y : Int) : Int := if x < y then -1 else if y < x then 1 else 0
def cmpS (x y : Nm) : Int := if lexS x y = true then -1 else if lexS y x = true then 1 else 0
def cmpE (x y : Ent) : Int := if cmpI x.1.1 y.1.1 = 0 then cmpS x.1.2 y.1.2 else cmpI x.1.1 y.1.1
theorem cmpE_lt (x y : Ent) : ltOf cmpE x y = entLt x y := by
 unfold ltOf cmpE entLt keyLt cmpI cmpS
 by_cases h1 : x.1.1 < y.1.1
 · simp [h1]
 · by_cases h2 : y.1.1 < x.1.1
   · exact mK23
   · have : x.1.1 = y.1.1 := by omega
     rw [this]
     cases e : lexS x.1.2 y.1.2 <;> simp <;> (try (split <;> simp))
theorem cmpInt_any (w : World) (x y : Int) : Calls Tryz.prog 89 #[.int .i64 x, .int .i64 y] w fun e w' => e = .returned (.int .i64 (cmpI x y)) ∧ w' = w := by
 have hxx : (x != x) = false := by simp
 have hyy : (y != y) = false := by simp
 by_cases h1 : x < y
 · rw [show cmpI x y = -1 from if_pos h1]
   exact mK24
 · by_cases h2 : y < x
   · rw [show cmpI x y = 1 by unfold cmpI; rw [if_neg h1, if_pos h2]]
     exact mK24
   · rw [show cmpI x y = 0 by unfold cmpI; rw [if_neg h1, if_neg h2]]
     exact mK24
theorem cmpStr_any (w : World) (x y : Nm) : Calls Tryz.prog 143 #[.string (bs x), .string (bs y)] w fun e w' => e = .returned (.int .i64 (cmpS x y)) ∧ w' = w := by
 have hxx : ((bs x).toList == (bs x).toList) = true := beq_self_eq_true _
 have hyy : ((bs y).toList == (bs y).toList) = true := beq_self_eq_true _
 by_cases h1 : Op.bytesLess (bs x).toList (bs y).toList = true
 · rw [show cmpS x y = -1 by unfold cmpS; rw [if_pos]; unfold lexS; rwa [toList_bs, toList_bs] at h1]
   exact mK25
 · have h1' : Op.bytesLess (bs x).toList (bs y).toList = false := by simpa using h1
   by_cases h2 : Op.bytesLess (bs y).toList (bs x).toList = true
   · rw [show cmpS x y = 1 by
       unfold cmpS lexS
       rw [toList_bs, toList_bs] at h1 h2
       rw [if_neg h1, if_pos h2]]
     have hgt : ∀ W, (binOp .gtr 9 (.string (bs x)) (.string (bs y))).run Tryz.prog W = .ok (.bool true) W := fun W => by
      have e : ((bs x).toList == (bs y).toList) = false := by
       cases e : ((bs x).toList == (bs y).toList)
       · rfl
       · rw [eq_of_beq e, toList_bs] at h2
         rw [show Op.bytesLess y y = false from lexS_irrefl y] at h2; cases h2
      simp [binOp, Op.stringOp, h1', e]
     clear h1
     exact mK25
   · have h2' : Op.bytesLess (bs y).toList (bs x).toList = false := by simpa using h2
     rw [show cmpS x y = 0 by
       unfold cmpS lexS
       rw [toList_bs, toList_bs] at h1 h2
       rw [if_neg h1, if_neg h2]]
     have hgt : ∀ W, (binOp .gtr 9 (.string (bs x)) (.string (bs y))).run Tryz.prog W = .ok (.bool false) W := fun W => by
      have e : ((bs x).toList == (bs y).toList) = true := by
       rw [toList_bs, toList_bs] at *
       rw [lexS_total x y h1' h2']; exact beq_self_eq_true _
      simp [binOp, Op.stringOp, h1', e]
     clear h1 h2
     exact mK25
theorem cmpOr_any (w : World) (b : Nat) (x y : Int) (c : Nat) (h0 : w.cell? ⟨b, 0, none⟩ = some (.int .i64 x)) (h1 : w.cell? ⟨b, 1, none⟩ = some (.int .i64 y)) :
    Calls Tryz.prog 88 #[.slice (some ⟨b, 0, none⟩) 2 c] w fun e w' => e = .returned (.int .i64 (if x = 0 then y else x)) ∧ w' = w := by
 obtain ⟨r, hr⟩ : ∃ r, r = if x = 0 then y else x := ⟨_, rfl⟩
 rw [← hr]
 have HR := Lib.hid hr
 clear hr
 go_enter Tryz.func88, Tryz.ntmps88
 go_wp2_with fail
 go_loopg [8] 2 (fun g s8 wr => wr = w ∧ ((g = 2 ∧ s8 = .int .i64 0) ∨ (g = 1 ∧ s8 = .int .i64 1 ∧ x = 0) ∨ (g = 0 ∧ s8 = .int .i64 2 ∧ x = 0 ∧ y = 0)))
 case atStart => exact ⟨rfl, Or.inl ⟨rfl, rfl⟩⟩
 case round =>
  obtain ⟨rfl, ⟨rfl, rfl⟩ | ⟨rfl, rfl, rfl⟩ | ⟨rfl, rfl, rfl, rfl⟩⟩ := hrel
  · by_cases hx : x = 0
    · subst hx
      go_wp2_with fail
      go_roundg 1
      case measure => omega
      case rel => exact ⟨rfl, Or.inr (Or.inl ⟨rfl, by go_num, trivial⟩)⟩
    · have hx2 : (x != 0) = true := by simpa using hx
      have HX := Lib.hid hx
      clear hx
      go_wp2_with fail
      go_ret
      exact ⟨by rw [HR.out, if_neg HX.out]; rfl, rfl⟩
  · by_cases hx : y = 0
    · subst hx
      go_wp2_with fail
      go_roundg 0
      case measure => omega
      case rel => exact ⟨rfl, Or.inr (Or.inr ⟨rfl, by go_num, by first | rfl | trivial, by first | rfl | trivial⟩)⟩
    · have hx2 : (y != 0) = true := by simpa using hx
      clear hx
      exact mK26
  · exact mK26
def entC (e : Ent) : List Value := [.int .i64 e.1.1, strV e.1.2, .int .i64 e.2]
theorem cmpEnt_any (W : World) (x y : Ent) : Calls Tryz.prog 142 #[.agg (entC x).toArray, .agg (entC y).toArray] W fun e w' => e = .returned (.int .i64 (cmpE x y)) ∧ ∃ q os', w' = Sort.grow (W.drewN q) os' := by
 obtain ⟨⟨xd, xn⟩, xi⟩ := x
 obtain ⟨⟨yd, yn⟩, yi⟩ := y
 simp only [entC, strV]
 have hci := fun W' => cmpInt_any W' xd yd
 have hcs := fun W' => cmpStr_any W' xn yn
 rw [show cmpE ((xd, xn), xi) ((yd, yn), yi) = if cmpI xd yd = 0 then cmpS xn yn else cmpI xd yd from rfl]
 generalize cmpI xd yd = a at hci ⊢
 generalize cmpS xn yn = b at hcs ⊢
 have hor := fun W' b0 c h0 h1 => cmpOr_any W' b0 a b c h0 h1
 generalize (if a = 0 then b else a) = r at hor ⊢
 obtain ⟨W1, hW1⟩ : ∃ W1, W1 = (W.alloc (.cells #[.int .i64 xd, .string (bs xn), .int .i64 xi] 92)).alloc (.cells #[.int .i64 yd, .string (bs yn), .int .i64 yi] 92) := ⟨_, rfl⟩
 have c0 : W1.drew.cell? ⟨W.heap.size, 0, none⟩ = some (.int .i64 xd) := by rw [hW1]; go_simp
 have c1 : W1.drew.cell? ⟨W.heap.size, 1, none⟩ = some (.string (bs xn)) := by rw [hW1]; go_simp
 have c2 : W1.drew.cell? ⟨W.heap.size + 1, 0, none⟩ = some (.int .i64 yd) := by rw [hW1]; go_simp
 have c3 : W1.drew.cell? ⟨W.heap.size + 1, 1, none⟩ = some (.string (bs yn)) := by rw [hW1]; go_simp
 have HW1 := Lib.hid hW1
 clear hW1
 go_enter Tryz.func142, Tryz.ntmps142
 go_wp2_with fail
 rw [← HW1.out]
 refine wp_region_held_drew (S := fun w' => w'.cell? ⟨W.heap.size, 0, none⟩ = some (.int .i64 xd) ∧ w'.cell? ⟨W.heap.size, 1, none⟩ = some (.string (bs xn)) ∧ w'.cell? ⟨W.heap.size + 1, 0, none⟩ = some (.int .i64 yd) ∧ w'.cell? ⟨W.heap.size + 1, 1, none⟩ = some (.string (bs yn))) (by kernel_rfl) ⟨c0, c1, c2, c3⟩ (fun hHeld => ?_)
 refine takeL 0 ?_
 refine takeL 1 ?_
 refine takeL 2 ?_
 refine takeL 3 ?_
 refine takeL 5 ?_
 refine takeL 6 ?_
 refine takeL 7 ?_
 refine takeL 8 ?_
 refine wpAnyH_ready (rs := [4]) (by kernel_rfl) (by simp) ?_
 refine AllReadyH.cons (o := _) rfl (fun K hK => ?_) AllReadyH.nil
 go_simp
 go_at_call 89
 with_reducible refine (hci _).mono ?_
 clear hci
 rintro e w2 ⟨rfl, rfl⟩
 try go_wp2_with fail
 refine hK.out _ _ ⟨c0, c1, c2, c3⟩ (fun hHeld => ?_)
 clear hK K
 try simp only [Act.put, List.setIfInBounds_toArray, List.set_cons_zero, List.set_cons_succ]
 refine wpAnyH_ready (rs := [9]) (by kernel_rfl) (by simp) ?_
 refine AllReadyH.cons (o := _) rfl (fun K hK => ?_) AllReadyH.nil
 go_simp
 go_at_call 143
 with_reducible refine (hcs _).mono ?_
 clear hcs
 rintro e w2 ⟨rfl, rfl⟩
 try go_wp2_with fail
 refine hK.out _ _ ⟨c0, c1, c2, c3⟩ (fun hHeld => ?_)
 clear hK K
 try simp only [Act.put, List.setIfInBounds_toArray, List.set_cons_zero, List.set_cons_succ]
 refine wpAnyH_ready (rs := [10]) (by kernel_rfl) (by simp) ?_
 refine AllReadyH.cons (o := _) rfl (fun K hK => ?_) AllReadyH.nil
 go_simp
 obtain ⟨W2, hW2⟩ : ∃ W2, W2 = (W1.alloc (.cells #[.int .i64 a, .int .i64 b] 3)).drew := ⟨_, rfl⟩
 have hl : W.heap.size + 1 < W1.heap.size := cell_lt c2
 have d0 : W2.cell? ⟨W1.heap.size, 0, none⟩ = some (.int .i64 a) := by rw [hW2]; go_simp
 have d1 : W2.cell? ⟨W1.heap.size, 1, none⟩ = some (.int .i64 b) := by rw [hW2]; go_simp
 have hB : Below W1.heap.size W1.drew W2 := by
  exact mK28
 have e0 := below_at hB c0 (by omega)
 have e1 := below_at hB c1 (by omega)
 have e2 := below_at hB c2 (by omega)
 have e3 := below_at hB c3 (by omega)
 have HW2 := Lib.hid hW2
 rw [← hW2]
 clear hW2 hB
 try go_wp2_with fail
 refine hK.out _ _ ⟨e0, e1, e2, e3⟩ (fun hHeld => ?_)
 clear hK K
 try simp only [Act.put, List.setIfInBounds_toArray, List.set_cons_zero, List.set_cons_succ]
 refine wpAnyH_ready (rs := [11]) (by kernel_rfl) (by simp) ?_
 refine AllReadyH.cons (o := _) rfl (fun K hK => ?_) AllReadyH.nil
 go_simp
 go_at_call 88
 with_reducible refine (hor _ _ _ d0 d1).mono ?_
 clear hor
 rintro e w3 ⟨rfl, rfl⟩
 try go_wp2_with fail
 refine hK.out _ _ ⟨e0, e1, e2, e3⟩ (fun hHeld => ?_)
 clear hK K
 try simp only [Act.put, List.setIfInBounds_toArray, List.set_cons_zero, List.set_cons_succ]
 refine takeL 12 ?_
 refine wpAnyH_done (by kernel_rfl) ?_ _
 go_wp2_with fail
 go_ret
 refine ⟨rfl, 1, #[.cells #[.int .i64 xd, .string (bs xn), .int .i64 xi] 92, .cells #[.int .i64 yd, .string (bs yn), .int .i64 yi] 92, .cells #[.int .i64 a, .int .i64 b] 3], ?_⟩
 exact mK27
theorem cmpLays (blk off size : Nat) (w : World) : CmpLays Tryz.prog 142 #[] entC 3 cmpE blk off size w := fun _ _ _ _ x y => cmpEnt_any _ x y
end Go.Proofs.YtajbooppoohplaaGreatDoor
