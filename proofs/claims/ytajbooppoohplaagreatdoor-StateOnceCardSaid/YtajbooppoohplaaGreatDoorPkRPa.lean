import Derived.Test.YtajbooppoohplaaGreatDoorMac
import Derived.Test.YtajbooppoohplaaGreatDoorPkByt
import Derived.Test.YtajbooppoohplaaGreatDoorPkPath
/- a path cut at its strokes, plain -/
set_option maxRecDepth 100000
set_option maxHeartbeats 4000000
namespace Esch
open Go

def pcsF : Nm → Nm → List Nm
  | cur, [] => [cur]
  | cur, c :: r => if c = 47 then cur :: pcsF [] r else pcsF (cur ++ [c]) r
theorem pcsF_cons (cur : Nm) (c : UInt8) (r : Nm) : pcsF cur (c :: r) = if c = 47 then cur :: pcsF [] r else pcsF (cur ++ [c]) r := rfl
def pcsT : Nm → List Nm
  | [] => []
  | _ :: r => pcsF [] r
theorem pcsF_eq : ∀ (r cur : Nm), pcsF cur r = (cur ++ r.takeWhile (· != 47)) :: pcsT (r.dropWhile (· != 47))
  | [], cur => by simp [pcsF, pcsT]
  | c :: r, cur => by
    rw [pcsF_cons]
    by_cases h : c = 47
    · subst h
      rw [if_pos rfl]
      have e1 : (47 :: r : Nm).takeWhile (· != 47) = [] := rfl
      have e2 : (47 :: r : Nm).dropWhile (· != 47) = 47 :: r := rfl
      rw [e1, e2, List.append_nil]
      rfl
    · have h2 : (c != 47) = true := by simpa using h
      rw [if_neg h, pcsF_eq r (cur ++ [c]), List.takeWhile_cons, List.dropWhile_cons, h2]
      simp only [if_true, List.append_assoc, List.singleton_append]
def okL (d : Nat) (l : List Nm) : Bool := decide (l.length ≤ d) && l.all nameL
theorem namesD_pcs : ∀ (d : Nat) (r : Nm), namesD d (47 :: r) = if okL d (pcsF [] r) = true then some (pcsF [] r) else none
  | 0, r => by
    rw [pcsF_eq]
    simp [namesD, okL]
  | d + 1, r => by
    rw [namesD_cons, pcsF_eq]
    rw [List.nil_append]
    by_cases hn : nameL (r.takeWhile (· != 47)) = true
    · rw [if_pos (show (47 : UInt8) = 47 ∧ nameL (r.takeWhile (· != 47)) = true from ⟨rfl, hn⟩)]
      cases hd : r.dropWhile (· != 47) with
      | nil => simp [okL, hn, pcsT]
      | cons c r' =>
        have hc : c = 47 := by
          have h1 : (r.dropWhile (· != 47)).head? = some c := by rw [hd]; rfl
          have := List.head?_dropWhile_not (p := fun x : UInt8 => x != 47) (l := r)
          rw [h1] at this
          simpa using this
        subst hc
        have e : okL (d + 1) (r.takeWhile (· != 47) :: pcsF [] r') = okL d (pcsF [] r') := by
          simp only [okL, List.length_cons, List.all_cons, hn, Bool.true_and, Nat.add_le_add_iff_right]
        show _ = if okL (d + 1) (r.takeWhile (· != 47) :: pcsF [] r') = true then some (r.takeWhile (· != 47) :: pcsF [] r') else none
        rw [if_neg (by simp), namesD_pcs d r', e]
        split <;> rfl
    · rw [if_neg (fun h => hn h.2), if_neg]
      simp [okL, hn]
theorem namesOf_pcs (r : Nm) : namesOf (47 :: r) = if r = [] then some [] else if okL 8 (pcsF [] r) = true then some (pcsF [] r) else none := by
 unfold namesOf
 by_cases h : r = []
 · subst h; rfl
 · rw [if_neg (by simpa using h), if_neg h, namesD_pcs]
theorem namesOf_no {c : UInt8} {r : Nm} (h : c ≠ 47) : namesOf (c :: r) = none := by
 unfold namesOf
 rw [if_neg (fun e => h (List.cons.inj e).1)]
 show namesD (7 + 1) _ = none
 rw [namesD_cons, if_neg (fun e => h e.1)]
theorem pathT_take {l : List Nm} {i : Nat} (h : i < l.length) : pathT (l.take (i + 1)) = pathT (l.take i) ++ (47 :: l.getD i []) := by
 rw [List.take_succ_eq_append_getElem h, List.getD_eq_getElem?_getD, List.getElem?_eq_getElem h]
 unfold pathT
 rw [List.flatMap_append]
 simp
theorem pathT_len {l : List Nm} (h : ∀ a ∈ l, nameL a = true) : (pathT l).length ≤ 9 * l.length := by
 induction l with
 | nil => simp [pathT]
 | cons a l ih =>
   have h1 := (nameL_len (h a (by simp))).2.1
   have h2 := ih fun x hx => h x (by simp [hx])
   simp only [pathT, List.flatMap_cons, List.length_append, List.length_cons] at *
   omega
theorem all_take {l : List Nm} {i : Nat} (h : i < l.length) : (l.take (i + 1)).all nameL = ((l.take i).all nameL && nameL (l.getD i [])) := by
 rw [List.take_succ_eq_append_getElem h, List.all_append, List.getD_eq_getElem?_getD, List.getElem?_eq_getElem h]; simp
theorem all_no {l : List Nm} {i : Nat} (h : i < l.length) (hn : nameL (l.getD i []) = false) : l.all nameL = false := by
 rw [List.all_eq_false]
 refine ⟨l.getD i [], ?_, by rw [hn]; decide⟩
 rw [List.getD_eq_getElem?_getD, List.getElem?_eq_getElem h]
 exact List.getElem_mem h
end Esch
/- the document's Name -/
namespace Go.Proofs.YtajbooppoohplaaGreatDoor
open Go.RowKit Esch

theorem rName_any (w : World) (s : Nm) :
    Calls Tryz.prog 97 #[.string (bs s)] w fun e w' => e = .returned (.bool (nameL s)) ∧ w' = w := by
 by_cases h0 : s.length < 1
 · have : nameL s = false := by simp [nameL]; omega
   rw [this]
   have h0' : (s.length : Int) < 1 := by omega
   clear h0 this
   exact mK60
 by_cases h8 : 8 < s.length
 · have : nameL s = false := by simp [nameL]; omega
   rw [this]
   have h0' : ¬ (s.length : Int) < 1 := by omega
   have h8' : (8 : Int) < s.length := by omega
   clear h0 this h8
   exact mK60
 have h0' : ¬ (s.length : Int) < 1 := by omega
 have h8' : ¬ (8 : Int) < s.length := by omega
 obtain ⟨r, hr⟩ : ∃ r, r = nameL s := ⟨_, rfl⟩
 rw [← hr]
 have HR := Lib.hid hr
 have H0 := Lib.hid h0
 have H8 := Lib.hid h8
 clear hr h0 h8
 go_enter Tryz.func97, Tryz.ntmps97
 go_wp2_with fail
 go_loopg [3] s.length (fun g s3 wr => NameRel s w g s3 wr)
 case atStart => exact ⟨0, rfl, Nat.zero_le _, rfl, rfl, rfl⟩
 case round =>
  obtain ⟨i, rfl, hi, rfl, hall, rfl⟩ := hrel
  have Hall := Lib.hid hall
  clear hall
  by_cases hlt : i < s.length
  · have hidx : ∀ W, (Instr.index 9 (.string (bs s)) (.int .i64 (i : Int))).run Tryz.prog W = .ok (.int .u8 (s[i].toNat : Int)) W := fun W => by
     exact mK10
    have hi1 : (i : Int) < s.length := by omega
    have hy : okc s[i] = true → (s.take (i + 1)).all okc = true := fun h => by rw [okc_take hlt, Hall.out, h]; rfl
    have hno : okc s[i] = false → r = false := fun h => HR.out.trans (okc_no hlt h)
    have hk := okc_nat s[i]
    have hlt2 := s[i].toNat_lt
    generalize s[i] = c at hidx hy hno hk hlt2
    rw [hk] at hy hno
    simp only [decide_eq_true_eq, decide_eq_false_iff_not] at hy hno
    generalize c.toNat = x at hidx hy hno hlt2
    clear hk
    by_cases k1 : x < 48
    · have HNO := Lib.hid (hno (by omega))
      have j1 : ¬ (97 : Int) ≤ x := by omega
      have j2 : ¬ (48 : Int) ≤ x := by omega
      have j3 : ((x : Int) == 95) = false := by simp; omega
      clear hy hno hlt2 k1 hlt hi
      exact mK8
    by_cases k2 : x ≤ 57
    · have HYES := Lib.hid (hy (by omega))
      have j1 : ¬ (97 : Int) ≤ x := by omega
      have j2 : (48 : Int) ≤ x := by omega
      have j3 : (x : Int) ≤ 57 := by omega
      clear hy hno hlt2 k1 k2
      exact mK9
    by_cases k3 : x = 95
    · have HYES := Lib.hid (hy (by omega))
      have j1 : ¬ (97 : Int) ≤ x := by omega
      have j2 : (48 : Int) ≤ x := by omega
      have j3 : ¬ (x : Int) ≤ 57 := by omega
      have j4 : ((x : Int) == 95) = true := by simp; omega
      clear hy hno hlt2 k1 k2 k3
      exact mK9
    by_cases k4 : x < 97
    · have HNO := Lib.hid (hno (by omega))
      have j1 : ¬ (97 : Int) ≤ x := by omega
      have j2 : (48 : Int) ≤ x := by omega
      have j3 : ¬ (x : Int) ≤ 57 := by omega
      have j4 : ((x : Int) == 95) = false := by simp; omega
      clear hy hno hlt2 k1 k2 k3 k4 hlt hi
      exact mK8
    by_cases k5 : x ≤ 122
    · have HYES := Lib.hid (hy (by omega))
      have j1 : (97 : Int) ≤ x := by omega
      have j2 : (x : Int) ≤ 122 := by omega
      clear hy hno hlt2 k1 k2 k3 k4 k5
      exact mK9
    · have HNO := Lib.hid (hno (by omega))
      have j1 : (97 : Int) ≤ x := by omega
      have j2 : ¬ (x : Int) ≤ 122 := by omega
      have j3 : (48 : Int) ≤ x := by omega
      have j4 : ¬ (x : Int) ≤ 57 := by omega
      have j5 : ((x : Int) == 95) = false := by simp; omega
      clear hy hno hlt2 k1 k2 k3 k4 k5 hlt hi
      exact mK8
  · exact mK7
end Go.Proofs.YtajbooppoohplaaGreatDoor
/- the document's paths: Join, Split, Good, Up, Inside -/
namespace Esch
open Go
def joinR (l : List Nm) : Option Nm := if okL 8 l = true then some (pathL l) else none
end Esch
namespace Go.Proofs.YtajbooppoohplaaGreatDoor
open Go.RowKit Esch

def JoinPost (w : World) (r : Option Nm) (e : Ending) (w' : World) : Prop :=
  Below w.heap.size w w' ∧ match r with
    | none => e = .returned (.tuple #[.string ⟨#[]⟩, .int .i64 11])
    | some p => e = .returned (.tuple #[.string (bs p), .int .i64 0])
def JoinRel (l : List Nm) (w : World) (g : Nat) (s4 s5 : Value) (wr : World) : Prop := ∃ i : Nat, g = l.length - i ∧ i ≤ l.length ∧ s4 = .string (bs (pathT (l.take i))) ∧ s5 = .int .i64 i ∧ (∀ a ∈ l.take i, nameL a = true) ∧ wr = w
theorem rJoin_any (S : Nat → Prop) (w : World) (a : Option Addr) (c : Nat) (l : List Nm) (h : NmsAt S w a l) (h2 : l.length ≤ 1000000) :
    Calls Tryz.prog 247 #[.slice a l.length c] w (JoinPost w (joinR l)) := by
 by_cases h8 : 8 < l.length
 · have h8' : (8 : Int) < l.length := by omega
   have hj : joinR l = none := by unfold joinR okL; rw [decide_eq_false (by omega)]; rfl
   rw [hj]
   clear hj h8
   go_enter Tryz.func247, Tryz.ntmps247
   go_wp2_with fail
   go_ret2
   exact ⟨Below.refl _ _, rfl⟩
 have h8' : ¬ (8 : Int) < l.length := by omega
 have H := Lib.hid h
 have hl8 : l.length ≤ 8 := by omega
 have Hl8 := Lib.hid hl8
 obtain ⟨r, hr⟩ : ∃ r, r = joinR l := ⟨_, rfl⟩
 rw [← hr]
 have HR := Lib.hid hr
 clear h h8 hr h2
 go_enter Tryz.func247, Tryz.ntmps247
 go_wp2_with fail
 go_loopg [4, 5] l.length (fun g s4 s5 wr => JoinRel l w g s4 s5 wr)
 case atStart => exact ⟨0, rfl, Nat.zero_le _, rfl, rfl, fun a h => absurd h (by simp), rfl⟩
 case round =>
  obtain ⟨i, rfl, hi, rfl, rfl, hall, rfl⟩ := hrel
  have HA := Lib.hid hall
  clear hall
  by_cases hlt : i < l.length
  · obtain ⟨bk, off, rfl, -, hb, hc⟩ := H.out (by omega)
    have c0 := hc i hlt
    have hpt := pathT_take hlt
    have hall2 : nameL (l.getD i []) = true → ∀ a ∈ l.take (i + 1), nameL a = true := fun h a ha => by
     rw [List.take_succ_eq_append_getElem hlt] at ha
     rcases List.mem_append.1 ha with ha | ha
     · exact HA.out a ha
     · rw [List.mem_singleton] at ha; subst ha; rwa [List.getD_eq_getElem?_getD, List.getElem?_eq_getElem hlt] at h
    have hno : nameL (l.getD i []) = false → r = none := fun h => by
     rw [HR.out]; unfold joinR okL; rw [all_no hlt h, Bool.and_false]; rfl
    have hsz := pathT_len HA.out
    rw [List.length_take] at hsz
    have hrn := fun W => rName_any W (l.getD i [])
    generalize l.getD i [] = x at c0 hpt hall2 hno hrn
    obtain ⟨nb, hnb⟩ : ∃ nb, nb = nameL x := ⟨_, rfl⟩
    rw [← hnb] at hrn
    have HNB := Lib.hid hnb
    have HALL2 := Lib.hid hall2
    have HNO := Lib.hid hno
    have HPT := Lib.hid hpt
    generalize hpp : pathT (l.take i) = pp at *
    have HPP := Lib.hid hpp
    have Hsz := Lib.hid hsz
    have hil : (0 : Int) ≤ i ∧ (i : Int) < l.length := by omega
    clear hc hnb hall2 hno hpt hpp hsz hl8
    cases nb
    · go_wp2_with fail
      refine (hrn _).mono ?_
      clear hrn
      rintro e w2 ⟨rfl, rfl⟩
      go_wp2_with fail
      go_ret2
      rw [HNO.out HNB.out.symm]
      exact ⟨Below.refl _ _, rfl⟩
    · have hx8 := (nameL_len HNB.out.symm).2.1
      have hadd1 : ∀ W, (Op.stringOp .add (⟨#[47]⟩ : ByteArray) (bs x)).run Tryz.prog W = .ok (.string (bs (47 :: x))) W := fun W => (run_string_add_sum _ _ _ (by rw [bs_size]; show 1 + _ ≤ _; omega)).trans (by rw [show (⟨#[47]⟩ : ByteArray) = bs [47] from rfl, bs_append]; rfl)
      have hadd2 : ∀ W, (Op.stringOp .add (bs pp) (bs (47 :: x))).run Tryz.prog W = .ok (.string (bs (pp ++ (47 :: x)))) W := fun W => (run_string_add_sum _ _ _ (by rw [bs_size, bs_size, List.length_cons]; have := Hsz.out; omega)).trans (by rw [bs_append])
      clear hx8
      go_wp2_with fail
      refine (hrn _).mono ?_
      clear hrn
      rintro e w2 ⟨rfl, rfl⟩
      go_wp2_with fail
      go_roundg (l.length - (i + 1))
      case measure => omega
      case rel => exact ⟨i + 1, rfl, by omega, by rw [HPT.out], by go_num, HALL2.out HNB.out.symm, rfl⟩
  · obtain rfl : i = l.length := by omega
    rw [List.take_length] at HA
    have hrr : r = some (pathL l) := by
     rw [HR.out]; unfold joinR okL
     rw [decide_eq_true Hl8.out, List.all_eq_true.2 HA.out]; rfl
    clear hlt hi hl8
    rw [List.take_length]
    by_cases e : l = []
    · subst e
      have hrr : r = some [47] := hrr
      have he : (bs (pathT ([] : List Nm))).toList.isEmpty = true := by rw [toList_bs]; rfl
      have HRR := Lib.hid hrr
      clear hrr
      exact mK61
    · have he : (bs (pathT l)).toList.isEmpty = false := by
       rw [toList_bs]
       cases l with
       | nil => exact absurd rfl e
       | cons x l => simp [pathT]
      have hpl : pathL l = pathT l := by unfold pathL; rw [if_neg e]
      rw [hpl] at hrr
      have HRR := Lib.hid hrr
      clear hrr hpl e
      exact mK61
/-- the loop of Split: l is cut off, cur is begun -/
def SplitRel (q r : Nm) (w : World) (g : Nat) (s4 s5 s6 : Value) (wr : World) : Prop :=
  ∃ (l : List Nm) (f i : Nat) (ao : Option Addr) (c : Nat), g = r.length + 2 - i ∧ 1 ≤ i ∧ s4 = .slice ao l.length c ∧ s5 = .int .i64 f ∧ s6 = .int .i64 i ∧ GRowAt wr (From w.heap.size) 1 l.length c ao (l.map strV) ∧ l.length ≤ i ∧ Below w.heap.size w wr ∧
    ((f ≤ i ∧ i ≤ r.length + 1 ∧ pcsF [] r = l ++ pcsF ((q.take i).drop f) (q.drop i)) ∨ (i = r.length + 2 ∧ pcsF [] r = l))
def RSplitPost (w : World) (r : Option (List Nm)) (e : Ending) (w' : World) : Prop :=
  Below w.heap.size w w' ∧ match r with
    | none => e = .returned (.tuple #[.slice none 0 0, .int .i64 11])
    | some l => ∃ a c, e = .returned (.tuple #[.slice a l.length c, .int .i64 0]) ∧ NmsAt (From w.heap.size) w' a l ∧ CapN l.length c
theorem rSplit_any (w : World) (p : Nm) (hp : p.length ≤ 100000) : Calls Tryz.prog 209 #[.string (bs p)] w (RSplitPost w (namesOf p)) := by
 by_cases h1 : p = [47]
 · subst h1
   have he : ((bs [47]).toList == [47]) = true := by rw [strEq]; rfl
   rw [show namesOf [47] = some [] from rfl]
   clear hp
   go_enter Tryz.func209, Tryz.ntmps209
   exact mK13
 have he : ((bs p).toList == [47]) = false := by rw [strEq]; simpa using h1
 cases p with
 | nil =>
   have he2 : (bs ([] : Nm)).toList.isEmpty = true := by rw [toList_bs]; rfl
   rw [show namesOf [] = none from rfl]
   clear hp h1
   go_enter Tryz.func209, Tryz.ntmps209
   go_wp2_with fail
   go_ret2
   exact ⟨Below.refl _ _, rfl⟩
 | cons x r =>
   have he2 : (bs (x :: r)).toList.isEmpty = false := by rw [toList_bs]; rfl
   have hidx : ∀ W, (Instr.index 9 (.string (bs (x :: r))) (.int .i64 0)).run Tryz.prog W = .ok (.int .u8 (x.toNat : Int)) W := fun W => by
     rw [run_index_string _ _ _ _ _ Tryz.underlying9, dif_pos ⟨by omega, by show (0 : Int) < ((x :: r).length : Nat); simp⟩]
     rfl
   by_cases hx : x = 47
   rotate_left 1
   · have hx2 : ((x.toNat : Int) != 47) = true := by
       simp only [bne_iff_ne, ne_eq]
       intro e
       exact hx (UInt8.toNat_inj.1 (by show x.toNat = 47; omega))
     rw [namesOf_no hx]
     clear hp h1 hx
     go_enter Tryz.func209, Tryz.ntmps209
     go_wp2_with fail
     go_ret2
     exact ⟨Below.refl _ _, rfl⟩
   subst hx
   have hr0 : r ≠ [] := fun e => h1 (by rw [e])
   obtain ⟨res, hres⟩ : ∃ res, res = namesOf (47 :: r) := ⟨_, rfl⟩
   rw [← hres]
   have hres2 := hres
   rw [namesOf_pcs, if_neg hr0] at hres2
   have HRES := Lib.hid hres2
   obtain ⟨q, hq⟩ : ∃ q, q = 47 :: r := ⟨_, rfl⟩
   rw [← hq] at he he2 hidx ⊢
   have hql : q.length = r.length + 1 := by rw [hq]; rfl
   have hpr : r.length ≤ 100000 := by simp only [List.length_cons] at hp; omega
   have hq1 : q.drop 1 = r := by rw [hq]; rfl
   obtain ⟨i0, hi, hz0, hz1, hz2⟩ := info_parts Tryz.infoStr
   have HQ1 := Lib.hid hq1
   have HQL := Lib.hid hql
   have HPR := Lib.hid hpr
   clear hres hres2 h1 hr0 hp hq hq1 hql hpr
   go_enter Tryz.func209, Tryz.ntmps209
   go_wp2_with fail
   go_loopg [4, 5, 6] (r.length + 1) (fun g s4 s5 s6 wr => SplitRel q r w g s4 s5 s6 wr)
   case atStart => exact ⟨[], 1, 1, none, 0, rfl, Nat.le_refl _, rfl, rfl, rfl, GRowAt.nil _ _ _ _, Nat.zero_le _, Below.refl _ _, Or.inl ⟨Nat.le_refl _, by omega, by
     rw [List.nil_append, HQ1.out]
     have : (q.take 1).drop 1 = [] := by rw [List.drop_eq_nil_iff]; rw [List.length_take]; omega
     rw [this]⟩⟩
   case round =>
     clear he he2 hidx
     obtain ⟨l, f, i, ao, c, rfl, hi1, rfl, rfl, rfl, hG, hl, hB, hS⟩ := hrel
     have HG := Lib.hid hG
     have HB := Lib.hid hB
     have HI1 := Lib.hid hi1
     clear hG hB hi1
     rcases hS with ⟨hfi, hil, hpc⟩ | ⟨rfl, hpc⟩
     · have HL := Lib.hid (show l.length ≤ 100001 by have := HPR.out; omega)
       have HFI := Lib.hid hfi
       have hst : ∀ W, (Instr.slice 9 (.string (bs q)) (some (.int .i64 (f : Int))) (some (.int .i64 (i : Int))) none).run Tryz.prog W = .ok (.string (bs ((q.take i).drop f))) W := fun W => by
         have := HQL.out
         rw [run_slice_string _ _ _ _ _ _ _ Tryz.underlying9 (by omega) (by omega) (by show (i : Int) ≤ q.length; omega), Int.toNat_natCast, Int.toNat_natCast, bs_extract]
         congr 3
         rw [List.drop_take]
       have hcur : (q.take i).drop f = (q.take i).drop f := rfl
       have Hl := Lib.hid hl
       have hwr1 := Lib.hid (show wrap64 ((i : Int) + 1) = ((i + 1 : Nat) : Int) by have := HPR.out; unfold wrap64; omega)
       obtain ⟨cur, hcu⟩ : ∃ cur, cur = (q.take i).drop f := ⟨_, rfl⟩
       rw [← hcu] at hst hpc
       have hgt : ¬ (q.length : Int) < i := by have := HQL.out; omega
       have hle : (i : Int) ≤ q.length := by omega
       by_cases hlt : i < q.length
       · have hil2 : (0 : Int) ≤ i ∧ (i : Int) < q.length := by omega
         have hix : ∀ W, (Instr.index 9 (.string (bs q)) (.int .i64 (i : Int))).run Tryz.prog W = .ok (.int .u8 (q[i].toNat : Int)) W := fun W => by
           rw [run_index_string _ _ _ _ _ Tryz.underlying9, dif_pos ⟨by omega, by show (i : Int) < q.length; omega⟩]
           congr 3
         have hne : ((i : Int) == q.length) = false := by simp only [beq_eq_false_iff_ne, ne_eq]; omega
         have hdr : q.drop i = q[i] :: q.drop (i + 1) := List.drop_eq_getElem_cons hlt
         have hcu2 : (q.take (i + 1)).drop f = cur ++ [q[i]] := by
           rw [hcu, List.take_succ_eq_append_getElem hlt, List.drop_append_of_le_length (by rw [List.length_take]; omega)]
         have hcu3 : (q.take (i + 1)).drop (i + 1) = [] := by rw [List.drop_eq_nil_iff, List.length_take]; omega
         rw [hdr, pcsF_cons] at hpc
         generalize q[i] = x at hix hcu2 hpc hdr
         by_cases hx : x = 47
         · subst hx
           have hx2 : (((47 : UInt8).toNat : Int) == 47) = true := rfl
           rw [if_pos rfl] at hpc
           have HPC := Lib.hid hpc
           have HCU := Lib.hid hcu3
           have Hlt := Lib.hid hlt
           clear hpc hcu hcu2 hcu3 hcur hdr hfi hlt hil hl
           go_wp2_with (at_builtin; refine wpList_append_g (by rfl) (.tmp 34) (.tmp 39) 66 66 (by rfl) 9 i0 _ 16 Tryz.underlying66 hi hz0 hz1 hz2 (by rfl) (by rfl) (HG.out.mod (F := none') (by exact modC (Mod.refl _ _)) (fun _ _ _ => id)) _ 1 [strV cur] (by rfl) (src_str _ _ Tryz.underlying66 wr.heap.size cur 9 (heap_alloc_new _ _) _) (by have := HL.out; omega) (by have := HL.out; omega) ?_; intro a6 cap6 w6 hg6 hM6 hz6)
           have hB6 : Below w.heap.size w w6 := HB.out.trans (((Below.refl _ wr).alloc (Nat.le_refl _) _).mono HB.out.size |>.trans (hM6.below_at (by have := HB.out.size; simp only [World.size_alloc]; omega) (fun k hk e => by have e : w.heap.size ≤ k := e; omega)))
           have hg7 : GRowAt w6 (From w.heap.size) 1 (l ++ [cur]).length cap6 a6 ((l ++ [cur]).map strV) := by
             rw [List.map_append, List.length_append]
             exact hg6.sub (fun k _ hk => by
               rcases hk with hk | hk
               · exact hk
               · show w.heap.size ≤ k; rw [hk]; simp only [World.size_alloc]; have := HB.out.size; omega)
           rw [show l.length + 1 = (l ++ [cur]).length by simp]
           have HG6 := Lib.hid hg7
           have HB6 := Lib.hid hB6
           clear hg6 hM6 hz6 hg7 hB6 HG HB
           go_wp2_with fail
           go_roundg (r.length + 2 - (i + 1))
           case measure => have := HQL.out; have := Hlt.out; omega
           case rel => exact ⟨l ++ [cur], i + 1, i + 1, a6, cap6, rfl, by omega, rfl, by first | rfl | rw [hwr1.out], by first | rfl | rw [hwr1.out], HG6.out, by have := Hl.out; simp only [List.length_append, List.length_singleton]; omega, HB6.out, Or.inl ⟨Nat.le_refl _, by have := HQL.out; have := Hlt.out; omega, by rw [HPC.out, HCU.out]; simp⟩⟩
         · have hx2 : ((x.toNat : Int) == 47) = false := by
             simp only [beq_eq_false_iff_ne, ne_eq]
             intro e
             exact hx (UInt8.toNat_inj.1 (by show x.toNat = 47; omega))
           rw [if_neg hx] at hpc
           have HPC := Lib.hid hpc
           have HCU := Lib.hid hcu2
           have Hlt := Lib.hid hlt
           clear hpc hcu hcu2 hcu3 hcur hdr hfi hlt hil hl hst hx
           go_wp2_with fail
           go_roundg (r.length + 2 - (i + 1))
           case measure => have := HQL.out; have := Hlt.out; omega
           case rel => exact ⟨l, f, i + 1, ao, c, rfl, by omega, rfl, rfl, by first | rfl | rw [hwr1.out], HG.out, by have := Hl.out; omega, HB.out, Or.inl ⟨by have := HFI.out; omega, by have := HQL.out; have := Hlt.out; omega, by rw [HPC.out, HCU.out]⟩⟩
       · obtain rfl : i = q.length := by have := HQL.out; omega
         have hne : ((q.length : Int) == q.length) = true := by simp
         have HQL2 := Lib.hid (show q.length + 1 = r.length + 2 by have := HQL.out; omega)
         rw [List.drop_length] at hpc
         have HPC := Lib.hid hpc
         clear hpc hcu hcur hfi hlt hil hl
         go_wp2_with (at_builtin; refine wpList_append_g (by rfl) (.tmp 34) (.tmp 39) 66 66 (by rfl) 9 i0 _ 16 Tryz.underlying66 hi hz0 hz1 hz2 (by rfl) (by rfl) (HG.out.mod (F := none') (by exact modC (Mod.refl _ _)) (fun _ _ _ => id)) _ 1 [strV cur] (by rfl) (src_str _ _ Tryz.underlying66 wr.heap.size cur 9 (heap_alloc_new _ _) _) (by have := HL.out; omega) (by have := HL.out; omega) ?_; intro a6 cap6 w6 hg6 hM6 hz6)
         have hB6 : Below w.heap.size w w6 := HB.out.trans (((Below.refl _ wr).alloc (Nat.le_refl _) _).mono HB.out.size |>.trans (hM6.below_at (by have := HB.out.size; simp only [World.size_alloc]; omega) (fun k hk e => by have e : w.heap.size ≤ k := e; omega)))
         have hg7 : GRowAt w6 (From w.heap.size) 1 (l ++ [cur]).length cap6 a6 ((l ++ [cur]).map strV) := by
           rw [List.map_append, List.length_append]
           exact hg6.sub (fun k _ hk => by
             rcases hk with hk | hk
             · exact hk
             · show w.heap.size ≤ k; rw [hk]; simp only [World.size_alloc]; have := HB.out.size; omega)
         rw [show l.length + 1 = (l ++ [cur]).length by simp]
         have HG6 := Lib.hid hg7
         have HB6 := Lib.hid hB6
         clear hg6 hM6 hz6 hg7 hB6 HG HB
         go_wp2_with fail
         go_roundg 0
         case measure => have := HQL2.out; omega
         case rel => exact ⟨l ++ [cur], q.length + 1, q.length + 1, a6, cap6, by have := HQL2.out; omega, by omega, rfl, by first | rfl | rw [hwr1.out], by first | rfl | rw [hwr1.out], HG6.out, by have := Hl.out; simp only [List.length_append, List.length_singleton]; omega, HB6.out, Or.inr ⟨HQL2.out, HPC.out⟩⟩
     · have hgt : (q.length : Int) < ((r.length + 2 : Nat) : Int) := by have := HQL.out; omega
       have hle : ¬ ((r.length + 2 : Nat) : Int) ≤ q.length := by omega
       have hjn := fun W hW => rJoin_any (From w.heap.size) W ao c l hW (by have := HPR.out; omega)
       have hnm := (grow_nms HG.out).1
       have hcp := (grow_nms HG.out).2
       have hj := hjn wr hnm
       rw [hpc] at HRES
       have hjr : joinR l = res.map pathL := by
         rw [HRES.out]; unfold joinR
         split <;> rfl
       rw [hjr] at hj
       have HN := Lib.hid hnm
       have HC := Lib.hid hcp
       have HRES2 := Lib.hid (show res = none ∨ res = some l by rw [HRES.out]; by_cases e : okL 8 l = true; (· rw [if_pos e]; exact Or.inr rfl); (· rw [if_neg e]; exact Or.inl rfl))
       clear hnm hcp hjn hjr hpc HRES
       have hres2 := HRES2.out
       clear HRES2
       rcases hres2 with rfl | rfl
       · clear hgt
         go_wp2_with fail
         refine hj.mono ?_
         clear hj
         rintro e w5 ⟨hB5, rfl⟩
         go_wp2_with fail
         go_ret2
         exact ⟨HB.out.trans (hB5.mono HB.out.size), rfl⟩
       · clear hgt
         go_wp2_with fail
         refine hj.mono ?_
         clear hj
         rintro e w5 ⟨hB5, rfl⟩
         go_wp2_with fail
         go_ret2
         exact ⟨HB.out.trans (hB5.mono HB.out.size), ao, c, rfl, HN.out.below hB5, HC.out⟩
theorem rGood_any (w : World) (p : Nm) (hp : p.length ≤ 100000) : Calls Tryz.prog 157 #[.string (bs p)] w (BoolBelow w (namesOf p).isSome) := by
 have hn := rSplit_any w p hp
 cases hr : namesOf p with
 | none =>
   rw [hr] at hn
   clear hr
   go_enter Tryz.func157, Tryz.ntmps157
   go_wp2_with fail
   refine hn.mono ?_
   clear hn
   rintro e w1 ⟨hB, rfl⟩
   go_wp2_with fail
   go_ret
   exact ⟨rfl, hB⟩
 | some l =>
   rw [hr] at hn
   clear hr
   go_enter Tryz.func157, Tryz.ntmps157
   go_wp2_with fail
   refine hn.mono ?_
   clear hn
   rintro e w1 ⟨hB, a, c, rfl, -⟩
   go_wp2_with fail
   go_ret
   exact ⟨rfl, hB⟩
end Go.Proofs.YtajbooppoohplaaGreatDoor
