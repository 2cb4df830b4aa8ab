/- the document's paths: Join, Split, Good, Up, Inside -/
import Derived.Test.YtakbalmbkokklaaGreatPathR
import Derived.Test.YtakbalmbkokklaaGreatRName
import Derived.Test.YtakbalmbkokklaaGreatPkPath
namespace Esch
open Go
def joinR (l : List Nm) : Option Nm := if okL 8 l = true then some (pathL l) else none
end Esch
namespace Go.Proofs.YtakbalmbkokklaaGreat
open Go.RowKit Esch

def JoinPost (w : World) (r : Option Nm) (e : Ending) (w' : World) : Prop :=
  Below w.heap.size w w' ∧ match r with
    | none => e = .returned (.tuple #[.string ⟨#[]⟩, .int .i64 11])
    | some p => e = .returned (.tuple #[.string (bs p), .int .i64 0])
def JoinRel (l : List Nm) (w : World) (g : Nat) (s4 s5 : Value) (wr : World) : Prop := ∃ i : Nat, g = l.length - i ∧ i ≤ l.length ∧ s4 = .string (bs (pathT (l.take i))) ∧ s5 = .int .i64 i ∧ (∀ a ∈ l.take i, nameL a = true) ∧ wr = w
set_option maxRecDepth 100000 in
set_option maxHeartbeats 4000000 in
theorem rJoin_any (S : Nat → Prop) (w : World) (a : Option Addr) (c : Nat) (l : List Nm) (h : NmsAt S w a l) (h2 : l.length ≤ 1000000) :
    Calls Tryz.prog 162 #[.slice a l.length c] w (JoinPost w (joinR l)) := by
  by_cases h8 : 8 < l.length
  · have h8' : (8 : Int) < l.length := by omega
    have hj : joinR l = none := by unfold joinR okL; rw [decide_eq_false (by omega)]; rfl
    rw [hj]
    clear hj h8
    go_enter Tryz.func162, Tryz.ntmps162
    go_wp2_with fail
    go_ret2
    exact ⟨Below.refl _ _, rfl⟩
  have h8' : ¬ (8 : Int) < l.length := by omega
  have H := Lib.hid h
  have hl8 : l.length ≤ 8 := by omega
  have Hl8 := Lib.hid hl8
  obtain ⟨r, hr⟩ : ∃ r, r = joinR l := ⟨_, rfl⟩
  rw [← hr]
  have HR := Lib.hid hr
  clear h h8 hr h2
  go_enter Tryz.func162, Tryz.ntmps162
  go_wp2_with fail
  go_loopg [4, 5] l.length (fun g s4 s5 wr => JoinRel l w g s4 s5 wr)
  case atStart => exact ⟨0, rfl, Nat.zero_le _, rfl, rfl, fun a h => absurd h (by simp), rfl⟩
  case round =>
    obtain ⟨i, rfl, hi, rfl, rfl, hall, rfl⟩ := hrel
    have HA := Lib.hid hall
    clear hall
    by_cases hlt : i < l.length
    · obtain ⟨bk, off, rfl, -, hb, hc⟩ := H.out (by omega)
      have c0 := hc i hlt
      have hpt := pathT_take hlt
      have hall2 : nameL (l.getD i []) = true → ∀ a ∈ l.take (i + 1), nameL a = true := fun h a ha => by
        rw [List.take_succ_eq_append_getElem hlt] at ha
        rcases List.mem_append.1 ha with ha | ha
        · exact HA.out a ha
        · rw [List.mem_singleton] at ha; subst ha; rwa [List.getD_eq_getElem?_getD, List.getElem?_eq_getElem hlt] at h
      have hno : nameL (l.getD i []) = false → r = none := fun h => by
        rw [HR.out]; unfold joinR okL; rw [all_no hlt h, Bool.and_false]; rfl
      have hsz := pathT_len HA.out
      rw [List.length_take] at hsz
      have hrn := fun W => rName_any W (l.getD i [])
      generalize l.getD i [] = x at c0 hpt hall2 hno hrn
      obtain ⟨nb, hnb⟩ : ∃ nb, nb = nameL x := ⟨_, rfl⟩
      rw [← hnb] at hrn
      have HNB := Lib.hid hnb
      have HALL2 := Lib.hid hall2
      have HNO := Lib.hid hno
      have HPT := Lib.hid hpt
      generalize hpp : pathT (l.take i) = pp at *
      have HPP := Lib.hid hpp
      have Hsz := Lib.hid hsz
      have hil : (0 : Int) ≤ i ∧ (i : Int) < l.length := by omega
      clear hc hnb hall2 hno hpt hpp hsz hl8
      cases nb
      · go_wp2_with fail
        refine (hrn _).mono ?_
        clear hrn
        rintro e w2 ⟨rfl, rfl⟩
        go_wp2_with fail
        go_ret2
        rw [HNO.out HNB.out.symm]
        exact ⟨Below.refl _ _, rfl⟩
      · have hx8 := (nameL_len HNB.out.symm).2.1
        have hadd1 : ∀ W, (Op.stringOp .add (⟨#[47]⟩ : ByteArray) (bs x)).run Tryz.prog W = .ok (.string (bs (47 :: x))) W := fun W => (run_string_add_sum _ _ _ (by rw [bs_size]; show 1 + _ ≤ _; omega)).trans (by rw [show (⟨#[47]⟩ : ByteArray) = bs [47] from rfl, bs_append]; rfl)
        have hadd2 : ∀ W, (Op.stringOp .add (bs pp) (bs (47 :: x))).run Tryz.prog W = .ok (.string (bs (pp ++ (47 :: x)))) W := fun W => (run_string_add_sum _ _ _ (by rw [bs_size, bs_size, List.length_cons]; have := Hsz.out; omega)).trans (by rw [bs_append])
        clear hx8
        go_wp2_with fail
        refine (hrn _).mono ?_
        clear hrn
        rintro e w2 ⟨rfl, rfl⟩
        go_wp2_with fail
        go_roundg (l.length - (i + 1))
        case measure => omega
        case rel => exact ⟨i + 1, rfl, by omega, by rw [HPT.out], by go_num, HALL2.out HNB.out.symm, rfl⟩
    · obtain rfl : i = l.length := by omega
      rw [List.take_length] at HA
      have hrr : r = some (pathL l) := by
        rw [HR.out]; unfold joinR okL
        rw [decide_eq_true Hl8.out, List.all_eq_true.2 HA.out]; rfl
      clear hlt hi hl8
      rw [List.take_length]
      by_cases e : l = []
      · subst e
        have hrr : r = some [47] := hrr
        have he : (bs (pathT ([] : List Nm))).toList.isEmpty = true := by rw [toList_bs]; rfl
        have HRR := Lib.hid hrr
        clear hrr
        go_wp2_with fail
        go_ret2
        rw [HRR.out]
        exact ⟨Below.refl _ _, rfl⟩
      · have he : (bs (pathT l)).toList.isEmpty = false := by
          rw [toList_bs]
          cases l with
          | nil => exact absurd rfl e
          | cons x l => simp [pathT]
        have hpl : pathL l = pathT l := by unfold pathL; rw [if_neg e]
        rw [hpl] at hrr
        have HRR := Lib.hid hrr
        clear hrr hpl e
        go_wp2_with fail
        go_ret2
        rw [HRR.out]
        exact ⟨Below.refl _ _, rfl⟩
/-- the loop of Split: l is cut off, cur is begun -/
def SplitRel (q r : Nm) (w : World) (g : Nat) (s4 s5 s6 : Value) (wr : World) : Prop :=
  ∃ (l : List Nm) (f i : Nat) (ao : Option Addr) (c : Nat), g = r.length + 2 - i ∧ 1 ≤ i ∧ s4 = .slice ao l.length c ∧ s5 = .int .i64 f ∧ s6 = .int .i64 i ∧ GRowAt wr (From w.heap.size) 1 l.length c ao (l.map strV) ∧ l.length ≤ i ∧ Below w.heap.size w wr ∧
    ((f ≤ i ∧ i ≤ r.length + 1 ∧ pcsF [] r = l ++ pcsF ((q.take i).drop f) (q.drop i)) ∨ (i = r.length + 2 ∧ pcsF [] r = l))
def RSplitPost (w : World) (r : Option (List Nm)) (e : Ending) (w' : World) : Prop :=
  Below w.heap.size w w' ∧ match r with
    | none => e = .returned (.tuple #[.slice none 0 0, .int .i64 11])
    | some l => ∃ a c, e = .returned (.tuple #[.slice a l.length c, .int .i64 0]) ∧ NmsAt (From w.heap.size) w' a l ∧ CapN l.length c
set_option maxRecDepth 100000 in
set_option maxHeartbeats 4000000 in
theorem rSplit_any (w : World) (p : Nm) (hp : p.length ≤ 100000) : Calls Tryz.prog 129 #[.string (bs p)] w (RSplitPost w (namesOf p)) := by
  by_cases h1 : p = [47]
  · subst h1
    have he : ((bs [47]).toList == [47]) = true := by rw [strEq]; rfl
    rw [show namesOf [47] = some [] from rfl]
    clear hp
    go_enter Tryz.func129, Tryz.ntmps129
    go_wp2_with fail
    go_ret2
    exact ⟨Below.refl _ _, none, 0, rfl, NmsAt.nil _ _ _, by simp, by omega⟩
  have he : ((bs p).toList == [47]) = false := by rw [strEq]; simpa using h1
  cases p with
  | nil =>
    have he2 : (bs ([] : Nm)).toList.isEmpty = true := by rw [toList_bs]; rfl
    rw [show namesOf [] = none from rfl]
    clear hp h1
    go_enter Tryz.func129, Tryz.ntmps129
    go_wp2_with fail
    go_ret2
    exact ⟨Below.refl _ _, rfl⟩
  | cons x r =>
    have he2 : (bs (x :: r)).toList.isEmpty = false := by rw [toList_bs]; rfl
    have hidx : ∀ W, (Instr.index 9 (.string (bs (x :: r))) (.int .i64 0)).run Tryz.prog W = .ok (.int .u8 (x.toNat : Int)) W := fun W => by
      rw [run_index_string _ _ _ _ _ Tryz.underlying9, dif_pos ⟨by omega, by show (0 : Int) < ((x :: r).length : Nat); simp⟩]
      rfl
    by_cases hx : x = 47
    rotate_left 1
    · have hx2 : ((x.toNat : Int) != 47) = true := by
        simp only [bne_iff_ne, ne_eq]
        intro e
        exact hx (UInt8.toNat_inj.1 (by show x.toNat = 47; omega))
      rw [namesOf_no hx]
      clear hp h1 hx
      go_enter Tryz.func129, Tryz.ntmps129
      go_wp2_with fail
      go_ret2
      exact ⟨Below.refl _ _, rfl⟩
    subst hx
    have hr0 : r ≠ [] := fun e => h1 (by rw [e])
    obtain ⟨res, hres⟩ : ∃ res, res = namesOf (47 :: r) := ⟨_, rfl⟩
    rw [← hres]
    have hres2 := hres
    rw [namesOf_pcs, if_neg hr0] at hres2
    have HRES := Lib.hid hres2
    obtain ⟨q, hq⟩ : ∃ q, q = 47 :: r := ⟨_, rfl⟩
    rw [← hq] at he he2 hidx ⊢
    have hql : q.length = r.length + 1 := by rw [hq]; rfl
    have hpr : r.length ≤ 100000 := by simp only [List.length_cons] at hp; omega
    have hq1 : q.drop 1 = r := by rw [hq]; rfl
    obtain ⟨i0, hi, hz0, hz1, hz2⟩ := info_parts Tryz.infoStr
    have HQ1 := Lib.hid hq1
    have HQL := Lib.hid hql
    have HPR := Lib.hid hpr
    clear hres hres2 h1 hr0 hp hq hq1 hql hpr
    go_enter Tryz.func129, Tryz.ntmps129
    go_wp2_with fail
    go_loopg [4, 5, 6] (r.length + 1) (fun g s4 s5 s6 wr => SplitRel q r w g s4 s5 s6 wr)
    case atStart => exact ⟨[], 1, 1, none, 0, rfl, Nat.le_refl _, rfl, rfl, rfl, GRowAt.nil _ _ _ _, Nat.zero_le _, Below.refl _ _, Or.inl ⟨Nat.le_refl _, by omega, by
      rw [List.nil_append, HQ1.out]
      have : (q.take 1).drop 1 = [] := by rw [List.drop_eq_nil_iff]; rw [List.length_take]; omega
      rw [this]⟩⟩
    case round =>
      clear he he2 hidx
      obtain ⟨l, f, i, ao, c, rfl, hi1, rfl, rfl, rfl, hG, hl, hB, hS⟩ := hrel
      have HG := Lib.hid hG
      have HB := Lib.hid hB
      have HI1 := Lib.hid hi1
      clear hG hB hi1
      rcases hS with ⟨hfi, hil, hpc⟩ | ⟨rfl, hpc⟩
      · have HL := Lib.hid (show l.length ≤ 100001 by have := HPR.out; omega)
        have HFI := Lib.hid hfi
        have hst : ∀ W, (Instr.slice 9 (.string (bs q)) (some (.int .i64 (f : Int))) (some (.int .i64 (i : Int))) none).run Tryz.prog W = .ok (.string (bs ((q.take i).drop f))) W := fun W => by
          have := HQL.out
          rw [run_slice_string _ _ _ _ _ _ _ Tryz.underlying9 (by omega) (by omega) (by show (i : Int) ≤ q.length; omega), Int.toNat_natCast, Int.toNat_natCast, bs_extract]
          congr 3
          rw [List.drop_take]
        have hcur : (q.take i).drop f = (q.take i).drop f := rfl
        have Hl := Lib.hid hl
        have hwr1 := Lib.hid (show wrap64 ((i : Int) + 1) = ((i + 1 : Nat) : Int) by have := HPR.out; unfold wrap64; omega)
        obtain ⟨cur, hcu⟩ : ∃ cur, cur = (q.take i).drop f := ⟨_, rfl⟩
        rw [← hcu] at hst hpc
        have hgt : ¬ (q.length : Int) < i := by have := HQL.out; omega
        have hle : (i : Int) ≤ q.length := by omega
        by_cases hlt : i < q.length
        · have hil2 : (0 : Int) ≤ i ∧ (i : Int) < q.length := by omega
          have hix : ∀ W, (Instr.index 9 (.string (bs q)) (.int .i64 (i : Int))).run Tryz.prog W = .ok (.int .u8 (q[i].toNat : Int)) W := fun W => by
            rw [run_index_string _ _ _ _ _ Tryz.underlying9, dif_pos ⟨by omega, by show (i : Int) < q.length; omega⟩]
            congr 3
          have hne : ((i : Int) == q.length) = false := by simp only [beq_eq_false_iff_ne, ne_eq]; omega
          have hdr : q.drop i = q[i] :: q.drop (i + 1) := List.drop_eq_getElem_cons hlt
          have hcu2 : (q.take (i + 1)).drop f = cur ++ [q[i]] := by
            rw [hcu, List.take_succ_eq_append_getElem hlt, List.drop_append_of_le_length (by rw [List.length_take]; omega)]
          have hcu3 : (q.take (i + 1)).drop (i + 1) = [] := by rw [List.drop_eq_nil_iff, List.length_take]; omega
          rw [hdr, pcsF_cons] at hpc
          generalize q[i] = x at hix hcu2 hpc hdr
          by_cases hx : x = 47
          · subst hx
            have hx2 : (((47 : UInt8).toNat : Int) == 47) = true := rfl
            rw [if_pos rfl] at hpc
            have HPC := Lib.hid hpc
            have HCU := Lib.hid hcu3
            have Hlt := Lib.hid hlt
            clear hpc hcu hcu2 hcu3 hcur hdr hfi hlt hil hl
            go_wp2_with (at_builtin; refine wpList_append_g (by rfl) (.tmp 34) (.tmp 39) 22 22 (by rfl) 9 i0 _ 16 Tryz.underlying22 hi hz0 hz1 hz2 (by rfl) (by rfl) (HG.out.mod (F := none') (by exact modC (Mod.refl _ _)) (fun _ _ _ => id)) _ 1 [strV cur] (by rfl) (src_str _ _ Tryz.underlying22 wr.heap.size cur 9 (heap_alloc_new _ _) _) (by have := HL.out; omega) (by have := HL.out; omega) ?_; intro a6 cap6 w6 hg6 hM6 hz6)
            have hB6 : Below w.heap.size w w6 := HB.out.trans (((Below.refl _ wr).alloc (Nat.le_refl _) _).mono HB.out.size |>.trans (hM6.below_at (by have := HB.out.size; simp only [World.size_alloc]; omega) (fun k hk e => by have e : w.heap.size ≤ k := e; omega)))
            have hg7 : GRowAt w6 (From w.heap.size) 1 (l ++ [cur]).length cap6 a6 ((l ++ [cur]).map strV) := by
              rw [List.map_append, List.length_append]
              exact hg6.sub (fun k _ hk => by
                rcases hk with hk | hk
                · exact hk
                · show w.heap.size ≤ k; rw [hk]; simp only [World.size_alloc]; have := HB.out.size; omega)
            rw [show l.length + 1 = (l ++ [cur]).length by simp]
            have HG6 := Lib.hid hg7
            have HB6 := Lib.hid hB6
            clear hg6 hM6 hz6 hg7 hB6 HG HB
            go_wp2_with fail
            go_roundg (r.length + 2 - (i + 1))
            case measure => have := HQL.out; have := Hlt.out; omega
            case rel => exact ⟨l ++ [cur], i + 1, i + 1, a6, cap6, rfl, by omega, rfl, by first | rfl | rw [hwr1.out], by first | rfl | rw [hwr1.out], HG6.out, by have := Hl.out; simp only [List.length_append, List.length_singleton]; omega, HB6.out, Or.inl ⟨Nat.le_refl _, by have := HQL.out; have := Hlt.out; omega, by rw [HPC.out, HCU.out]; simp⟩⟩
          · have hx2 : ((x.toNat : Int) == 47) = false := by
              simp only [beq_eq_false_iff_ne, ne_eq]
              intro e
              exact hx (UInt8.toNat_inj.1 (by show x.toNat = 47; omega))
            rw [if_neg hx] at hpc
            have HPC := Lib.hid hpc
            have HCU := Lib.hid hcu2
            have Hlt := Lib.hid hlt
            clear hpc hcu hcu2 hcu3 hcur hdr hfi hlt hil hl hst hx
            go_wp2_with fail
            go_roundg (r.length + 2 - (i + 1))
            case measure => have := HQL.out; have := Hlt.out; omega
            case rel => exact ⟨l, f, i + 1, ao, c, rfl, by omega, rfl, rfl, by first | rfl | rw [hwr1.out], HG.out, by have := Hl.out; omega, HB.out, Or.inl ⟨by have := HFI.out; omega, by have := HQL.out; have := Hlt.out; omega, by rw [HPC.out, HCU.out]⟩⟩
        · obtain rfl : i = q.length := by have := HQL.out; omega
          have hne : ((q.length : Int) == q.length) = true := by simp
          have HQL2 := Lib.hid (show q.length + 1 = r.length + 2 by have := HQL.out; omega)
          rw [List.drop_length] at hpc
          have HPC := Lib.hid hpc
          clear hpc hcu hcur hfi hlt hil hl
          go_wp2_with (at_builtin; refine wpList_append_g (by rfl) (.tmp 34) (.tmp 39) 22 22 (by rfl) 9 i0 _ 16 Tryz.underlying22 hi hz0 hz1 hz2 (by rfl) (by rfl) (HG.out.mod (F := none') (by exact modC (Mod.refl _ _)) (fun _ _ _ => id)) _ 1 [strV cur] (by rfl) (src_str _ _ Tryz.underlying22 wr.heap.size cur 9 (heap_alloc_new _ _) _) (by have := HL.out; omega) (by have := HL.out; omega) ?_; intro a6 cap6 w6 hg6 hM6 hz6)
          have hB6 : Below w.heap.size w w6 := HB.out.trans (((Below.refl _ wr).alloc (Nat.le_refl _) _).mono HB.out.size |>.trans (hM6.below_at (by have := HB.out.size; simp only [World.size_alloc]; omega) (fun k hk e => by have e : w.heap.size ≤ k := e; omega)))
          have hg7 : GRowAt w6 (From w.heap.size) 1 (l ++ [cur]).length cap6 a6 ((l ++ [cur]).map strV) := by
            rw [List.map_append, List.length_append]
            exact hg6.sub (fun k _ hk => by
              rcases hk with hk | hk
              · exact hk
              · show w.heap.size ≤ k; rw [hk]; simp only [World.size_alloc]; have := HB.out.size; omega)
          rw [show l.length + 1 = (l ++ [cur]).length by simp]
          have HG6 := Lib.hid hg7
          have HB6 := Lib.hid hB6
          clear hg6 hM6 hz6 hg7 hB6 HG HB
          go_wp2_with fail
          go_roundg 0
          case measure => have := HQL2.out; omega
          case rel => exact ⟨l ++ [cur], q.length + 1, q.length + 1, a6, cap6, by have := HQL2.out; omega, by omega, rfl, by first | rfl | rw [hwr1.out], by first | rfl | rw [hwr1.out], HG6.out, by have := Hl.out; simp only [List.length_append, List.length_singleton]; omega, HB6.out, Or.inr ⟨HQL2.out, HPC.out⟩⟩
      · have hgt : (q.length : Int) < ((r.length + 2 : Nat) : Int) := by have := HQL.out; omega
        have hle : ¬ ((r.length + 2 : Nat) : Int) ≤ q.length := by omega
        have hjn := fun W hW => rJoin_any (From w.heap.size) W ao c l hW (by have := HPR.out; omega)
        have hnm := (grow_nms HG.out).1
        have hcp := (grow_nms HG.out).2
        have hj := hjn wr hnm
        rw [hpc] at HRES
        have hjr : joinR l = res.map pathL := by
          rw [HRES.out]; unfold joinR
          split <;> rfl
        rw [hjr] at hj
        have HN := Lib.hid hnm
        have HC := Lib.hid hcp
        have HRES2 := Lib.hid (show res = none ∨ res = some l by rw [HRES.out]; by_cases e : okL 8 l = true; (· rw [if_pos e]; exact Or.inr rfl); (· rw [if_neg e]; exact Or.inl rfl))
        clear hnm hcp hjn hjr hpc HRES
        have hres2 := HRES2.out
        clear HRES2
        rcases hres2 with rfl | rfl
        · clear hgt
          go_wp2_with fail
          refine hj.mono ?_
          clear hj
          rintro e w5 ⟨hB5, rfl⟩
          go_wp2_with fail
          go_ret2
          exact ⟨HB.out.trans (hB5.mono HB.out.size), rfl⟩
        · clear hgt
          go_wp2_with fail
          refine hj.mono ?_
          clear hj
          rintro e w5 ⟨hB5, rfl⟩
          go_wp2_with fail
          go_ret2
          exact ⟨HB.out.trans (hB5.mono HB.out.size), ao, c, rfl, HN.out.below hB5, HC.out⟩
theorem rGood_any (w : World) (p : Nm) (hp : p.length ≤ 100000) : Calls Tryz.prog 126 #[.string (bs p)] w (BoolBelow w (namesOf p).isSome) := by
  have hn := rSplit_any w p hp
  cases hr : namesOf p with
  | none =>
    rw [hr] at hn
    clear hr
    go_enter Tryz.func126, Tryz.ntmps126
    go_wp2_with fail
    refine hn.mono ?_
    clear hn
    rintro e w1 ⟨hB, rfl⟩
    go_wp2_with fail
    go_ret
    exact ⟨rfl, hB⟩
  | some l =>
    rw [hr] at hn
    clear hr
    go_enter Tryz.func126, Tryz.ntmps126
    go_wp2_with fail
    refine hn.mono ?_
    clear hn
    rintro e w1 ⟨hB, a, c, rfl, -⟩
    go_wp2_with fail
    go_ret
    exact ⟨rfl, hB⟩
def RUpPost (w : World) (r : Option (List Nm × Nm)) (e : Ending) (w' : World) : Prop :=
  Below w.heap.size w w' ∧ match r with
    | none => e = .returned (.agg #[.string ⟨#[]⟩, .string ⟨#[]⟩, .bool false])
    | some x => e = .returned (.agg #[.string (bs (pathL x.1)), .string (bs x.2), .bool true])
set_option maxRecDepth 100000 in
set_option maxHeartbeats 4000000 in
theorem rUp_any (w : World) (p : Nm) (hp : p.length ≤ 100000) : Calls Tryz.prog 127 #[.string (bs p)] w (RUpPost w (upOf (namesOf p))) := by
  obtain ⟨W1, hW1⟩ : ∃ W1, W1 = w.alloc (.cells #[.string ⟨#[]⟩, .string ⟨#[]⟩, .bool false] 168) := ⟨_, rfl⟩
  have hB1 : Below w.heap.size w W1 := by rw [hW1]; exact belC (Below.refl _ _)
  have g0 : W1.cell? ⟨w.heap.size, 0, none⟩ = some (.string ⟨#[]⟩) := by rw [hW1]; go_simp
  have g1 : W1.cell? ⟨w.heap.size, 1, none⟩ = some (.string ⟨#[]⟩) := by rw [hW1]; go_simp
  have g2 : W1.cell? ⟨w.heap.size, 2, none⟩ = some (.bool false) := by rw [hW1]; go_simp
  have v0 : W1.frozen? ⟨w.heap.size, 0, none⟩ = false := by rw [hW1]; go_simp
  have v1 : W1.frozen? ⟨w.heap.size, 1, none⟩ = false := by rw [hW1]; go_simp
  have v2 : W1.frozen? ⟨w.heap.size, 2, none⟩ = false := by rw [hW1]; go_simp
  have hn := rSplit_any W1 p hp
  have HW1 := Lib.hid hW1
  have HB1 := Lib.hid hB1
  clear hB1 hW1
  cases hr : namesOf p with
  | none =>
    rw [hr] at hn
    clear hr
    go_enter Tryz.func127, Tryz.ntmps127
    go_wp2_with fail
    rw [← HW1.out]
    refine hn.mono ?_
    clear hn
    rintro e w2 ⟨hB, rfl⟩
    have h0 := below_at hB g0 (cell_lt g0)
    have h1 := below_at hB g1 (cell_lt g0)
    have h2 := below_at hB g2 (cell_lt g0)
    have u0 := (hB.frozen (p := ⟨w.heap.size, 0, none⟩) (cell_lt g0)).trans v0
    have u1 := (hB.frozen (p := ⟨w.heap.size, 1, none⟩) (cell_lt g0)).trans v1
    have u2 := (hB.frozen (p := ⟨w.heap.size, 2, none⟩) (cell_lt g0)).trans v2
    have hl0 := cell_lt h0
    have HB2 := Lib.hid (HB1.out.trans (hB.mono HB1.out.size))
    clear hB g0 g1 g2 v0 v1 v2
    go_wp2_with fail
    refine bodyPost_ret (v := .agg #[.string ⟨#[]⟩, .string ⟨#[]⟩, .bool false]) (by simp [results, Tryz.results127, go_sem, *]) rfl ?_
    exact ⟨by exact belC HB2.out, rfl⟩
  | some l =>
    have hs := namesOf_some hr
    rw [hr] at hn
    clear hr
    by_cases h0 : l = []
    · subst h0
      clear hs
      go_enter Tryz.func127, Tryz.ntmps127
      go_wp2_with fail
      rw [← HW1.out]
      refine hn.mono ?_
      clear hn
      rintro e w2 ⟨hB, a, c, rfl, -⟩
      have h0 := below_at hB g0 (cell_lt g0)
      have h1 := below_at hB g1 (cell_lt g0)
      have h2 := below_at hB g2 (cell_lt g0)
      have u0 := (hB.frozen (p := ⟨w.heap.size, 0, none⟩) (cell_lt g0)).trans v0
      have u1 := (hB.frozen (p := ⟨w.heap.size, 1, none⟩) (cell_lt g0)).trans v1
      have u2 := (hB.frozen (p := ⟨w.heap.size, 2, none⟩) (cell_lt g0)).trans v2
      have hl0 := cell_lt h0
      have HB2 := Lib.hid (HB1.out.trans (hB.mono HB1.out.size))
      clear hB g0 g1 g2 v0 v1 v2
      go_wp2_with fail
      refine bodyPost_ret (v := .agg #[.string ⟨#[]⟩, .string ⟨#[]⟩, .bool false]) (by simp [results, Tryz.results127, go_sem, *]) rfl ?_
      exact ⟨by exact belC HB2.out, rfl⟩
    · have hup : upOf (some l) = some (l.dropLast, l.getLastD []) := by unfold upOf; simp [h0]
      rw [hup]
      show Calls Tryz.prog 127 #[.string (bs p)] w (fun e w' => Below w.heap.size w w' ∧ e = .returned (.agg #[.string (bs (pathL l.dropLast)), .string (bs (l.getLastD [])), .bool true]))
      obtain ⟨k, hk⟩ : ∃ k, l.length = k + 1 := ⟨l.length - 1, by have := List.length_pos_iff.2 h0; omega⟩
      have hdl : l.dropLast = l.take k := by rw [List.dropLast_eq_take, hk]; rfl
      have hgl : l.getLastD [] = l.getD k [] := by
        rw [List.getLastD_eq_getLast?, List.getLast?_eq_getElem?, hk, List.getD_eq_getElem?_getD]; rfl
      rw [hdl, hgl]
      obtain ⟨nm, hnm⟩ : ∃ nm, nm = l.getD k [] := ⟨_, rfl⟩
      rw [← hnm]
      have HNM := Lib.hid hnm
      clear hnm
      have hn0 : (((k + 1 : Nat) : Int) == 0) = false := by simp; omega
      have Hs := Lib.hid hs
      have Hk := Lib.hid hk
      have hkl : (l.take k).length = k := by rw [List.length_take]; omega
      have Hkl := Lib.hid hkl
      have hjr : joinR (l.take k) = some (pathL (l.take k)) := by
        unfold joinR okL
        rw [decide_eq_true (by rw [hkl]; omega), List.all_eq_true.2 fun x hx => hs.2.1 x (List.mem_of_mem_take hx)]; rfl
      have hj : ∀ S W a c, NmsAt S W a (l.take k) → Calls Tryz.prog 162 #[.slice a k c] W (JoinPost W (some (pathL (l.take k)))) := fun S W a c h1 => by
        have := rJoin_any S W a c (l.take k) h1 (by omega)
        rwa [hkl, hjr] at this
      unfold JoinPost at hj
      simp only at hj
      generalize bs (pathL (l.take k)) = dir at hj ⊢
      clear hs hup h0 hdl hgl hkl hjr
      go_enter Tryz.func127, Tryz.ntmps127
      go_wp2_with fail
      rw [← HW1.out]
      refine hn.mono ?_
      clear hn
      rintro e w2 ⟨hB, a, c, rfl, hN, hC⟩
      obtain ⟨b, off, rfl, -, hb, hcell⟩ := hN (by omega)
      have e0 : w2.cell? ⟨b, off + k, none⟩ = some (.string (bs nm)) := by rw [HNM.out]; exact hcell k (by omega)
      have hj1 := hj _ w2 (some ⟨b, off, none⟩) c (hN.take k)
      have hkc : (0 : Int) ≤ k ∧ (k : Int) ≤ c := by have := hC.1; omega
      have hki : (0 : Int) ≤ k ∧ (k : Int) < k + 1 := by omega
      have hk8 : k < 100 := by have := Hs.out.1; omega
      dsimp only
      rw [hk]
      have h0 := below_at hB g0 (cell_lt g0)
      have h1 := below_at hB g1 (cell_lt g0)
      have h2 := below_at hB g2 (cell_lt g0)
      have u0 := (hB.frozen (p := ⟨w.heap.size, 0, none⟩) (cell_lt g0)).trans v0
      have u1 := (hB.frozen (p := ⟨w.heap.size, 1, none⟩) (cell_lt g0)).trans v1
      have u2 := (hB.frozen (p := ⟨w.heap.size, 2, none⟩) (cell_lt g0)).trans v2
      have hl0 := cell_lt h0
      have HB2 := Lib.hid (HB1.out.trans (hB.mono HB1.out.size))
      clear hB g0 g1 g2 v0 v1 v2
      clear hj hk hcell hN hC
      go_wp2_with fail
      refine hj1.mono ?_
      clear hj1
      rintro e w3 ⟨hB3, rfl⟩
      have f0 := below_at hB3 e0 hb
      have k0 := below_at hB3 h0 hl0
      have k1 := below_at hB3 h1 hl0
      have k2 := below_at hB3 h2 hl0
      have j0 := (hB3.frozen (p := ⟨w.heap.size, 0, none⟩) hl0).trans u0
      have j1 := (hB3.frozen (p := ⟨w.heap.size, 1, none⟩) hl0).trans u1
      have j2 := (hB3.frozen (p := ⟨w.heap.size, 2, none⟩) hl0).trans u2
      have hl3 := cell_lt k0
      have hbw : b < w3.heap.size := cell_lt f0
      have HB2 := Lib.hid (HB2.out.trans (hB3.mono HB2.out.size))
      clear hB3 e0 h0 h1 h2 u0 u1 u2 hb
      go_wp2_with fail
      refine bodyPost_ret (v := .agg #[.string dir, .string (bs nm), .bool true]) (by simp [results, Tryz.results127, go_sem, *]) rfl ?_
      exact ⟨by exact belC HB2.out, rfl⟩
/-- what Inside tells -/
def InRel (x y : List Nm) (w : World) (g : Nat) (s9 : Value) (wr : World) : Prop := ∃ i : Nat, g = y.length - i ∧ i ≤ y.length ∧ s9 = .int .i64 i ∧ x.take i = y.take i ∧ Below w.heap.size w wr
set_option maxRecDepth 100000 in
set_option maxHeartbeats 4000000 in
theorem rInside_any (w : World) (p q : Nm) (hp : p.length ≤ 100000) (hq : q.length ≤ 100000) : Calls Tryz.prog 107 #[.string (bs p), .string (bs q)] w (BoolBelow w (insideOf (namesOf p) (namesOf q))) := by
  have hn1 := rSplit_any w p hp
  have hn2 := fun W => rSplit_any W q hq
  obtain ⟨r, hr⟩ : ∃ r, r = insideOf (namesOf p) (namesOf q) := ⟨_, rfl⟩
  rw [← hr]
  cases h1 : namesOf p with
  | none =>
    have hf : r = false := by rw [hr, h1]; rfl
    rw [h1] at hn1
    subst hf
    have hn3 : ∀ W, Calls Tryz.prog 129 #[.string (bs q)] W (fun e w' => (∃ a n c k, e = .returned (.tuple #[.slice a n c, .int .i64 k])) ∧ Below W.heap.size W w') := fun W => (hn2 W).mono fun e w' h => by
      obtain ⟨hB, h⟩ := h
      cases h2 : namesOf q with
      | none => rw [h2] at h; exact ⟨⟨_, _, _, _, h⟩, hB⟩
      | some l => rw [h2] at h; obtain ⟨a, c, h, -⟩ := h; exact ⟨⟨_, _, _, _, h⟩, hB⟩
    clear hn2 hr h1
    go_enter Tryz.func107, Tryz.ntmps107
    go_wp2_with fail
    refine hn1.mono ?_
    clear hn1
    rintro e w1 ⟨hB, rfl⟩
    go_wp2_with fail
    refine (hn3 _).mono ?_
    clear hn3
    rintro e w2 ⟨⟨a, n, c, k, rfl⟩, hB2⟩
    go_wp2_with fail
    go_ret
    exact ⟨rfl, hB.trans (hB2.mono hB.size)⟩
  | some x =>
    rw [h1] at hn1
    cases h2 : namesOf q with
    | none =>
      have hf : r = false := by rw [hr, h1, h2]; rfl
      rw [h2] at hn2
      subst hf
      clear hr h1 h2
      go_enter Tryz.func107, Tryz.ntmps107
      go_wp2_with fail
      refine hn1.mono ?_
      clear hn1
      rintro e w1 ⟨hB, a, c, rfl, -⟩
      go_wp2_with fail
      refine (hn2 _).mono ?_
      clear hn2
      rintro e w2 ⟨hB2, rfl⟩
      go_wp2_with fail
      go_ret
      exact ⟨rfl, hB.trans (hB2.mono hB.size)⟩
    | some y =>
      rw [h2] at hn2
      have hx8 := (namesOf_some h1).1
      have hy8 := (namesOf_some h2).1
      rw [h1, h2] at hr
      replace hr : r = (decide (y.length ≤ x.length) && decide (x.take y.length = y)) := hr
      have HR := Lib.hid hr
      clear hr h1 h2
      go_enter Tryz.func107, Tryz.ntmps107
      go_wp2_with fail
      refine hn1.mono ?_
      clear hn1
      rintro e w1 ⟨hB, a, c, rfl, hN1, -⟩
      have HN1 := Lib.hid hN1
      have HB := Lib.hid hB
      clear hN1 hB
      go_wp2_with fail
      refine (hn2 _).mono ?_
      clear hn2
      rintro e w2 ⟨hB2, a2, c2, rfl, hN2, -⟩
      have HN2 := Lib.hid hN2
      have HN1 := Lib.hid (HN1.out.below hB2)
      have HB2 := Lib.hid (HB.out.trans (hB2.mono HB.out.size))
      clear hN2 hB2
      by_cases hgt : x.length < y.length
      · have hgt2 : (x.length : Int) < y.length := by omega
        have hf : r = false := by rw [HR.out, decide_eq_false (by omega)]; rfl
        subst hf
        clear hgt
        go_wp2_with fail
        go_ret
        exact ⟨rfl, HB2.out⟩
      have hgt2 : ¬ (x.length : Int) < y.length := by omega
      have Hgt := Lib.hid hgt
      clear hgt
      go_wp2_with fail
      go_loopg [9] y.length (fun g s9 wr => InRel x y w2 g s9 wr)
      case atStart => exact ⟨0, rfl, Nat.zero_le _, rfl, rfl, Below.refl _ _⟩
      case round =>
        obtain ⟨i, rfl, hi, rfl, hte, hB⟩ := hrel
        have HT := Lib.hid hte
        have HB := Lib.hid hB
        clear hte hB
        by_cases hlt : i < y.length
        · have hix : i < x.length := by have := Hgt.out; omega
          obtain ⟨xb, xo, rfl, -, hxl, hxc⟩ := HN1.out (by omega)
          obtain ⟨yb, yo, rfl, -, hyl, hyc⟩ := HN2.out (by omega)
          have f0 := below_at HB.out (hxc i hix) hxl
          have f1 := below_at HB.out (hyc i hlt) hyl
          have htx : x.take (i + 1) = x.take i ++ [x.getD i []] := by rw [List.take_succ_eq_append_getElem hix, List.getD_eq_getElem?_getD, List.getElem?_eq_getElem hix]; rfl
          have hty : y.take (i + 1) = y.take i ++ [y.getD i []] := by rw [List.take_succ_eq_append_getElem hlt, List.getD_eq_getElem?_getD, List.getElem?_eq_getElem hlt]; rfl
          have HTX := Lib.hid htx
          have HTY := Lib.hid hty
          generalize x.getD i [] = u at *
          generalize y.getD i [] = v at *
          have hil2 : (0 : Int) ≤ i ∧ (i : Int) < y.length ∧ (i : Int) < x.length := by omega
          have hi1 : i + 1 ≤ y.length := hlt
          have hms : y.length - (i + 1) < y.length - i := by omega
          have hwr1 := Lib.hid (show wrap64 ((i : Int) + 1) = ((i + 1 : Nat) : Int) by unfold wrap64; omega)
          clear htx hty hxc hyc
          have hKd : wr.drew.cell? ⟨xb, xo + i, none⟩ = some (.string (bs u)) ∧ wr.drew.cell? ⟨yb, yo + i, none⟩ = some (.string (bs v)) := ⟨f0, f1⟩
          by_cases huv : u = v
          · subst huv
            go_wp2_with fail
            refine wp_region_held_drew (S := fun W' => W'.cell? ⟨xb, xo + i, none⟩ = some (.string (bs u)) ∧ W'.cell? ⟨yb, yo + i, none⟩ = some (.string (bs u))) (by kernel_rfl) hKd (fun hHeld => ?_)
            refine takeL 0 ?_
            refine takeL 1 ?_
            refine takeL 2 ?_
            refine takeL 3 ?_
            refine takeL 4 ?_
            refine takeL 5 ?_
            refine takeL 6 ?_
            refine takeL 7 ?_
            refine takeL 8 ?_
            refine wpAnyH_done (by kernel_rfl) ?_ _
            go_wp2_with fail
            go_roundg (y.length - (i + 1))
            case measure => exact hms
            case rel => exact ⟨i + 1, rfl, hi1, by first | rfl | rw [hwr1.out], by rw [HTX.out, HTY.out, HT.out], HB.out.drew⟩
          · have hne : ((bs u).toList == (bs v).toList) = false := by rw [toList_bs, toList_bs]; simpa using huv
            have hdv : r = false := by
              rw [HR.out]
              rw [Bool.and_eq_false_iff]
              refine Or.inr (decide_eq_false (fun e => ?_))
              have h1 := congrArg (List.take (i + 1)) e
              rw [List.take_take, Nat.min_eq_left hi1, HTX.out, HTY.out, HT.out] at h1
              exact huv (by simpa using (List.append_cancel_left h1))
            subst hdv
            go_wp2_with fail
            refine wp_region_held_drew (S := fun W' => W'.cell? ⟨xb, xo + i, none⟩ = some (.string (bs u)) ∧ W'.cell? ⟨yb, yo + i, none⟩ = some (.string (bs v))) (by kernel_rfl) hKd (fun hHeld => ?_)
            refine takeL 0 ?_
            refine takeL 1 ?_
            refine takeL 2 ?_
            refine takeL 3 ?_
            refine takeL 4 ?_
            refine takeL 5 ?_
            refine takeL 6 ?_
            refine takeL 7 ?_
            refine takeL 8 ?_
            refine wpAnyH_done (by kernel_rfl) ?_ _
            go_wp2_with fail
            go_ret
            exact ⟨rfl, HB2.out.trans (HB.out.drew.mono HB2.out.size)⟩
        · obtain rfl : i = y.length := by omega
          have hdv : r = true := by
            rw [HR.out, decide_eq_true (by have := Hgt.out; omega)]
            have h1 := HT.out
            rw [List.take_length] at h1
            rw [h1]
            simp
          subst hdv
          go_wp2_with fail
          go_ret
          exact ⟨rfl, HB2.out.trans (HB.out.mono HB2.out.size)⟩
end Go.Proofs.YtakbalmbkokklaaGreat
