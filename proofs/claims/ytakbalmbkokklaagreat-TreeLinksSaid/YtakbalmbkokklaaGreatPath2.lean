/- package path: Good, Split, Join, Up, Inside -/
import Derived.Test.YtakbalmbkokklaaGreatPath
import Derived.Test.YtakbalmbkokklaaGreatShelf2
namespace Esch
open Go
theorem join_path : ∀ l : List Nm, l ≠ [] → 47 :: Lib.join l [47] = pathT l
  | [], h => absurd rfl h
  | a :: l, _ => by
    rw [Lib.join_cons]
    simp [Lib.joinTail, pathT, List.flatMap_def]
theorem map_bs (l : List Nm) : (l.map bs).map (·.data.toList) = l := by
  rw [List.map_map, show ((fun x : ByteArray => x.data.toList) ∘ bs) = id from rfl, List.map_id]
theorem join_len (l : List Nm) (h : l.length ≤ 8) (hn : ∀ a ∈ l, nameL a = true) : (Lib.join l [47]).length ≤ 100 := by
  have : ∀ l : List Nm, (∀ a ∈ l, nameL a = true) → (pathT l).length ≤ 9 * l.length := by
    intro l
    induction l with
    | nil => intro _; simp [pathT]
    | cons a l ih =>
      intro hn
      have h1 := (nameL_len (hn a (by simp))).2.1
      have h2 := ih fun x hx => hn x (by simp [hx])
      simp only [pathT, List.flatMap_cons, List.length_append, List.length_cons] at *
      omega
  by_cases e : l = []
  · subst e; simp [Lib.join]
  · have h1 := this l hn
    rw [← join_path l e] at h1
    simp only [List.length_cons] at h1
    omega
/-- a path's directory and its last name -/
def upOf (r : Option (List Nm)) : Option (List Nm × Nm) := match r with
  | none => none
  | some l => if l = [] then none else some (l.dropLast, l.getLastD [])
def insideOf (p q : Option (List Nm)) : Bool := match p, q with
  | some a, some b => decide (b.length ≤ a.length) && decide (a.take b.length = b)
  | _, _ => false
end Esch
namespace Go.Proofs.YtakbalmbkokklaaGreat
open Go.RowKit Esch Go.Shelf

def BoolBelow (w : World) (x : Bool) (e : Ending) (w' : World) : Prop := e = .returned (.bool x) ∧ Below w.heap.size w w'
theorem good_any (w : World) (p : Nm) : Calls Tryz.prog 84 #[.string (bs p)] w (BoolBelow w (namesOf p).isSome) := by
  have hn := names_any w p
  cases hr : namesOf p with
  | none =>
    rw [hr] at hn
    clear hr
    go_enter Tryz.func84, Tryz.ntmps84
    go_wp2_with fail
    refine hn.mono ?_
    clear hn
    rintro e w1 ⟨hB, rfl⟩
    go_wp2_with fail
    go_ret
    exact ⟨rfl, hB⟩
  | some l =>
    rw [hr] at hn
    clear hr
    go_enter Tryz.func84, Tryz.ntmps84
    go_wp2_with fail
    refine hn.mono ?_
    clear hn
    rintro e w1 ⟨hB, a, c, rfl, -⟩
    go_wp2_with fail
    go_ret
    exact ⟨rfl, hB⟩
def SplitPost (w : World) (r : Option (List Nm)) (e : Ending) (w' : World) : Prop :=
  Below w.heap.size w w' ∧ match r with
    | none => e = .returned (.tuple #[.slice none 0 0, .int .i64 11])
    | some l => ∃ a c, e = .returned (.tuple #[.slice a l.length c, .int .i64 0]) ∧ NmsAt (From w.heap.size) w' a l ∧ CapN l.length c
theorem split_any (w : World) (p : Nm) : Calls Tryz.prog 81 #[.string (bs p)] w (SplitPost w (namesOf p)) := by
  have hn := names_any w p
  cases hr : namesOf p with
  | none =>
    rw [hr] at hn
    clear hr
    go_enter Tryz.func81, Tryz.ntmps81
    go_wp2_with fail
    refine hn.mono ?_
    clear hn
    rintro e w1 ⟨hB, rfl⟩
    go_wp2_with fail
    go_ret2
    exact ⟨hB, rfl⟩
  | some l =>
    rw [hr] at hn
    clear hr
    go_enter Tryz.func81, Tryz.ntmps81
    go_wp2_with fail
    refine hn.mono ?_
    clear hn
    rintro e w1 ⟨hB, a, c, rfl, h1, h2⟩
    go_wp2_with fail
    go_ret2
    exact ⟨hB, a, c, rfl, h1, h2⟩
theorem pred_name (w : World) : PredAt Tryz.prog 139 #[] strV (fun s => !nameL s) w := fun W s _ => by
  have hnm := fun W' => name_any W' s
  show Calls Tryz.prog 139 #[.string (bs s)] W (fun e w' => e = .returned (.bool (!nameL s)) ∧ ∃ q, w' = W.drewN q)
  generalize nameL s = b at hnm ⊢
  go_enter Tryz.func139, Tryz.ntmps139
  go_wp2_with fail
  refine (hnm _).mono ?_
  clear hnm
  rintro e w1 ⟨rfl, rfl⟩
  go_wp2_with fail
  go_ret
  refine ⟨?_, 0, rfl⟩
  rfl
theorem any_good {l : List Nm} (hn : ∀ a ∈ l, nameL a = true) : (l.any fun s => !nameL s) = false := by
  rw [List.any_eq_false]
  intro a ha
  simp [hn a ha]
set_option maxHeartbeats 1000000 in
theorem join_any (S : Nat → Prop) (w : World) (a : Option Addr) (c : Nat) (l : List Nm) (h : NmsAt S w a l) (hc : CapN l.length c) (h8 : l.length ≤ 8) (hn : ∀ a ∈ l, nameL a = true) :
    Calls Tryz.prog 117 #[.slice a l.length c] w fun e w' => e = .returned (.tuple #[.string (bs (pathL l)), .int .i64 0]) ∧ Below w.heap.size w w' := by
  have h8' : ¬ (8 : Int) < l.length := by omega
  have eg : ∀ args w, (callFunc 139 args).run Tryz.prog w = .ok (.enter 139 args) w := enters_of Tryz.func139 (by kernel_rfl) rfl
  cases l with
  | nil =>
    have hcf : ∀ W, Calls Tryz.prog 138 #[.slice a 0 c, .func (.func 139) #[] #[]] W _ := fun W => AnyE.slices_ContainsFunc_empty Tryz.laysCF a c _ W
    have hjn : ∀ W, Calls Tryz.prog 140 #[.slice a 0 c, .string ⟨#[47]⟩] W _ := fun W => Any.strings_Join_none Tryz.lays156 Tryz.Builder_Extra_156 a c ⟨#[47]⟩ W
    have hadd : ∀ W, (Op.stringOp .add (⟨#[47]⟩ : ByteArray) ⟨#[]⟩).run Tryz.prog W = .ok (.string (bs [47])) W := fun W => run_string_add_sum _ _ _ (by decide)
    clear h hc h8 hn eg
    rw [show pathL [] = [47] from rfl]
    go_enter Tryz.func117, Tryz.ntmps117
    go_wp2_with fail
    refine (hcf _).mono ?_
    clear hcf
    rintro e w1 ⟨rfl, rfl⟩
    go_wp2_with fail
    refine (hjn _).mono ?_
    clear hjn
    rintro e w1 ⟨rfl, rfl⟩
    go_wp2_with fail
    go_ret2
    exact ⟨rfl, Below.refl _ _⟩
  | cons x l =>
    obtain ⟨b, off, rfl, -, hb, hcell⟩ := h (by simp)
    have hcf : Calls Tryz.prog 138 #[.slice (some ⟨b, off, none⟩) (x :: l).length c, .func (.func 139) #[] #[]] w _ :=
      AnyE.slices_ContainsFunc Tryz.laysCF strV (fun s => !nameL s) 139 #[] eg b off (x :: l).length c (x :: l) w (pred_name w) (Nat.le_refl _) (by omega) (fun j hj => by
        rw [hcell j hj, getElem!_pos (x :: l) j hj, List.getD_eq_getElem?_getD, List.getElem?_eq_getElem hj]; rfl)
    rw [List.take_length, any_good hn] at hcf
    have hjn : ∀ q, Calls Tryz.prog 140 #[.slice (some ⟨b, off, none⟩) ((x :: l).map bs).length c, .string ⟨#[47]⟩] (w.drewN q) _ := fun q =>
      Any.strings_Join Tryz.lays156 Tryz.Builder_Extra_156 b off c ((x :: l).map bs) ⟨#[47]⟩ (w.drewN q) (fun j y hy => by
        rw [List.getElem?_map] at hy
        obtain ⟨z, hz, rfl⟩ := Option.map_eq_some_iff.1 hy
        have hj := (List.getElem?_eq_some_iff.1 hz).1
        have := hcell j hj
        rw [List.getD_eq_getElem?_getD, hz] at this
        exact this) hb (by rw [List.length_map]; omega) (by rw [List.length_map]; exact hc.1) (by
        have := join_len (x :: l) h8 hn
        rw [map_bs]
        show (Lib.join (x :: l) [47]).length ≤ _
        omega)
    simp only [map_bs, List.length_map] at hjn
    have hj : ∀ W, (Op.stringOp .add (⟨#[47]⟩ : ByteArray) ⟨(Lib.join (x :: l) [47]).toArray⟩).run Tryz.prog W = .ok (.string (bs (pathL (x :: l)))) W := fun W => by
      rw [show bs (pathL (x :: l)) = ⟨#[47]⟩ ++ ⟨(Lib.join (x :: l) [47]).toArray⟩ by
        rw [pathL, if_neg (by simp), ← join_path (x :: l) (by simp)]
        exact (bs_append [47] (Lib.join (x :: l) [47])).symm]
      refine run_string_add_sum _ _ _ ?_
      have := join_len (x :: l) h8 hn
      show 1 + (Lib.join (x :: l) [47]).length ≤ 9223372036854775807
      omega
    generalize bs (pathL (x :: l)) = r at hj ⊢
    have hj1 : ∀ q, Calls Tryz.prog 140 #[.slice (some ⟨b, off, none⟩) (x :: l).length c, .string ⟨#[47]⟩] (w.drewN q) (fun e w' => e = .returned (.string ⟨(Lib.join (x :: l) [47]).toArray⟩) ∧ Below (w.drewN q).heap.size (w.drewN q) w') := fun q => (hjn q).mono fun e w' h => h
    generalize (⟨(Lib.join (x :: l) [47]).toArray⟩ : ByteArray) = u at hj hj1
    generalize (x :: l).length = n at *
    clear hjn hcell h8 hn hc h eg
    go_enter Tryz.func117, Tryz.ntmps117
    go_wp2_with fail
    refine hcf.mono ?_
    clear hcf
    rintro e w1 ⟨rfl, q, rfl⟩
    go_wp2_with fail
    refine (hj1 q).mono ?_
    clear hj1
    rintro e w1 ⟨rfl, hB⟩
    go_wp2_with fail
    go_ret2
    exact ⟨rfl, (below_drewN (Below.refl _ w) q).trans hB⟩
def UpPost (w : World) (r : Option (List Nm × Nm)) (e : Ending) (w' : World) : Prop :=
  Below w.heap.size w w' ∧ e = .returned (match r with
    | none => .tuple #[.string ⟨#[]⟩, .string ⟨#[]⟩, .bool false]
    | some (l, n) => .tuple #[.string (bs (pathL l)), .string (bs n), .bool true])
set_option maxRecDepth 100000 in
set_option maxHeartbeats 2000000 in
theorem up_any (w : World) (p : Nm) : Calls Tryz.prog 85 #[.string (bs p)] w (UpPost w (upOf (namesOf p))) := by
  have hn := names_any w p
  cases hr : namesOf p with
  | none =>
    rw [hr] at hn
    clear hr
    go_enter Tryz.func85, Tryz.ntmps85
    go_wp2_with fail
    refine hn.mono ?_
    clear hn
    rintro e w1 ⟨hB, rfl⟩
    go_wp2_with fail
    refine bodyPost_ret (by simp [results, Tryz.results85, go_sem]; rfl) rfl ?_
    exact ⟨hB, rfl⟩
  | some l =>
    have hs := namesOf_some hr
    rw [hr] at hn
    clear hr
    by_cases h0 : l = []
    · subst h0
      clear hs
      go_enter Tryz.func85, Tryz.ntmps85
      go_wp2_with fail
      refine hn.mono ?_
      clear hn
      rintro e w1 ⟨hB, a, c, rfl, -⟩
      go_wp2_with fail
      refine bodyPost_ret (by simp [results, Tryz.results85, go_sem]; rfl) rfl ?_
      exact ⟨hB, rfl⟩
    · have hup : upOf (some l) = some (l.dropLast, l.getLastD []) := by unfold upOf; simp [h0]
      rw [hup]
      show Calls Tryz.prog 85 #[.string (bs p)] w (fun e w' => Below w.heap.size w w' ∧ e = .returned (.tuple #[.string (bs (pathL l.dropLast)), .string (bs (l.getLastD [])), .bool true]))
      obtain ⟨k, hk⟩ : ∃ k, l.length = k + 1 := ⟨l.length - 1, by have := List.length_pos_iff.2 h0; omega⟩
      have hdl : l.dropLast = l.take k := by rw [List.dropLast_eq_take, hk]; rfl
      have hgl : l.getLastD [] = l.getD k [] := by
        rw [List.getLastD_eq_getLast?, List.getLast?_eq_getElem?, hk, List.getD_eq_getElem?_getD]; rfl
      rw [hdl, hgl]
      obtain ⟨nm, hnm⟩ : ∃ nm, nm = l.getD k [] := ⟨_, rfl⟩
      rw [← hnm]
      have HNM := Lib.hid hnm
      clear hnm
      have hn0 : (((k + 1 : Nat) : Int) == 0) = false := by simp; omega
      have Hs := Lib.hid hs
      have Hk := Lib.hid hk
      have hkl : (l.take k).length = k := by rw [List.length_take]; omega
      have Hkl := Lib.hid hkl
      have hj : ∀ S W a c, NmsAt S W a (l.take k) → CapN (l.take k).length c → Calls Tryz.prog 117 #[.slice a k c] W fun e w' => e = .returned (.tuple #[.string (bs (pathL (l.take k))), .int .i64 0]) ∧ Below W.heap.size W w' := fun S W a c h1 h2 => by
        have := join_any S W a c (l.take k) h1 h2 (by omega) (fun x hx => hs.2.1 x (List.mem_of_mem_take hx))
        rwa [hkl] at this
      generalize bs (pathL (l.take k)) = dir at hj ⊢
      clear hs hup h0 hdl hgl hkl
      go_enter Tryz.func85, Tryz.ntmps85
      go_wp2_with fail
      refine hn.mono ?_
      clear hn
      rintro e w1 ⟨hB, a, c, rfl, hN, hC⟩
      obtain ⟨b, off, rfl, -, hb, hcell⟩ := hN (by omega)
      have e0 : w1.cell? ⟨b, off + k, none⟩ = some (.string (bs nm)) := by rw [HNM.out]; exact hcell k (by omega)
      have hj1 := hj _ w1 (some ⟨b, off, none⟩) c (hN.take k) ⟨by rw [Hkl.out]; have := hC.1; omega, hC.2⟩
      have hkc : (0 : Int) ≤ k ∧ (k : Int) ≤ c := by have := hC.1; omega
      have hki : (0 : Int) ≤ k ∧ (k : Int) < k + 1 := by omega
      have hk8 : k < 100 := by have := Hs.out.1; omega
      dsimp only
      rw [hk]
      have HB := Lib.hid hB
      clear hj hk hcell hN hC hB
      go_wp2_with fail
      refine hj1.mono ?_
      clear hj1
      rintro e w2 ⟨rfl, hB2⟩
      have f0 := below_at hB2 e0 hb
      have HB2 := Lib.hid (HB.out.trans (hB2.mono HB.out.size))
      clear hB2 e0
      go_wp2_with fail
      go_quiet (fail)
      go_wp2_with fail
      refine bodyPost_ret (by simp [results, Tryz.results85, go_sem]; rfl) rfl ?_
      exact ⟨below_drewN HB2.out _, rfl⟩
def strList (S : Nat → Prop) (w : World) (v : Value) (l : List Nm) : Prop := ∃ a c, v = .slice a l.length c ∧ NmsAt S w a l ∧ CapN l.length c
theorem equal_nms (w : World) (S : Nat → Prop) (a b : Option Addr) (c d : Nat) (x y : List Nm) (hx : NmsAt S w a x) (hy : NmsAt S w b y) (hl : x.length = y.length) (h8 : x.length ≤ 100) :
    Calls Tryz.prog 111 #[.slice a x.length c, .slice b y.length d] w fun e w' => e = .returned (.bool (decide (x = y))) ∧ Below w.heap.size w w' := by
  by_cases h0 : x.length = 0
  · obtain rfl : x = [] := List.length_eq_zero_iff.1 h0
    obtain rfl : y = [] := List.length_eq_zero_iff.1 (by rw [← hl]; rfl)
    refine (Any.slices_Equal_string_empty Tryz.lays193 a b c 0 d w (by omega)).mono ?_
    rintro e w' ⟨rfl, rfl⟩
    exact ⟨rfl, Below.refl _ _⟩
  · obtain ⟨b1, o1, rfl, -, hb1, hc1⟩ := hx (by omega)
    obtain ⟨b2, o2, rfl, -, hb2, hc2⟩ := hy (by omega)
    have hg : ∀ (l : List Nm) j, j < l.length → (l.map bs).getD j ByteArray.empty = bs (l.getD j []) := fun l j hj => by
      rw [List.getD_eq_getElem?_getD, List.getElem?_map, List.getD_eq_getElem?_getD, List.getElem?_eq_getElem hj]; rfl
    have he := Any.slices_Equal_string Tryz.lays193 b1 o1 x.length c b2 o2 y.length d (x.map bs) (y.map bs) w (by simp) (by simp) (by omega) (by omega) (fun j hj => by
      rw [List.length_map] at hj
      rw [hg x j hj]; exact hc1 j hj) (fun j hj => by
      rw [List.length_map] at hj
      rw [hg y j hj]; exact hc2 j hj)
    refine he.mono ?_
    rintro e w' ⟨rfl, q, rfl⟩
    refine ⟨?_, below_drewN (Below.refl _ w) q⟩
    have e1 : (x.map bs).take x.length = x.map bs := List.take_of_length_le (by simp)
    have e2 : (y.map bs).take y.length = y.map bs := List.take_of_length_le (by simp)
    rw [e1, e2]
    congr 2
    have : x.map bs = y.map bs ↔ x = y := ⟨fun h => by
      have := congrArg (List.map (·.data.toList)) h
      rwa [map_bs, map_bs] at this, fun h => by rw [h]⟩
    exact decide_eq_decide.2 this
set_option maxRecDepth 100000 in
set_option maxHeartbeats 2000000 in
theorem inside_any (w : World) (p q : Nm) : Calls Tryz.prog 72 #[.string (bs p), .string (bs q)] w (BoolBelow w (insideOf (namesOf p) (namesOf q))) := by
  have hnp := names_any w p
  have hnq := fun W => names_any W q
  cases hp : namesOf p with
  | none =>
    rw [hp] at hnp
    have : insideOf none (namesOf q) = false := by unfold insideOf; split <;> simp_all
    rw [this]
    clear this hp
    go_enter Tryz.func72, Tryz.ntmps72
    go_wp2_with fail
    refine hnp.mono ?_
    clear hnp
    rintro e w1 ⟨hB, rfl⟩
    go_wp2_with fail
    refine (hnq _).mono ?_
    clear hnq
    cases namesOf q with
    | none =>
      rintro e w2 ⟨hB2, rfl⟩
      go_wp2_with fail
      go_ret
      exact ⟨rfl, hB.trans (hB2.mono hB.size)⟩
    | some lq =>
      rintro e w2 ⟨hB2, a, c, rfl, -⟩
      go_wp2_with fail
      go_ret
      exact ⟨rfl, hB.trans (hB2.mono hB.size)⟩
  | some lp =>
    have hsp := Lib.hid (namesOf_some hp)
    rw [hp] at hnp
    clear hp
    cases hq : namesOf q with
    | none =>
      rw [hq] at hnq
      rw [show insideOf (some lp) none = false from rfl]
      clear hq
      go_enter Tryz.func72, Tryz.ntmps72
      go_wp2_with fail
      refine hnp.mono ?_
      clear hnp
      rintro e w1 ⟨hB, a, c, rfl, -⟩
      go_wp2_with fail
      refine (hnq _).mono ?_
      clear hnq
      rintro e w2 ⟨hB2, rfl⟩
      go_wp2_with fail
      go_ret
      exact ⟨rfl, hB.trans (hB2.mono hB.size)⟩
    | some lq =>
      rw [hq] at hnq
      clear hq
      by_cases hle : lq.length ≤ lp.length
      rotate_left 1
      · rw [show insideOf (some lp) (some lq) = false by unfold insideOf; simp [hle]]
        have hle' : ¬ (lq.length : Int) ≤ lp.length := by omega
        go_enter Tryz.func72, Tryz.ntmps72
        go_wp2_with fail
        refine hnp.mono ?_
        clear hnp
        rintro e w1 ⟨hB, a, c, rfl, -⟩
        go_wp2_with fail
        refine (hnq _).mono ?_
        clear hnq
        rintro e w2 ⟨hB2, a2, c2, rfl, -⟩
        go_wp2_with fail
        go_ret
        exact ⟨rfl, hB.trans (hB2.mono hB.size)⟩
      · have hin : insideOf (some lp) (some lq) = decide (lp.take lq.length = lq) := by unfold insideOf; simp [hle]
        obtain ⟨r, hr⟩ : ∃ r, r = decide (lp.take lq.length = lq) := ⟨_, rfl⟩
        rw [hin, ← hr]
        have HR := Lib.hid hr
        clear hr
        have hle' : (lq.length : Int) ≤ lp.length := by omega
        have htl : (lp.take lq.length).length = lq.length := by rw [List.length_take]; omega
        go_enter Tryz.func72, Tryz.ntmps72
        go_wp2_with fail
        refine hnp.mono ?_
        clear hnp
        rintro e w1 ⟨hB, a, c, rfl, hN, hC⟩
        have HB := Lib.hid hB
        have HN := Lib.hid hN
        have hC1 : (0 : Int) ≤ lq.length ∧ (lq.length : Int) ≤ c := by have := hC.1; omega
        clear hB hN hC
        go_wp2_with fail
        refine (hnq _).mono ?_
        clear hnq
        rintro e w2 ⟨hB2, a2, c2, rfl, hN2, hC2⟩
        have hq := equal_nms w2 (fun _ => True) a a2 c c2 (lp.take lq.length) lq (((HN.out.take _).below hB2).sub fun _ _ _ => trivial) (hN2.sub fun _ _ _ => trivial) htl (by have := hsp.out.1; rw [htl]; omega)
        rw [htl, ← HR.out] at hq
        have HB2 := Lib.hid (HB.out.trans (hB2.mono HB.out.size))
        clear hB2 hN2 hC2 htl hin hle
        go_wp2_with fail
        refine hq.mono ?_
        clear hq
        rintro e w3 ⟨rfl, hB3⟩
        go_wp2_with fail
        go_ret
        exact ⟨rfl, HB2.out.trans (hB3.mono HB2.out.size)⟩
end Go.Proofs.YtakbalmbkokklaaGreat
