/- what is reached, plain; and lists by keys in memory, each in an array of its own -/
import Derived.Test.YtmnkackkeppheaaGreatPkBase
import Derived.Test.YtmnkackkeppheaaGreatPkDir
import Derived.Test.YtmnkackkeppheaaGreatPkOpM
namespace Esch
open Go Go.RowKit

structure HdR where
  ao : Option Addr
  len : Nat
  cap : Nat
def hdRV (h : HdR) : Value := .slice h.ao h.len h.cap
def hdR0 : HdR := ⟨none, 0, 0⟩
def nums (l : List Int) : List Value := l.map (Value.int .i64)
def leadsOf (l : List Ent) (d : Int) : List Int := (l.filter (fun e => e.1.1 == d)).map (·.2)
theorem leadsOf_snoc (l : List Ent) (e : Ent) (d : Int) : leadsOf (l ++ [e]) d = if d = e.1.1 then leadsOf l d ++ [e.2] else leadsOf l d := by
  unfold leadsOf
  rw [List.filter_append, List.map_append]
  by_cases h : d = e.1.1
  · rw [if_pos h]; simp [h]
  · rw [if_neg h]; simp [Ne.symm h]
theorem leadsOf_len (l : List Ent) (d : Int) : (leadsOf l d).length ≤ l.length := by
  unfold leadsOf; rw [List.length_map]; exact List.length_filter_le _ _
theorem mem_leadsOf {l : List Ent} {d i : Int} : i ∈ leadsOf l d ↔ ∃ e ∈ l, e.1.1 = d ∧ e.2 = i := by
  unfold leadsOf
  simp only [List.mem_map, List.mem_filter, beq_iff_eq]
  constructor
  · rintro ⟨e, ⟨h1, h2⟩, h3⟩; exact ⟨e, h1, h2, h3⟩
  · rintro ⟨e, h1, h2, h3⟩; exact ⟨e, ⟨h1, h2⟩, h3⟩
def val0 (m : List (Int × Int)) (i : Int) : Int := (get m i).getD 0
theorem val0_set (m : List (Int × Int)) (i j v : Int) : val0 (set m i v) j = if i = j then v else val0 m j := by
  unfold val0; rw [get_set]; split <;> rfl
theorem look0 {P : Program} {w : World} {cb : Nat} {c : List (Int × Int)} {mt kt et : TypeId} (h : MpAt w cb iV iV c) (hK : KeyOK P kt iV) (ht : P.underlying mt = some (.map kt et)) (hz : ∀ w, (zeroValue et).run P w = .ok (.int .i64 0) w) (d : Int) :
    (Instr.lookup mt (.map (some cb)) (.int .i64 d) false).run P w = .ok (.int .i64 (val0 c d)) w := by
  obtain ⟨es, ck, h⟩ := h
  have hl := h.look hK ht hz d false
  simp only [Bool.false_eq_true, if_false] at hl
  rwa [show ((get c d).map iV).getD (Value.int .i64 0) = .int .i64 (val0 c d) by unfold val0; cases get c d <;> rfl] at hl
theorem lookH {P : Program} {w : World} {cb : Nat} {c : List (Int × HdR)} {mt kt et : TypeId} (h : MpAt w cb iV hdRV c) (hK : KeyOK P kt iV) (ht : P.underlying mt = some (.map kt et)) (hz : ∀ w, (zeroValue et).run P w = .ok (.slice none 0 0) w) (d : Int) :
    (Instr.lookup mt (.map (some cb)) (.int .i64 d) false).run P w = .ok (hdRV ((get c d).getD hdR0)) w := by
  obtain ⟨es, ck, h⟩ := h
  have hl := h.look hK ht hz d false
  simp only [Bool.false_eq_true, if_false] at hl
  rwa [show ((get c d).map hdRV).getD (Value.slice none 0 0) = hdRV ((get c d).getD hdR0) by cases get c d <;> rfl] at hl
/-- lists by keys: f d in an array of R d alone, not below B -/
structure LeadsAt (w : World) (lb B : Nat) (m : List (Int × HdR)) (R : Int → Nat → Prop) (f : Int → List Int) : Prop where
  map : MpAt w lb iV hdRV m
  row : ∀ d, GRowAt w (R d) 1 ((get m d).getD hdR0).len ((get m d).getD hdR0).cap ((get m d).getD hdR0).ao (nums (f d))
  ap : ∀ d d' k, R d k → R d' k → d = d'
  lo : ∀ d k, R d k → B ≤ k ∧ k < w.heap.size ∧ k ≠ lb
theorem LeadsAt.len {w : World} {lb B : Nat} {m : List (Int × HdR)} {R : Int → Nat → Prop} {f : Int → List Int} (h : LeadsAt w lb B m R f) (d : Int) : ((get m d).getD hdR0).len = (f d).length := by
  have := (h.row d).xsLen
  unfold nums at this
  rw [List.length_map] at this
  omega
theorem LeadsAt.mod {w w' : World} {F : Nat → Prop} {lb B : Nat} {m : List (Int × HdR)} {R : Int → Nat → Prop} {f : Int → List Int} (h : LeadsAt w lb B m R f) (hM : Mod F w w') (hl : ¬ F lb) (hR : ∀ d k, R d k → ¬ F k) : LeadsAt w' lb B m R f :=
  ⟨h.map.mod hM hl, fun d => (h.row d).mod hM (fun k hk _ => hR d k hk), h.ap, fun d k hk => ⟨(h.lo d k hk).1, Nat.lt_of_lt_of_le (h.lo d k hk).2.1 hM.size, (h.lo d k hk).2.2⟩⟩
theorem LeadsAt.new {w : World} {lb B : Nat} (h : MpAt w lb iV hdRV ([] : List (Int × HdR))) : LeadsAt w lb B [] (fun _ _ => False) (fun _ => []) :=
  ⟨h, fun _ => GRowAt.nil _ _ _ _, fun _ _ _ h => h.elim, fun _ _ h => h.elim⟩
/-- one more at the end of a list -/
theorem LeadsAt.put {w w6 w7 : World} {lb B cap6 : Nat} {a6 : Option Addr} {m : List (Int × HdR)} {R : Int → Nat → Prop} {f : Int → List Int} (h : LeadsAt w lb B m R f) (d v : Int) (hB : B ≤ w.heap.size)
    (hg : GRowAt w6 (fun k => R d k ∨ k = w.heap.size) 1 (((get m d).getD hdR0).len + 1) cap6 a6 (nums (f d) ++ [.int .i64 v])) (hM6 : Mod (R d) w w6)
    (hm7 : MpAt w7 lb iV hdRV (set m d ⟨a6, ((get m d).getD hdR0).len + 1, cap6⟩)) (hM7 : Mod (· = lb) w6 w7) :
    LeadsAt w7 lb B (set m d ⟨a6, ((get m d).getD hdR0).len + 1, cap6⟩) (fun x k => (R x k ∧ (x = d → k < w6.heap.size)) ∨ (x = d ∧ k = w.heap.size ∧ k < w6.heap.size)) (fun x => if x = d then f d ++ [v] else f x) := by
  have hlbw := h.map.lt
  have hlb : lb < w7.heap.size := hm7.lt
  refine ⟨hm7, fun x => ?_, fun x x' k hx hx' => ?_, fun x k hx => ?_⟩
  · rw [get_set]
    by_cases e : d = x
    · subst e
      rw [if_pos rfl, if_pos rfl]
      have := (hg.mod hM7 (fun k hk _ => by
        rcases hk with hk | hk
        · exact (h.lo d k hk).2.2
        · omega))
      simp only [Option.getD_some, nums, List.map_append, List.map_cons, List.map_nil] at this ⊢
      refine ⟨this.le, this.max, this.xsLen, fun h0 => ?_⟩
      obtain ⟨b, off, e1, hb, hl, h1, h2⟩ := this.at' h0
      refine ⟨b, off, e1, ?_, hl, h1, h2⟩
      have hb6 : b < w6.heap.size := by
        obtain ⟨b', off', e1', hb', hl', -, -⟩ := hg.at' h0
        rw [e1] at e1'; cases e1'; exact hl'
      rcases hb with hb | hb
      · exact Or.inl ⟨hb, fun _ => hb6⟩
      · exact Or.inr ⟨trivial, hb, hb6⟩
    · rw [if_neg e, if_neg (Ne.symm e)]
      exact (((h.row x).mod hM6 (fun k hk _ hk2 => e (h.ap _ _ _ hk2 hk))).mod hM7 (fun k hk _ => (h.lo x k hk).2.2)).sub (fun k _ hk => Or.inl ⟨hk, fun e' => absurd e'.symm e⟩)
  · rcases hx with hx | hx <;> rcases hx' with hx' | hx'
    · exact h.ap _ _ _ hx.1 hx'.1
    · have := (h.lo _ _ hx.1).2.1; omega
    · have := (h.lo _ _ hx'.1).2.1; omega
    · rw [hx.1, hx'.1]
  · have h7 := hM7.size
    have h6 := hM6.size
    rcases hx with hx | hx
    · have := h.lo _ _ hx.1; exact ⟨this.1, by omega, this.2.2⟩
    · exact ⟨by omega, by omega, by omega⟩
/-- a row without its first element -/
theorem GRowAt.tail {w : World} {S : Nat → Prop} {len cap b off : Nat} {x : Value} {xs : List Value} (h : GRowAt w S 1 (len + 1) cap (some ⟨b, off, none⟩) (x :: xs)) :
    GRowAt w S 1 len (cap - 1) (if cap = 1 then some ⟨b, off, none⟩ else some ⟨b, off + 1, none⟩) xs := by
  have hle := h.le
  have hxl := h.xsLen
  have hmx := h.max
  rw [List.length_cons] at hxl
  refine ⟨by omega, by omega, by omega, fun h0 => ?_⟩
  rw [if_neg (by omega)]
  obtain ⟨b', off', e, hb, hl, h1, h2⟩ := h.at' (by omega)
  cases e
  refine ⟨b, off + 1, rfl, hb, hl, fun j hj => ?_, fun j hj => ?_⟩
  · have := h1 (j + 1) (by omega)
    rw [show off + (j + 1) = off + 1 + j by omega] at this
    rw [this, List.getElem?_cons_succ]
  · have := h2 (j + 1) (by omega)
    rw [show off + (j + 1) = off + 1 + j by omega] at this
    exact this
/-- what is reached from 1 -/
inductive Rch (l : List Ent) : Int → Prop where
  | one : Rch l 1
  | lead (e : Ent) (h : e ∈ l) (hr : Rch l e.1.1) : Rch l e.2
theorem Rch.perm {l l' : List Ent} (hp : ∀ e, e ∈ l → e ∈ l') {i : Int} (h : Rch l i) : Rch l' i := by
  induction h with
  | one => exact .one
  | lead e h _ ih => exact .lead e (hp e h) ih
/-- in the midst of the search: what is met, what is still to do -/
structure Bfs (l : List Ent) (M : List (Int × Int)) (todo : List Int) (c : Int → Prop) : Prop where
  one : val0 M 1 ≠ 0
  sound : ∀ i, val0 M i ≠ 0 → Rch l i
  todos : ∀ i ∈ todo, val0 M i ≠ 0
  done : ∀ i, val0 M i ≠ 0 → i ∈ todo ∨ c i ∨ ∀ e ∈ l, e.1.1 = i → val0 M e.2 ≠ 0
theorem Bfs.start (l : List Ent) : Bfs l [(1, 1)] [1] (fun _ => False) :=
  ⟨by decide, fun i h => by
    by_cases e : i = 1
    · subst e; exact .one
    · exact absurd (show val0 [(1, 1)] i = 0 by simp [val0, get, Ne.symm e]) h, fun i h => by rw [List.mem_singleton] at h; subst h; decide, fun i h => by
    by_cases e : i = 1
    · subst e; exact Or.inl (by simp)
    · exact absurd (show val0 [(1, 1)] i = 0 by simp [val0, get, Ne.symm e]) h⟩
theorem Bfs.fin {l : List Ent} {M : List (Int × Int)} (h : Bfs l M [] (fun _ => False)) (i : Int) : Rch l i ↔ val0 M i ≠ 0 := by
  refine ⟨fun hr => ?_, h.sound i⟩
  induction hr with
  | one => exact h.one
  | lead e he _ ih =>
    rcases h.done _ ih with h1 | h1 | h1
    · exact absurd h1 (by simp)
    · exact h1.elim
    · exact h1 e he rfl
theorem Bfs.open {l : List Ent} {M : List (Int × Int)} {d : Int} {r : List Int} (h : Bfs l M (d :: r) (fun _ => False)) : Bfs l M r (· = d) ∧ val0 M d ≠ 0 :=
  ⟨⟨h.one, h.sound, fun i hi => h.todos i (List.mem_cons_of_mem _ hi), fun i hi => by
    rcases h.done i hi with h1 | h1 | h1
    · rcases List.mem_cons.1 h1 with h2 | h2
      · exact Or.inr (Or.inl h2)
      · exact Or.inl h2
    · exact h1.elim
    · exact Or.inr (Or.inr h1)⟩, h.todos d (by simp)⟩
theorem Bfs.met {l : List Ent} {M : List (Int × Int)} {d i : Int} {r : List Int} (h : Bfs l M r (· = d)) (hd : val0 M d ≠ 0) (hi : i ∈ leadsOf l d) : Bfs l (set M i 1) (r ++ [i]) (· = d) ∧ val0 (set M i 1) d ≠ 0 := by
  have hm : ∀ j, val0 M j ≠ 0 → val0 (set M i 1) j ≠ 0 := fun j hj => by rw [val0_set]; split <;> first | decide | exact hj
  refine ⟨⟨hm _ h.one, fun j hj => ?_, fun j hj => ?_, fun j hj => ?_⟩, hm _ hd⟩
  · rw [val0_set] at hj
    split at hj
    · rename_i e
      subst e
      obtain ⟨e, he, e1, e2⟩ := mem_leadsOf.1 hi
      rw [← e2]
      exact .lead e he (by rw [e1]; exact h.sound d hd)
    · exact h.sound j hj
  · rcases List.mem_append.1 hj with h1 | h1
    · exact hm _ (h.todos j h1)
    · rw [List.mem_singleton] at h1; subst h1; rw [val0_set, if_pos rfl]; decide
  · by_cases e : i = j
    · subst e; exact Or.inl (by simp)
    · rw [val0_set, if_neg e] at hj
      rcases h.done j hj with h1 | h1 | h1
      · exact Or.inl (List.mem_append_left _ h1)
      · exact Or.inr (Or.inl h1)
      · exact Or.inr (Or.inr fun x hx hx1 => hm _ (h1 x hx hx1))
theorem Bfs.close {l : List Ent} {M : List (Int × Int)} {d : Int} {r : List Int} (h : Bfs l M r (· = d)) (hc : ∀ i ∈ leadsOf l d, val0 M i ≠ 0) : Bfs l M r (fun _ => False) :=
  ⟨h.one, h.sound, h.todos, fun i hi => by
    rcases h.done i hi with h1 | h1 | h1
    · exact Or.inl h1
    · refine Or.inr (Or.inr fun e he h2 => hc _ (mem_leadsOf.2 ⟨e, he, by rw [h2, h1], rfl⟩))
    · exact Or.inr (Or.inr h1)⟩
/-- what is not met yet -/
def unmet (U : List Int) (M : List (Int × Int)) : Nat := (U.filter (fun i => val0 M i == 0)).length
theorem unmet_set {U : List Int} {M : List (Int × Int)} {i : Int} (hn : U.Nodup) (hi : i ∈ U) (h0 : val0 M i = 0) : unmet U (set M i 1) + 1 = unmet U M := by
  induction U with
  | nil => exact absurd hi (by simp)
  | cons a U ih =>
    rw [List.nodup_cons] at hn
    unfold unmet at *
    by_cases e : i = a
    · subst e
      have h1 : (val0 (set M i 1) i == 0) = false := by rw [val0_set, if_pos rfl]; decide
      have h2 : (val0 M i == 0) = true := by rw [h0]; decide
      rw [List.filter_cons, h1, List.filter_cons, h2]
      simp only [Bool.false_eq_true, if_false, if_true, List.length_cons]
      have h3 : U.filter (fun j => val0 (set M i 1) j == 0) = U.filter (fun j => val0 M j == 0) := List.filter_congr fun j hj => by
        rw [val0_set, if_neg (fun e => hn.1 (by rw [e]; exact hj))]
      rw [h3]
    · have ih := ih hn.2 ((List.mem_cons.1 hi).resolve_left e)
      have h1 : val0 (set M i 1) a = val0 M a := by rw [val0_set, if_neg e]
      rw [List.filter_cons, List.filter_cons, h1]
      split
      · rw [List.length_cons, List.length_cons]; omega
      · exact ih
/-- the numbers of all inodes that have a name, each once -/
def uniq : List Int → List Int
  | [] => []
  | a :: l => if a ∈ uniq l then uniq l else a :: uniq l
theorem uniq_mem (l : List Int) (a : Int) : a ∈ uniq l ↔ a ∈ l := by
  induction l with
  | nil => simp [uniq]
  | cons b l ih =>
    unfold uniq
    split
    · rename_i h
      rw [ih, List.mem_cons]
      constructor
      · exact fun h => Or.inr h
      · rintro (h1 | h1)
        · subst h1; exact ih.1 h
        · exact h1
    · rw [List.mem_cons, List.mem_cons, ih]
theorem uniq_nodup (l : List Int) : (uniq l).Nodup := by
  induction l with
  | nil => simp [uniq]
  | cons b l ih =>
    unfold uniq
    split
    · exact ih
    · rename_i h; exact List.nodup_cons.2 ⟨h, ih⟩
theorem uniq_len (l : List Int) : (uniq l).length ≤ l.length := by
  induction l with
  | nil => simp [uniq]
  | cons b l ih =>
    unfold uniq
    split
    · rw [List.length_cons]; omega
    · rw [List.length_cons, List.length_cons]; omega
def namesN (l : List Ent) (i : Int) : Nat := (l.filter (fun e => e.2 == i)).length
theorem namesN_snoc (l : List Ent) (e : Ent) (i : Int) : namesN (l ++ [e]) i = if e.2 = i then namesN l i + 1 else namesN l i := by
  unfold namesN
  rw [List.filter_append, List.length_append]
  by_cases h : e.2 = i
  · rw [if_pos h]; simp [h]
  · rw [if_neg h]; simp [h]
theorem names_put {C : List (Int × Int)} {l : List Ent} (e : Ent) (h : ∀ j, val0 C j = (namesN l j : Nat)) (j : Int) : val0 (set C e.2 (val0 C e.2 + 1)) j = (namesN (l ++ [e]) j : Nat) := by
  rw [val0_set, namesN_snoc]
  by_cases e1 : e.2 = j
  · rw [if_pos e1, if_pos e1, h, e1]; rfl
  · rw [if_neg e1, if_neg e1]; exact h j
theorem namesN_le (l : List Ent) (i : Int) : namesN l i ≤ l.length := List.length_filter_le _ _
end Esch
