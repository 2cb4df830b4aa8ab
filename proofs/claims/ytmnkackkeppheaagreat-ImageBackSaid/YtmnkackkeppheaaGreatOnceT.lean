/- package once -/
import Derived.Test.YtmnkackkeppheaaGreatPkBase
import Derived.Deep.RegionHeld3
import Derived.Deep.QuietTactic
import Derived.BigQuiet
import Derived.StillTailTactics
import Derived.Test.YtmnkackkeppheaaGreatChecked
import Derived.WalkKit
import Derived.WalkSpells
namespace Go.Proofs.YtmnkackkeppheaaGreat
open Go.RowKit Esch

def thereB (c : Int) : Bool := decide (0 ≤ c) && decide (c < 8)
theorem there_any (c : Int) (w : World) : Calls Tryz.prog 85 #[.int .i64 c] w fun e w' => e = .returned (.bool (thereB c)) ∧ w = w' := by
  go_enter Tryz.func85, Tryz.ntmps85
  go_wp2
  all_goals
    go_ret
    refine ⟨?_, rfl⟩
    first | (simp [thereB, *]; done) | (simp [thereB]; omega)

def νlast (x : Int × Int × Int) : Value := .agg #[.int .i64 x.1, .int .i64 x.2.1, .int .i64 x.2.2]
abbrev OM := List (Int × (Int × Int × Int))
def OnceAt (w : World) (b mb : Nat) (m : OM) : Prop := w.cell? ⟨b, 0, none⟩ = some (.map (some mb)) ∧ ∃ es clock, MapAt w mb κs1 νlast m es clock
theorem OnceAt.mod {F : Nat → Prop} {w w' : World} {b mb : Nat} {m : OM} (h : OnceAt w b mb m) (hM : Mod F w w') (hb : ¬ F b) (hmb : ¬ F mb) : OnceAt w' b mb m := by
  obtain ⟨h1, es, clock, hm⟩ := h
  exact ⟨(hM.cell (p := ⟨b, 0, none⟩) (cell_lt h1) hb).trans h1, es, clock, hm.of_block (hM.block _ (block_lt hm.block) hmb)⟩
theorem OnceAt.lt {w : World} {b mb : Nat} {m : OM} (h : OnceAt w b mb m) : mb < w.heap.size := by
  obtain ⟨_, es, clock, hm⟩ := h
  exact block_lt hm.block
def lastO (m : OM) (c : Int) : Int × Int × Int := (get m c).getD (0, 0, 0)

theorem keyOnce : KeyOK Tryz.prog 190 κs1 := keyOK_s1 Tryz.underlying190 (by decide) rfl Tryz.underlying3 (by kernel_rfl)
theorem zeroLast (w : World) : (zeroValue 188).run Tryz.prog w = .ok (.agg #[.int .i64 0, .int .i64 0, .int .i64 0]) w := by kernel_rfl

@[simp] theorem fieldLast_0 (x y z : Value) (w : World) : (Instr.field 188 (.agg #[x, y, z]) 0).run Tryz.prog w = .ok x w := by kernel_rfl
@[simp] theorem fieldLast_1 (x y z : Value) (w : World) : (Instr.field 188 (.agg #[x, y, z]) 1).run Tryz.prog w = .ok (.agg #[y, z]) w := by kernel_rfl

theorem once_look {w : World} {mb : Nat} {m : OM} {es : Array MapEntry} {clock : Nat} (h : MapAt w mb κs1 νlast m es clock) (c : Int) :
    (Instr.lookup 172 (.map (some mb)) (.agg #[.int .i64 c]) false).run Tryz.prog w = .ok (.agg #[.int .i64 (lastO m c).1, .int .i64 (lastO m c).2.1, .int .i64 (lastO m c).2.2]) w := by
  have := h.look keyOnce Tryz.underlying172 zeroLast c false
  simp only [κs1, Bool.false_eq_true, if_false] at this
  rw [this]
  unfold lastO
  cases get m c <;> rfl

set_option maxHeartbeats 400000 in
theorem seen_no (c s : Int) (w : World) (b mb : Nat) (m : OM) (h : OnceAt w b mb m) (hc : thereB c = true) :
    Calls Tryz.prog 126 #[.pointer (some ⟨b, 0, none⟩), .int .i64 c, .int .i64 s] w fun e w' => e = .returned (.bool (decide (s ≤ (lastO m c).1))) ∧ w = w' := by
  obtain ⟨h1, es, clock, hm⟩ := h
  have hl := once_look hm c
  clear hm
  go_enter Tryz.func126, Tryz.ntmps126
  go_wp2_with (go_at_call 85; refine (there_any _ _).mono ?_; rintro e w' ⟨rfl, rfl⟩)
  go_ret
  exact ⟨rfl, rfl⟩

set_option maxHeartbeats 400000 in
theorem seen_out (c s : Int) (w : World) (b : Nat) (hc : thereB c = false) :
    Calls Tryz.prog 126 #[.pointer (some ⟨b, 0, none⟩), .int .i64 c, .int .i64 s] w fun e w' => e = .returned (.bool true) ∧ w = w' := by
  go_enter Tryz.func126, Tryz.ntmps126
  go_wp2_with (go_at_call 85; refine (there_any _ _).mono ?_; rintro e w' ⟨rfl, rfl⟩)
  go_ret
  exact ⟨rfl, rfl⟩

theorem map_new (w : World) : MapAt (w.alloc (.map #[] 0)) w.heap.size κs1 νlast [] #[] 0 := ⟨alloc_new _ _, by simp, by simp, by simp, by simp⟩
def NewOnce (w : World) (e : Ending) (w' : World) : Prop := ∃ b mb, e = .returned (.pointer (some ⟨b, 0, none⟩)) ∧ OnceAt w' b mb [] ∧ w.heap.size ≤ b ∧ w.heap.size ≤ mb ∧ b ≠ mb ∧ Below w.heap.size w w'
set_option maxHeartbeats 400000 in
theorem onceNew_any (w : World) : Calls Tryz.prog 48 #[] w (NewOnce w) := by
  have hmm := @run_makeMap Tryz.prog
  go_enter Tryz.func48, Tryz.ntmps48
  go_wp2
  go_ret
  refine ⟨w.heap.size + 1, w.heap.size, rfl, ⟨by have := World.cell?_alloc_new (w.alloc (.map #[] 0)) #[.map (some w.heap.size)] 174 0; rw [World.size_alloc] at this; exact this, #[], 0, ?_⟩, by omega, by omega, by omega, ((Below.refl _ _).alloc (Nat.le_refl _) _).alloc (by simp) _⟩
  exact (map_new w).of_block (alloc_old _ _ _ (by simp))

def oseen (m : OM) (c s : Int) : Bool := !thereB c || decide (s ≤ (lastO m c).1)
theorem onceSeen_any (c s : Int) (w : World) (b mb : Nat) (m : OM) (h : OnceAt w b mb m) :
    Calls Tryz.prog 126 #[.pointer (some ⟨b, 0, none⟩), .int .i64 c, .int .i64 s] w fun e w' => e = .returned (.bool (oseen m c s)) ∧ w = w' := by
  unfold oseen
  cases hc : thereB c
  · simpa using seen_out c s w b hc
  · simpa using seen_no c s w b mb m h hc

/-- Note: the error's number, and the list behind it -/
def onote (m : OM) (c s : Int) (r : Int × Int) : Int × OM :=
  if thereB c = false then (1, m) else if oseen m c s then (61, m) else (0, set m c (s, r.1, r.2))

set_option maxHeartbeats 400000 in
theorem note_arg (c s x y : Int) (w : World) (b : Nat) (hc : thereB c = false) :
    Calls Tryz.prog 96 #[.pointer (some ⟨b, 0, none⟩), .int .i64 c, .int .i64 s, .agg #[.int .i64 x, .int .i64 y]] w fun e w' => e = .returned (.int .i64 1) ∧ Below w.heap.size w w' := by
  go_enter Tryz.func96, Tryz.ntmps96
  go_wp2_with (go_at_call 85; refine (there_any _ _).mono ?_; rintro e w' ⟨rfl, rfl⟩)
  go_ret
  exact ⟨rfl, (Below.refl _ _).alloc (Nat.le_refl _) _⟩
set_option maxHeartbeats 400000 in
theorem note_twice (c s x y : Int) (w : World) (b mb : Nat) (m : OM) (h : OnceAt w b mb m) (hc : thereB c = true) (hs : oseen m c s = true) :
    Calls Tryz.prog 96 #[.pointer (some ⟨b, 0, none⟩), .int .i64 c, .int .i64 s, .agg #[.int .i64 x, .int .i64 y]] w fun e w' => e = .returned (.int .i64 61) ∧ Below w.heap.size w w' := by
  have seen := fun W h => onceSeen_any c s W b mb m h
  rw [hs] at seen
  go_enter Tryz.func96, Tryz.ntmps96
  go_wp2_with (first | (go_at_call 85; refine (there_any _ _).mono ?_; rintro e w' ⟨rfl, rfl⟩) | (go_at_call 126; refine (seen _ (h.mod ((Mod.refl none' _).alloc _) id id)).mono ?_; rintro e w' ⟨rfl, rfl⟩))
  go_ret
  exact ⟨rfl, (Below.refl _ _).alloc (Nat.le_refl _) _⟩

/-- what a store leaves: block mb alone has changed -/
def OnceSet (w : World) (b mb : Nat) (m : OM) (e : Ending) (w' : World) : Prop := e = .returned (.int .i64 0) ∧ OnceAt w' b mb m ∧ Mod (· = mb) w w'
set_option maxRecDepth 100000 in
set_option maxHeartbeats 1000000 in
theorem note_ok (c s x y : Int) (w : World) (b mb : Nat) (m : OM) (h : OnceAt w b mb m) (hne : b ≠ mb) (hc : thereB c = true) (hs : oseen m c s = false) :
    Calls Tryz.prog 96 #[.pointer (some ⟨b, 0, none⟩), .int .i64 c, .int .i64 s, .agg #[.int .i64 x, .int .i64 y]] w (OnceSet w b mb (set m c (s, x, y))) := by
  have seen := fun W h => onceSeen_any c s W b mb m h
  rw [hs] at seen
  go_enter Tryz.func96, Tryz.ntmps96
  go_wp2_with (first | (go_at_call 85; refine (there_any _ _).mono ?_; rintro e w' ⟨rfl, rfl⟩) | (go_at_call 126; refine (seen _ (h.mod ((Mod.refl none' _).alloc _) id id)).mono ?_; rintro e w' ⟨rfl, rfl⟩))
  obtain ⟨h1, es, clock, hm⟩ := h
  have hb := cell_lt h1
  have hmb := block_lt hm.block
  obtain ⟨es', clock', hup, hm'⟩ := (hm.of_block (w' := (w.alloc (.cells #[.int .i64 x, .int .i64 y] 29)).drew) (by simp [hmb])).update keyOnce Tryz.underlying172 c (s, x, y)
  simp only [κs1, νlast] at hup
  refine region_tail 9 (by kernel_rfl) (by kernel_rfl) (fun T hT K hK => ?_)
  simp only [List.take_succ_cons, List.take_zero]
  repeat still_step
  refine wpStill_nil (hK _ ?_)
  clear hK
  simp only [List.drop_succ_cons, List.drop_zero] at hT
  subst hT
  go_wp2
  go_ret
  refine ⟨rfl, ⟨?_, es', clock', hm'⟩, ?_⟩
  · rw [World.cell?_of_block (w := w) (by rw [putObj_other _ _ _ _ hne]; simp [hb])]; exact h1
  · exact (((Mod.refl (· = mb) w).alloc _).drew).putObj (fun _ => rfl) _

/-- what Note leaves, in one word -/
def NotePost (w : World) (b mb : Nat) (r : Int × OM) (e : Ending) (w' : World) : Prop := e = .returned (.int .i64 r.1) ∧ OnceAt w' b mb r.2 ∧ Mod (· = mb) w w'
theorem onceNote_any (c s x y : Int) (w : World) (b mb : Nat) (m : OM) (h : OnceAt w b mb m) (hne : b ≠ mb) :
    Calls Tryz.prog 96 #[.pointer (some ⟨b, 0, none⟩), .int .i64 c, .int .i64 s, .agg #[.int .i64 x, .int .i64 y]] w (NotePost w b mb (onote m c s (x, y))) := by
  unfold onote
  split
  · rename_i hc
    exact (note_arg c s x y w b hc).mono fun e w' ⟨he, hb⟩ => ⟨he, h.mod (F := none') (Mod.of_below hb) id id, Mod.of_below hb⟩
  · rename_i hc
    split
    · rename_i hs
      exact (note_twice c s x y w b mb m h (by simpa using hc) hs).mono fun e w' ⟨he, hb⟩ => ⟨he, h.mod (F := none') (Mod.of_below hb) id id, Mod.of_below hb⟩
    · rename_i hs
      exact (note_ok c s x y w b mb m h hne (by simpa using hc) (by simpa using hs)).mono fun e w' ⟨he, ho, hb⟩ => ⟨he, ho, hb⟩

/-- Last: the number and the result -/
def olast (m : OM) (c : Int) : Int × Int × Int := if thereB c then lastO m c else (0, 0, 0)
def LastPost (w : World) (x : Int × Int × Int) (e : Ending) (w' : World) : Prop := e = .returned (.tuple #[.int .i64 x.1, .agg #[.int .i64 x.2.1, .int .i64 x.2.2]]) ∧ Below w.heap.size w w'
set_option maxHeartbeats 400000 in
theorem last_out (c : Int) (w : World) (b : Nat) (hc : thereB c = false) : Calls Tryz.prog 56 #[.pointer (some ⟨b, 0, none⟩), .int .i64 c] w (LastPost w (0, 0, 0)) := by
  go_enter Tryz.func56, Tryz.ntmps56
  go_wp2_with (go_at_call 85; refine (there_any _ _).mono ?_; rintro e w' ⟨rfl, rfl⟩)
  exact bodyPost_ret (v := .tuple #[.int .i64 0, .agg #[.int .i64 0, .int .i64 0]]) (by simp [results, Tryz.results56, go_sem]) rfl ⟨rfl, (by repeat (first | exact Below.refl _ _ | refine Below.drew ?_ | refine Below.setCell ?_ (by simp) _ | refine Below.alloc ?_ (by simp) _))⟩
set_option maxRecDepth 100000 in
set_option maxHeartbeats 1000000 in
theorem last_ok (c : Int) (w : World) (b mb : Nat) (m : OM) (h : OnceAt w b mb m) (hc : thereB c = true) : Calls Tryz.prog 56 #[.pointer (some ⟨b, 0, none⟩), .int .i64 c] w (LastPost w (lastO m c)) := by
  obtain ⟨h1, es, clock, hm⟩ := h
  have hb := cell_lt h1
  have hmb := block_lt hm.block
  have hl := once_look (hm.of_block (w' := w.alloc (.cells #[.int .i64 0, .int .i64 0] 29)) (by simp [hmb])) c
  clear hm
  go_enter Tryz.func56, Tryz.ntmps56
  go_wp2_with (go_at_call 85; refine (there_any _ _).mono ?_; rintro e w' ⟨rfl, rfl⟩)
  refine region_tail 5 (by kernel_rfl) (by kernel_rfl) (fun T hT K hK => ?_)
  simp only [List.take_succ_cons, List.take_zero]
  repeat still_step
  refine wpStill_nil (hK _ ?_)
  clear hK
  simp only [List.drop_succ_cons, List.drop_zero] at hT
  subst hT
  go_wp2
  exact bodyPost_ret (v := .tuple #[.int .i64 (lastO m c).1, .agg #[.int .i64 (lastO m c).2.1, .int .i64 (lastO m c).2.2]]) (by simp [results, Tryz.results56, go_sem]) rfl ⟨rfl, (by repeat (first | exact Below.refl _ _ | refine Below.drew ?_ | refine Below.setCell ?_ (by simp) _ | refine Below.alloc ?_ (by simp) _))⟩
theorem onceLast_any (c : Int) (w : World) (b mb : Nat) (m : OM) (h : OnceAt w b mb m) : Calls Tryz.prog 56 #[.pointer (some ⟨b, 0, none⟩), .int .i64 c] w (LastPost w (olast m c)) := by
  unfold olast
  split
  · exact last_ok c w b mb m h (by assumption)
  · rename_i hc; exact last_out c w b (Bool.eq_false_iff.2 hc)

end Go.Proofs.YtmnkackkeppheaaGreat
