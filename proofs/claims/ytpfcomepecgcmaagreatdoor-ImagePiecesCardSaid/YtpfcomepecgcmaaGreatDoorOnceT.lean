/- package once -/
import Derived.Test.YtpfcomepecgcmaaGreatDoorPkBase
import Derived.Deep.RegionHeld3
import Derived.Deep.QuietTactic
import Derived.BigQuiet
import Derived.StillTailTactics
import Derived.Test.YtpfcomepecgcmaaGreatDoorChecked
import Derived.WalkKit
import Derived.WalkSpells
namespace Go.Proofs.YtpfcomepecgcmaaGreatDoor
open Go.RowKit Esch

def thereB (c : Int) : Bool := decide (0 ≤ c) && decide (c < 8)
theorem there_any (c : Int) (w : World) : Calls Tryz.prog 69 #[.int .i64 c] w fun e w' => e = .returned (.bool (thereB c)) ∧ w = w' := by
  go_enter Tryz.func69, Tryz.ntmps69
  go_wp2
  all_goals
    go_ret
    refine ⟨?_, rfl⟩
    first | (simp [thereB, *]; done) | (simp [thereB]; omega)

def νlast (x : Int × Int × Int) : Value := .agg #[.int .i64 x.1, .int .i64 x.2.1, .int .i64 x.2.2]
abbrev OM := List (Int × (Int × Int × Int))
def OnceAt (w : World) (b mb : Nat) (m : OM) : Prop := w.cell? ⟨b, 0, none⟩ = some (.map (some mb)) ∧ ∃ es clock, MapAt w mb κs1 νlast m es clock
theorem OnceAt.mod {F : Nat → Prop} {w w' : World} {b mb : Nat} {m : OM} (h : OnceAt w b mb m) (hM : Mod F w w') (hb : ¬ F b) (hmb : ¬ F mb) : OnceAt w' b mb m := by
  obtain ⟨h1, es, clock, hm⟩ := h
  exact ⟨(hM.cell (p := ⟨b, 0, none⟩) (cell_lt h1) hb).trans h1, es, clock, hm.of_block (hM.block _ (block_lt hm.block) hmb)⟩
theorem OnceAt.lt {w : World} {b mb : Nat} {m : OM} (h : OnceAt w b mb m) : mb < w.heap.size := by
  obtain ⟨_, es, clock, hm⟩ := h
  exact block_lt hm.block
def lastO (m : OM) (c : Int) : Int × Int × Int := (get m c).getD (0, 0, 0)

theorem keyOnce : KeyOK Tryz.prog 146 κs1 := keyOK_s1 Tryz.underlying146 (by decide) rfl Tryz.underlying3 (by kernel_rfl)
theorem zeroLast (w : World) : (zeroValue 144).run Tryz.prog w = .ok (.agg #[.int .i64 0, .int .i64 0, .int .i64 0]) w := by kernel_rfl

@[simp] theorem fieldLast_0 (x y z : Value) (w : World) : (Instr.field 144 (.agg #[x, y, z]) 0).run Tryz.prog w = .ok x w := by kernel_rfl
@[simp] theorem fieldLast_1 (x y z : Value) (w : World) : (Instr.field 144 (.agg #[x, y, z]) 1).run Tryz.prog w = .ok (.agg #[y, z]) w := by kernel_rfl

theorem once_look {w : World} {mb : Nat} {m : OM} {es : Array MapEntry} {clock : Nat} (h : MapAt w mb κs1 νlast m es clock) (c : Int) :
    (Instr.lookup 129 (.map (some mb)) (.agg #[.int .i64 c]) false).run Tryz.prog w = .ok (.agg #[.int .i64 (lastO m c).1, .int .i64 (lastO m c).2.1, .int .i64 (lastO m c).2.2]) w := by
  have := h.look keyOnce Tryz.underlying129 zeroLast c false
  simp only [κs1, Bool.false_eq_true, if_false] at this
  rw [this]
  unfold lastO
  cases get m c <;> rfl

theorem map_new (w : World) : MapAt (w.alloc (.map #[] 0)) w.heap.size κs1 νlast [] #[] 0 := ⟨alloc_new _ _, by simp, by simp, by simp, by simp⟩
def NewOnce (w : World) (e : Ending) (w' : World) : Prop := ∃ b mb, e = .returned (.pointer (some ⟨b, 0, none⟩)) ∧ OnceAt w' b mb [] ∧ w.heap.size ≤ b ∧ w.heap.size ≤ mb ∧ b ≠ mb ∧ Below w.heap.size w w'
set_option maxHeartbeats 400000 in
theorem onceNew_any (w : World) : Calls Tryz.prog 26 #[] w (NewOnce w) := by
  have hmm := @run_makeMap Tryz.prog
  go_enter Tryz.func26, Tryz.ntmps26
  go_wp2
  go_ret
  refine ⟨w.heap.size + 1, w.heap.size, rfl, ⟨by have := World.cell?_alloc_new (w.alloc (.map #[] 0)) #[.map (some w.heap.size)] 131 0; rw [World.size_alloc] at this; exact this, #[], 0, ?_⟩, by omega, by omega, by omega, ((Below.refl _ _).alloc (Nat.le_refl _) _).alloc (by simp) _⟩
  exact (map_new w).of_block (alloc_old _ _ _ (by simp))

/-- Last: the number and the result -/
def olast (m : OM) (c : Int) : Int × Int × Int := if thereB c then lastO m c else (0, 0, 0)
def LastPost (w : World) (x : Int × Int × Int) (e : Ending) (w' : World) : Prop := e = .returned (.tuple #[.int .i64 x.1, .agg #[.int .i64 x.2.1, .int .i64 x.2.2]]) ∧ Below w.heap.size w w'
set_option maxHeartbeats 400000 in
theorem last_out (c : Int) (w : World) (b : Nat) (hc : thereB c = false) : Calls Tryz.prog 34 #[.pointer (some ⟨b, 0, none⟩), .int .i64 c] w (LastPost w (0, 0, 0)) := by
  go_enter Tryz.func34, Tryz.ntmps34
  go_wp2_with (go_at_call 69; refine (there_any _ _).mono ?_; rintro e w' ⟨rfl, rfl⟩)
  exact bodyPost_ret (v := .tuple #[.int .i64 0, .agg #[.int .i64 0, .int .i64 0]]) (by simp [results, Tryz.results34, go_sem]) rfl ⟨rfl, (by repeat (first | exact Below.refl _ _ | refine Below.drew ?_ | refine Below.setCell ?_ (by simp) _ | refine Below.alloc ?_ (by simp) _))⟩
set_option maxRecDepth 100000 in
set_option maxHeartbeats 1000000 in
theorem last_ok (c : Int) (w : World) (b mb : Nat) (m : OM) (h : OnceAt w b mb m) (hc : thereB c = true) : Calls Tryz.prog 34 #[.pointer (some ⟨b, 0, none⟩), .int .i64 c] w (LastPost w (lastO m c)) := by
  obtain ⟨h1, es, clock, hm⟩ := h
  have hb := cell_lt h1
  have hmb := block_lt hm.block
  have hl := once_look (hm.of_block (w' := w.alloc (.cells #[.int .i64 0, .int .i64 0] 53)) (by simp [hmb])) c
  clear hm
  go_enter Tryz.func34, Tryz.ntmps34
  go_wp2_with (go_at_call 69; refine (there_any _ _).mono ?_; rintro e w' ⟨rfl, rfl⟩)
  refine region_tail 5 (by kernel_rfl) (by kernel_rfl) (fun T hT K hK => ?_)
  simp only [List.take_succ_cons, List.take_zero]
  repeat still_step
  refine wpStill_nil (hK _ ?_)
  clear hK
  simp only [List.drop_succ_cons, List.drop_zero] at hT
  subst hT
  go_wp2
  exact bodyPost_ret (v := .tuple #[.int .i64 (lastO m c).1, .agg #[.int .i64 (lastO m c).2.1, .int .i64 (lastO m c).2.2]]) (by simp [results, Tryz.results34, go_sem]) rfl ⟨rfl, (by repeat (first | exact Below.refl _ _ | refine Below.drew ?_ | refine Below.setCell ?_ (by simp) _ | refine Below.alloc ?_ (by simp) _))⟩
theorem onceLast_any (c : Int) (w : World) (b mb : Nat) (m : OM) (h : OnceAt w b mb m) : Calls Tryz.prog 34 #[.pointer (some ⟨b, 0, none⟩), .int .i64 c] w (LastPost w (olast m c)) := by
  unfold olast
  split
  · exact last_ok c w b mb m h (by assumption)
  · rename_i hc; exact last_out c w b (Bool.eq_false_iff.2 hc)

end Go.Proofs.YtpfcomepecgcmaaGreatDoor
