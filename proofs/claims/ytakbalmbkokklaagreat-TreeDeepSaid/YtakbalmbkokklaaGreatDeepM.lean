/- directories in each other, plain -/
import Derived.Test.YtakbalmbkokklaaGreatTreeGood3
import Derived.Test.YtakbalmbkokklaaGreatDirList
namespace Esch
open Go

def deepE (nm : Nat → Nm) (k : Nat) : List Ent := (List.range k).map fun (i : Nat) => (((i : Int) + 1, nm i), (i : Int) + 2)
def deepL (nm : Nat → Nm) (k : Nat) : List Nm := (List.range k).map nm
def deepP (nm : Nat → Nm) (k : Nat) : Nm := pathT (deepL nm k)
theorem deepE_succ (nm : Nat → Nm) (k : Nat) : deepE nm (k + 1) = deepE nm k ++ [(((k : Int) + 1, nm k), (k : Int) + 2)] := by
  unfold deepE; rw [List.range_succ, List.map_append]; rfl
theorem deepL_succ (nm : Nat → Nm) (k : Nat) : deepL nm (k + 1) = deepL nm k ++ [nm k] := by
  unfold deepL; rw [List.range_succ, List.map_append]; rfl
theorem deepL_len (nm : Nat → Nm) (k : Nat) : (deepL nm k).length = k := by unfold deepL; simp
theorem deepP_succ (nm : Nat → Nm) (k : Nat) : deepP nm (k + 1) = deepP nm k ++ (47 :: nm k) := by
  unfold deepP; rw [deepL_succ]; simp [pathT, List.flatMap_append]
theorem deepE_mem {nm : Nat → Nm} {k : Nat} {e : Ent} : e ∈ deepE nm k ↔ ∃ i, i < k ∧ e = (((i : Int) + 1, nm i), (i : Int) + 2) := by
  unfold deepE
  simp only [List.mem_map, List.mem_range]
  constructor
  · rintro ⟨i, h, rfl⟩; exact ⟨i, h, rfl⟩
  · rintro ⟨i, h, rfl⟩; exact ⟨i, h, rfl⟩
/-- k directories in each other -/
structure Deep (s : TrS) (nm : Nat → Nm) (k : Nat) (nx : Int) : Prop where
  good : GoodS s
  n : s.n.m = deepE nm k
  has : ∀ i, s.t.has i = decide (1 ≤ i ∧ i ≤ (k : Int) + 1)
  at' : ∀ i : Int, 1 ≤ i → i ≤ (k : Int) + 1 → s.t.at i = ⟨i, 1, 1, 0, 0⟩
  next : s.t.next = nx
theorem Deep.start (nm : Nat → Nm) : Deep tr0 nm 0 2 := by
  refine ⟨tr0_good, rfl, fun i => ?_, fun i h1 h2 => ?_, rfl⟩
  · by_cases e : i = 1
    · subst e; rfl
    · rw [decide_eq_false (by omega)]
      cases h : tr0.t.has i with
      | false => rfl
      | true =>
        have h : i ∈ [(1 : Int)] := has_mem.1 h
        exact absurd (List.mem_singleton.1 h) e
  · obtain rfl : i = 1 := by omega
    rfl
theorem Deep.len {s : TrS} {nm : Nat → Nm} {k : Nat} {nx : Int} (h : Deep s nm k nx) : s.t.m.length = k + 1 := by
  have hp : (s.t.m.map (·.1)).Perm ((List.range (k + 1)).map fun (i : Nat) => (i : Int) + 1) := by
    refine (List.perm_ext_iff_of_nodup h.good.nd ?_).2 fun i => ?_
    · refine List.pairwise_map.2 (List.Pairwise.imp (fun {a b} h e => h ?_) List.nodup_range)
      have e : (a : Int) + 1 = (b : Int) + 1 := e
      omega
    · rw [← has_mem, h.has, decide_eq_true_eq, List.mem_map]
      constructor
      · rintro ⟨h1, h2⟩
        exact ⟨(i - 1).toNat, List.mem_range.2 (by omega), by omega⟩
      · rintro ⟨j, hj, rfl⟩
        have := List.mem_range.1 hj
        omega
  have := hp.length_eq
  simpa using this
theorem Deep.find {s : TrS} {nm : Nat → Nm} {k : Nat} {nx : Int} (h : Deep s nm k nx) {i : Nat} (hi : i < k) : s.n.find ((i : Int) + 1) (nm i) = some ((i : Int) + 2) :=
  (mem_iff_get h.good.ok.n.nd _ _).1 (by rw [h.n]; exact deepE_mem.2 ⟨i, hi, rfl⟩)
theorem Deep.none {s : TrS} {nm : Nat → Nm} {k : Nat} {nx : Int} (h : Deep s nm k nx) (n : Nm) : s.n.find ((k : Int) + 1) n = none :=
  get_none.2 fun e he e1 => by
    rw [h.n] at he
    obtain ⟨i, hi, rfl⟩ := deepE_mem.1 he
    have : (i : Int) + 1 = (k : Int) + 1 := congrArg Prod.fst e1
    omega
theorem Deep.kind {s : TrS} {nm : Nat → Nm} {k : Nat} {nx : Int} (h : Deep s nm k nx) {i : Int} (h1 : 1 ≤ i) (h2 : i ≤ (k : Int) + 1) : s.kind i = 1 := by
  unfold TrS.kind; rw [h.at' i h1 h2]
theorem Deep.res {s : TrS} {nm : Nat → Nm} {k : Nat} {nx : Int} (h : Deep s nm k nx) : ∀ i : Nat, i ≤ k → s.res 1 (deepL nm i) = .ok ((i : Int) + 1)
  | 0, _ => rfl
  | i + 1, hi => by
    rw [deepL_succ, res_app, h.res i (by omega)]
    show s.res ((i : Int) + 1) [nm i] = _
    rw [res_one.2 ⟨h.kind (by omega) (by omega), h.find (by omega)⟩]
    have e : (i : Int) + 2 = ((i + 1 : Nat) : Int) + 1 := by omega
    rw [e]
theorem filter_range_eq (a : Nat) : ∀ k : Nat, (List.range k).filter (fun i => i == a) = if a < k then [a] else []
  | 0 => rfl
  | k + 1 => by
    rw [List.range_succ, List.filter_append, filter_range_eq a k]
    by_cases e : k = a
    · subst e
      rw [if_neg (by omega), if_pos (by omega)]
      simp
    · have e1 : (k == a) = false := by simpa using e
      have e2 : [k].filter (fun i => i == a) = [] := by rw [List.filter_cons, e1]; rfl
      rw [e2, List.append_nil]
      by_cases h : a < k
      · rw [if_pos h, if_pos (by omega)]
      · rw [if_neg h, if_neg (by omega)]
theorem deepE_dir (nm : Nat → Nm) (k a : Nat) : (deepE nm k).filter (fun e => e.1.1 == (a : Int) + 1) = if a < k then [(((a : Int) + 1, nm a), (a : Int) + 2)] else [] := by
  unfold deepE
  rw [List.filter_map]
  have : (List.range k).filter ((fun e : Ent => e.1.1 == (a : Int) + 1) ∘ fun (i : Nat) => (((i : Int) + 1, nm i), (i : Int) + 2)) = (List.range k).filter (fun i => i == a) := List.filter_congr fun i _ => by
    show ((i : Int) + 1 == (a : Int) + 1) = (i == a)
    rw [Bool.eq_iff_iff, beq_iff_eq, beq_iff_eq]
    omega
  rw [this, filter_range_eq]
  split <;> rfl
theorem Deep.count {s : TrS} {nm : Nat → Nm} {k : Nat} {nx : Int} (h : Deep s nm k nx) (a : Nat) : s.n.count ((a : Int) + 1) = if a < k then 1 else 0 := by
  rw [h.good.ok.n.cnt, h.n, deepE_dir]
  split <;> rfl
/-- names that are such -/
structure DNm (nm : Nat → Nm) : Prop where
  ok : ∀ i, nameL (nm i) = true
theorem deepL_ne (nm : Nat → Nm) (i : Nat) : deepL nm (i + 1) ≠ [] := by rw [deepL_succ]; simp
theorem deep_names {nm : Nat → Nm} (hn : DNm nm) {i : Nat} (h8 : i + 1 ≤ 8) : namesOf (deepP nm (i + 1)) = some (deepL nm (i + 1)) := by
  have : pathL (deepL nm (i + 1)) = deepP nm (i + 1) := by unfold pathL; rw [if_neg (deepL_ne nm i)]; rfl
  rw [← this]
  refine namesOf_path (by rw [deepL_len]; exact h8) fun a ha => ?_
  unfold deepL at ha
  obtain ⟨j, -, rfl⟩ := List.mem_map.1 ha
  exact hn.ok j
theorem Deep.resolve {s : TrS} {nm : Nat → Nm} {k : Nat} {nx : Int} (h : Deep s nm k nx) (hn : DNm nm) {i : Nat} (hi : i + 1 ≤ k) (h8 : i + 1 ≤ 8) : s.resolve (deepP nm (i + 1)) = .ok ((i : Int) + 2) := by
  unfold TrS.resolve
  rw [deep_names hn h8]
  show s.res 1 _ = _
  rw [h.res (i + 1) hi]
  have e : ((i + 1 : Nat) : Int) + 1 = (i : Int) + 2 := by omega
  rw [e]
theorem Deep.place {s : TrS} {nm : Nat → Nm} {k : Nat} {nx : Int} (h : Deep s nm k nx) (hn : DNm nm) {i : Nat} (hi : i ≤ k) (h8 : i + 1 ≤ 8) (r : Int) : s.place (deepP nm (i + 1)) r = .ok ⟨(i : Int) + 1, nm i, if i < k then (i : Int) + 2 else 0⟩ := by
  unfold TrS.place
  rw [deep_names hn h8]
  simp only
  rw [if_neg (deepL_ne nm i), deepL_succ, List.dropLast_concat, h.res i hi]
  show (if s.kind ((i : Int) + 1) ≠ 1 then _ else _) = _
  rw [if_neg (by rw [h.kind (by omega) (by omega)]; decide)]
  have e : (deepL nm i ++ [nm i]).getLastD [] = nm i := by rw [List.getLastD_eq_getLast?]; simp
  rw [e]
  by_cases hlt : i < k
  · rw [if_pos hlt, h.find hlt]; rfl
  · obtain rfl : i = k := by omega
    rw [if_neg hlt, h.none]; rfl
/-- one deeper -/
theorem Deep.mkdir {s : TrS} {nm : Nat → Nm} {k : Nat} (h : Deep s nm k ((k : Int) + 2)) (hn : DNm nm) (h8 : k + 1 ≤ 8) : ∃ s', (s.mk' (deepP nm (k + 1)) 1).run s = (0, s') ∧ Deep s' nm (k + 1) ((k : Int) + 3) := by
  have hl := h.len
  have hnx := h.next
  have hmk : s.t.make 1 = ((s.t.next, 0), ⟨Esch.set s.t.m s.t.next ⟨s.t.next, 1, 0, 0, 0⟩, s.t.next + 1⟩) := by
    unfold TabS.make
    rw [if_neg (by decide), if_neg (by omega)]
  have hc := h.count k
  rw [if_neg (by omega)] at hc
  have hm0 : (s.t.make 1).1.2 = 0 := by rw [hmk]
  obtain ⟨g1, g2, g3, g4, g5⟩ := h.good.mkx (x := ⟨(k : Int) + 1, nm k, 0⟩) (show s.kind ((k : Int) + 1) = 1 from h.kind (by omega) (by omega)) (hn.ok k) (h.none _) (by show s.n.count _ < 64; rw [hc]; decide) (k := 1) hm0
  refine ⟨TrS.add ⟨(s.t.make 1).2, s.n⟩ ⟨(k : Int) + 1, nm k, 0⟩ (s.t.make 1).1.1, ?_, g1, ?_, fun i => ?_, fun i h1 h2 => ?_, ?_⟩
  · unfold TrS.mk'
    rw [h.place hn (Nat.le_refl k) h8, if_neg (by omega)]
    show (Res.bind (stopB 61 (decide ((0 : Int) ≠ 0))) fun _ => (stopB 67 (decide (64 ≤ s.n.count ((k : Int) + 1)))).bind fun _ => (stopB (s.t.make 1).1.2 (decide ((s.t.make 1).1.2 ≠ 0))).bind fun _ => .ok (TrS.add ⟨(s.t.make 1).2, s.n⟩ ⟨(k : Int) + 1, nm k, 0⟩ (s.t.make 1).1.1)).run s = _
    rw [hc, hm0]
    rfl
  · rw [g2, h.n, deepE_succ, h.next]
  · rw [g4, h.next, h.has]
    by_cases e : (k : Int) + 2 = i
    · rw [if_pos e, decide_eq_true (by omega)]
    · rw [if_neg e]
      congr 1
      exact propext ⟨fun h => by omega, fun h => by omega⟩
  · rw [g3, h.next]
    by_cases e : (k : Int) + 2 = i
    · rw [if_pos e, e]
    · rw [if_neg e]
      exact h.at' i h1 (by omega)
  · rw [g5, h.next]; omega
theorem Deep.twice {s : TrS} {nm : Nat → Nm} {k : Nat} {nx : Int} (h : Deep s nm (k + 1) nx) (hn : DNm nm) (h8 : k + 1 ≤ 8) : (s.mk' (deepP nm (k + 1)) 1).run s = (61, s) := by
  unfold TrS.mk'
  rw [h.place hn (by omega) h8, if_pos (by omega)]
  show (Res.bind (stopB 61 (decide ((k : Int) + 2 ≠ 0))) fun _ => (stopB 67 (decide (64 ≤ s.n.count ((k : Int) + 1)))).bind fun _ => (stopB (s.t.make 1).1.2 (decide ((s.t.make 1).1.2 ≠ 0))).bind fun _ => .ok (TrS.add ⟨(s.t.make 1).2, s.n⟩ ⟨(k : Int) + 1, nm k, (k : Int) + 2⟩ (s.t.make 1).1.1)).run s = _
  rw [decide_eq_true (by omega)]
  rfl
theorem slashes {l : List Nm} (h : ∀ a ∈ l, nameL a = true) : (pathT l).count 47 = l.length := by
  induction l with
  | nil => rfl
  | cons a l ih =>
    have ha : a.count 47 = 0 := List.count_eq_zero.2 fun hm => nameL_no (h a (by simp)) 47 hm rfl
    have ih := ih fun x hx => h x (by simp [hx])
    show (47 :: (a ++ pathT l)).count 47 = _
    rw [List.count_cons, List.count_append, ha, ih]
    simp
theorem deep_more {nm : Nat → Nm} (hn : DNm nm) : namesOf (deepP nm 8 ++ [47, 97]) = Option.none := by
  cases h : namesOf (deepP nm 8 ++ [47, 97]) with
  | none => rfl
  | some l =>
    exfalso
    obtain ⟨h1, h2, h3⟩ := namesOf_some h
    have hc : (deepP nm 8 ++ [47, 97]).count 47 = 9 := by
      rw [List.count_append]
      unfold deepP
      rw [slashes (fun a ha => by unfold deepL at ha; obtain ⟨j, -, rfl⟩ := List.mem_map.1 ha; exact hn.ok j), deepL_len]
      rfl
    rw [h3] at hc
    unfold pathL at hc
    split at hc
    · exact absurd hc (by decide)
    · rw [slashes h2] at hc; omega
theorem Deep.more {s : TrS} {nm : Nat → Nm} (hn : DNm nm) : (s.mk' (deepP nm 8 ++ [47, 97]) 1).run s = (11, s) := by
  unfold TrS.mk' TrS.place
  rw [deep_more hn]
  rfl
/-- what a directory's list is -/
def deepN (nm : Nat → Nm) (k i : Nat) : List Nm := if i + 1 < k then [nm (i + 1)] else []
theorem Deep.list {s : TrS} {nm : Nat → Nm} {k : Nat} {nx : Int} (h : Deep s nm k nx) {i : Nat} {l : List Nm} (hl : Go.Proofs.YtakbalmbkokklaaGreat.NamesOfD s.n.m ((i : Int) + 2) l) : l = deepN nm k i := by
  obtain ⟨e, ⟨hp, -⟩, rfl⟩ := hl
  have e1 : (i : Int) + 2 = ((i + 1 : Nat) : Int) + 1 := by omega
  rw [h.n, e1, deepE_dir] at hp
  unfold deepN
  split at hp
  · rename_i hlt
    rw [if_pos hlt, List.perm_singleton.1 hp]; rfl
  · rename_i hlt
    rw [if_neg hlt, List.perm_nil.1 hp]; rfl
theorem Deep.filled {s : TrS} {nm : Nat → Nm} {k : Nat} {nx : Int} (h : Deep s nm k nx) (hn : DNm nm) {i : Nat} (hi : i + 1 < k) (h8 : i + 1 ≤ 8) : (s.rmdir (deepP nm (i + 1))).run s = (64, s) := by
  have hc := h.count (i + 1)
  rw [if_pos hi] at hc
  have e1 : ((i + 1 : Nat) : Int) + 1 = (i : Int) + 2 := by omega
  rw [e1] at hc
  unfold TrS.rmdir
  rw [h.place hn (by omega) h8, if_pos (by omega)]
  show (Res.bind (stopB 60 (decide ((i : Int) + 2 = 0))) fun _ => (stopB 62 (decide (s.kind ((i : Int) + 2) ≠ 1))).bind fun _ => (stopB 64 (decide (0 < s.n.count ((i : Int) + 2)))).bind fun _ => .ok (s.drop _)).run s = _
  rw [decide_eq_false (by omega), h.kind (by omega) (by omega), hc]
  rfl
/-- the deepest goes -/
theorem Deep.rmdir {s : TrS} {nm : Nat → Nm} {k : Nat} {nx : Int} (h : Deep s nm (k + 1) nx) (hn : DNm nm) (h8 : k + 1 ≤ 8) : ∃ s', (s.rmdir (deepP nm (k + 1))).run s = (0, s') ∧ Deep s' nm k nx := by
  have hc := h.count (k + 1)
  rw [if_neg (by omega)] at hc
  have e1 : ((k + 1 : Nat) : Int) + 1 = (k : Int) + 2 := by omega
  rw [e1] at hc
  have hf := h.find (i := k) (by omega)
  obtain ⟨g1, g2, g3⟩ := h.good.dropx (x := ⟨(k : Int) + 1, nm k, (k : Int) + 2⟩) hf fun _ => by show ¬ 0 < s.n.count ((k : Int) + 2); rw [hc]; decide
  have hat := h.at' ((k : Int) + 2) (by omega) (by omega)
  have g4 : ∀ j, (s.drop ⟨(k : Int) + 1, nm k, (k : Int) + 2⟩).t.has j = if (k : Int) + 2 = j then false else s.t.has j := fun j => by
    rw [g3.has j]
    show (if (k : Int) + 2 = j then decide ((s.t.at ((k : Int) + 2)).links ≠ 1) else _) = _
    rw [hat]
    rfl
  refine ⟨s.drop ⟨(k : Int) + 1, nm k, (k : Int) + 2⟩, ?_, g1, ?_, fun i => ?_, fun i h1 h2 => ?_, by rw [g3.next]; exact h.next⟩
  · unfold TrS.rmdir
    rw [h.place hn (by omega) h8, if_pos (by omega)]
    show (Res.bind (stopB 60 (decide ((k : Int) + 2 = 0))) fun _ => (stopB 62 (decide (s.kind ((k : Int) + 2) ≠ 1))).bind fun _ => (stopB 64 (decide (0 < s.n.count ((k : Int) + 2)))).bind fun _ => .ok (s.drop _)).run s = _
    rw [decide_eq_false (by omega), h.kind (by omega) (by omega), hc]
    rfl
  · rw [g2]
    show del s.n.m _ = _
    rw [h.n, deepE_succ]
    unfold del
    rw [List.filter_append]
    have e1 : (deepE nm k).filter (fun p => decide (p.1 ≠ ((k : Int) + 1, nm k))) = deepE nm k := List.filter_eq_self.2 fun e he => by
      obtain ⟨i, hi, rfl⟩ := deepE_mem.1 he
      refine decide_eq_true fun e => ?_
      have : (i : Int) + 1 = (k : Int) + 1 := congrArg Prod.fst e
      omega
    rw [e1]
    simp
  · rw [g4, h.has]
    by_cases e : (k : Int) + 2 = i
    · rw [if_pos e, decide_eq_false (by omega)]
    · rw [if_neg e]
      congr 1
      exact propext ⟨fun h => by omega, fun h => by omega⟩
  · rw [g3.at' i]
    show (if (k : Int) + 2 = i then _ else _) = _
    rw [if_neg (by omega)]
    exact h.at' i h1 (by omega)
end Esch
