import Derived.Test.YtpkdpmkiplopmaaMaps
/- pages that are written once: plain Lean -/
namespace Esch
structure PgS where
  room : Nat
  edge : Nat
  m : List (Int × (Int × ByteArray))
def inB (a : Int) : Bool := decide (0 ≤ a) && decide (a < 4096)
def PgS.kind (s : PgS) (a : Int) : Int := if inB a = false then 0 else if a < s.edge then 3 else ((get s.m a).map (·.1)).getD 0
def PgS.text (s : PgS) (a : Int) : ByteArray := ((get s.m a).map (·.2)).getD ⟨#[]⟩
structure PgS.ok (s : PgS) : Prop where
  edge : s.edge ≤ 4096
  room : s.room ≤ 4096
  len : s.m.length ≤ s.room
  keys : ∀ p ∈ s.m, (s.edge : Int) ≤ p.1 ∧ p.1 < 4096
  kinds : ∀ p ∈ s.m, (p.2.1 = 1 ∨ p.2.1 = 2) ∧ p.2.2.size ≤ 4096
  apart : (s.m.map (·.1)).Nodup
def pg0 (room : Nat) : PgS := ⟨room, 0, []⟩
def PgS.put (s : PgS) (a : Int) (c : Int × ByteArray) : Int × PgS := if s.room ≤ s.m.length then (44, s) else (0, { s with m := s.m ++ [(a, c)] })
def PgS.write (s : PgS) (a : Int) (d : ByteArray) : Int × PgS :=
  if inB a = false then (1, s) else if 4096 < d.size then (2, s) else if a < s.edge then (43, s) else if s.kind a ≠ 0 then (41, s) else s.put a (1, d)
def PgS.fill (s : PgS) (a : Int) : Int × PgS :=
  if inB a = false then (1, s) else if s.kind a = 3 then (43, s) else if s.kind a = 2 then (0, s) else if s.kind a = 1 then (41, s) else s.put a (2, ⟨#[]⟩)
def PgS.read (s : PgS) (a : Int) : ByteArray × Int :=
  if inB a = false then (⟨#[]⟩, 1) else if s.kind a = 3 then (⟨#[]⟩, 43) else if s.kind a = 0 then (⟨#[]⟩, 42) else if s.kind a = 2 then (⟨#[]⟩, 46) else (s.text a, 0)
def PgS.trim (s : PgS) (a : Int) : Int × PgS :=
  if a < 0 ∨ 4096 < a then (1, s) else (0, { s with edge := max s.edge a.toNat, m := s.m.filter fun p => decide ((max s.edge a.toNat : Nat) ≤ p.1) })
def tailOf (e : Int) : List (Int × (Int × ByteArray)) → Int
  | [] => e
  | p :: l => tailOf (max e (p.1 + 1)) l
def PgS.tail (s : PgS) : Int := tailOf s.edge s.m
theorem pg0_ok {room : Nat} (h : room ≤ 4096) : (pg0 room).ok := ⟨Nat.zero_le _, h, Nat.zero_le _, fun _ h => by simp [pg0] at h, fun _ h => by simp [pg0] at h, by simp [pg0]⟩
theorem inB_iff {a : Int} : inB a = true ↔ 0 ≤ a ∧ a < 4096 := by simp [inB]
theorem get_none_of {K V : Type} [DecidableEq K] {m : List (K × V)} {k : K} (h : get m k = none) : ∀ p ∈ m, p.1 ≠ k := get_none.1 h
theorem mem_of_get {K V : Type} [DecidableEq K] {m : List (K × V)} {k : K} {v : V} (h : get m k = some v) : (k, v) ∈ m := by
  obtain ⟨pre, post, rfl, -⟩ := get_some h
  simp
theorem PgS.ok.kind_cases {s : PgS} (h : s.ok) (a : Int) : s.kind a = 0 ∨ s.kind a = 1 ∨ s.kind a = 2 ∨ s.kind a = 3 := by
  unfold PgS.kind
  split
  · simp
  · split
    · simp
    · cases hg : get s.m a with
      | none => simp
      | some v => have := (h.kinds _ (mem_of_get hg)).1; simp only at this; simp; omega
/-- an empty page has no entry -/
theorem PgS.ok.empty_none {s : PgS} (h : s.ok) {a : Int} (hin : inB a = true) (he : ¬ a < s.edge) (hk : s.kind a = 0) : get s.m a = none := by
  unfold PgS.kind at hk
  rw [if_neg (by rw [hin]; simp), if_neg he] at hk
  cases hg : get s.m a with
  | none => rfl
  | some v => have := (h.kinds _ (mem_of_get hg)).1; rw [hg] at hk; simp only at this; simp at hk; omega
theorem PgS.ok.put_ok {s : PgS} (h : s.ok) {a : Int} {c : Int × ByteArray} (hin : inB a = true) (he : ¬ a < s.edge) (hk : s.kind a = 0) (hc : c.1 = 1 ∨ c.1 = 2) (hd : c.2.size ≤ 4096) : (s.put a c).2.ok := by
  unfold PgS.put
  split
  · exact h
  · rename_i hr
    have hin' := inB_iff.1 hin
    have hn := get_none_of (h.empty_none hin he hk)
    refine ⟨h.edge, h.room, ?_, ?_, ?_, ?_⟩
    · simp only [List.length_append, List.length_cons, List.length_nil]; omega
    · intro p hp
      simp only [List.mem_append, List.mem_singleton] at hp
      rcases hp with hp | rfl
      · exact h.keys p hp
      · exact ⟨by show (s.edge : Int) ≤ a; omega, hin'.2⟩
    · intro p hp
      simp only [List.mem_append, List.mem_singleton] at hp
      rcases hp with hp | rfl
      · exact h.kinds p hp
      · exact ⟨hc, hd⟩
    · simp only [List.map_append, List.map_cons, List.map_nil]
      rw [List.nodup_append]
      refine ⟨h.apart, by simp, ?_⟩
      intro x hx y hy
      simp only [List.mem_singleton] at hy
      subst hy
      obtain ⟨p, hp, rfl⟩ := List.mem_map.1 hx
      exact hn p hp
theorem PgS.ok.write_ok {s : PgS} (h : s.ok) (a : Int) (d : ByteArray) : (s.write a d).2.ok := by
  unfold PgS.write
  split
  · exact h
  · split
    · exact h
    · split
      · exact h
      · split
        · exact h
        · exact h.put_ok (by simp_all) (by assumption) (by simp_all) (Or.inl rfl) (by show d.size ≤ 4096; omega)
theorem PgS.ok.fill_ok {s : PgS} (h : s.ok) (a : Int) : (s.fill a).2.ok := by
  unfold PgS.fill
  split
  · exact h
  · split
    · exact h
    · split
      · exact h
      · split
        · exact h
        · rename_i h1 h2 h3 h4
          have hk : s.kind a = 0 := by have := h.kind_cases a; omega
          have he : ¬ a < s.edge := by
            intro he
            apply h2
            unfold PgS.kind
            rw [if_neg h1, if_pos he]
          exact h.put_ok (by simp_all) he hk (Or.inr rfl) (by show (0 : Nat) ≤ 4096; omega)
theorem PgS.ok.trim_ok {s : PgS} (h : s.ok) (a : Int) : (s.trim a).2.ok := by
  unfold PgS.trim
  split
  · exact h
  · have := h.edge
    refine ⟨by show max s.edge a.toNat ≤ 4096; omega, h.room, Nat.le_trans (List.length_filter_le _ _) h.len, fun p hp => ?_, fun p hp => ?_, ?_⟩
    · have h1 := List.mem_filter.1 hp
      have h2 := h1.2
      simp only [decide_eq_true_eq] at h2
      exact ⟨h2, (h.keys p h1.1).2⟩
    · exact h.kinds p (List.mem_filter.1 hp).1
    · exact (List.filter_sublist.map _).nodup h.apart
theorem tailOf_max : ∀ (l : List (Int × (Int × ByteArray))) (a b : Int), tailOf (max a b) l = max a (tailOf b l)
  | [], _, _ => rfl
  | p :: l, a, b => by
    rw [tailOf, tailOf, show max (max a b) (p.1 + 1) = max a (max b (p.1 + 1)) by omega, tailOf_max l]
theorem tailOf_perm {e : Int} {l l' : List (Int × (Int × ByteArray))} (h : l.Perm l') : tailOf e l = tailOf e l' := by
  induction h generalizing e with
  | nil => rfl
  | cons x _ ih => rw [tailOf, tailOf, ih]
  | swap x y l => rw [tailOf, tailOf, tailOf, tailOf, show max (max e (y.1 + 1)) (x.1 + 1) = max (max e (x.1 + 1)) (y.1 + 1) by omega]
  | trans _ _ ih1 ih2 => rw [ih1, ih2]
theorem tailOf_bounds {l : List (Int × (Int × ByteArray))} {e : Int} (h0 : 0 ≤ e) (h1 : e ≤ 4096) (hk : ∀ p ∈ l, p.1 < 4096) : 0 ≤ tailOf e l ∧ tailOf e l ≤ 4096 := by
  induction l generalizing e with
  | nil => exact ⟨h0, h1⟩
  | cons p l ih =>
    have := hk p (by simp)
    exact ih (by omega) (by omega) (fun q hq => hk q (by simp [hq]))
theorem PgS.ok.tail_bounds {s : PgS} (h : s.ok) : 0 ≤ s.tail ∧ s.tail ≤ 4096 := tailOf_bounds (by omega) (by have := h.edge; omega) (fun p hp => (h.keys p hp).2)
/-- one step of a trim -/
theorem filter_step {m : List (Int × (Int × ByteArray))} {e : Nat} : del (m.filter fun p => decide ((e : Int) ≤ p.1)) (e : Int) = m.filter fun p => decide (((e + 1 : Nat) : Int) ≤ p.1) := by
  unfold del
  rw [List.filter_filter]
  congr 1
  funext p
  by_cases h1 : p.1 = (e : Int)
  · have h2 : ¬ ((e + 1 : Nat) : Int) ≤ p.1 := by omega
    rw [decide_eq_false h2]; simp [h1]
  · by_cases h3 : (e : Int) ≤ p.1
    · have h2 : ((e + 1 : Nat) : Int) ≤ p.1 := by omega
      rw [decide_eq_true h2, decide_eq_true h3]; simp [h1]
    · have h2 : ¬ ((e + 1 : Nat) : Int) ≤ p.1 := by omega
      rw [decide_eq_false h2, decide_eq_false h3]; simp
theorem filter_all {m : List (Int × (Int × ByteArray))} {e : Nat} (h : ∀ p ∈ m, (e : Int) ≤ p.1) : (m.filter fun p => decide ((e : Int) ≤ p.1)) = m := by
  rw [List.filter_eq_self]
  intro p hp
  exact decide_eq_true (h p hp)
section
open Go
theorem MapAt.len {P : Program} {w : World} {b : Nat} {K V : Type} [DecidableEq K] {κ : K → Value} {ν : V → Value} {m : List (K × V)} {es : Array MapEntry} {clock : Nat} (h : MapAt w b κ ν m es clock) {mt kt et : TypeId} (ht : P.underlying mt = some (.map kt et)) (ty : TypeId) :
    (Builtin.len_ #[mt] ty #[.map (some b)]).run P w = .ok (.int .i64 m.length) w := by
  have := h.size
  simp [Builtin.len_, run_underlying ht, Esch.run_getObj_map h.block, goInt, Result.andThen, this]
end
end Esch
