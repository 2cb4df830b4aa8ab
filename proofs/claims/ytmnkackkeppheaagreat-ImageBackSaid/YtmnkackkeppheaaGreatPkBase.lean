import Derived.WalkKit
import Derived.WalkSpells
import Derived.Maps.RangeWalk
import Derived.Sort.MapsRangeIn
import Derived.RangeFuncSeq
import Derived.WideKeyEntry
import Derived.StillTailTactics
import Derived.Deep.RegionHeld3
import Derived.Deep.QuietTactic
import Derived.BigQuiet
import Derived.Deep.Upon
import Derived.Deep.RegionLaw
import Derived.Deep.RegionHeld
/- Maps whose keys and elements are encoded by functions of their own: what a look-up, a store, a deletion do to a map that is held as a list of pairs. -/
namespace Esch
open Go

def get {K V : Type} [DecidableEq K] : List (K × V) → K → Option V
  | [], _ => none
  | (k', v) :: m, k => if k' = k then some v else get m k
def set {K V : Type} [DecidableEq K] : List (K × V) → K → V → List (K × V)
  | [], k, v => [(k, v)]
  | (k', v') :: m, k, v => if k' = k then (k, v) :: m else (k', v') :: set m k v

theorem get_set {K V : Type} [DecidableEq K] (m : List (K × V)) (k k' : K) (v : V) : get (set m k v) k' = if k = k' then some v else get m k' := by
  induction m with
  | nil => simp [set, get]
  | cons p m ih => grind [set, get]

/-- a key type whose keys are the images of κ: told apart as they are, by no look at the world -/
structure KeyOK (P : Program) (t : TypeId) {K : Type} [DecidableEq K] (κ : K → Value) : Prop where
  check : ∀ (e : Bool) (k : K) (w : World), (Instr.checkKey e 10000 t (κ k)).run P w = .ok () w
  ne : ∀ (k : K) (es : List MapEntry) (w : World), (∀ e ∈ es, ∃ k', e.key = κ k' ∧ k' ≠ k) → (Instr.findKey t (κ k) es).run P w = .ok none w
  hit : ∀ (k : K) (pre : List MapEntry) (e : MapEntry) (post : List MapEntry) (w : World), (∀ e ∈ pre, ∃ k', e.key = κ k' ∧ k' ≠ k) → e.key = κ k →
    (Instr.findKey t (κ k) (pre ++ e :: post)).run P w = .ok (some (pre.length, e.val)) w
  bits : ∀ k, Instr.sameBits 10000 (κ k) (κ k) = true

theorem run_bind' {α β : Type} (s : Sem α) (f : α → Sem β) (P : Program) (w : World) {a : α} {w' : World} (h : s.run P w = .ok a w') : (s >>= f).run P w = (f a).run P w' := by
  simp [h, Result.andThen]

theorem asking {P : Program} {t : TypeId} {K : Type} [DecidableEq K] {κ : K → Value} (heq : ∀ a b w, (Op.equal t (κ a) (κ b)).run P w = .ok (decide (a = b)) w) (k : K) :
    ∀ (es : List MapEntry) (i : Nat) (w : World), (∀ e ∈ es, ∃ k', e.key = κ k' ∧ k' ≠ k) → (Instr.findAsking t (κ k) es i).run P w = .ok none w
  | [], i, w, _ => by simp [Instr.findAsking]
  | e :: es, i, w, h => by
    obtain ⟨k', hk, hne⟩ := h e (by simp)
    simp only [Instr.findAsking, hk]
    rw [run_bind' _ _ _ _ (heq k k' w)]
    simp only [Ne.symm hne, decide_false, Bool.false_eq_true, if_false]
    exact asking heq k es (i + 1) w fun e he => h e (by simp [he])

theorem asking_hit {P : Program} {t : TypeId} {K : Type} [DecidableEq K] {κ : K → Value} (heq : ∀ a b w, (Op.equal t (κ a) (κ b)).run P w = .ok (decide (a = b)) w) (k : K) (e : MapEntry) (post : List MapEntry) (hek : e.key = κ k) :
    ∀ (pre : List MapEntry) (i : Nat) (w : World), (∀ e ∈ pre, ∃ k', e.key = κ k' ∧ k' ≠ k) → (Instr.findAsking t (κ k) (pre ++ e :: post) i).run P w = .ok (some (i + pre.length, e.val)) w
  | [], i, w, _ => by
    simp only [List.nil_append, Instr.findAsking, hek]
    rw [run_bind' _ _ _ _ (heq k k w)]
    simp
  | x :: pre, i, w, h => by
    obtain ⟨k', hk, hne⟩ := h x (by simp)
    simp only [List.cons_append, Instr.findAsking, hk]
    rw [run_bind' _ _ _ _ (heq k k' w)]
    simp only [Ne.symm hne, decide_false, Bool.false_eq_true, if_false]
    rw [asking_hit heq k e post hek pre (i + 1) w fun e he => h e (by simp [he])]
    simp [Nat.add_comm, Nat.add_left_comm]

theorem keyOK_agg {P : Program} {t : TypeId} {d : TypeDesc} {K : Type} [DecidableEq K] {κ : K → Value} (hd : P.underlying t = some d)
    (hnow : ∀ a v, Instr.sameNow d (κ a) v = none)
    (heq : ∀ a b w, (Op.equal t (κ a) (κ b)).run P w = .ok (decide (a = b)) w) (hcheck : ∀ (e : Bool) (k : K) (w : World), (Instr.checkKey e 10000 t (κ k)).run P w = .ok () w)
    (hbits : ∀ k, Instr.sameBits 10000 (κ k) (κ k) = true) : KeyOK P t κ where
  check := hcheck
  bits := hbits
  ne k es w h := by
    unfold Instr.findKey
    rw [run_bind' _ _ _ _ (run_underlying hd w)]
    cases es with
    | nil => simp [Instr.findNow]
    | cons e es => simp only [Instr.findNow, hnow]; exact asking heq k _ 0 w h
  hit k pre e post w h he := by
    unfold Instr.findKey
    rw [run_bind' _ _ _ _ (run_underlying hd w)]
    have : Instr.findNow d (κ k) (pre ++ e :: post) 0 = none := by cases pre <;> simp [Instr.findNow, hnow]
    simp only [this]
    rw [asking_hit heq k e post he pre 0 w h]; simp

/-- keys that are told apart at once (integers, texts) -/
theorem keyOK_now {P : Program} {t : TypeId} {d : TypeDesc} {K : Type} [DecidableEq K] {κ : K → Value} (hd : P.underlying t = some d)
    (hnow : ∀ a b, Instr.sameNow d (κ a) (κ b) = some (decide (a = b)))
    (hcheck : ∀ (e : Bool) (k : K) (w : World), (Instr.checkKey e 10000 t (κ k)).run P w = .ok () w)
    (hbits : ∀ k, Instr.sameBits 10000 (κ k) (κ k) = true) : KeyOK P t κ where
  check := hcheck
  bits := hbits
  ne k es w h := by
    unfold Instr.findKey
    rw [run_bind' _ _ _ _ (run_underlying hd w)]
    have : ∀ (es : List MapEntry) (i : Nat), (∀ e ∈ es, ∃ k', e.key = κ k' ∧ k' ≠ k) → Instr.findNow d (κ k) es i = some none := by
      intro es
      induction es with
      | nil => intros; rfl
      | cons e es ih =>
        intro i h
        obtain ⟨k', hk, hne⟩ := h e (by simp)
        simp only [Instr.findNow, hk, hnow, Ne.symm hne, decide_false]
        exact ih _ fun e he => h e (by simp [he])
    simp only [this es 0 h]
    rfl
  hit k pre e post w h he := by
    unfold Instr.findKey
    rw [run_bind' _ _ _ _ (run_underlying hd w)]
    have : ∀ (pre : List MapEntry) (i : Nat), (∀ e ∈ pre, ∃ k', e.key = κ k' ∧ k' ≠ k) → Instr.findNow d (κ k) (pre ++ e :: post) i = some (some (i + pre.length, e.val)) := by
      intro pre
      induction pre with
      | nil => intro i _; simp [Instr.findNow, he, hnow]
      | cons x pre ih =>
        intro i h
        obtain ⟨k', hk, hne⟩ := h x (by simp)
        simp only [List.cons_append, Instr.findNow, hk, hnow, Ne.symm hne, decide_false]
        rw [ih _ fun e he => h e (by simp [he])]
        simp [Nat.add_comm, Nat.add_left_comm]
    simp only [this pre 0 h, Nat.zero_add]
    rfl

/-- block b is a map that holds the pairs of m -/
structure MapAt (w : World) (b : Nat) {K V : Type} (κ : K → Value) (ν : V → Value) (m : List (K × V)) (es : Array MapEntry) (clock : Nat) : Prop where
  block : w.heap[b]? = some (.map es clock)
  pairs : es.toList.map (fun e => (e.key, e.val)) = m.map (fun p => (κ p.1, ν p.2))
  apart : (m.map (·.1)).Nodup
  born : (es.toList.map (·.born)).Pairwise (· < ·)
  clock : ∀ e ∈ es.toList, e.born < clock

theorem get_none {K V : Type} [DecidableEq K] {m : List (K × V)} {k : K} : get m k = none ↔ ∀ p ∈ m, p.1 ≠ k := by
  induction m with
  | nil => simp [get]
  | cons p m ih => grind [get]
theorem get_some {K V : Type} [DecidableEq K] {m : List (K × V)} {k : K} {v : V} (h : get m k = some v) : ∃ pre post, m = pre ++ (k, v) :: post ∧ ∀ p ∈ pre, p.1 ≠ k := by
  induction m with
  | nil => simp [get] at h
  | cons p m ih =>
    obtain ⟨a, x⟩ := p
    by_cases e : a = k
    · subst e; simp [get] at h; exact ⟨[], m, by simp [h], by simp⟩
    · simp only [get, if_neg e] at h
      obtain ⟨pre, post, rfl, hp⟩ := ih h
      exact ⟨(a, x) :: pre, post, by simp, by grind⟩
theorem set_hit {K V : Type} [DecidableEq K] (pre post : List (K × V)) (k : K) (v u : V) (h : ∀ p ∈ pre, p.1 ≠ k) : set (pre ++ (k, v) :: post) k u = pre ++ (k, u) :: post := by
  induction pre with
  | nil => simp [set]
  | cons p pre ih => grind [set]
theorem set_miss {K V : Type} [DecidableEq K] (m : List (K × V)) (k : K) (u : V) (h : ∀ p ∈ m, p.1 ≠ k) : set m k u = m ++ [(k, u)] := by
  induction m with
  | nil => simp [set]
  | cons p pre ih => grind [set]
theorem set_nodup {K V : Type} [DecidableEq K] {m : List (K × V)} (k : K) (u : V) (h : (m.map (·.1)).Nodup) : ((set m k u).map (·.1)).Nodup := by
  cases e : get m k with
  | none =>
    have := get_none.1 e
    rw [set_miss m k u this]
    simp only [List.map_append, List.map_cons, List.map_nil, List.nodup_append]
    refine ⟨h, by simp, ?_⟩
    simp only [List.mem_map, List.mem_singleton]
    rintro a ⟨p, hp, rfl⟩ b rfl
    exact this p hp
  | some v =>
    obtain ⟨pre, post, rfl, hp⟩ := get_some e
    rw [set_hit pre post k v u hp]
    simpa using h
theorem mem_iff_get {K V : Type} [DecidableEq K] {m : List (K × V)} (h : (m.map (·.1)).Nodup) (k : K) (v : V) : (k, v) ∈ m ↔ get m k = some v := by
  induction m with
  | nil => simp [get]
  | cons p m ih =>
    obtain ⟨a, x⟩ := p
    simp only [List.map_cons, List.nodup_cons, List.mem_map, not_exists, not_and] at h
    have := ih h.2
    simp only [List.mem_cons, Prod.mk.injEq, get]
    by_cases e : a = k
    · subst e
      have : (a, v) ∉ m := fun hm => h.1 _ hm rfl
      simp [this, eq_comm]
    · simp [this, e, Ne.symm e]

section
variable {P : Program} {K V : Type} {κ : K → Value} {ν : V → Value} {m : List (K × V)} {w : World} {b : Nat} {es : Array MapEntry} {clock : Nat} {mt kt et : TypeId}

theorem MapAt.size (h : MapAt w b κ ν m es clock) : es.size = m.length := by
  have := congrArg List.length h.pairs
  simpa using this
theorem MapAt.of_block {w' : World} (h : MapAt w b κ ν m es clock) (hb : w'.heap[b]? = w.heap[b]?) : MapAt w' b κ ν m es clock :=
  ⟨hb.trans h.block, h.pairs, h.apart, h.born, h.clock⟩

variable [DecidableEq K]

theorem MapAt.miss (h : MapAt w b κ ν m es clock) {k : K} (hk : get m k = none) : ∀ e ∈ es.toList, ∃ k', e.key = κ k' ∧ k' ≠ k := by
  intro e he
  have h1 : (e.key, e.val) ∈ m.map (fun p => (κ p.1, ν p.2)) := h.pairs ▸ List.mem_map.2 ⟨e, he, rfl⟩
  obtain ⟨p, hp, hpe⟩ := List.mem_map.1 h1
  exact ⟨p.1, (congrArg Prod.fst hpe).symm, get_none.1 hk p hp⟩

theorem MapAt.hit (h : MapAt w b κ ν m es clock) {k : K} {v : V} (hk : get m k = some v) : ∃ pre e post mpre mpost, es.toList = pre ++ e :: post ∧ m = mpre ++ (k, v) :: mpost ∧
    pre.map (fun e => (e.key, e.val)) = mpre.map (fun p => (κ p.1, ν p.2)) ∧ post.map (fun e => (e.key, e.val)) = mpost.map (fun p => (κ p.1, ν p.2)) ∧
    (∀ e ∈ pre, ∃ k', e.key = κ k' ∧ k' ≠ k) ∧ e.key = κ k ∧ e.val = ν v ∧ ∀ p ∈ mpre, p.1 ≠ k := by
  obtain ⟨mpre, mpost, rfl, hp⟩ := get_some hk
  have h1 := h.pairs
  rw [List.map_append, List.map_cons] at h1
  obtain ⟨pre, rest, he, hpre, hrest⟩ := List.map_eq_append_iff.1 h1
  obtain ⟨e, post, rfl, hev, hpost⟩ := List.map_eq_cons_iff.1 hrest
  refine ⟨pre, e, post, mpre, mpost, he, rfl, hpre, hpost, ?_, (Prod.mk.inj hev).1, (Prod.mk.inj hev).2, hp⟩
  intro x hx
  have h2 : (x.key, x.val) ∈ mpre.map (fun p => (κ p.1, ν p.2)) := hpre ▸ List.mem_map.2 ⟨x, hx, rfl⟩
  obtain ⟨p, hpm, hpe⟩ := List.mem_map.1 h2
  exact ⟨p.1, (congrArg Prod.fst hpe).symm, hp p hpm⟩

theorem MapAt.find (h : MapAt w b κ ν m es clock) (hK : KeyOK P kt κ) (k : K) (w' : World) : ∃ r, (Instr.findKey kt (κ k) es.toList).run P w' = .ok r w' ∧ r.map (·.2) = (get m k).map ν := by
  cases hg : get m k with
  | none => exact ⟨none, hK.ne k _ w' (h.miss hg), rfl⟩
  | some v =>
    obtain ⟨pre, e, post, mpre, mpost, he, -, -, -, hp, hek, hev, -⟩ := h.hit hg
    exact ⟨_, by rw [he]; exact hK.hit k pre e post w' hp hek, by simp [hev]⟩

theorem run_getObj_map (h : w.heap[b]? = some (.map es clock)) : (getObj b).run P w = .ok (.map es clock) w := by
  simp [getObj, Sem.run, h]

/-- a look-up -/
theorem MapAt.look (h : MapAt w b κ ν m es clock) (hK : KeyOK P kt κ) (ht : P.underlying mt = some (.map kt et)) {z : Value} (hz : ∀ w, (zeroValue et).run P w = .ok z w) (k : K) (ok : Bool) :
    (Instr.lookup mt (.map (some b)) (κ k) ok).run P w = .ok (if ok then .tuple #[((get m k).map ν).getD z, .bool (get m k).isSome] else ((get m k).map ν).getD z) w := by
  obtain ⟨r, hr, hv⟩ := h.find hK k w
  unfold Instr.lookup
  rw [run_bind' _ _ _ _ (run_underlying ht w)]
  simp only
  rw [run_bind' _ _ _ _ (run_getObj_map h.block)]
  simp only [pure_bind]
  rw [run_bind' _ _ _ _ (hK.check _ _ _), run_bind' _ _ _ _ hr]
  cases r with
  | none =>
    have hg : get m k = none := by cases hg : get m k <;> simp_all
    simp only
    rw [run_bind' _ _ _ _ (hz w)]
    simp [hg]
  | some p =>
    obtain ⟨v, hg, hpv⟩ : ∃ v, get m k = some v ∧ p.2 = ν v := by cases hg : get m k <;> simp_all
    simp [hg, hpv]

theorem run_setObj {o o' : Obj} (h : w.heap[b]? = some o') (hc : ∀ c t f, o' ≠ .cells c t f) : (setObj b o).run P w = .ok () { w with heap := w.heap.setIfInBounds b o } := by
  unfold setObj
  cases o' <;> simp_all [Sem.run]

/-- block b holds another object -/
def putObj (w : World) (b : Nat) (o : Obj) : World := { w with heap := w.heap.setIfInBounds b o }
theorem putObj_at {o o' : Obj} (h : w.heap[b]? = some o') : (putObj w b o).heap[b]? = some o := by
  have : b < w.heap.size := by
    rcases Nat.lt_or_ge b w.heap.size with h' | h'
    · exact h'
    · simp [Array.getElem?_eq_none h'] at h
  simp [putObj, this]

theorem keyStays (hK : KeyOK P kt κ) (k : K) : (Instr.keyThatStays (κ k) (κ k)).run P w = .ok (κ k) w := by
  simp [Instr.keyThatStays, hK.bits]

theorem MapAt.put_hit (h : MapAt w b κ ν m es clock) {k : K} {v u : V} {pre post : List MapEntry} {e : MapEntry} {mpre mpost : List (K × V)} (he : es.toList = pre ++ e :: post) (hm : m = mpre ++ (k, v) :: mpost)
    (hpre : pre.map (fun e => (e.key, e.val)) = mpre.map (fun p => (κ p.1, ν p.2))) (hpost : post.map (fun e => (e.key, e.val)) = mpost.map (fun p => (κ p.1, ν p.2))) (hn : ∀ p ∈ mpre, p.1 ≠ k)
    {es' : Array MapEntry} (hes : es'.toList = pre ++ { e with key := κ k, val := ν u } :: post) : MapAt (putObj w b (.map es' clock)) b κ ν (set m k u) es' clock := by
  subst hm
  refine ⟨putObj_at h.block, ?_, set_nodup k u h.apart, ?_, ?_⟩
  · rw [set_hit _ _ _ _ _ hn, hes]; simp [hpre, hpost]
  · have := h.born; rw [he] at this; rw [hes]; simpa using this
  · have := h.clock; rw [he] at this; rw [hes]
    intro x hx
    simp only [List.mem_append, List.mem_cons] at hx
    rcases hx with hx | rfl | hx
    · exact this x (by simp [hx])
    · exact this e (by simp)
    · exact this x (by simp [hx])
theorem MapAt.put_miss (h : MapAt w b κ ν m es clock) {k : K} {u : V} (hg : get m k = none) : MapAt (putObj w b (.map (es.push { key := κ k, val := ν u, born := clock }) (clock + 1))) b κ ν (set m k u) (es.push { key := κ k, val := ν u, born := clock }) (clock + 1) := by
  refine ⟨putObj_at h.block, ?_, set_nodup k u h.apart, ?_, ?_⟩
  · rw [set_miss _ _ _ (get_none.1 hg)]; simp [h.pairs]
  · simp only [Array.toList_push, List.map_append, List.map_cons, List.map_nil, List.pairwise_append]
    refine ⟨h.born, by simp, ?_⟩
    simp only [List.mem_map, List.mem_singleton]
    rintro x ⟨e, he, rfl⟩ y rfl
    exact h.clock e he
  · simp only [Array.toList_push, List.mem_append, List.mem_singleton]
    rintro x (hx | rfl)
    · have := h.clock x hx; omega
    · simp

theorem modify_at {pre post : List MapEntry} {e : MapEntry} (he : es.toList = pre ++ e :: post) (f : MapEntry → MapEntry) : (es.modify pre.length f).toList = pre ++ f e :: post := by
  have : es = (pre ++ e :: post).toArray := by rw [← he]
  subst this
  simp only [List.modify_toArray]
  clear he
  induction pre with
  | nil => simp [List.modify_cons]
  | cons x pre ih => simp [ih]
theorem at_len {pre post : List MapEntry} {e : MapEntry} (he : es.toList = pre ++ e :: post) : es[pre.length]? = some e := by
  have : es = (pre ++ e :: post).toArray := by rw [← he]
  subst this
  simp

/-- a store -/
theorem MapAt.update (h : MapAt w b κ ν m es clock) (hK : KeyOK P kt κ) (ht : P.underlying mt = some (.map kt et)) (k : K) (u : V) :
    ∃ es' clock', (Instr.mapUpdate mt (.map (some b)) (κ k) (ν u)).run P w = .ok () (putObj w b (.map es' clock')) ∧ MapAt (putObj w b (.map es' clock')) b κ ν (set m k u) es' clock' := by
  unfold Instr.mapUpdate
  rw [run_bind' _ _ _ _ (run_underlying ht w)]
  simp only
  rw [run_bind' _ _ _ _ (run_getObj_map h.block)]
  simp only
  rw [run_bind' _ _ _ _ (hK.check _ _ _)]
  cases hg : get m k with
  | none =>
    rw [run_bind' _ _ _ _ (hK.ne k _ w (h.miss hg))]
    exact ⟨_, _, run_setObj h.block (by simp), h.put_miss hg⟩
  | some v =>
    obtain ⟨pre, e, post, mpre, mpost, he, hm, hpre, hpost, hp, hek, hev, hn⟩ := h.hit hg
    have hf := hK.hit k pre e post w hp hek
    rw [← he] at hf
    rw [run_bind' _ _ _ _ hf]
    simp only [at_len he, Option.map_some, Option.getD_some, hek]
    rw [run_bind' _ _ _ _ (keyStays hK k)]
    refine ⟨es.modify pre.length (fun e => { e with key := κ k, val := ν u }), clock, run_setObj h.block (by simp), h.put_hit he hm hpre hpost hn ?_⟩
    rw [modify_at he]

end

/-! ### the key types -/
def κint (k : Int) : Value := .int .i64 k
def κs1 (k : Int) : Value := .agg #[.int .i64 k]

theorem beq_dec (a b : Int) : (a == b) = decide (a = b) := by
  by_cases h : a = b <;> simp [h]
theorem check_int {P : Program} {t : TypeId} (ht : P.underlying t = some (.int .i64)) (e : Bool) (k : Int) (w : World) : ∀ n, (Instr.checkKey e (n + 1) t (.int .i64 k)).run P w = .ok () w := fun n => by
  simp [Instr.checkKey, run_underlying ht, Result.andThen]
theorem keyOK_int {P : Program} {t : TypeId} (ht : P.underlying t = some (.int .i64)) : KeyOK P t κint :=
  keyOK_now ht (fun a b => by simp only [Instr.sameNow, κint, if_true, beq_dec]) (fun e k w => check_int ht e k w 9999) (fun k => by show Instr.sameBits (9999 + 1) _ _ = true; simp [Instr.sameBits, κint])
theorem equal_int {P : Program} {t : TypeId} (ht : P.underlying t = some (.int .i64)) (a b : Int) (w : World) : ∀ n, (Op.equalIn (n + 1) t (.int .i64 a) (.int .i64 b)).run P w = .ok (decide (a = b)) w := fun n => by
  simp [Op.equalIn, run_underlying ht, Result.andThen, beq_dec]
theorem isAgg_int {P : Program} {t : TypeId} (ht : P.underlying t = some (.int .i64)) (w : World) : (isAgg t).run P w = .ok false w := by
  simp [isAgg, run_underlying ht, Result.andThen]
theorem part_int {P : Program} {t : TypeId} (ht : P.underlying t = some (.int .i64)) (cs : Array Value) (o : Nat) (v : Value) (h : cs[o]? = some v) (w : World) : (part t cs o).run P w = .ok v w := by
  unfold part
  rw [run_bind' _ _ _ _ (isAgg_int ht w)]
  simp [h]

theorem keyOK_s1 {P : Program} {t : TypeId} {f : Field} (ht : P.underlying t = some (.struct #[f])) (hn : f.name ≠ "_") (ho : f.offset = 0) (hf : P.underlying f.type = some (.int .i64)) (hs : P.stoodInHeld t = false) : KeyOK P t κs1 := by
  refine keyOK_agg ht (fun a v => by cases v <;> simp [Instr.sameNow]) (fun a b w => ?_) (fun e k w => ?_) (fun k => ?_)
  · show (Op.equalIn (9998 + 1 + 1) t (κs1 a) (κs1 b)).run P w = _
    generalize 9998 = n
    unfold Op.equalIn
    rw [run_bind' _ _ _ _ (run_underlying ht w)]
    simp only [κs1, program]
    simp [Sem.run, part_int hf _ _ _ (show (#[Value.int .i64 a] : Array Value)[f.offset]? = some (.int .i64 a) by simp [ho]), part_int hf _ _ _ (show (#[Value.int .i64 b] : Array Value)[f.offset]? = some (.int .i64 b) by simp [ho]), equal_int hf, hn, Result.andThen, hs]
    by_cases h : a = b <;> simp [h]
  · show (Instr.checkKey e (9998 + 1 + 1) t (κs1 k)).run P w = _
    generalize 9998 = n
    unfold Instr.checkKey
    rw [run_bind' _ _ _ _ (run_underlying ht w)]
    simp [κs1, part_int hf _ _ _ (show (#[Value.int .i64 k] : Array Value)[f.offset]? = some (.int .i64 k) by simp [ho]), check_int hf, hn, Result.andThen]
  · show Instr.sameBits (9998 + 1 + 1) _ _ = true
    generalize 9998 = n
    simp [Instr.sameBits, κs1]
end Esch
/- a range over a map that is held as a list of pairs -/
namespace Esch
open Go Go.ChangeMaps Go.MapKept

/-- a walk over the map at b, its iterator at r; 'left' is still to come -/
structure RangeAt (w : World) (b r : Nat) {K V : Type} (κ : K → Value) (ν : V → Value) (m left : List (K × V)) (es : Array MapEntry) (clock since : Nat) (seen : Array Nat) (c0 : Nat) : Prop where
  map : MapAt w b κ ν m es clock
  iter : w.heap[r]? = some (.mapIter (some b) since seen c0)
  old : ∀ x ∈ es.toList, x.born < since
  sc : since ≤ c0
  sk : since ≤ clock
  left : (leftOf es seen).toList.map (fun e => (e.key, e.val)) = left.map (fun p => (κ p.1, ν p.2))
def Ranges (w : World) (b r : Nat) {K V : Type} (κ : K → Value) (ν : V → Value) (m left : List (K × V)) : Prop := ∃ es clock since seen c0, RangeAt w b r κ ν m left es clock since seen c0

section
variable {P : Program} {K V : Type} {κ : K → Value} {ν : V → Value} {m left : List (K × V)} {w w' : World} {b r : Nat}

theorem Ranges.ne (h : Ranges w b r κ ν m left) : r ≠ b := by
  obtain ⟨es, clock, since, seen, c0, h⟩ := h
  intro e
  have h1 := h.iter
  rw [e, h.map.block] at h1
  cases h1
theorem Ranges.of_blocks (h : Ranges w b r κ ν m left) (hb : w'.heap[b]? = w.heap[b]?) (hr : w'.heap[r]? = w.heap[r]?) : Ranges w' b r κ ν m left := by
  obtain ⟨es, clock, since, seen, c0, h⟩ := h
  exact ⟨es, clock, since, seen, c0, h.map.of_block hb, hr.trans h.iter, h.old, h.sc, h.sk, h.left⟩
theorem Ranges.lt (h : Ranges w b r κ ν m left) : b < w.heap.size ∧ r < w.heap.size := by
  obtain ⟨es, clock, since, seen, c0, h⟩ := h
  exact ⟨(Array.getElem?_eq_some_iff.1 h.map.block).1, (Array.getElem?_eq_some_iff.1 h.iter).1⟩
theorem Ranges.left_eq (h : Ranges w b r κ ν m left) : w.rangeLeft b r = left.length := by
  obtain ⟨es, clock, since, seen, c0, h⟩ := h
  simp only [World.rangeLeft, h.map.block, h.iter]
  have := congrArg List.length h.left
  simpa using this
theorem Ranges.walk (h : Ranges w b r κ ν m left) : ∃ o : Obj, w.heap[r]? = some o ∧ o.isWalk = true := by
  obtain ⟨es, clock, since, seen, c0, h⟩ := h
  exact ⟨_, h.iter, rfl⟩
theorem Ranges.of_walks (h : Ranges w b r κ ν m left) (hk : KeepsWalks w w') : Ranges w' b r κ ν m left := by
  obtain ⟨es, clock, since, seen, c0, h⟩ := h
  exact ⟨es, clock, since, seen, c0, ⟨hk.same b _ h.map.block rfl, h.map.pairs, h.map.apart, h.map.born, h.map.clock⟩, hk.same r _ h.iter rfl, h.old, h.sc, h.sk, h.left⟩

theorem filter_born : ∀ (pre post : List MapEntry) (e : MapEntry), ((pre ++ e :: post).map (·.born)).Pairwise (· < ·) → (pre ++ e :: post).filter (fun x => !(x.born == e.born)) = pre ++ post
  | [], post, e, h => by
    simp only [List.nil_append, List.map_cons, List.pairwise_cons, List.mem_map] at h
    simp only [List.nil_append, List.filter_cons, beq_self_eq_true, Bool.not_true, Bool.false_eq_true, if_false]
    rw [List.filter_eq_self]
    intro x hx
    have := h.1 x.born ⟨x, hx, rfl⟩
    simp; omega
  | p :: pre, post, e, h => by
    simp only [List.cons_append, List.map_cons, List.pairwise_cons, List.mem_map] at h
    have h1 := h.1 e.born ⟨e, by simp, rfl⟩
    have : (p.born == e.born) = false := by simp; omega
    simp only [List.cons_append, List.filter_cons, this, Bool.not_false, if_true]
    rw [filter_born pre post e h.2]

/-- the walk begins -/
theorem MapAt.range {mt kt et : TypeId} {es : Array MapEntry} {clock : Nat} (h : MapAt w b κ ν m es clock) (ht : P.underlying mt = some (.map kt et)) :
    ∃ w', (Instr.range mt (.map (some b))).run P w = .ok (.pointer (some ⟨w.heap.size, 0, none⟩)) w' ∧ Ranges w' b w.heap.size κ ν m m ∧ w' = w.alloc (.mapIter (some b) clock #[] clock) := by
  have hlt := (Array.getElem?_eq_some_iff.1 h.block).1
  refine ⟨_, run_range_map w mt kt et b es clock ht h.block, ⟨es, clock, clock, #[], clock, h.of_block ((MapKept.heap_alloc w _).2 b hlt), (MapKept.heap_alloc w _).1, h.clock, Nat.le_refl _, Nat.le_refl _, ?_⟩, rfl⟩
  rw [show leftOf es #[] = es from by simp [leftOf]]
  exact h.pairs

/-- the step -/
theorem Ranges.next (h : Ranges w b r κ ν m left) (ty : TypeId) :
    (left = [] ∧ (Instr.next (.pointer (some ⟨r, 0, none⟩)) false ty).run P w = .ok (.tuple #[.bool false]) w) ∨
    ∃ pre k v post w', left = pre ++ (k, v) :: post ∧ (Instr.next (.pointer (some ⟨r, 0, none⟩)) false ty).run P w = .ok (.tuple #[.bool true, κ k, ν v]) w' ∧ Ranges w' b r κ ν m (pre ++ post) ∧
      w.grownBy w' (some r) ∧ w'.heap.size = w.heap.size ∧ (Instr.entry (.pointer (some ⟨r, 0, none⟩))).run P w' = .ok (.tuple #[κ k, ν v]) w' := by
  have hne := h.ne
  obtain ⟨es, clock, since, seen, c0, h⟩ := h
  rcases run_next_at (P := P) w ty r b since c0 seen es clock h.iter h.map.block h.old h.sc with ⟨h0, hrun⟩ | ⟨e, he, w1, hal, hrun⟩
  · refine Or.inl ⟨?_, hrun⟩
    have h1 := congrArg List.length h.left
    simp only [List.length_map, Array.length_toList, h0] at h1
    exact List.length_eq_zero_iff.1 h1.symm
  · have hem : e ∈ es.toList := (mem_left he).1
    have hr1 : w1.heap[r]? = some (.mapIter (some b) since seen c0) := by rcases hal with rfl | rfl <;> exact h.iter
    have hb1 : w1.heap[b]? = w.heap[b]? := by rcases hal with rfl | rfl <;> rfl
    have hset := heap_set (o' := .mapIter (some b) since (seen.push e.born) clock) hr1
    have hb' : (setBlock w1 r (.mapIter (some b) since (seen.push e.born) clock)).heap[b]? = w.heap[b]? := (hset.2 b (fun e1 => hne e1.symm)).trans hb1
    obtain ⟨pre, post, hL⟩ := List.append_of_mem he
    have h1 := h.left
    rw [hL, List.map_append, List.map_cons] at h1
    obtain ⟨lp, lr, hl, hpre, hrest⟩ := List.map_eq_append_iff.1 h1.symm
    obtain ⟨⟨k, v⟩, lq, rfl, hkv, hpost⟩ := List.map_eq_cons_iff.1 hrest
    obtain ⟨hk, hv⟩ := Prod.mk.inj hkv
    simp only at hk hv
    rw [← hk, ← hv] at hrun
    have hborn : es.toList.map (·.born) |>.Nodup := h.map.born.imp (fun h => Nat.ne_of_lt h)
    have hleft : leftOf es (seen.push e.born) = (leftOf es seen).filter (fun x => !(x.born == e.born)) := by
      unfold leftOf
      rw [Array.filter_filter]
      congr 1
      funext x
      rw [contains_push]
      cases seen.contains x.born <;> cases (x.born == e.born) <;> rfl
    refine Or.inr ⟨lp, k, v, lq, _, hl, hrun, ⟨es, clock, since, seen.push e.born, clock, h.map.of_block hb', hset.1, h.old, h.sk, h.sk, ?_⟩, ?_, ?_, ?_⟩
    · rw [hleft, Array.toList_filter, hL, filter_born pre post e ?_, List.map_append, List.map_append, hpre, hpost]
      rw [← hL]
      have hsub : (leftOf es seen).toList.Sublist es.toList := by unfold leftOf; rw [Array.toList_filter]; exact List.filter_sublist
      exact h.map.born.sublist (hsub.map _)
    · rcases hal with rfl | rfl <;> exact ⟨rfl, rfl, rfl, by simp [setBlock], fun i _ hi => hset.2 i (fun e1 => hi (by rw [e1]))⟩
    · rcases hal with rfl | rfl <;> simp [setBlock]
    · have := run_entry_at (P := P) _ r b since seen es clock e hset.1 (hb'.trans h.map.block) hem hborn
      rw [← hk, ← hv] at this
      exact this

variable {ops : Array Oper} {rest : List Oper} {o : Oper} {a : Act} {Q : Exit → Act → World → Prop}
/-- 'range m' in a plain walk -/
theorem wpList_range_map {es : Array MapEntry} {clock : Nat} (hg : o.guard = none) (mo : Operand) (t : TypeId) (hop : o.op = Op.range t mo) (kt et : TypeId) (ht : P.underlying t = some (.map kt et)) (hm : a.eval mo = .map (some b)) (h : MapAt w b κ ν m es clock)
    (hK : ∀ w', Ranges w' b w.heap.size κ ν m m → w' = w.alloc (.mapIter (some b) clock #[] clock) → wpList P ops Q rest (a.put o.dst (.pointer (some ⟨w.heap.size, 0, none⟩))) w') : wpList P ops Q (o :: rest) a w := by
  refine wpList_plain hg fun K' hK' => ?_
  obtain ⟨w', hrun, r1, r2⟩ := h.range (P := P) ht
  unfold Oper.wp
  simp [execOp, hop, hm, hrun, Result.andThen]
  exact hK' _ _ (hK w' r1 r2)
/-- the step in a plain walk -/
theorem wpList_next_map (hg : o.guard = none) (it : Operand) (hop : o.op = Op.next it false) (hit : a.eval it = .pointer (some ⟨r, 0, none⟩)) (h : Ranges w b r κ ν m left)
    (hDone : left = [] → wpList P ops Q rest (a.put o.dst (.tuple #[.bool false])) w)
    (hMore : ∀ pre k v post w', left = pre ++ (k, v) :: post → Ranges w' b r κ ν m (pre ++ post) → w.grownBy w' (some r) → w'.heap.size = w.heap.size → (Instr.entry (.pointer (some ⟨r, 0, none⟩))).run P w' = .ok (.tuple #[κ k, ν v]) w' →
      wpList P ops Q rest (a.put o.dst (.tuple #[.bool true, κ k, ν v])) w') : wpList P ops Q (o :: rest) a w := by
  refine wpList_plain hg fun K' hK' => ?_
  unfold Oper.wp
  rcases h.next (P := P) o.type with ⟨h0, hrun⟩ | ⟨pre, k, v, post, w', hl, hrun, hR, hg', hs, hen⟩
  · simp [execOp, hop, hit, hrun, Result.andThen]
    exact hK' _ _ (hDone h0)
  · simp [execOp, hop, hit, hrun, Result.andThen]
    exact hK' _ _ (hMore pre k v post w' hl hR hg' hs hen)
end
section
variable {P : Program} {K V : Type} {κ : K → Value} {ν : V → Value} {m left : List (K × V)} {w w' : World} {b r : Nat} {F : Fence} {n : Nat}
variable {ops : Array Oper} {rest : List Oper} {o : Oper} {a : Act} {Q : Exit → Act → World → Prop}
/-- the same inside a fence -/
theorem wpListIn_range_map {es : Array MapEntry} {clock : Nat} (hg : o.guard = none) (mo : Operand) (t : TypeId) (hop : o.op = Op.range t mo) (kt et : TypeId) (ht : P.underlying t = some (.map kt et)) (hm : a.eval mo = .map (some b)) (h : MapAt w b κ ν m es clock)
    (hK : ∀ w', Ranges w' b w.heap.size κ ν m m → w' = w.alloc (.mapIter (some b) clock #[] clock) → wpListIn F n P ops Q rest (a.put o.dst (.pointer (some ⟨w.heap.size, 0, none⟩))) w') : wpListIn F n P ops Q (o :: rest) a w := by
  refine wpListIn_plain hg fun K' hK' => ?_
  obtain ⟨w', hrun, r1, r2⟩ := h.range (P := P) ht
  unfold Oper.wpIn
  refine ⟨by simp [Oper.about, hop], ?_⟩
  rw [Oper.semAt_plain F _ _ (by rw [hop]; intro c hc'; cases hc')]
  simp [execOp, hop, hm, hrun, Result.andThen]
  exact hK' _ _ (hK w' r1 r2)
theorem wpListIn_next_map (hg : o.guard = none) (it : Operand) (hop : o.op = Op.next it false) (hit : a.eval it = .pointer (some ⟨r, 0, none⟩)) (h : Ranges w b r κ ν m left)
    (hDone : left = [] → wpListIn F n P ops Q rest (a.put o.dst (.tuple #[.bool false])) w)
    (hMore : ∀ pre k v post w', left = pre ++ (k, v) :: post → Ranges w' b r κ ν m (pre ++ post) → w.grownBy w' (some r) → w'.heap.size = w.heap.size → (Instr.entry (.pointer (some ⟨r, 0, none⟩))).run P w' = .ok (.tuple #[κ k, ν v]) w' →
      wpListIn F n P ops Q rest (a.put o.dst (.tuple #[.bool true, κ k, ν v])) w') : wpListIn F n P ops Q (o :: rest) a w := by
  refine wpListIn_plain hg fun K' hK' => ?_
  unfold Oper.wpIn
  refine ⟨by simp [Oper.about, hop], ?_⟩
  rw [Oper.semAt_plain F _ _ (by rw [hop]; intro c hc'; cases hc')]
  rcases h.next (P := P) o.type with ⟨h0, hrun⟩ | ⟨pre, k, v, post, w', hl, hrun, hR, hg', hs, hen⟩
  · simp [execOp, hop, hit, hrun, Result.andThen]
    exact hK' _ _ (hDone h0)
  · simp [execOp, hop, hit, hrun, Result.andThen]
    exact hK' _ _ (hMore pre k v post w' hl hR hg' hs hen)
end
end Esch
/- 'm[k] op= v': the entry, then the store -/
namespace Esch
open Go
variable {P : Program} {K V : Type} {κ : K → Value} {ν : V → Value} {m : List (K × V)} {w : World} {b : Nat} {es : Array MapEntry} {clock : Nat} {mt kt et : TypeId} [DecidableEq K]

end Esch
/- What a call may have changed: 'Mod F w w'': of the blocks that were there those of F alone. -/
namespace Esch
open Go Go.RowKit

/-- Of the blocks that were there those of F alone may have changed; the streams are as they were. -/
structure Mod (F : Nat → Prop) (w w' : World) : Prop where
  os : w'.os = w.os
  tape : w'.tape = w.tape
  output : w'.output = w.output
  size : w.heap.size ≤ w'.heap.size
  block : ∀ k, k < w.heap.size → ¬ F k → w'.heap[k]? = w.heap[k]?

def none' : Nat → Prop := fun _ => False
theorem Mod.refl (F : Nat → Prop) (w : World) : Mod F w w := ⟨rfl, rfl, rfl, Nat.le_refl _, fun _ _ _ => rfl⟩
theorem Mod.trans' {F G : Nat → Prop} {a b c : World} (h : Mod F a b) (k : Mod G b c) (hG : ∀ k, k < a.heap.size → G k → F k) : Mod F a c :=
  ⟨k.os.trans h.os, k.tape.trans h.tape, k.output.trans h.output, Nat.le_trans h.size k.size,
    fun i hi hF => (k.block i (Nat.lt_of_lt_of_le hi h.size) (fun hg => hF (hG i hi hg))).trans (h.block i hi hF)⟩
theorem Mod.trans {F : Nat → Prop} {a b c : World} (h : Mod F a b) (k : Mod F b c) : Mod F a c := h.trans' k fun _ _ h => h
theorem Mod.mono {F G : Nat → Prop} {a b : World} (h : Mod F a b) (hG : ∀ k, k < a.heap.size → F k → G k) : Mod G a b :=
  ⟨h.os, h.tape, h.output, h.size, fun i hi hF => h.block i hi fun hf => hF (hG i hi hf)⟩
theorem Mod.of_below {F : Nat → Prop} {w w' : World} (h : Below w.heap.size w w') : Mod F w w' := ⟨h.os, h.tape, h.output, h.size, fun k hk _ => h.block k hk⟩
theorem Mod.below_at {F : Nat → Prop} {w w' : World} {B : Nat} (h : Mod F w w') (hB : B ≤ w.heap.size) (hF : ∀ k, k < B → ¬ F k) : Below B w w' := ⟨h.os, h.tape, h.output, h.size, fun k hk => h.block k (by omega) (hF k hk)⟩
theorem Mod.drew {F : Nat → Prop} {a w : World} (h : Mod F a w) : Mod F a w.drew := ⟨h.os, h.tape, h.output, h.size, h.block⟩
theorem Mod.drewN {F : Nat → Prop} {a w : World} (h : Mod F a w) (n : Nat) : Mod F a (w.drewN n) := ⟨h.os, h.tape, h.output, h.size, h.block⟩
theorem Mod.alloc {F : Nat → Prop} {a w : World} (h : Mod F a w) (o : Obj) : Mod F a (w.alloc o) :=
  h.trans' (G := F) ⟨rfl, rfl, rfl, by simp, fun k hk _ => Below.heap_alloc _ _ _ hk⟩ fun _ _ h => h
theorem Mod.setCell {F : Nat → Prop} {a w : World} (h : Mod F a w) {p : Addr} (hp : p.block < a.heap.size → F p.block) (u : Value) : Mod F a (w.setCell p u) :=
  ⟨h.os, h.tape, h.output, by simpa using h.size, fun k hk hF => (Below.heap_setCell _ _ _ _ (fun e => by subst e; exact hF (hp hk))).trans (h.block k hk hF)⟩
theorem Mod.setCellAt {F : Nat → Prop} {a w : World} (h : Mod F a w) {b o : Nat} (hp : b < a.heap.size → F b) (u : Value) : Mod F a (w.setCell ⟨b, o, none⟩ u) := h.setCell (p := ⟨b, o, none⟩) hp u
theorem putObj_other (w : World) (b : Nat) (o : Obj) (k : Nat) (h : k ≠ b) : (putObj w b o).heap[k]? = w.heap[k]? := by
  simp [putObj, Array.getElem?_setIfInBounds_ne (Ne.symm h)]
@[simp] theorem putObj_size (w : World) (b : Nat) (o : Obj) : (putObj w b o).heap.size = w.heap.size := by simp [putObj]
theorem Mod.putObj {F : Nat → Prop} {a w : World} (h : Mod F a w) {b : Nat} (hp : b < a.heap.size → F b) (o : Obj) : Mod F a (putObj w b o) :=
  ⟨h.os, h.tape, h.output, by simpa using h.size, fun k hk hF => (putObj_other _ _ _ _ (fun e => by subst e; exact hF (hp hk))).trans (h.block k hk hF)⟩
theorem Mod.cell {F : Nat → Prop} {w w' : World} (h : Mod F w w') {p : Addr} (hp : p.block < w.heap.size) (hF : ¬ F p.block) : w'.cell? p = w.cell? p := World.cell?_of_block (w := w) (h.block p.block hp hF)
theorem Mod.frozen {F : Nat → Prop} {w w' : World} (h : Mod F w w') {p : Addr} (hp : p.block < w.heap.size) (hF : ¬ F p.block) : w'.frozen? p = w.frozen? p := World.frozen?_of_block (w := w) (h.block p.block hp hF)
theorem block_lt {w : World} {b : Nat} {o : Obj} (h : w.heap[b]? = some o) : b < w.heap.size := by
  rcases Nat.lt_or_ge b w.heap.size with h' | h'
  · exact h'
  · simp [Array.getElem?_eq_none h'] at h
theorem cell_lt {w : World} {b o : Nat} {v : Value} (h : w.cell? ⟨b, o, none⟩ = some v) : b < w.heap.size := World.block_lt_of_cell? (a := ⟨b, o, none⟩) (h := h)
@[simp] theorem alloc_new (w : World) (o : Obj) : (w.alloc o).heap[w.heap.size]? = some o := by
  show (w.heap.push o)[w.heap.size]? = _
  simp
@[simp] theorem alloc_old (w : World) (o : Obj) (k : Nat) (h : k < w.heap.size) : (w.alloc o).heap[k]? = w.heap[k]? := Below.heap_alloc w o k h
@[simp] theorem drew_heap (w : World) : w.drew.heap = w.heap := rfl
@[simp] theorem cell_alloc_lt (w : World) (ob : Obj) (b o : Nat) (h : b < w.heap.size) : (w.alloc ob).cell? ⟨b, o, none⟩ = w.cell? ⟨b, o, none⟩ := World.cell?_alloc_lt w ob ⟨b, o, none⟩ h
@[simp] theorem frozen_alloc_lt (w : World) (ob : Obj) (b o : Nat) (h : b < w.heap.size) : (w.alloc ob).frozen? ⟨b, o, none⟩ = w.frozen? ⟨b, o, none⟩ := World.frozen?_alloc_old w ob ⟨b, o, none⟩ (Nat.ne_of_lt h)
/-- a region that draws its order, all of whose operations but the last ones only read: one walk, in the order of the text -/
theorem region_tail {P : Program} {id : Nat} {Q : Exit → Act → World → Prop} {a : Act} {w : World} {l : List Oper} (n : Nat) (hm : P.follows .mixedOrders = true) (hB : Region.lexTailB .any l.toArray n = true)
    (h : ∀ (T : List Oper), T = l.drop n → ∀ K : Act → Prop, (∀ a', wpList P l.toArray Q T a' w.drew → K a') → wpStill P l.toArray w.drew K (l.take n) a) : (Code.region id l.toArray true).wp P Q a w :=
  wp_region_still_tail n hm hB (h _ rfl _ fun _ h => h)
theorem Mod.at {F : Nat → Prop} {w w' : World} (h : Mod F w w') {b o : Nat} {v : Value} (hc : w.cell? ⟨b, o, none⟩ = some v) (hF : ¬ F b) : w'.cell? ⟨b, o, none⟩ = some v := (h.cell (p := ⟨b, o, none⟩) (cell_lt hc) hF).trans hc
theorem below_drewN {B : Nat} {w w' : World} (h : Below B w w') (n : Nat) : Below B w (w'.drewN n) := ⟨h.os, h.tape, h.output, h.size, h.block⟩
theorem below_at {B : Nat} {w w' : World} (h : Below B w w') {b o : Nat} {v : Value} (hc : w.cell? ⟨b, o, none⟩ = some v) (hb : b < B) : w'.cell? ⟨b, o, none⟩ = some v := (h.cell (p := ⟨b, o, none⟩) hb).trans hc
@[simp] theorem cell_alloc_lt2 (w : World) (o0 o1 : Obj) (b o : Nat) (h : b < w.heap.size) : ((w.alloc o0).alloc o1).cell? ⟨b, o, none⟩ = w.cell? ⟨b, o, none⟩ :=
  (cell_alloc_lt _ _ b o (by simp only [World.size_alloc]; omega)).trans (cell_alloc_lt w o0 b o h)
@[simp] theorem frozen_alloc_lt2 (w : World) (o0 o1 : Obj) (b o : Nat) (h : b < w.heap.size) : ((w.alloc o0).alloc o1).frozen? ⟨b, o, none⟩ = w.frozen? ⟨b, o, none⟩ :=
  (frozen_alloc_lt _ _ b o (by simp only [World.size_alloc]; omega)).trans (frozen_alloc_lt w o0 b o h)
@[simp] theorem cell_alloc_lt3 (w : World) (o0 o1 o2 : Obj) (b o : Nat) (h : b < w.heap.size) : (((w.alloc o0).alloc o1).alloc o2).cell? ⟨b, o, none⟩ = w.cell? ⟨b, o, none⟩ :=
  (cell_alloc_lt _ _ b o (by simp only [World.size_alloc]; omega)).trans (cell_alloc_lt2 w o0 o1 b o h)
@[simp] theorem frozen_alloc_lt3 (w : World) (o0 o1 o2 : Obj) (b o : Nat) (h : b < w.heap.size) : (((w.alloc o0).alloc o1).alloc o2).frozen? ⟨b, o, none⟩ = w.frozen? ⟨b, o, none⟩ :=
  (frozen_alloc_lt _ _ b o (by simp only [World.size_alloc]; omega)).trans (frozen_alloc_lt2 w o0 o1 b o h)
@[simp] theorem cell_alloc_lt4 (w : World) (o0 o1 o2 o3 : Obj) (b o : Nat) (h : b < w.heap.size) : ((((w.alloc o0).alloc o1).alloc o2).alloc o3).cell? ⟨b, o, none⟩ = w.cell? ⟨b, o, none⟩ :=
  (cell_alloc_lt _ _ b o (by simp only [World.size_alloc]; omega)).trans (cell_alloc_lt3 w o0 o1 o2 b o h)
@[simp] theorem frozen_alloc_lt4 (w : World) (o0 o1 o2 o3 : Obj) (b o : Nat) (h : b < w.heap.size) : ((((w.alloc o0).alloc o1).alloc o2).alloc o3).frozen? ⟨b, o, none⟩ = w.frozen? ⟨b, o, none⟩ :=
  (frozen_alloc_lt _ _ b o (by simp only [World.size_alloc]; omega)).trans (frozen_alloc_lt3 w o0 o1 o2 b o h)
@[simp] theorem cell_alloc_lt5 (w : World) (o0 o1 o2 o3 o4 : Obj) (b o : Nat) (h : b < w.heap.size) : (((((w.alloc o0).alloc o1).alloc o2).alloc o3).alloc o4).cell? ⟨b, o, none⟩ = w.cell? ⟨b, o, none⟩ :=
  (cell_alloc_lt _ _ b o (by simp only [World.size_alloc]; omega)).trans (cell_alloc_lt4 w o0 o1 o2 o3 b o h)
@[simp] theorem frozen_alloc_lt5 (w : World) (o0 o1 o2 o3 o4 : Obj) (b o : Nat) (h : b < w.heap.size) : (((((w.alloc o0).alloc o1).alloc o2).alloc o3).alloc o4).frozen? ⟨b, o, none⟩ = w.frozen? ⟨b, o, none⟩ :=
  (frozen_alloc_lt _ _ b o (by simp only [World.size_alloc]; omega)).trans (frozen_alloc_lt4 w o0 o1 o2 o3 b o h)
@[simp] theorem cell_alloc_lt6 (w : World) (o0 o1 o2 o3 o4 o5 : Obj) (b o : Nat) (h : b < w.heap.size) : ((((((w.alloc o0).alloc o1).alloc o2).alloc o3).alloc o4).alloc o5).cell? ⟨b, o, none⟩ = w.cell? ⟨b, o, none⟩ :=
  (cell_alloc_lt _ _ b o (by simp only [World.size_alloc]; omega)).trans (cell_alloc_lt5 w o0 o1 o2 o3 o4 b o h)
@[simp] theorem frozen_alloc_lt6 (w : World) (o0 o1 o2 o3 o4 o5 : Obj) (b o : Nat) (h : b < w.heap.size) : ((((((w.alloc o0).alloc o1).alloc o2).alloc o3).alloc o4).alloc o5).frozen? ⟨b, o, none⟩ = w.frozen? ⟨b, o, none⟩ :=
  (frozen_alloc_lt _ _ b o (by simp only [World.size_alloc]; omega)).trans (frozen_alloc_lt5 w o0 o1 o2 o3 o4 b o h)
@[simp] theorem cell_alloc_lt7 (w : World) (o0 o1 o2 o3 o4 o5 o6 : Obj) (b o : Nat) (h : b < w.heap.size) : (((((((w.alloc o0).alloc o1).alloc o2).alloc o3).alloc o4).alloc o5).alloc o6).cell? ⟨b, o, none⟩ = w.cell? ⟨b, o, none⟩ :=
  (cell_alloc_lt _ _ b o (by simp only [World.size_alloc]; omega)).trans (cell_alloc_lt6 w o0 o1 o2 o3 o4 o5 b o h)
@[simp] theorem frozen_alloc_lt7 (w : World) (o0 o1 o2 o3 o4 o5 o6 : Obj) (b o : Nat) (h : b < w.heap.size) : (((((((w.alloc o0).alloc o1).alloc o2).alloc o3).alloc o4).alloc o5).alloc o6).frozen? ⟨b, o, none⟩ = w.frozen? ⟨b, o, none⟩ :=
  (frozen_alloc_lt _ _ b o (by simp only [World.size_alloc]; omega)).trans (frozen_alloc_lt6 w o0 o1 o2 o3 o4 o5 b o h)
@[simp] theorem cell_alloc_lt8 (w : World) (o0 o1 o2 o3 o4 o5 o6 o7 : Obj) (b o : Nat) (h : b < w.heap.size) : ((((((((w.alloc o0).alloc o1).alloc o2).alloc o3).alloc o4).alloc o5).alloc o6).alloc o7).cell? ⟨b, o, none⟩ = w.cell? ⟨b, o, none⟩ :=
  (cell_alloc_lt _ _ b o (by simp only [World.size_alloc]; omega)).trans (cell_alloc_lt7 w o0 o1 o2 o3 o4 o5 o6 b o h)
@[simp] theorem frozen_alloc_lt8 (w : World) (o0 o1 o2 o3 o4 o5 o6 o7 : Obj) (b o : Nat) (h : b < w.heap.size) : ((((((((w.alloc o0).alloc o1).alloc o2).alloc o3).alloc o4).alloc o5).alloc o6).alloc o7).frozen? ⟨b, o, none⟩ = w.frozen? ⟨b, o, none⟩ :=
  (frozen_alloc_lt _ _ b o (by simp only [World.size_alloc]; omega)).trans (frozen_alloc_lt7 w o0 o1 o2 o3 o4 o5 o6 b o h)
@[simp] theorem cell_alloc_lt9 (w : World) (o0 o1 o2 o3 o4 o5 o6 o7 o8 : Obj) (b o : Nat) (h : b < w.heap.size) : (((((((((w.alloc o0).alloc o1).alloc o2).alloc o3).alloc o4).alloc o5).alloc o6).alloc o7).alloc o8).cell? ⟨b, o, none⟩ = w.cell? ⟨b, o, none⟩ :=
  (cell_alloc_lt _ _ b o (by simp only [World.size_alloc]; omega)).trans (cell_alloc_lt8 w o0 o1 o2 o3 o4 o5 o6 o7 b o h)
@[simp] theorem frozen_alloc_lt9 (w : World) (o0 o1 o2 o3 o4 o5 o6 o7 o8 : Obj) (b o : Nat) (h : b < w.heap.size) : (((((((((w.alloc o0).alloc o1).alloc o2).alloc o3).alloc o4).alloc o5).alloc o6).alloc o7).alloc o8).frozen? ⟨b, o, none⟩ = w.frozen? ⟨b, o, none⟩ :=
  (frozen_alloc_lt _ _ b o (by simp only [World.size_alloc]; omega)).trans (frozen_alloc_lt8 w o0 o1 o2 o3 o4 o5 o6 o7 b o h)
/-- a chain of steps of which each one changes a block of F, or makes one: the tactic is the argument's default -/
theorem modC {F : Nat → Prop} {a w w' : World} (h0 : Mod F a w) (h : Mod F a w → Mod F a w' := by intro h0; repeat' (first | (with_reducible first | exact h0 | apply Esch.Mod.drew | apply Esch.Mod.drewN | apply Esch.Mod.alloc | apply Esch.Mod.setCellAt) | (intro _; first | rfl | exact Or.inl rfl | exact Or.inr rfl) | (intro h; exfalso; omega))) : Mod F a w' := h h0
theorem belC {B : Nat} {a w w' : World} (h0 : Below B a w) (h : Below B a w → Below B a w' := by intro h0; (repeat (first | with_reducible exact h0 | with_reducible refine Go.RowKit.Below.drew ?_ | with_reducible refine Esch.below_drewN ?_ _ | with_reducible refine Go.RowKit.Below.setCell ?_ (by first | omega | (simp; done) | (simp; omega)) _ | with_reducible refine Go.RowKit.Below.alloc ?_ (by first | omega | (simp; done) | (simp; omega)) _))) : Below B a w' := h h0
/-- an operation that only reads is taken first: its parts are found by the arguments' defaults -/
def opL (ops : Array Oper) (i : Nat) : Oper := (ops[i]?).getD { dst := none, op := .move (.const undef), type := 0, pos := "", after := #[], guard := none }
theorem takeL {P : Program} {ops : Array Oper} {Q : Exit → Act → World → Prop} {md : Region.Mode} {S : World → Prop} (i : Nat) {fuel : Nat} {listed l' : Array Bool} {a a' : Act} {w : World}
    (h : wpAnyH P md ops Q S fuel l' a' w)
    (hx : ∃ v, YieldsIf P ops S (opL ops i) v a ∧ (∀ c b w, Q (.panic c) (b.put (opL ops i).dst v) w → Q (.panic c) b w) ∧ a' = a.put (opL ops i).dst v ∧ l' = listed.setIfInBounds i true := by (simp only [opL, List.getElem?_toArray, List.getElem?_cons_succ, List.getElem?_cons_zero, Option.getD_some]; refine ⟨?_, Or.inl ⟨by rfl, ?_⟩, ?_, ?_, ?_⟩; rotate_left 1; (· intro w hSw; (try dsimp only at hSw); go_simp; try with_reducible rfl); (· exact fun _ _ _ h => h); (· simp only [Act.put, List.setIfInBounds_toArray, List.set_cons_zero, List.set_cons_succ]; rfl); (· rfl)))
    (hS : S w := by assumption) (hs : Region.noSelect ops = true := by kernel_rfl) (hf : Region.free md ops listed i = true := by kernel_rfl) (hr : (Region.ready md ops listed).contains i = true := by kernel_rfl) : wpAnyH P md ops Q S (fuel + 1) listed a w := by
  obtain ⟨v, hy, hQ, rfl, rfl⟩ := hx
  have hm : i ∈ Region.ready md ops listed := by simpa using hr
  obtain ⟨-, oj, hoj, -⟩ := mem_ready.1 hm
  have ho : opL ops i = oj := by unfold opL; rw [hoj]; rfl
  exact wpAnyH_take (oi := opL ops i) (by rw [ho]; exact hoj) hs hf hr hQ hy hS h
/-- an operation that its guard leaves out -/
theorem takeU {P : Program} {ops : Array Oper} {Q : Exit → Act → World → Prop} {md : Region.Mode} {S : World → Prop} (i : Nat) {fuel : Nat} {listed l' : Array Bool} {a a' : Act} {w : World}
    (h : wpAnyH P md ops Q S fuel l' a' w)
    (hx : Region.wanted (opL ops i) (yielded ops a.tmps) = false ∧ (∀ c b w, Q (.panic c) (b.put (opL ops i).dst undef) w → Q (.panic c) b w) ∧ a' = a.put (opL ops i).dst undef ∧ l' = listed.setIfInBounds i true := by (simp only [opL, List.getElem?_toArray, List.getElem?_cons_succ, List.getElem?_cons_zero, Option.getD_some]; refine ⟨by rfl, ?_, ?_, ?_⟩; (· exact fun _ _ _ h => h); (· simp only [Act.put, List.setIfInBounds_toArray, List.set_cons_zero, List.set_cons_succ]; rfl); (· rfl)))
    (hS : S w := by assumption) (hs : Region.noSelect ops = true := by kernel_rfl) (hf : Region.free md ops listed i = true := by kernel_rfl) (hr : (Region.ready md ops listed).contains i = true := by kernel_rfl) : wpAnyH P md ops Q S (fuel + 1) listed a w := by
  obtain ⟨hy, hQ, rfl, rfl⟩ := hx
  have hm : i ∈ Region.ready md ops listed := by simpa using hr
  obtain ⟨-, oj, hoj, -⟩ := mem_ready.1 hm
  have ho : opL ops i = oj := by unfold opL; rw [hoj]; rfl
  exact wpAnyH_take (oi := opL ops i) (by rw [ho]; exact hoj) hs hf hr hQ (Or.inr ⟨hy, rfl⟩) hS h
end Esch
/- rows that grow and are cut: whatever slice whose array is known as far as its capacity reaches -/
namespace Esch
open Go Go.RowKit

theorem tape_setCells (b : Nat) : ∀ (vs : List Value) (o : Nat) (w : World), (w.setCells b o vs).tape = w.tape
  | [], _, _ => rfl
  | v :: r, o, w => by rw [World.setCells, tape_setCells b r]; rfl
theorem size_setCells' (b : Nat) : ∀ (vs : List Value) (o : Nat) (w : World), (w.setCells b o vs).heap.size = w.heap.size
  | [], _, _ => rfl
  | v :: r, o, w => by rw [World.setCells, size_setCells' b r]; simp
theorem Mod.setCells {F : Nat → Prop} {a w : World} (h : Mod F a w) {b : Nat} (hp : b < a.heap.size → F b) (o : Nat) (vs : List Value) : Mod F a (w.setCells b o vs) :=
  ⟨(World.os_setCells _ _ _ _).trans h.os, (tape_setCells _ _ _ _).trans h.tape, (World.output_setCells _ _ _ _).trans h.output, by rw [size_setCells']; exact h.size,
    fun k hk hF => (World.heap_setCells_other w b o vs (Nat.lt_of_lt_of_le hk h.size) (fun e => by subst e; exact hF (hp hk))).trans (h.block k hk hF)⟩
/-- so many elements, as cells xs, in an array of S that is known as far as it reaches -/
structure GRowAt (w : World) (S : Nat → Prop) (size len cap : Nat) (ao : Option Addr) (xs : List Value) : Prop where
  le : len ≤ cap
  max : cap ≤ 9223372036854775807
  xsLen : xs.length = len * size
  at' : 0 < cap → ∃ b off, ao = some ⟨b, off, none⟩ ∧ S b ∧ b < w.heap.size ∧ (∀ j, j < len * size → w.cell? ⟨b, off + j, none⟩ = xs[j]?) ∧ ∀ j, j < cap * size → (w.cell? ⟨b, off + j, none⟩).isSome = true ∧ w.frozen? ⟨b, off + j, none⟩ = false
theorem GRowAt.nil (w : World) (S : Nat → Prop) (size : Nat) (ao : Option Addr) : GRowAt w S size 0 0 ao [] := ⟨Nat.le_refl _, by omega, by simp, fun h => absurd h (by omega)⟩
theorem GRowAt.mod {S F : Nat → Prop} {w w' : World} {size len cap : Nat} {ao : Option Addr} {xs : List Value} (h : GRowAt w S size len cap ao xs) (hM : Mod F w w') (hS : ∀ k, S k → k < w.heap.size → ¬ F k) : GRowAt w' S size len cap ao xs := by
  refine ⟨h.le, h.max, h.xsLen, fun h0 => ?_⟩
  obtain ⟨b, off, e, hb, hl, h1, h2⟩ := h.at' h0
  have hF := hS b hb hl
  refine ⟨b, off, e, hb, Nat.lt_of_lt_of_le hl hM.size, fun j hj => (hM.cell (p := ⟨b, off + j, none⟩) hl hF).trans (h1 j hj), fun j hj => ?_⟩
  rw [hM.cell (p := ⟨b, off + j, none⟩) hl hF, hM.frozen (p := ⟨b, off + j, none⟩) hl hF]
  exact h2 j hj
theorem GRowAt.sub {S T : Nat → Prop} {w : World} {size len cap : Nat} {ao : Option Addr} {xs : List Value} (h : GRowAt w S size len cap ao xs) (hS : ∀ k, k < w.heap.size → S k → T k) : GRowAt w T size len cap ao xs := by
  refine ⟨h.le, h.max, h.xsLen, fun h0 => ?_⟩
  obtain ⟨b, off, e, hb, hl, h1, h2⟩ := h.at' h0
  exact ⟨b, off, e, hS b hl hb, hl, h1, h2⟩
theorem addr_add (b o j : Nat) : (⟨b, o, none⟩ : Addr).add j = ⟨b, o + j, none⟩ := by
  unfold Addr.add
  split
  · rename_i e; subst e; simp
  · rfl
section
variable {P : Program} {w : World} {S : Nat → Prop} {size len cap : Nat} {ao : Option Addr} {xs : List Value}
/-- n elements more -/
theorem run_append_g (t tx ty e : TypeId) (i : TypeInfo) (z : Value) (bytes : Nat) (ht : P.underlying t = some (.slice e)) (hi : P.info? e = some i) (hz : i.zero = some z) (hsize : i.size = size) (hby : i.bytes = bytes) (hzs : z.cells.size = size)
    (h : GRowAt w S size len cap ao xs) (x : Value) (n : Nat) (news : List Value) (hs : Src P size tx x n news w) (h63 : len + n ≤ 9223372036854775807) (hbytes : (len + n) * bytes ≤ 140737488355328) :
    ∃ ao' cap' w', (Builtin.append_ #[t, tx] ty #[.slice ao len cap, x]).run P w = .ok (.slice ao' (len + n) cap') w' ∧ GRowAt w' (fun k => S k ∨ k = w.heap.size) size (len + n) cap' ao' (xs ++ news) ∧ Mod S w w' ∧ w'.heap.size ≤ w.heap.size + 1 := by
  subst hsize
  subst hby
  have hnl := hs.newsLen
  have hxl := h.xsLen
  have hlen' : (xs ++ news).length = (len + n) * i.size := by rw [List.length_append, hxl, hnl, Nat.add_mul]
  by_cases hfit : len + n ≤ cap
  · rcases Nat.eq_zero_or_pos cap with h0 | h0
    · subst h0
      obtain rfl : len = 0 := by omega
      obtain rfl : n = 0 := by omega
      obtain rfl : news = [] := List.length_eq_zero_iff.1 (by simpa using hnl)
      exact ⟨_, _, _, run_append_nothing (P := P) w t tx ty e i ht hi ao 0 0 (Nat.le_refl _) x hs, by simpa using (h.sub (fun _ _ h => Or.inl h)), Mod.refl _ _, by omega⟩
    · obtain ⟨b, off, eo, hb, hl, h1, h2⟩ := h.at' h0
      subst eo
      have hrc : (len + n) * i.size ≤ cap * i.size := Nat.mul_le_mul_right _ hfit
      have hrc' := hrc
      rw [Nat.add_mul] at hrc'
      have hsome : ∀ j, j < news.length → (w.cell? ⟨b, off + len * i.size + j, none⟩).isSome = true := fun j hj => by rw [Nat.add_assoc]; exact (h2 _ (by omega)).1
      have hrun := run_append_room_src (P := P) w t tx ty e i ht hi b off len cap x n news hs hfit hsome (fun j hj => by rw [Nat.add_assoc]; exact (h2 _ (by omega)).2)
      refine ⟨_, _, _, hrun, ⟨hfit, h.max, hlen', fun _ => ⟨b, off, rfl, Or.inl hb, by rw [size_setCells']; exact hl, fun j hj => ?_, fun j hj => ⟨?_, (World.frozen?_setCells b _ _ _ _).trans (h2 j hj).2⟩⟩⟩, (Mod.refl S w).setCells (fun _ => hb) _ _, by rw [size_setCells']; omega⟩
      · rw [Nat.add_mul] at hj
        by_cases hjo : j < len * i.size
        · rw [World.cell?_setCells_out b _ _ _ _ (fun _ _ => Or.inl (by show off + j < off + len * i.size; omega)), List.getElem?_append_left (by omega)]
          exact h1 j hjo
        · have ht' : j - len * i.size < news.length := by omega
          have := World.cell?_setCells_in b news (off + len * i.size) w hsome (j - len * i.size) ht'
          rw [show off + len * i.size + (j - len * i.size) = off + j by omega] at this
          rw [this, List.getElem?_append_right (by omega), hxl, List.getElem?_eq_getElem ht']
      · by_cases hin : len * i.size ≤ j ∧ j < len * i.size + news.length
        · have := World.cell?_setCells_in b news (off + len * i.size) w hsome (j - len * i.size) (by omega)
          rw [show off + len * i.size + (j - len * i.size) = off + j by omega] at this
          rw [this]; rfl
        · rw [World.cell?_setCells_out b _ _ _ _ (fun _ _ => by show off + j < off + len * i.size ∨ off + len * i.size + news.length ≤ off + j; omega)]
          exact (h2 j hj).1
  · have hold : (Builtin.firstCells i.size len (.slice ao len cap)).run P w.drew = .ok xs.toArray w.drew := by
      rcases Nat.eq_zero_or_pos cap with h0 | h0
      · have := h.le
        subst h0
        obtain rfl : len = 0 := by omega
        obtain rfl : xs = [] := List.length_eq_zero_iff.1 (by simpa using hxl)
        cases ao with
        | none => exact run_firstCells_none w.drew i.size 0 0 0
        | some a' => exact run_firstCells_some w.drew i.size 0 a' 0 0 [] (by simp) (by intro _ _ h'; simp at h')
      · obtain ⟨b, off, eo, hb, hl, h1, h2⟩ := h.at' h0
        subst eo
        refine run_firstCells_some w.drew i.size len ⟨b, off, none⟩ len cap xs hxl (fun j u hu => ?_)
        have hj := (List.getElem?_eq_some_iff.1 hu).1
        rw [addr_add]
        exact (h1 j (by omega)).trans hu
    have hg : cap < len + n := by omega
    have hrun := run_append_grow_src (P := P) w t tx ty e i z ht hi hz ao len cap xs hold x n news hs hg (by omega) (growslice_fits hg hbytes)
    have hge := grownCap_ge w (len + n) cap e
    have hcm := grownCap_le_maxLen w (len + n) cap e h63
    have hsz : (((xs ++ news).toArray) ++ Builtin.zeroCells z.cells (grownCap w (len + n) cap e - (len + n))).size = grownCap w (len + n) cap e * i.size := by
      rw [Array.size_append, List.size_toArray, hlen', size_zeroCells, hzs, ← Nat.add_mul]
      congr 1
      omega
    refine ⟨_, _, _, hrun, ⟨hge, hcm, hlen', fun _ => ⟨w.heap.size, 0, rfl, Or.inr rfl, by simp, fun j hj => ?_, fun j hj => ⟨?_, ?_⟩⟩⟩, ((Mod.refl S w).drew).alloc _, by simp⟩
    · have e1 : (w.drew.alloc (.cells (((xs ++ news).toArray) ++ Builtin.zeroCells z.cells (grownCap w (len + n) cap e - (len + n))) e)).cell? ⟨w.heap.size, j, none⟩ = _ := World.cell?_alloc_new w.drew _ _ j
      rw [Nat.zero_add, e1, Array.getElem?_append_left (by simp only [List.size_toArray]; rw [hlen']; exact hj), List.getElem?_toArray]
    · have e1 : (w.drew.alloc (.cells (((xs ++ news).toArray) ++ Builtin.zeroCells z.cells (grownCap w (len + n) cap e - (len + n))) e)).cell? ⟨w.heap.size, j, none⟩ = _ := World.cell?_alloc_new w.drew _ _ j
      rw [Nat.zero_add, e1, Array.getElem?_eq_getElem (by rw [hsz]; exact hj)]
      rfl
    · rw [Nat.zero_add]
      exact World.frozen?_alloc_new w.drew _ _ j
theorem step_append_g {ops : Array Oper} {o : Oper} {a : Act} {K : Act → World → Prop} {Q : Exit → Act → World → Prop} {E : Prop} (hgd : o.guard = none) (s x : Operand) (t tx : TypeId)
    (ho : o.op = .call { callee := .builtin .append, args := #[s, x], argTypes := #[t, tx] }) (e : TypeId) (i : TypeInfo) (z : Value) (bytes : Nat) (ht : P.underlying t = some (.slice e)) (hi : P.info? e = some i) (hz : i.zero = some z) (hsize : i.size = size) (hby : i.bytes = bytes) (hzs : z.cells.size = size)
    (hv : a.eval s = .slice ao len cap) (h : GRowAt w S size len cap ao xs) (xv : Value) (n : Nat) (news : List Value) (hx : a.eval x = xv) (hs : Src P size tx xv n news w) (h63 : len + n ≤ 9223372036854775807) (hbytes : (len + n) * bytes ≤ 140737488355328)
    (hK : ∀ ao' cap' w', GRowAt w' (fun k => S k ∨ k = w.heap.size) size (len + n) cap' ao' (xs ++ news) → Mod S w w' → w'.heap.size ≤ w.heap.size + 1 → K (a.put o.dst (.slice ao' (len + n) cap')) w') :
    if Region.wanted o (yielded ops a.tmps) = true then Oper.wp P o a w K Q else E := by
  have hw : Region.wanted o (yielded ops a.tmps) = true := by simp [Region.wanted, hgd]
  rw [if_pos hw]
  obtain ⟨ao', cap', w', hr, h1, h2, h3⟩ := run_append_g (P := P) t tx o.type e i z bytes ht hi hz hsize hby hzs h xv n news hs h63 hbytes
  unfold Oper.wp execOp
  simp only [ho, resolve, invoke, builtin, Sem.run_bind, Sem.run_pure, Result.andThen_ok, List.map_toArray, List.map_cons, List.map_nil, hv, hx, hr]
  exact hK ao' cap' w' h1 h2 h3
theorem wpList_append_g {ops : Array Oper} {rest : List Oper} {o : Oper} {a : Act} {Q : Exit → Act → World → Prop} (hgd : o.guard = none) (s x : Operand) (t tx : TypeId)
    (ho : o.op = .call { callee := .builtin .append, args := #[s, x], argTypes := #[t, tx] }) (e : TypeId) (i : TypeInfo) (z : Value) (bytes : Nat) (ht : P.underlying t = some (.slice e)) (hi : P.info? e = some i) (hz : i.zero = some z) (hsize : i.size = size) (hby : i.bytes = bytes) (hzs : z.cells.size = size)
    (hv : a.eval s = .slice ao len cap) (h : GRowAt w S size len cap ao xs) (xv : Value) (n : Nat) (news : List Value) (hx : a.eval x = xv) (hs : Src P size tx xv n news w) (h63 : len + n ≤ 9223372036854775807) (hbytes : (len + n) * bytes ≤ 140737488355328)
    (hK : ∀ ao' cap' w', GRowAt w' (fun k => S k ∨ k = w.heap.size) size (len + n) cap' ao' (xs ++ news) → Mod S w w' → w'.heap.size ≤ w.heap.size + 1 → wpList P ops Q rest (a.put o.dst (.slice ao' (len + n) cap')) w') :
    wpList P ops Q (o :: rest) a w := by
  refine wpList_plain hgd fun K hK' => ?_
  obtain ⟨ao', cap', w', hr, h1, h2, h3⟩ := run_append_g (P := P) t tx o.type e i z bytes ht hi hz hsize hby hzs h xv n news hs h63 hbytes
  unfold Oper.wp execOp
  simp only [ho, resolve, invoke, builtin, Sem.run_bind, Sem.run_pure, Result.andThen_ok, List.map_toArray, List.map_cons, List.map_nil, hv, hx, hr]
  exact hK' _ _ (hK ao' cap' w' h1 h2 h3)
end
end Esch
/- rows that are read: slices of elements whose cells are known -/
namespace Esch
open Go Go.RowKit

/-- so many elements, as cells xs, in an array of S -/
structure RwAt (w : World) (S : Nat → Prop) (size len : Nat) (ao : Option Addr) (xs : List Value) : Prop where
  xsLen : xs.length = len * size
  at' : 0 < len → ∃ b off, ao = some ⟨b, off, none⟩ ∧ S b ∧ b < w.heap.size ∧ ∀ j, j < len * size → w.cell? ⟨b, off + j, none⟩ = xs[j]?
theorem RwAt.nil (w : World) (S : Nat → Prop) (size : Nat) (ao : Option Addr) : RwAt w S size 0 ao [] := ⟨by simp, fun h => absurd h (by omega)⟩
theorem RwAt.mod {S F : Nat → Prop} {w w' : World} {size len : Nat} {ao : Option Addr} {xs : List Value} (h : RwAt w S size len ao xs) (hM : Mod F w w') (hS : ∀ k, S k → k < w.heap.size → ¬ F k) : RwAt w' S size len ao xs := by
  refine ⟨h.xsLen, fun h0 => ?_⟩
  obtain ⟨b, off, e, hb, hl, h1⟩ := h.at' h0
  exact ⟨b, off, e, hb, Nat.lt_of_lt_of_le hl hM.size, fun j hj => (hM.cell (p := ⟨b, off + j, none⟩) hl (hS b hb hl)).trans (h1 j hj)⟩
theorem RwAt.below' {S : Nat → Prop} {w w' : World} {size len : Nat} {ao : Option Addr} {xs : List Value} (h : RwAt w S size len ao xs) (hB : Below w.heap.size w w') : RwAt w' S size len ao xs := h.mod (F := none') (Mod.of_below hB) fun _ _ _ => id
theorem RwAt.sub {S T : Nat → Prop} {w : World} {size len : Nat} {ao : Option Addr} {xs : List Value} (h : RwAt w S size len ao xs) (hS : ∀ k, k < w.heap.size → S k → T k) : RwAt w T size len ao xs := by
  refine ⟨h.xsLen, fun h0 => ?_⟩
  obtain ⟨b, off, e, hb, hl, h1⟩ := h.at' h0
  exact ⟨b, off, e, hS b hl hb, hl, h1⟩
theorem GRowAt.row {S : Nat → Prop} {w : World} {size len cap : Nat} {ao : Option Addr} {xs : List Value} (h : GRowAt w S size len cap ao xs) : RwAt w S size len ao xs := by
  refine ⟨h.xsLen, fun h0 => ?_⟩
  obtain ⟨b, off, e, hb, hl, h1, -⟩ := h.at' (Nat.lt_of_lt_of_le h0 h.le)
  exact ⟨b, off, e, hb, hl, h1⟩
theorem RwAt.src {P : Program} {S : Nat → Prop} {w : World} {size len : Nat} {ao : Option Addr} {xs : List Value} (h : RwAt w S size len ao xs) {tx e' : TypeId} (hk : P.underlying tx = some (.slice e')) (h1 : ∀ u ∈ xs, u.oneCell' = true) (cap : Nat) (hc : len = 0 → ao = none → cap = 0) : Src P size tx (.slice ao len cap) len xs w := by
  rcases Nat.eq_zero_or_pos len with h0 | h0
  · subst h0
    have hx := h.xsLen
    obtain rfl : xs = [] := List.length_eq_zero_iff.1 (by simpa using hx)
    cases ao with
    | none => obtain rfl := hc rfl rfl; exact Src.ofNil w hk 0
    | some a => exact Src.ofSlice w hk a 0 cap [] (by simp) (by simp) h1
  · obtain ⟨b, off, e, hb, hl, h2⟩ := h.at' h0
    subst e
    refine Src.ofSlice w hk _ len cap xs h.xsLen (fun j u hu => ?_) h1
    have hj := (List.getElem?_eq_some_iff.1 hu).1
    rw [addr_add, h2 j (by rw [← h.xsLen]; exact hj), hu]
section
variable {α : Type} {n : Nat} {f : α → List Value}
theorem flat_len (hf : ∀ x, (f x).length = n) : ∀ l : List α, (l.flatMap f).length = l.length * n
  | [] => by simp
  | a :: l => by
    rw [List.flatMap_cons, List.length_append, hf, flat_len hf l, List.length_cons, Nat.succ_mul, Nat.add_comm]
theorem flat_at (hf : ∀ x, (f x).length = n) (d : α) : ∀ (l : List α) (i j : Nat), i < l.length → j < n → (l.flatMap f)[i * n + j]? = (f (l.getD i d))[j]?
  | [], i, _, hi, _ => absurd hi (by simp)
  | a :: l, 0, j, _, hj => by
    rw [List.flatMap_cons, Nat.zero_mul, Nat.zero_add, List.getElem?_append_left (by rw [hf]; exact hj)]
    rfl
  | a :: l, i + 1, j, hi, hj => by
    rw [List.flatMap_cons, List.getElem?_append_right (by rw [hf, Nat.succ_mul]; omega), hf, show (i + 1) * n + j - n = i * n + j by rw [Nat.succ_mul]; omega]
    exact flat_at hf d l i j (by simpa using hi) hj
theorem RwAt.elem {w : World} {S : Nat → Prop} {l : List α} {ao : Option Addr} (hf : ∀ x, (f x).length = n) (h : RwAt w S n l.length ao (l.flatMap f)) (d : α) {i : Nat} (hi : i < l.length) :
    ∃ b off, ao = some ⟨b, off, none⟩ ∧ S b ∧ b < w.heap.size ∧ ∀ j, j < n → w.cell? ⟨b, off + i * n + j, none⟩ = (f (l.getD i d))[j]? := by
  obtain ⟨b, off, e, hb, hl, h1⟩ := h.at' (by omega)
  refine ⟨b, off, e, hb, hl, fun j hj => ?_⟩
  have h2 : i * n + j < l.length * n := by
    have : (i + 1) * n ≤ l.length * n := Nat.mul_le_mul_right _ hi
    rw [Nat.succ_mul] at this
    omega
  rw [Nat.add_assoc, h1 _ h2, flat_at hf d l i j hi hj]
end
theorem take_one {α : Type} (l : List α) (d : α) {i : Nat} (hi : i < l.length) : l.take (i + 1) = l.take i ++ [l.getD i d] := by
  rw [List.take_succ_eq_append_getElem hi, List.getD_eq_getElem?_getD, List.getElem?_eq_getElem hi]; rfl
/-- a part of a file -/
structure PtS where
  off : Int
  len : Int
  addr : Int
  at' : Int
deriving DecidableEq
instance : Inhabited PtS := ⟨⟨0, 0, 0, 0⟩⟩
def ptC (p : PtS) : List Value := [.int .i64 p.off, .int .i64 p.len, .int .i64 p.addr, .int .i64 p.at']
theorem ptC_len (p : PtS) : (ptC p).length = 4 := rfl
abbrev PtsAt (w : World) (S : Nat → Prop) (a : Option Addr) (l : List PtS) : Prop := RwAt w S 4 l.length a (l.flatMap ptC)
theorem ptC_one (l : List PtS) : ∀ u ∈ l.flatMap ptC, u.oneCell' = true := fun u hu => by
  obtain ⟨p, -, hp⟩ := List.mem_flatMap.1 hu
  simp only [ptC, List.mem_cons, List.not_mem_nil, or_false] at hp
  rcases hp with rfl | rfl | rfl | rfl <;> rfl
end Esch
/- a region that draws its order, with one operation (a store that comes last) behind which the condition on the world need not hold any more -/
namespace Esch
open Go

section
variable {P : Program} {ops : Array Oper} {Q : Exit → Act → World → Prop} {md : Region.Mode} {S : World → Prop} {z : Nat}
/-- as wpAnyH, but behind operation z nothing is asked of the world -/
def anyX (P : Program) (md : Region.Mode) (ops : Array Oper) (Q : Exit → Act → World → Prop) (S : World → Prop) (z : Nat) : Nat → Array Bool → Act → World → Prop
  | 0, ls, a, w => Region.ready md ops ls = [] ∧ Q .normal a w
  | n + 1, ls, a, w => (Region.ready md ops ls = [] → Q .normal a w) ∧ ∀ j ∈ Region.ready md ops ls, wpOp P ops Q j (fun b u => (j ≠ z → S u) ∧ anyX P md ops Q S z n (ls.setIfInBounds j true) b u) a w
theorem anyX_any : ∀ {n : Nat} {ls : Array Bool} {a : Act} {w : World}, anyX P md ops Q S z n ls a w → wpAny P md ops Q n ls a w
  | 0, _, _, _, h => h
  | _ + 1, _, _, _, h => ⟨h.1, fun j hj => wpOp_mono (fun _ _ h' => anyX_any h'.2) (h.2 j hj)⟩
/-- does operation z wait for operation i? -/
def waitsB (md : Region.Mode) (ops : Array Oper) (z i : Nat) : Bool := match ops[z]? with
  | some o => o.after.any fun e => Region.binds md e && e.on == i
  | none => false
theorem waits_spec {i : Nat} (h : waitsB md ops z i = true) : ∃ o, ops[z]? = some o ∧ ∃ e ∈ o.after, Region.binds md e = true ∧ e.on = i := by
  unfold waitsB at h
  cases ho : ops[z]? with
  | none => rw [ho] at h; cases h
  | some o =>
    rw [ho] at h
    simp only [Array.any_eq_true', Bool.and_eq_true, beq_iff_eq] at h
    obtain ⟨e, he, h1, h2⟩ := h
    exact ⟨o, rfl, e, he, h1, h2⟩
theorem anyX_one {i : Nat} {oi : Oper} {v : Value} (hoi : ops[i]? = some oi) (hns : Region.noSelect ops = true) (hz : waitsB md ops z i = true) (hzi : i ≠ z)
    (hQ : ∀ c b u, Q (.panic c) (b.put oi.dst v) u → Q (.panic c) b u) : ∀ (n : Nat) (ls : Array Bool) (a : Act) (w : World),
    (∀ k ok, ops[k]? = some ok → k ≠ i → ls.getD k true = false → (∀ e ∈ ok.after, Region.binds md e = true → e.on ≠ i) → oi.apart ops ok = true) →
    i ∈ Region.ready md ops ls → YieldsIf P ops S oi v a → S w → anyX P md ops Q S z n (ls.setIfInBounds i true) (a.put oi.dst v) w → anyX P md ops Q S z (n + 1) ls a w := by
  have hsel := Region.noSelect_spec hns
  have hlast : ∀ (ls : Array Bool) (a : Act) (w : World) (n : Nat), i ∈ Region.ready md ops ls → YieldsIf P ops S oi v a → S w → anyX P md ops Q S z n (ls.setIfInBounds i true) (a.put oi.dst v) w →
      wpOp P ops Q i (fun b u => (i ≠ z → S u) ∧ anyX P md ops Q S z n (ls.setIfInBounds i true) b u) a w := fun ls a w n _ hy hS H => hy.wpOp hoi hS ⟨fun _ => hS, H⟩
  intro n
  induction n with
  | zero =>
    intro ls a w _ hr hy hS H
    refine ⟨fun h => absurd hr (by rw [h]; simp), fun j hj => ?_⟩
    rcases Classical.em (j = i) with rfl | hji
    · exact hlast ls a w 0 hr hy hS H
    · exact absurd (ready_mono hj hji) (by rw [H.1]; simp)
  | succ n ih =>
    intro ls a w hfree hr hy hS H
    refine ⟨fun h => absurd hr (by rw [h]; simp), fun j hj => ?_⟩
    rcases Classical.em (j = i) with rfl | hji
    · exact hlast ls a w (n + 1) hr hy hS H
    · obtain ⟨hjl, oj, hoj, hall⟩ := mem_ready.1 hj
      have hil : ls.getD i false = false := by
        have h0 := (mem_ready.1 hr).1
        rcases Nat.lt_or_ge i ls.size with h' | h'
        · simpa [h'] using h0
        · simp [Array.getElem?_eq_none h'] at h0
      have hno : ∀ e ∈ oj.after, Region.binds md e = true → e.on ≠ i := fun e he hb heq => by
        have := hall e he hb
        rw [heq, hil] at this
        cases this
      have hjz : j ≠ z := fun e => by
        obtain ⟨o, ho, x, hx, hb, hon⟩ := waits_spec hz
        rw [← e, hoj] at ho
        cases ho
        exact hno x hx hb hon
      have h1 := H.2 j (ready_mono hj hji)
      have h2 := wpOp_putIf hoj (hfree j oj hoj hji hjl hno) (fun cs b => hsel i oi cs b hoi) (fun cs b => hsel j oj cs b hoj) hQ hy h1
      have hfree2 : ∀ k ok, ops[k]? = some ok → k ≠ i → (ls.setIfInBounds j true).getD k true = false → (∀ e ∈ ok.after, Region.binds md e = true → e.on ≠ i) → oi.apart ops ok = true := fun k ok hk hki hun hkn => by
        refine hfree k ok hk hki ?_ hkn
        rcases Classical.em (j = k) with rfl | hjk
        · exact hjl
        · rwa [getD_set_ne true hjk] at hun
      refine wpOp_mono (fun b u h3 => ⟨fun _ => h3.2.1 hjz, ih (ls.setIfInBounds j true) b u hfree2 (ready_mono hr (Ne.symm hji)) h3.1 (h3.2.1 hjz) ?_⟩) h2
      rw [Array.setIfInBounds_comm _ _ hji]
      exact h3.2.2
/-- the next is a loading one: it is taken first; its parts are found by the arguments' defaults -/
theorem takeX (i : Nat) {n : Nat} {ls l' : Array Bool} {a a' : Act} {w : World} (h : anyX P md ops Q S z n l' a' w)
    (hx : ∃ v, YieldsIf P ops S (opL ops i) v a ∧ (∀ c b u, Q (.panic c) (b.put (opL ops i).dst v) u → Q (.panic c) b u) ∧ a' = a.put (opL ops i).dst v ∧ l' = ls.setIfInBounds i true := by (simp only [opL, List.getElem?_toArray, List.getElem?_cons_succ, List.getElem?_cons_zero, Option.getD_some]; refine ⟨?_, Or.inl ⟨by rfl, ?_⟩, ?_, ?_, ?_⟩; rotate_left 1; (· intro w hSw; (try dsimp only at hSw); go_simp; try with_reducible rfl); (· exact fun _ _ _ h => h); (· simp only [Act.put, List.setIfInBounds_toArray, List.set_cons_zero, List.set_cons_succ]; rfl); (· rfl)))
    (hS : S w := by assumption) (hzi : i ≠ z := by decide) (hz : waitsB md ops z i = true := by kernel_rfl) (hs : Region.noSelect ops = true := by kernel_rfl) (hf : Region.free md ops ls i = true := by kernel_rfl) (hr : (Region.ready md ops ls).contains i = true := by kernel_rfl) : anyX P md ops Q S z (n + 1) ls a w := by
  obtain ⟨v, hy, hQ, rfl, rfl⟩ := hx
  have hm : i ∈ Region.ready md ops ls := by simpa using hr
  obtain ⟨-, oj, hoj, -⟩ := mem_ready.1 hm
  have ho : opL ops i = oj := by unfold opL; rw [hoj]; rfl
  rw [ho] at hy hQ h
  exact anyX_one hoj hs hz hzi hQ n ls a w (Region.free_spec hoj hf) hm hy hS h
theorem anyX_ready {rs : List Nat} {n : Nat} {ls : Array Bool} {a : Act} {w : World} (hr : Region.ready md ops ls = rs) (hne : rs ≠ [])
    (h : ∀ j ∈ rs, wpOp P ops Q j (fun b u => (j ≠ z → S u) ∧ anyX P md ops Q S z n (ls.setIfInBounds j true) b u) a w) : anyX P md ops Q S z (n + 1) ls a w := ⟨fun h0 => absurd (hr ▸ h0) hne, hr ▸ h⟩
theorem anyX_nil {n : Nat} {ls : Array Bool} {a : Act} {w : World} : ∀ j ∈ ([] : List Nat), wpOp P ops Q j (fun b u => (j ≠ z → S u) ∧ anyX P md ops Q S z n (ls.setIfInBounds j true) b u) a w := fun _ h => by cases h
/-- one that comes up next and is carried out -/
theorem anyX_cons {i n : Nat} {ls : Array Bool} {a : Act} {w : World} {rs : List Nat} {o : Oper} (ho : ops[i]? = some o)
    (h : ∀ K' : Act → World → Prop, Shut (∀ b u, S u → (S u → anyX P md ops Q S z n (ls.setIfInBounds i true) b u) → K' b u) → if Region.wanted o (yielded ops a.tmps) = true then Oper.wp P o a w K' Q else K' (a.put o.dst undef) w)
    (hs : ∀ j ∈ rs, wpOp P ops Q j (fun b u => (j ≠ z → S u) ∧ anyX P md ops Q S z n (ls.setIfInBounds j true) b u) a w) :
    ∀ j ∈ i :: rs, wpOp P ops Q j (fun b u => (j ≠ z → S u) ∧ anyX P md ops Q S z n (ls.setIfInBounds j true) b u) a w := fun j hj => by
  rcases List.mem_cons.1 hj with rfl | hj
  · exact wpOp_step ho fun K' hK => h K' (fun b u h1 h2 => hK b u ⟨fun _ => h1, h2 h1⟩)
  · exact hs j hj
/-- the last one -/
theorem anyX_last {n : Nat} {ls : Array Bool} {a : Act} {w : World} {o : Oper} (ho : ops[z]? = some o)
    (h : ∀ K' : Act → World → Prop, Shut (∀ b u, anyX P md ops Q S z n (ls.setIfInBounds z true) b u → K' b u) → if Region.wanted o (yielded ops a.tmps) = true then Oper.wp P o a w K' Q else K' (a.put o.dst undef) w) :
    ∀ j ∈ [z], wpOp P ops Q j (fun b u => (j ≠ z → S u) ∧ anyX P md ops Q S z n (ls.setIfInBounds j true) b u) a w := fun j hj => by
  rw [List.mem_singleton] at hj
  subst hj
  exact wpOp_step ho fun K' hK => h K' (fun b u h1 => hK b u ⟨fun e => absurd rfl e, h1⟩)
theorem anyX_done {ls : Array Bool} {a : Act} {w : World} (hr : Region.ready md ops ls = []) (h : Q .normal a w) : ∀ n, anyX P md ops Q S z n ls a w
  | 0 => ⟨hr, h⟩
  | _ + 1 => ⟨fun _ => h, by rw [hr]; simp⟩
theorem anyX_begin {id : Nat} {a : Act} {w : World} (z : Nat) (S : World → Prop) (hm : P.follows .mixedOrders = true) (hS : S w.drew)
    (h : S w.drew → anyX P .any ops Q S z ops.size (Array.replicate ops.size false) a w.drew) : (Code.region id ops true).wp P Q a w := wp_region_any hm (anyX_any (h hS))
end
end Esch
