import Derived.WalkKit
import Derived.WalkSpells
/- Maps whose keys and elements are encoded by functions of their own: what a look-up, a store, a deletion do to a map that is held as a list of pairs. -/
namespace Esch
open Go

def get {K V : Type} [DecidableEq K] : List (K × V) → K → Option V
  | [], _ => none
  | (k', v) :: m, k => if k' = k then some v else get m k
def set {K V : Type} [DecidableEq K] : List (K × V) → K → V → List (K × V)
  | [], k, v => [(k, v)]
  | (k', v') :: m, k, v => if k' = k then (k, v) :: m else (k', v') :: set m k v

theorem get_set {K V : Type} [DecidableEq K] (m : List (K × V)) (k k' : K) (v : V) : get (set m k v) k' = if k = k' then some v else get m k' := by
  induction m with
  | nil => simp [set, get]
  | cons p m ih => grind [set, get]

/-- a key type whose keys are the images of κ: told apart as they are, by no look at the world -/
structure KeyOK (P : Program) (t : TypeId) {K : Type} [DecidableEq K] (κ : K → Value) : Prop where
  check : ∀ (e : Bool) (k : K) (w : World), (Instr.checkKey e 10000 t (κ k)).run P w = .ok () w
  ne : ∀ (k : K) (es : List MapEntry) (w : World), (∀ e ∈ es, ∃ k', e.key = κ k' ∧ k' ≠ k) → (Instr.findKey t (κ k) es).run P w = .ok none w
  hit : ∀ (k : K) (pre : List MapEntry) (e : MapEntry) (post : List MapEntry) (w : World), (∀ e ∈ pre, ∃ k', e.key = κ k' ∧ k' ≠ k) → e.key = κ k →
    (Instr.findKey t (κ k) (pre ++ e :: post)).run P w = .ok (some (pre.length, e.val)) w
  bits : ∀ k, Instr.sameBits 10000 (κ k) (κ k) = true

theorem run_bind' {α β : Type} (s : Sem α) (f : α → Sem β) (P : Program) (w : World) {a : α} {w' : World} (h : s.run P w = .ok a w') : (s >>= f).run P w = (f a).run P w' := by
  simp [h, Result.andThen]

theorem asking {P : Program} {t : TypeId} {K : Type} [DecidableEq K] {κ : K → Value} (heq : ∀ a b w, (Op.equal t (κ a) (κ b)).run P w = .ok (decide (a = b)) w) (k : K) :
    ∀ (es : List MapEntry) (i : Nat) (w : World), (∀ e ∈ es, ∃ k', e.key = κ k' ∧ k' ≠ k) → (Instr.findAsking t (κ k) es i).run P w = .ok none w
  | [], i, w, _ => by simp [Instr.findAsking]
  | e :: es, i, w, h => by
    obtain ⟨k', hk, hne⟩ := h e (by simp)
    simp only [Instr.findAsking, hk]
    rw [run_bind' _ _ _ _ (heq k k' w)]
    simp only [Ne.symm hne, decide_false, Bool.false_eq_true, if_false]
    exact asking heq k es (i + 1) w fun e he => h e (by simp [he])

theorem asking_hit {P : Program} {t : TypeId} {K : Type} [DecidableEq K] {κ : K → Value} (heq : ∀ a b w, (Op.equal t (κ a) (κ b)).run P w = .ok (decide (a = b)) w) (k : K) (e : MapEntry) (post : List MapEntry) (hek : e.key = κ k) :
    ∀ (pre : List MapEntry) (i : Nat) (w : World), (∀ e ∈ pre, ∃ k', e.key = κ k' ∧ k' ≠ k) → (Instr.findAsking t (κ k) (pre ++ e :: post) i).run P w = .ok (some (i + pre.length, e.val)) w
  | [], i, w, _ => by
    simp only [List.nil_append, Instr.findAsking, hek]
    rw [run_bind' _ _ _ _ (heq k k w)]
    simp
  | x :: pre, i, w, h => by
    obtain ⟨k', hk, hne⟩ := h x (by simp)
    simp only [List.cons_append, Instr.findAsking, hk]
    rw [run_bind' _ _ _ _ (heq k k' w)]
    simp only [Ne.symm hne, decide_false, Bool.false_eq_true, if_false]
    rw [asking_hit heq k e post hek pre (i + 1) w fun e he => h e (by simp [he])]
    simp [Nat.add_comm, Nat.add_left_comm]

theorem keyOK_agg {P : Program} {t : TypeId} {d : TypeDesc} {K : Type} [DecidableEq K] {κ : K → Value} (hd : P.underlying t = some d)
    (hnow : ∀ a v, Instr.sameNow d (κ a) v = none)
    (heq : ∀ a b w, (Op.equal t (κ a) (κ b)).run P w = .ok (decide (a = b)) w) (hcheck : ∀ (e : Bool) (k : K) (w : World), (Instr.checkKey e 10000 t (κ k)).run P w = .ok () w)
    (hbits : ∀ k, Instr.sameBits 10000 (κ k) (κ k) = true) : KeyOK P t κ where
  check := hcheck
  bits := hbits
  ne k es w h := by
    unfold Instr.findKey
    rw [run_bind' _ _ _ _ (run_underlying hd w)]
    cases es with
    | nil => simp [Instr.findNow]
    | cons e es => simp only [Instr.findNow, hnow]; exact asking heq k _ 0 w h
  hit k pre e post w h he := by
    unfold Instr.findKey
    rw [run_bind' _ _ _ _ (run_underlying hd w)]
    have : Instr.findNow d (κ k) (pre ++ e :: post) 0 = none := by cases pre <;> simp [Instr.findNow, hnow]
    simp only [this]
    rw [asking_hit heq k e post he pre 0 w h]; simp

/-- keys that are told apart at once (integers, texts) -/
theorem keyOK_now {P : Program} {t : TypeId} {d : TypeDesc} {K : Type} [DecidableEq K] {κ : K → Value} (hd : P.underlying t = some d)
    (hnow : ∀ a b, Instr.sameNow d (κ a) (κ b) = some (decide (a = b)))
    (hcheck : ∀ (e : Bool) (k : K) (w : World), (Instr.checkKey e 10000 t (κ k)).run P w = .ok () w)
    (hbits : ∀ k, Instr.sameBits 10000 (κ k) (κ k) = true) : KeyOK P t κ where
  check := hcheck
  bits := hbits
  ne k es w h := by
    unfold Instr.findKey
    rw [run_bind' _ _ _ _ (run_underlying hd w)]
    have : ∀ (es : List MapEntry) (i : Nat), (∀ e ∈ es, ∃ k', e.key = κ k' ∧ k' ≠ k) → Instr.findNow d (κ k) es i = some none := by
      intro es
      induction es with
      | nil => intros; rfl
      | cons e es ih =>
        intro i h
        obtain ⟨k', hk, hne⟩ := h e (by simp)
        simp only [Instr.findNow, hk, hnow, Ne.symm hne, decide_false]
        exact ih _ fun e he => h e (by simp [he])
    simp only [this es 0 h]
    rfl
  hit k pre e post w h he := by
    unfold Instr.findKey
    rw [run_bind' _ _ _ _ (run_underlying hd w)]
    have : ∀ (pre : List MapEntry) (i : Nat), (∀ e ∈ pre, ∃ k', e.key = κ k' ∧ k' ≠ k) → Instr.findNow d (κ k) (pre ++ e :: post) i = some (some (i + pre.length, e.val)) := by
      intro pre
      induction pre with
      | nil => intro i _; simp [Instr.findNow, he, hnow]
      | cons x pre ih =>
        intro i h
        obtain ⟨k', hk, hne⟩ := h x (by simp)
        simp only [List.cons_append, Instr.findNow, hk, hnow, Ne.symm hne, decide_false]
        rw [ih _ fun e he => h e (by simp [he])]
        simp [Nat.add_comm, Nat.add_left_comm]
    simp only [this pre 0 h, Nat.zero_add]
    rfl

/-- block b is a map that holds the pairs of m -/
structure MapAt (w : World) (b : Nat) {K V : Type} (κ : K → Value) (ν : V → Value) (m : List (K × V)) (es : Array MapEntry) (clock : Nat) : Prop where
  block : w.heap[b]? = some (.map es clock)
  pairs : es.toList.map (fun e => (e.key, e.val)) = m.map (fun p => (κ p.1, ν p.2))
  apart : (m.map (·.1)).Nodup
  born : (es.toList.map (·.born)).Pairwise (· < ·)
  clock : ∀ e ∈ es.toList, e.born < clock

def del {K V : Type} [DecidableEq K] (m : List (K × V)) (k : K) : List (K × V) := m.filter (fun p => p.1 ≠ k)

theorem get_none {K V : Type} [DecidableEq K] {m : List (K × V)} {k : K} : get m k = none ↔ ∀ p ∈ m, p.1 ≠ k := by
  induction m with
  | nil => simp [get]
  | cons p m ih => grind [get]
theorem get_some {K V : Type} [DecidableEq K] {m : List (K × V)} {k : K} {v : V} (h : get m k = some v) : ∃ pre post, m = pre ++ (k, v) :: post ∧ ∀ p ∈ pre, p.1 ≠ k := by
  induction m with
  | nil => simp [get] at h
  | cons p m ih =>
    obtain ⟨a, x⟩ := p
    by_cases e : a = k
    · subst e; simp [get] at h; exact ⟨[], m, by simp [h], by simp⟩
    · simp only [get, if_neg e] at h
      obtain ⟨pre, post, rfl, hp⟩ := ih h
      exact ⟨(a, x) :: pre, post, by simp, by grind⟩
theorem get_del {K V : Type} [DecidableEq K] (m : List (K × V)) (k k' : K) : get (del m k) k' = if k = k' then none else get m k' := by
  induction m with
  | nil => simp [del, get]
  | cons p m ih => simp only [del, List.filter_cons] at *; grind [get]
theorem set_hit {K V : Type} [DecidableEq K] (pre post : List (K × V)) (k : K) (v u : V) (h : ∀ p ∈ pre, p.1 ≠ k) : set (pre ++ (k, v) :: post) k u = pre ++ (k, u) :: post := by
  induction pre with
  | nil => simp [set]
  | cons p pre ih => grind [set]
theorem set_miss {K V : Type} [DecidableEq K] (m : List (K × V)) (k : K) (u : V) (h : ∀ p ∈ m, p.1 ≠ k) : set m k u = m ++ [(k, u)] := by
  induction m with
  | nil => simp [set]
  | cons p pre ih => grind [set]
theorem set_nodup {K V : Type} [DecidableEq K] {m : List (K × V)} (k : K) (u : V) (h : (m.map (·.1)).Nodup) : ((set m k u).map (·.1)).Nodup := by
  cases e : get m k with
  | none =>
    have := get_none.1 e
    rw [set_miss m k u this]
    simp only [List.map_append, List.map_cons, List.map_nil, List.nodup_append]
    refine ⟨h, by simp, ?_⟩
    simp only [List.mem_map, List.mem_singleton]
    rintro a ⟨p, hp, rfl⟩ b rfl
    exact this p hp
  | some v =>
    obtain ⟨pre, post, rfl, hp⟩ := get_some e
    rw [set_hit pre post k v u hp]
    simpa using h
theorem mem_iff_get {K V : Type} [DecidableEq K] {m : List (K × V)} (h : (m.map (·.1)).Nodup) (k : K) (v : V) : (k, v) ∈ m ↔ get m k = some v := by
  induction m with
  | nil => simp [get]
  | cons p m ih =>
    obtain ⟨a, x⟩ := p
    simp only [List.map_cons, List.nodup_cons, List.mem_map, not_exists, not_and] at h
    have := ih h.2
    simp only [List.mem_cons, Prod.mk.injEq, get]
    by_cases e : a = k
    · subst e
      have : (a, v) ∉ m := fun hm => h.1 _ hm rfl
      simp [this, eq_comm]
    · simp [this, e, Ne.symm e]

section
variable {P : Program} {K V : Type} {κ : K → Value} {ν : V → Value} {m : List (K × V)} {w : World} {b : Nat} {es : Array MapEntry} {clock : Nat} {mt kt et : TypeId}

theorem MapAt.size (h : MapAt w b κ ν m es clock) : es.size = m.length := by
  have := congrArg List.length h.pairs
  simpa using this
theorem MapAt.of_block {w' : World} (h : MapAt w b κ ν m es clock) (hb : w'.heap[b]? = w.heap[b]?) : MapAt w' b κ ν m es clock :=
  ⟨hb.trans h.block, h.pairs, h.apart, h.born, h.clock⟩

variable [DecidableEq K]

theorem MapAt.miss (h : MapAt w b κ ν m es clock) {k : K} (hk : get m k = none) : ∀ e ∈ es.toList, ∃ k', e.key = κ k' ∧ k' ≠ k := by
  intro e he
  have h1 : (e.key, e.val) ∈ m.map (fun p => (κ p.1, ν p.2)) := h.pairs ▸ List.mem_map.2 ⟨e, he, rfl⟩
  obtain ⟨p, hp, hpe⟩ := List.mem_map.1 h1
  exact ⟨p.1, (congrArg Prod.fst hpe).symm, get_none.1 hk p hp⟩

theorem MapAt.hit (h : MapAt w b κ ν m es clock) {k : K} {v : V} (hk : get m k = some v) : ∃ pre e post mpre mpost, es.toList = pre ++ e :: post ∧ m = mpre ++ (k, v) :: mpost ∧
    pre.map (fun e => (e.key, e.val)) = mpre.map (fun p => (κ p.1, ν p.2)) ∧ post.map (fun e => (e.key, e.val)) = mpost.map (fun p => (κ p.1, ν p.2)) ∧
    (∀ e ∈ pre, ∃ k', e.key = κ k' ∧ k' ≠ k) ∧ e.key = κ k ∧ e.val = ν v ∧ ∀ p ∈ mpre, p.1 ≠ k := by
  obtain ⟨mpre, mpost, rfl, hp⟩ := get_some hk
  have h1 := h.pairs
  rw [List.map_append, List.map_cons] at h1
  obtain ⟨pre, rest, he, hpre, hrest⟩ := List.map_eq_append_iff.1 h1
  obtain ⟨e, post, rfl, hev, hpost⟩ := List.map_eq_cons_iff.1 hrest
  refine ⟨pre, e, post, mpre, mpost, he, rfl, hpre, hpost, ?_, (Prod.mk.inj hev).1, (Prod.mk.inj hev).2, hp⟩
  intro x hx
  have h2 : (x.key, x.val) ∈ mpre.map (fun p => (κ p.1, ν p.2)) := hpre ▸ List.mem_map.2 ⟨x, hx, rfl⟩
  obtain ⟨p, hpm, hpe⟩ := List.mem_map.1 h2
  exact ⟨p.1, (congrArg Prod.fst hpe).symm, hp p hpm⟩

theorem MapAt.find (h : MapAt w b κ ν m es clock) (hK : KeyOK P kt κ) (k : K) (w' : World) : ∃ r, (Instr.findKey kt (κ k) es.toList).run P w' = .ok r w' ∧ r.map (·.2) = (get m k).map ν := by
  cases hg : get m k with
  | none => exact ⟨none, hK.ne k _ w' (h.miss hg), rfl⟩
  | some v =>
    obtain ⟨pre, e, post, mpre, mpost, he, -, -, -, hp, hek, hev, -⟩ := h.hit hg
    exact ⟨_, by rw [he]; exact hK.hit k pre e post w' hp hek, by simp [hev]⟩

theorem run_getObj_map (h : w.heap[b]? = some (.map es clock)) : (getObj b).run P w = .ok (.map es clock) w := by
  simp [getObj, Sem.run, h]

/-- a look-up -/
theorem MapAt.look (h : MapAt w b κ ν m es clock) (hK : KeyOK P kt κ) (ht : P.underlying mt = some (.map kt et)) {z : Value} (hz : ∀ w, (zeroValue et).run P w = .ok z w) (k : K) (ok : Bool) :
    (Instr.lookup mt (.map (some b)) (κ k) ok).run P w = .ok (if ok then .tuple #[((get m k).map ν).getD z, .bool (get m k).isSome] else ((get m k).map ν).getD z) w := by
  obtain ⟨r, hr, hv⟩ := h.find hK k w
  unfold Instr.lookup
  rw [run_bind' _ _ _ _ (run_underlying ht w)]
  simp only
  rw [run_bind' _ _ _ _ (run_getObj_map h.block)]
  simp only [pure_bind]
  rw [run_bind' _ _ _ _ (hK.check _ _ _), run_bind' _ _ _ _ hr]
  cases r with
  | none =>
    have hg : get m k = none := by cases hg : get m k <;> simp_all
    simp only
    rw [run_bind' _ _ _ _ (hz w)]
    simp [hg]
  | some p =>
    obtain ⟨v, hg, hpv⟩ : ∃ v, get m k = some v ∧ p.2 = ν v := by cases hg : get m k <;> simp_all
    simp [hg, hpv]

theorem run_setObj {o o' : Obj} (h : w.heap[b]? = some o') (hc : ∀ c t f, o' ≠ .cells c t f) : (setObj b o).run P w = .ok () { w with heap := w.heap.setIfInBounds b o } := by
  unfold setObj
  cases o' <;> simp_all [Sem.run]

/-- block b holds another object -/
def putObj (w : World) (b : Nat) (o : Obj) : World := { w with heap := w.heap.setIfInBounds b o }
theorem putObj_at {o o' : Obj} (h : w.heap[b]? = some o') : (putObj w b o).heap[b]? = some o := by
  have : b < w.heap.size := by
    rcases Nat.lt_or_ge b w.heap.size with h' | h'
    · exact h'
    · simp [Array.getElem?_eq_none h'] at h
  simp [putObj, this]

theorem keyStays (hK : KeyOK P kt κ) (k : K) : (Instr.keyThatStays (κ k) (κ k)).run P w = .ok (κ k) w := by
  simp [Instr.keyThatStays, hK.bits]

theorem MapAt.put_hit (h : MapAt w b κ ν m es clock) {k : K} {v u : V} {pre post : List MapEntry} {e : MapEntry} {mpre mpost : List (K × V)} (he : es.toList = pre ++ e :: post) (hm : m = mpre ++ (k, v) :: mpost)
    (hpre : pre.map (fun e => (e.key, e.val)) = mpre.map (fun p => (κ p.1, ν p.2))) (hpost : post.map (fun e => (e.key, e.val)) = mpost.map (fun p => (κ p.1, ν p.2))) (hn : ∀ p ∈ mpre, p.1 ≠ k)
    {es' : Array MapEntry} (hes : es'.toList = pre ++ { e with key := κ k, val := ν u } :: post) : MapAt (putObj w b (.map es' clock)) b κ ν (set m k u) es' clock := by
  subst hm
  refine ⟨putObj_at h.block, ?_, set_nodup k u h.apart, ?_, ?_⟩
  · rw [set_hit _ _ _ _ _ hn, hes]; simp [hpre, hpost]
  · have := h.born; rw [he] at this; rw [hes]; simpa using this
  · have := h.clock; rw [he] at this; rw [hes]
    intro x hx
    simp only [List.mem_append, List.mem_cons] at hx
    rcases hx with hx | rfl | hx
    · exact this x (by simp [hx])
    · exact this e (by simp)
    · exact this x (by simp [hx])
theorem MapAt.put_miss (h : MapAt w b κ ν m es clock) {k : K} {u : V} (hg : get m k = none) : MapAt (putObj w b (.map (es.push { key := κ k, val := ν u, born := clock }) (clock + 1))) b κ ν (set m k u) (es.push { key := κ k, val := ν u, born := clock }) (clock + 1) := by
  refine ⟨putObj_at h.block, ?_, set_nodup k u h.apart, ?_, ?_⟩
  · rw [set_miss _ _ _ (get_none.1 hg)]; simp [h.pairs]
  · simp only [Array.toList_push, List.map_append, List.map_cons, List.map_nil, List.pairwise_append]
    refine ⟨h.born, by simp, ?_⟩
    simp only [List.mem_map, List.mem_singleton]
    rintro x ⟨e, he, rfl⟩ y rfl
    exact h.clock e he
  · simp only [Array.toList_push, List.mem_append, List.mem_singleton]
    rintro x (hx | rfl)
    · have := h.clock x hx; omega
    · simp

theorem modify_at {pre post : List MapEntry} {e : MapEntry} (he : es.toList = pre ++ e :: post) (f : MapEntry → MapEntry) : (es.modify pre.length f).toList = pre ++ f e :: post := by
  have : es = (pre ++ e :: post).toArray := by rw [← he]
  subst this
  simp only [List.modify_toArray]
  clear he
  induction pre with
  | nil => simp [List.modify_cons]
  | cons x pre ih => simp [ih]
theorem at_len {pre post : List MapEntry} {e : MapEntry} (he : es.toList = pre ++ e :: post) : es[pre.length]? = some e := by
  have : es = (pre ++ e :: post).toArray := by rw [← he]
  subst this
  simp

/-- a store -/
theorem MapAt.update (h : MapAt w b κ ν m es clock) (hK : KeyOK P kt κ) (ht : P.underlying mt = some (.map kt et)) (k : K) (u : V) :
    ∃ es' clock', (Instr.mapUpdate mt (.map (some b)) (κ k) (ν u)).run P w = .ok () (putObj w b (.map es' clock')) ∧ MapAt (putObj w b (.map es' clock')) b κ ν (set m k u) es' clock' := by
  unfold Instr.mapUpdate
  rw [run_bind' _ _ _ _ (run_underlying ht w)]
  simp only
  rw [run_bind' _ _ _ _ (run_getObj_map h.block)]
  simp only
  rw [run_bind' _ _ _ _ (hK.check _ _ _)]
  cases hg : get m k with
  | none =>
    rw [run_bind' _ _ _ _ (hK.ne k _ w (h.miss hg))]
    exact ⟨_, _, run_setObj h.block (by simp), h.put_miss hg⟩
  | some v =>
    obtain ⟨pre, e, post, mpre, mpost, he, hm, hpre, hpost, hp, hek, hev, hn⟩ := h.hit hg
    have hf := hK.hit k pre e post w hp hek
    rw [← he] at hf
    rw [run_bind' _ _ _ _ hf]
    simp only [at_len he, Option.map_some, Option.getD_some, hek]
    rw [run_bind' _ _ _ _ (keyStays hK k)]
    refine ⟨es.modify pre.length (fun e => { e with key := κ k, val := ν u }), clock, run_setObj h.block (by simp), h.put_hit he hm hpre hpost hn ?_⟩
    rw [modify_at he]

/-- a deletion -/
theorem MapAt.delete (h : MapAt w b κ ν m es clock) (hK : KeyOK P kt κ) (ht : P.underlying mt = some (.map kt et)) (k : K) (ts : Array TypeId) (rt : TypeId) (hts : ts[0]? = some mt) :
    ∃ es', (Builtin.delete_ ts rt #[.map (some b), κ k]).run P w = .ok (.tuple #[]) (putObj w b (.map es' clock)) ∧ MapAt (putObj w b (.map es' clock)) b κ ν (del m k) es' clock := by
  unfold Builtin.delete_
  simp only [hts, List.getElem?_toArray, List.getElem?_cons_zero, List.getElem?_cons_succ]
  rw [run_bind' _ _ _ _ (run_underlying ht w)]
  simp only
  cases hg : get m k with
  | none =>
    refine ⟨es, ?_, ?_⟩
    · rw [run_bind' _ _ _ _ (run_getObj_map h.block)]
      simp only
      rw [run_bind' _ _ _ _ (hK.check _ _ _), run_bind' _ _ _ _ (hK.ne k _ w (h.miss hg))]
      simp only
      rw [run_bind' _ _ _ _ (run_setObj h.block (by simp))]
      rfl
    · have : del m k = m := by simp only [del, List.filter_eq_self, decide_eq_true_eq]; exact get_none.1 hg
      rw [this]
      exact ⟨putObj_at h.block, h.pairs, h.apart, h.born, h.clock⟩
  | some v =>
    obtain ⟨pre, e, post, mpre, mpost, he, hm, hpre, hpost, hp, hek, hev, hn⟩ := h.hit hg
    have hf := hK.hit k pre e post w hp hek
    rw [← he] at hf
    have herase : (es.eraseIdxIfInBounds pre.length).toList = pre ++ post := by
      have : es = (pre ++ e :: post).toArray := by rw [← he]
      subst this
      simp [List.eraseIdx_append]
    refine ⟨es.eraseIdxIfInBounds pre.length, ?_, ?_⟩
    · rw [run_bind' _ _ _ _ (run_getObj_map h.block)]
      simp only
      rw [run_bind' _ _ _ _ (hK.check _ _ _), run_bind' _ _ _ _ hf]
      simp only
      rw [run_bind' _ _ _ _ (run_setObj h.block (by simp))]
      rfl
    · subst hm
      have hd : del (mpre ++ (k, v) :: mpost) k = mpre ++ mpost := by
        have h1 : mpre.filter (fun p => decide (p.1 ≠ k)) = mpre := by simp only [List.filter_eq_self, decide_eq_true_eq]; exact hn
        have hap := h.apart
        simp only [List.map_append, List.map_cons, List.nodup_append, List.nodup_cons, List.mem_map] at hap
        have h2 : mpost.filter (fun p => decide (p.1 ≠ k)) = mpost := by
          simp only [List.filter_eq_self, decide_eq_true_eq]
          intro p hp e
          exact hap.2.1.1 ⟨p, hp, e⟩
        simp only [del, List.filter_append, List.filter_cons]
        simp only [ne_eq, decide_not] at h1 h2
        simp [h1, h2]
      rw [hd]
      refine ⟨putObj_at h.block, ?_, ?_, ?_, ?_⟩
      · rw [herase]; simp [hpre, hpost]
      · have := h.apart; simp only [List.map_append, List.map_cons] at this ⊢
        exact this.sublist (by simp)
      · have := h.born; rw [he] at this; rw [herase]
        refine this.sublist ?_
        simp
      · have := h.clock; rw [he] at this; rw [herase]
        intro x hx
        exact this x (by simp only [List.mem_append, List.mem_cons] at hx ⊢; rcases hx with hx | hx <;> simp [hx])
end

/-! ### the key types -/
def κint (k : Int) : Value := .int .i64 k
def κs1 (k : Int) : Value := .agg #[.int .i64 k]
def κs2 (k : Int × Int) : Value := .agg #[.int .i64 k.1, .int .i64 k.2]

theorem beq_dec (a b : Int) : (a == b) = decide (a = b) := by
  by_cases h : a = b <;> simp [h]
theorem check_int {P : Program} {t : TypeId} (ht : P.underlying t = some (.int .i64)) (e : Bool) (k : Int) (w : World) : ∀ n, (Instr.checkKey e (n + 1) t (.int .i64 k)).run P w = .ok () w := fun n => by
  simp [Instr.checkKey, run_underlying ht, Result.andThen]
theorem keyOK_int {P : Program} {t : TypeId} (ht : P.underlying t = some (.int .i64)) : KeyOK P t κint :=
  keyOK_now ht (fun a b => by simp only [Instr.sameNow, κint, if_true, beq_dec]) (fun e k w => check_int ht e k w 9999) (fun k => by show Instr.sameBits (9999 + 1) _ _ = true; simp [Instr.sameBits, κint])
theorem equal_int {P : Program} {t : TypeId} (ht : P.underlying t = some (.int .i64)) (a b : Int) (w : World) : ∀ n, (Op.equalIn (n + 1) t (.int .i64 a) (.int .i64 b)).run P w = .ok (decide (a = b)) w := fun n => by
  simp [Op.equalIn, run_underlying ht, Result.andThen, beq_dec]
theorem isAgg_int {P : Program} {t : TypeId} (ht : P.underlying t = some (.int .i64)) (w : World) : (isAgg t).run P w = .ok false w := by
  simp [isAgg, run_underlying ht, Result.andThen]
theorem part_int {P : Program} {t : TypeId} (ht : P.underlying t = some (.int .i64)) (cs : Array Value) (o : Nat) (v : Value) (h : cs[o]? = some v) (w : World) : (part t cs o).run P w = .ok v w := by
  unfold part
  rw [run_bind' _ _ _ _ (isAgg_int ht w)]
  simp [h]

theorem keyOK_s1 {P : Program} {t : TypeId} {f : Field} (ht : P.underlying t = some (.struct #[f])) (hn : f.name ≠ "_") (ho : f.offset = 0) (hf : P.underlying f.type = some (.int .i64)) (hs : P.stoodInHeld t = false) : KeyOK P t κs1 := by
  refine keyOK_agg ht (fun a v => by cases v <;> simp [Instr.sameNow]) (fun a b w => ?_) (fun e k w => ?_) (fun k => ?_)
  · show (Op.equalIn (9998 + 1 + 1) t (κs1 a) (κs1 b)).run P w = _
    generalize 9998 = n
    unfold Op.equalIn
    rw [run_bind' _ _ _ _ (run_underlying ht w)]
    simp only [κs1, program]
    simp [Sem.run, part_int hf _ _ _ (show (#[Value.int .i64 a] : Array Value)[f.offset]? = some (.int .i64 a) by simp [ho]), part_int hf _ _ _ (show (#[Value.int .i64 b] : Array Value)[f.offset]? = some (.int .i64 b) by simp [ho]), equal_int hf, hn, Result.andThen, hs]
    by_cases h : a = b <;> simp [h]
  · show (Instr.checkKey e (9998 + 1 + 1) t (κs1 k)).run P w = _
    generalize 9998 = n
    unfold Instr.checkKey
    rw [run_bind' _ _ _ _ (run_underlying ht w)]
    simp [κs1, part_int hf _ _ _ (show (#[Value.int .i64 k] : Array Value)[f.offset]? = some (.int .i64 k) by simp [ho]), check_int hf, hn, Result.andThen]
  · show Instr.sameBits (9998 + 1 + 1) _ _ = true
    generalize 9998 = n
    simp [Instr.sameBits, κs1]
end Esch
