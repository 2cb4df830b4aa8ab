import Derived.Test.YtmnkackkeppheaaGreatPkBase
import Derived.ProofKit
import Derived.Deep.Slices
import Derived.Deep.Fields
import Derived.OpenShut
import Derived.Test.YtmnkackkeppheaaGreatRows
/- An argument's reading, taken apart: one law for every plain type (integers, bools, texts, slices, structs). -/
namespace Esch
open Go Go.RowKit Go.ChangeShapes Go.WideShapes Go.Deep

inductive Ty where
  | int (k : IntKind)
  | bool
  | str
  | slice (t : Ty)
  | struct (ts : List Ty)

mutual
def Ty.cells : Ty → Nat
  | .struct ts => Ty.cellsAll ts
  | _ => 1
def Ty.cellsAll : List Ty → Nat
  | [] => 0
  | t :: ts => Ty.cells t + Ty.cellsAll ts
end

inductive D where
  | int (n : Int)
  | bool (b : Bool)
  | str (s : ByteArray)
  | slice (l : List D)
  | struct (l : List D)
instance : Inhabited D := ⟨.int 0⟩

def fieldsOK (P : Program) : Nat → List Field → List Ty → Bool
  | _, [], [] => true
  | o, f :: fs, t :: ts => f.offset == o && P.cellsOf f.type == t.cells && fieldsOK P (o + t.cells) fs ts
  | _, _, _ => false

/-- does the type read as this shape? -/
def isTy (P : Program) : Nat → TypeId → Ty → Bool
  | 0, _, _ => false
  | n + 1, t, T =>
    match P.underlying t, T with
    | some (.int k), .int k' => decide (k = k')
    | some .bool, .bool => true
    | some .string, .str => true
    | some (.slice e), .slice T => P.cellsOf e == T.cells && isTy P n e T
    | some (.struct fs), .struct Ts => P.cellsOf t == Ty.cellsAll Ts && fieldsOK P 0 fs.toList Ts && (fs.toList.zip Ts).all (fun p => isTy P n p.1.type p.2)
    | some (.array m e), .struct Ts => P.cellsOf t == Ty.cellsAll Ts && decide (Ts.length = m) && Ts.all (fun T => P.cellsOf e == T.cells && isTy P n e T)
    | _, _ => false

mutual
inductive Rd (w : World) : Ty → List Value → D → Prop where
  | int (k : IntKind) (n : Int) : k.min ≤ n → n ≤ k.max → Rd w (.int k) [.int k n] (.int n)
  | bool (b : Bool) : Rd w .bool [.bool b] (.bool b)
  | str (s : ByteArray) : s.size ≤ Go.maxLen → Rd w .str [.string s] (.str s)
  | nil (T : Ty) : Rd w (.slice T) [.slice none 0 0] (.slice [])
  | slice (T : Ty) (a : Addr) (cap : Nat) (l : List D) (cs : Nat → List Value) : l.length ≤ cap → cap ≤ Go.maxLen →
      (∀ i, i < l.length → (cs i).length = T.cells ∧ ∀ j, j < T.cells → w.cell? (a.add (i * T.cells + j)) = (cs i)[j]?) →
      (∀ i (h : i < l.length), Rd w T (cs i) l[i]) → Rd w (.slice T) [.slice (some a) l.length cap] (.slice l)
  | struct (Ts : List Ty) (cs : List Value) (ds : List D) : Rds w Ts cs ds → Rd w (.struct Ts) cs (.struct ds)
inductive Rds (w : World) : List Ty → List Value → List D → Prop where
  | nil : Rds w [] [] []
  | cons (T : Ty) (Ts : List Ty) (c cs : List Value) (d : D) (ds : List D) : c.length = T.cells → Rd w T c d → Rds w Ts cs ds → Rds w (T :: Ts) (c ++ cs) (d :: ds)
end

section
variable {H : Type} {enc : TypeId × Value → H} {P : Program} {w : World} {base : Nat} {spare : Nat → Bool} {held : Bool}

theorem rds_of {n : Nat} (ih : ∀ t T fuel cs x, isTy P n t T = true → DataW.trod enc P w base spare held fuel t cs = some x → ∃ d, Rd w T cs d) :
    ∀ (Ts : List Ty) (fs : List Field) (o fuel : Nat) (cs : List Value), (fs.zip Ts).all (fun p => isTy P n p.1.type p.2) = true → fieldsOK P o fs Ts = true → o + Ty.cellsAll Ts = cs.length →
      (∀ f ∈ fs, ∃ x, DataW.trod enc P w base spare held fuel f.type ((cs.drop f.offset).take (P.cellsOf f.type)) = some x) → ∃ ds, Rds w Ts (cs.drop o) ds
  | [], [], o, fuel, cs, _, _, hl, _ => ⟨[], by simp [Ty.cellsAll] at hl; rw [List.drop_of_length_le (by omega)]; exact .nil⟩
  | T :: Ts, f :: fs, o, fuel, cs, h1, h2, hl, hx => by
    simp only [fieldsOK, Bool.and_eq_true, beq_iff_eq] at h2
    obtain ⟨⟨ho, hc⟩, h2⟩ := h2
    simp only [Ty.cellsAll] at hl
    simp only [List.zip_cons_cons, List.all_cons, Bool.and_eq_true] at h1
    obtain ⟨x, hx0⟩ := hx f (by simp)
    rw [ho, hc] at hx0
    obtain ⟨d, hd⟩ := ih f.type T fuel _ x h1.1 hx0
    obtain ⟨ds, hds⟩ := rds_of ih Ts fs (o + T.cells) fuel cs h1.2 h2 (by omega) (fun f hf => hx f (by simp [hf]))
    refine ⟨d :: ds, ?_⟩
    have : cs.drop o = (cs.drop o).take T.cells ++ cs.drop (o + T.cells) := by
      rw [← List.drop_drop]; exact (List.take_append_drop _ _).symm
    rw [this]
    exact .cons _ _ _ _ _ _ (by simp; omega) hd hds
  | [], _ :: _, _, _, _, _, h, _, _ => by simp [fieldsOK] at h
  | _ :: _, [], _, _, _, _, h, _, _ => by simp [fieldsOK] at h

theorem rds_arr {n : Nat} {e : TypeId} (ih : ∀ t T fuel cs x, isTy P n t T = true → DataW.trod enc P w base spare held fuel t cs = some x → ∃ d, Rd w T cs d) :
    ∀ (Ts : List Ty) (i fuel : Nat) (cs : List Value), Ts.all (fun T => P.cellsOf e == T.cells && isTy P n e T) = true → i * P.cellsOf e + Ty.cellsAll Ts = cs.length →
      (∀ j, i ≤ j → j < i + Ts.length → ∃ x, DataW.trod enc P w base spare held fuel e ((cs.drop (j * P.cellsOf e)).take (P.cellsOf e)) = some x) → ∃ ds, Rds w Ts (cs.drop (i * P.cellsOf e)) ds
  | [], i, fuel, cs, _, hl, _ => ⟨[], by simp only [Ty.cellsAll, Nat.add_zero] at hl; rw [List.drop_of_length_le (by omega)]; exact .nil⟩
  | T :: Ts, i, fuel, cs, h1, hl, hx => by
    simp only [List.all_cons, Bool.and_eq_true, beq_iff_eq] at h1
    obtain ⟨⟨hc, h1⟩, h2⟩ := h1
    simp only [Ty.cellsAll] at hl
    obtain ⟨x, hx0⟩ := hx i (Nat.le_refl _) (by simp)
    obtain ⟨d, hd⟩ := ih e T fuel _ x h1 hx0
    obtain ⟨ds, hds⟩ := rds_arr ih Ts (i + 1) fuel cs h2 (by rw [Nat.add_mul, Nat.one_mul]; omega) (fun j h3 h4 => hx j (by omega) (by simp; omega))
    refine ⟨d :: ds, ?_⟩
    have : cs.drop (i * P.cellsOf e) = (cs.drop (i * P.cellsOf e)).take (P.cellsOf e) ++ cs.drop ((i + 1) * P.cellsOf e) := by
      rw [Nat.add_mul, Nat.one_mul, ← List.drop_drop]; exact (List.take_append_drop _ _).symm
    rw [this]
    exact .cons _ _ _ _ _ _ (by simp; omega) hd hds

theorem rd_of : ∀ (n : Nat) (t : TypeId) (T : Ty) (fuel : Nat) (cs : List Value) (x : DataW H × List MemPlace), isTy P n t T = true → DataW.trod enc P w base spare held fuel t cs = some x → ∃ d, Rd w T cs d
  | 0, _, _, _, _, _, h, _ => by simp [isTy] at h
  | _ + 1, _, _, 0, _, _, _, h => by simp [DataW.trod] at h
  | n + 1, t, T, fuel + 1, cs, x, h1, h2 => by
    unfold isTy at h1
    split at h1
    · rename_i k k' hu
      simp only [decide_eq_true_eq] at h1; subst h1
      obtain ⟨m, rfl, _, hw⟩ := DataW.trod_int hu h2
      simp only [Lit.wf, Bool.and_eq_true, decide_eq_true_eq] at hw
      exact ⟨_, .int k m hw.1 hw.2⟩
    · rename_i hu
      obtain ⟨b, rfl, _⟩ := DataW.trod_bool hu h2
      exact ⟨_, .bool b⟩
    · rename_i hu
      obtain ⟨s, rfl, _, hs⟩ := DataW.trod_string hu h2
      exact ⟨_, .str s hs⟩
    · rename_i e T hu
      simp only [Bool.and_eq_true, beq_iff_eq] at h1
      rcases open_slice hu h2 with ⟨rfl, _⟩ | ⟨a, len, cap, m, n', D', Pl, rfl, hb, hl, hc, hm, _, hi⟩
      · exact ⟨_, .nil T⟩
      · have hml : len ≤ m := by rw [hm]; split <;> omega
        have key : ∀ i, ∃ (d : D) (cs : List Value), i < len → (cs.length = T.cells ∧ ∀ j, j < T.cells → w.cell? (a.add (i * T.cells + j)) = cs[j]?) ∧ Rd w T cs d := by
          intro i
          by_cases hil : i < len
          · obtain ⟨cs', hcs, ht⟩ := hi i (by omega)
            obtain ⟨d, hd⟩ := rd_of n e T _ cs' _ h1.2 ht
            obtain ⟨_, hcl, hat⟩ := World.cells?_some hcs
            rw [h1.1] at hcl hat
            refine ⟨d, cs', fun _ => ⟨⟨hcl, fun j hj => ?_⟩, hd⟩⟩
            have := hat j hj
            rwa [Go.Deep.add_add] at this
          · exact ⟨default, [], fun h => absurd h hil⟩
        let f := fun i => Classical.choose (key i)
        have hf := fun i => Classical.choose_spec (key i)
        let g := fun i => Classical.choose (hf i)
        have hg := fun i => Classical.choose_spec (hf i)
        have hlen : ((List.range len).map f).length = len := by simp
        have := Rd.slice (w := w) T a cap ((List.range len).map f) g (by rw [hlen]; exact hl) hc (fun i hi => (hg i (by rwa [hlen] at hi)).1) (fun i hi => by
          have := (hg i (by rwa [hlen] at hi)).2
          simpa [f, g] using this)
        rw [hlen] at this
        exact ⟨_, this⟩
    · rename_i fs Ts hu
      simp only [Bool.and_eq_true, beq_iff_eq] at h1
      obtain ⟨xs, n', hn', hx, hlen, hxl, hf⟩ := DataW.trod_struct hu h2
      obtain ⟨ds, hds⟩ := rds_of (n := n) (fun t T fuel cs x => rd_of n t T fuel cs x) Ts fs.toList 0 n' cs h1.2 h1.1.2 (by omega) (by
        intro f hfm
        obtain ⟨i, hi, rfl⟩ := List.mem_iff_getElem.1 hfm
        have hi' : i < fs.size := by simpa using hi
        have := hf i (fs[i]) (by simp)
        have hxi : xs[i]? = some (xs[i]'(by omega)) := List.getElem?_eq_getElem (by omega)
        rw [hxi] at this
        exact ⟨_, by simpa using this⟩)
      exact ⟨_, .struct Ts cs ds (by simpa using hds)⟩
    · rename_i m e Ts hu
      simp only [Bool.and_eq_true, beq_iff_eq, decide_eq_true_eq] at h1
      obtain ⟨xs, n', hn', hx, hlen, hxl, hf⟩ := DataW.trod_array hu h2
      obtain ⟨ds, hds⟩ := rds_arr (n := n) (e := e) (fun t T fuel cs x => rd_of n t T fuel cs x) Ts 0 n' cs h1.2 (by omega) (by
        intro j _ hj
        have := hf j (by omega)
        rw [List.getElem?_eq_getElem (by omega)] at this
        exact ⟨_, this⟩)
      exact ⟨_, .struct Ts cs ds (by simpa using hds)⟩
    · cases h1

theorem rd_int {w : World} {k : IntKind} {cs : List Value} {d : D} : Rd w (.int k) cs d ↔ ∃ n, cs = [.int k n] ∧ d = .int n ∧ k.min ≤ n ∧ n ≤ k.max := by
  constructor
  · intro h; cases h with | int _ n h1 h2 => exact ⟨n, rfl, rfl, h1, h2⟩
  · rintro ⟨n, rfl, rfl, h1, h2⟩; exact .int k n h1 h2
theorem rd_str {w : World} {cs : List Value} {d : D} : Rd w .str cs d ↔ ∃ s, cs = [.string s] ∧ d = .str s ∧ s.size ≤ Go.maxLen := by
  constructor
  · intro h; cases h with | str s h => exact ⟨s, rfl, rfl, h⟩
  · rintro ⟨s, rfl, rfl, h⟩; exact .str s h
theorem rd_struct {w : World} {Ts : List Ty} {cs : List Value} {d : D} : Rd w (.struct Ts) cs d ↔ ∃ ds, d = .struct ds ∧ Rds w Ts cs ds := by
  constructor
  · intro h; cases h with | struct _ _ ds h => exact ⟨ds, rfl, h⟩
  · rintro ⟨ds, rfl, h⟩; exact .struct Ts cs ds h
theorem rds_nil {w : World} {cs : List Value} {ds : List D} : Rds w [] cs ds ↔ cs = [] ∧ ds = [] := by
  constructor
  · intro h; cases h; exact ⟨rfl, rfl⟩
  · rintro ⟨rfl, rfl⟩; exact .nil
theorem rds_cons {w : World} {T : Ty} {Ts : List Ty} {cs : List Value} {ds : List D} : Rds w (T :: Ts) cs ds ↔ ∃ c cs' d ds', cs = c ++ cs' ∧ ds = d :: ds' ∧ c.length = T.cells ∧ Rd w T c d ∧ Rds w Ts cs' ds' := by
  constructor
  · intro h; cases h with | cons _ _ c cs d ds h1 h2 h3 => exact ⟨c, cs, d, ds, rfl, rfl, h1, h2, h3⟩
  · rintro ⟨c, cs, d, ds, rfl, rfl, h1, h2, h3⟩; exact .cons _ _ _ _ _ _ h1 h2 h3
theorem rd_slice {w : World} {T : Ty} {cs : List Value} {d : D} : Rd w (.slice T) cs d ↔ ∃ l : List D, d = .slice l ∧ ((cs = [.slice none 0 0] ∧ l = []) ∨ ∃ (a : Addr) (cap : Nat) (cell : Nat → List Value), cs = [.slice (some a) l.length cap] ∧ l.length ≤ cap ∧ cap ≤ Go.maxLen ∧
      (∀ i, i < l.length → (cell i).length = T.cells ∧ ∀ j, j < T.cells → w.cell? (a.add (i * T.cells + j)) = (cell i)[j]?) ∧ ∀ i (h : i < l.length), Rd w T (cell i) l[i]) := by
  constructor
  · intro h
    cases h with
    | nil => exact ⟨[], rfl, .inl ⟨rfl, rfl⟩⟩
    | slice _ a cap l cell h1 h2 h3 h4 => exact ⟨l, rfl, .inr ⟨a, cap, cell, rfl, h1, h2, h3, h4⟩⟩
  · rintro ⟨l, rfl, ⟨rfl, rfl⟩ | ⟨a, cap, cell, rfl, h1, h2, h3, h4⟩⟩
    · exact .nil T
    · exact .slice T a cap l cell h1 h2 h3 h4

/-- a struct's cells, or the value itself -/
def Ty.isStruct : Ty → Bool
  | .struct _ => true
  | _ => false
theorem okWide_arr {n : Nat} {e t : TypeId} {r : Reach} {b0 : Nat} {v : Value} (ht : P.underlying t = some (.array n e)) (h : Value.okWide P w r b0 t v) : ∃ cs, v = .agg cs := by
  simp only [Value.okWide, ht] at h
  obtain ⟨cs, h1, _⟩ := h
  exact ⟨cs, h1⟩
/-- an argument is opened -/
theorem open_arg {n : Nat} {t : TypeId} {T : Ty} {r : Reach} {b0 : Nat} {v : Value} {d : DataW H} {ps : List MemPlace} (hT : isTy P n t T = true) (hv : Value.okWide P w r b0 t v) (h : DataW.Trod enc P w base spare held t v d ps) :
    ∃ (cs : List Value) (x : D), v = (if T.isStruct then .agg cs.toArray else cs.headD undef) ∧ Rd w T cs x := by
  obtain ⟨fuel, hf⟩ := h
  obtain ⟨x, hx⟩ := rd_of n t T fuel _ _ hT hf
  refine ⟨_, x, ?_, hx⟩
  cases n with
  | zero => simp [isTy] at hT
  | succ n =>
    unfold isTy at hT
    split at hT
    · rename_i hu
      obtain ⟨m, rfl⟩ := okWide_int hu hv
      simp [Ty.isStruct, Value.cells]
    · rename_i hu
      obtain ⟨m, rfl⟩ := okWide_bool hu hv
      simp [Ty.isStruct, Value.cells]
    · rename_i hu
      obtain ⟨m, rfl⟩ := okWide_string hu hv
      simp [Ty.isStruct, Value.cells]
    · rename_i hu
      obtain ⟨a, l, c, rfl⟩ := okWide_slice hu hv
      simp [Ty.isStruct, Value.cells]
    · rename_i hu
      obtain ⟨cs, rfl, _⟩ := okWide_struct hu hv
      simp [Ty.isStruct, Value.cells]
    · rename_i hu
      obtain ⟨cs, rfl⟩ := okWide_arr hu hv
      simp [Ty.isStruct, Value.cells]
    · cases hT

theorem trodAll_stays (hl : laidOutB P = true) {W W' : World} (hb : Below W.heap.size W W') : ∀ (ts : List TypeId) (vs : List Value) (ds : List (DataW H)) (ps : List MemPlace), ts.all (fun t => P.readableRec t && decide (t < P.types.size)) = true →
    DataW.TrodAll enc P W 0 (fun _ => true) true ts vs ds ps → (∀ x ∈ ps, x.block < W.heap.size) → DataW.TrodAll enc P W' 0 (fun b => decide (b < W.heap.size)) true ts vs ds ps
  | [], vs, ds, ps, _, h, _ => by cases vs <;> cases ds <;> exact h
  | t :: ts, [], ds, ps, _, h, _ => by cases ds <;> exact h.elim
  | t :: ts, v :: vs, [], ps, _, h, _ => h.elim
  | t :: ts, v :: vs, d :: ds, ps, ht, h, hlt => by
    obtain ⟨p, q, h1, h2, rfl⟩ := h
    simp only [List.all_cons, Bool.and_eq_true, decide_eq_true_eq] at ht
    exact ⟨p, q, Below.trod hl ht.1.1 ht.1.2 h1 hb fun x hx => hlt x (by simp [hx]), trodAll_stays hl hb ts vs ds q ht.2 h2 fun x hx => hlt x (by simp [hx]), rfl⟩

/-- a law that answered true, and changed nothing that was there -/
theorem law_post {f : Func} {s : ChangeSpec} {W W' : World} {args : Array Value} {ds gs : List (DataW H)} {before : List MemPlace} {bt : TypeId} (hl : laidOutB P = true)
    (hts : f.params.toList.all (fun t => P.readableRec t && decide (t < P.types.size)) = true) (hr : f.resultTypes = #[bt]) (hbt : P.underlying bt = some .bool)
    (hW : DataW.Whole enc P f.params.toList s.vars false W args.toList ds gs before) (hv : s.vars = []) (hres : (s.fn H (ds ++ gs)).results = [.lit (.bool true)]) (hargs : (s.fn H (ds ++ gs)).args = ds) (hvars : (s.fn H (ds ++ gs)).vars = [])
    (hb : Below W.heap.size W W') : s.post enc P f false true false false W args (.bool true) W' := by
  have hW0 := hW
  obtain ⟨p, q, hA, hV, rfl, hfz, hnd⟩ := hW
  rw [hv] at hV
  obtain ⟨rfl, rfl⟩ : gs = [] ∧ q = [] := by
    cases gs with
    | nil => exact ⟨rfl, hV⟩
    | cons _ _ => exact hV.elim
  refine ⟨ds, [], p ++ [], [], p, [], hW0, ?_, ?_, ?_, ?_, fun h => by cases h⟩
  · rw [hres, hr]
    exact trodAll_mk1 (shut_bool hbt _)
  · rw [hargs]
    exact trodAll_stays hl hb _ _ _ _ hts hA fun x hx => hW0.lt x (by simp [hx])
  · rw [hvars, hv]; rfl
  · refine hb.frame _

/-- a slice of n elements of so many cells; the i-th element's cells are f i -/
def SliceAt (w : World) (v : Value) (size n : Nat) (f : Nat → List Value) : Prop :=
  ∃ a0 cap, v = .slice a0 n cap ∧ n ≤ cap ∧ n ≤ 9223372036854775807 ∧ (0 < n → 0 < size → ∃ b off, a0 = some ⟨b, off, none⟩ ∧ b < w.heap.size ∧ ∀ i, i < n → ∀ j, j < size → w.cell? ⟨b, off + i * size + j, none⟩ = (f i)[j]?)

theorem Addr.of_cell {w : World} {a : Addr} {n : Nat} {v : Value} (h : w.cell? (a.add n) = some v) : a = ⟨a.block, a.off, none⟩ ∧ a.add n = ⟨a.block, a.off + n, none⟩ ∨ (0 < n ∧ a.add n = ⟨a.block, a.off + n, none⟩) := by
  obtain ⟨b, o, s⟩ := a
  by_cases hn : n = 0
  · subst hn
    simp only [Addr.add, if_true] at h ⊢
    cases s with
    | none => exact .inl ⟨rfl, rfl⟩
    | some k => simp only [World.cell?, Option.isSome_some, if_true] at h; split at h <;> cases h
  · right; simp [Addr.add, hn]; omega

theorem rd_sliceAt {w : World} {T : Ty} {cs : List Value} {d : D} (h : Rd w (.slice T) cs d) : ∃ (l : List D) (f : Nat → List Value), d = .slice l ∧ SliceAt w (cs.headD undef) T.cells l.length f ∧ ∀ i (h : i < l.length), Rd w T (f i) l[i] := by
  obtain ⟨l, rfl, ⟨rfl, rfl⟩ | ⟨a, cap, cell, rfl, h1, h2, h3, h4⟩⟩ := rd_slice.1 h
  · exact ⟨[], fun _ => [], rfl, ⟨none, 0, rfl, by simp, by simp, fun h => absurd h (by simp)⟩, fun i h => absurd h (by simp)⟩
  · refine ⟨l, cell, rfl, ⟨some a, cap, rfl, h1, by unfold Go.maxLen at h2; omega, fun hn hs => ?_⟩, h4⟩
    have h0 := (h3 0 hn).2 0 hs
    have hc : ∃ v, (cell 0)[0]? = some v := ⟨_, List.getElem?_eq_getElem (by rw [(h3 0 hn).1]; exact hs)⟩
    obtain ⟨v, hv⟩ := hc
    rw [hv] at h0
    have hsp : a.spot = none := by
      rcases Addr.of_cell h0 with ⟨e, _⟩ | ⟨e, _⟩
      · rw [e]
      · simp at e
    obtain ⟨b, o, s⟩ := a
    simp only at hsp; subst hsp
    refine ⟨b, o, rfl, cell_lt (o := o) (v := v) (by simpa [Addr.add] using h0), fun i hi j hj => ?_⟩
    have := (h3 i hi).2 j hj
    rw [← this]
    unfold Addr.add
    split
    · rename_i e; rw [Nat.add_assoc, e]; simp
    · rw [Nat.add_assoc]
end
end Esch
/- two closed facts of the program, for all of the seat's laws -/
namespace Go.Proofs.YtmnkackkeppheaaGreat
open Go.RowKit Esch
theorem Tryz.ownP : ownKnob Tryz.prog.godebug = none := by kernel_rfl
theorem Tryz.laidOutP : laidOutB Tryz.prog = true := by kernel_rfl
end Go.Proofs.YtmnkackkeppheaaGreat
