/- records behind a change: plain Lean -/
import Derived.Test.YtghdhhbpbmhooaaGreatKeepOk
import Derived.Test.YtghdhhbpbmhooaaGreatAgOk
namespace Go.Proofs.YtghdhhbpbmhooaaGreat
open Go.RowKit Esch

theorem chO_cases {u : Nat} {c : Nat} (hc : c < 2) (h : (u : Int) ∈ chO c) : u < 5 := by
  have : c = 0 ∨ c = 1 := by omega
  rcases this with rfl | rfl
  · have h : (u : Int) ∈ ([0, 1, 2] : List Int) := h
    simp only [List.mem_cons, List.not_mem_nil, or_false] at h
    omega
  · have h : (u : Int) ∈ ([3, 4] : List Int) := h
    simp only [List.mem_cons, List.not_mem_nil, or_false] at h
    omega
theorem chO_units {u : Int} {c : Nat} (hc : c < 2) (h : u ∈ chO c) : u ∈ qOld.units := by
  have : c = 0 ∨ c = 1 := by omega
  rcases this with rfl | rfl
  · exact List.mem_flatten.2 ⟨[0, 1, 2], by decide, h⟩
  · exact List.mem_flatten.2 ⟨[3, 4], by decide, h⟩
/-- behind a change: what lies on the new chains is a record, and each chain's first unit has all -/
structure JF (M : Pgs) (m : Nat) (q : Proj) (T : Nat → ByteArray) : Prop where
  J : ∀ c, c < 2 → ∀ u : Nat, (u : Int) ∈ chQ q c → ∀ a w, M u a = some w → ∃ i, i < m ∧ i % 2 = c ∧ a = ((i / 2 : Nat) : Int) ∧ w = (1, T i)
  F : ∀ i, i < m → ∀ u : Nat, (chQ q (i % 2)).getD 0 0 = u → M u ((i / 2 : Nat) : Int) = some (1, T i)
theorem jf_of {q : Proj} {M : Pgs} {m : Nat} {T : Nat → ByteArray} (hq : NextO q) (hP : P1 M m T) : JF M m q T := by
  refine ⟨fun c hc u hu a w hM => ?_, fun i hi u hu => ?_⟩
  · obtain ⟨i, h1, h2, h3, h4⟩ := hP.only u a w hM
    refine ⟨i, h1, ?_, h3, h4⟩
    rcases hq.unit c hc _ hu with h | h
    · exact (nextO_old.apart (c := c) (d := i % 2) hc (by omega) h h2).symm
    · exact absurd (chO_units (by omega) h2) h
  · refine hP.has i hi u ?_
    have := hq.first (i % 2) (by omega)
    rw [hu] at this
    exact this
/-- what holds of all units behind the change -/
structure KEnv (q : Proj) (E : Nat → Int) (D : Nat → Bool) : Prop where
  nx : NextO q
  dq : ∀ u : Nat, u < 16 → (u : Int) ∈ q.units → D u = false
  eq : ∀ u, u < 16 → E u ≤ 1
  old : ∀ u : Nat, (u : Int) ∈ qOld.units → D u = true ∨ (D u = false ∧ 0 < E u)
theorem KEnv.unit {q : Proj} {E : Nat → Int} {D : Nat → Bool} (h : KEnv q E D) {c : Nat} (hc : c < 2) {k : Nat} (hk : k < (chQ q c).length) : ∃ u : Nat, u < 16 ∧ (chQ q c).getD k 0 = u ∧ (u : Int) ∈ chQ q c ∧ D u = false ∧ E u ≤ q.epoch := by
  have hm := getD_in hk
  obtain ⟨g1, g2, g3⟩ := h.nx.mem hc hm
  obtain ⟨u, hu⟩ : ∃ u : Nat, (chQ q c).getD k 0 = u := ⟨((chQ q c).getD k 0).toNat, by omega⟩
  rw [hu] at g1 g2 g3 hm
  exact ⟨u, by omega, hu, hm, h.dq u (by omega) g1, by rw [h.nx.ep]; exact h.eq u (by omega)⟩
section
variable {q : Proj} {E : Nat → Int} {D : Nat → Bool} {L : LayS} {M : Pgs} {m c : Nat} {T : Nat → ByteArray} {t : Int}
theorem JF.rdy (h : JF M m q T) (hE : KEnv q E D) {i : Nat} (_hi : i < m) : Rdy (chQ q (i % 2)) M E D q.epoch ((i / 2 : Nat) : Int) (T i) := fun k hk => by
  obtain ⟨u, u1, u2, u3, u4, u5⟩ := hE.unit (c := i % 2) (by omega) hk
  refine ⟨u, u1, u2, u4, u5, ?_⟩
  cases hM : M u ((i / 2 : Nat) : Int) with
  | none => exact Or.inl rfl
  | some w =>
    obtain ⟨j, j1, j2, j3, j4⟩ := h.J (i % 2) (by omega) u u3 _ w hM
    have : j = i := by omega
    subst this
    rw [j4]
    exact Or.inr rfl
theorem JF.ext {M' : Pgs} (h : JF M m q T) (hq : NextO q) {i : Nat} (hi : i < m) (hx : Ext M M' (chQ q (i % 2)) ((i / 2 : Nat) : Int) (1, T i)) : JF M' m q T := by
  refine ⟨fun c hc u hu a w hM => ?_, fun j hj u hu => hx.keep (h.F j hj u hu)⟩
  rcases hx u a with e | ⟨-, e2, e3, e4⟩
  · rw [e] at hM; exact h.J c hc u hu a w hM
  · rw [e4] at hM
    exact ⟨i, hi, hq.apart (c := i % 2) (d := c) (by omega) hc e2 hu, e3, (Option.some.inj hM).symm⟩
theorem JF.grow (h : JF M m q T) : ∀ {M' : Pgs}, NextO q → Ext M M' (chQ q (m % 2)) ((m / 2 : Nat) : Int) (1, T m) → (∀ k, k < (chQ q (m % 2)).length → ∀ u : Nat, (chQ q (m % 2)).getD k 0 = u → M' u ((m / 2 : Nat) : Int) = some (1, T m)) → JF M' (m + 1) q T := fun {M'} hq hx hall => by
  refine ⟨fun c hc u hu a w hM => ?_, fun j hj u hu => ?_⟩
  · rcases hx u a with e | ⟨-, e2, e3, e4⟩
    · rw [e] at hM
      obtain ⟨j, j1, j2⟩ := h.J c hc u hu a w hM
      exact ⟨j, by omega, j2⟩
    · rw [e4] at hM
      exact ⟨m, by omega, hq.apart (c := m % 2) (d := c) (by omega) hc e2 hu, e3, (Option.some.inj hM).symm⟩
  · by_cases e : j = m
    · subst e
      exact hall 0 (by have := (hq.chain (c := j % 2) (by omega)).1; omega) u hu
    · exact hx.keep (h.F j (by omega) u hu)
theorem fe0_of {o : Proj} (hg : o.good) (hl : o.chains.length = 2) (i : Nat) (hi : i < 1000) (fill : Bool) : fe0 o (i : Int) fill = ⟨o, i, fill, 2, 0, 0, 0, ⟨#[]⟩, 0⟩ := by
  unfold fe0
  rw [if_pos (chn_of hg hl i hi).ok]
/-- a record is read by the new projection -/
theorem keep_readQ {hd : HdS} (hK : Kv hd.nd 100 c M E D 1 t L) (hE : KEnv q E D) (hJ : JF M m q T) {i : Nat} (hi : i < m) (hm : m ≤ 100) (hT : (T i).size ≤ 4096) (hc : c + 3 ≤ 100) :
    ∃ n' M', (stR hd q i true [] 30).1 = { hd with nd := n' } ∧ FOverV (stR hd q i true [] 30).2 = .tuple #[.int .i64 1, .string (T i), .int .i64 0, .bool true] ∧ Kv n' 100 (c + 3) M' E D 1 t L ∧ JF M' m q T := by
  have hC := chn_of hE.nx.good hE.nx.len i (by omega)
  have hf := fe0_of hE.nx.good hE.nx.len i (by omega) true
  obtain ⟨u0, a1, a2, -⟩ := hE.unit (c := i % 2) (by omega) (k := 0) (by have := hC.n0; omega)
  obtain ⟨k, hk, n', s', M', h1, h2, h3, h4, h5, h6, h7⟩ := fe_read (s := fe0 q (i : Int) true) hC hT hK hc (hJ.rdy hE hi) ⟨u0, a2, hJ.F i hi u0 a2⟩ (by rw [hf]) (by rw [hf]) (by rw [hf])
  have hst := stR_it hd q (i : Int) true 30
  have hit : it feN 30 (hd.nd, fe0 q (i : Int) true) = (n', s') := it_end (by omega) h1 (by unfold feN; rw [if_pos h2])
  rw [hit] at hst
  refine ⟨n', M', by rw [hst], ?_, h6, hJ.ext hE.nx hi h7⟩
  rw [hst]
  unfold FOverV
  rw [if_pos h2, h3, h4, h5, hf]
/-- a record is read by the old projection -/
theorem keep_readO {hd : HdS} (hK : Kv hd.nd 100 c M E D 1 t L) (hL : L.p = q) (hE : KEnv q E D) (hJ : JF M m q T) {i : Nat} (hi : i < m) (hm : m ≤ 100) (hT : (T i).size ≤ 4096) (hc : c + 3 ≤ 100) :
    ∃ n' M', (stR hd qOld i true [] 30).1 = { hd with nd := n' } ∧ FOverV (stR hd qOld i true [] 30).2 = .tuple #[.int .i64 1, .string (T i), .int .i64 0, .bool true] ∧ Kv n' 100 (c + 3) M' E D 1 t L ∧ JF M' m q T := by
  have hC := chn_of hE.nx.good hE.nx.len i (by omega)
  have hCo : Chn qOld (i : Int) (chO (i % 2)) ((i / 2 : Nat) : Int) := chn_of (by decide) rfl i (by omega)
  have hf := fe0_of (o := qOld) (by decide) rfl i (by omega) true
  have hlen := hCo.n0
  obtain ⟨ul, b1, b2⟩ := chO_unit (i := i) (k := (chO (i % 2)).length - 1) (by omega)
  have hul : (ul : Int) ∈ qOld.units := by
    rw [← b2]
    exact chO_units (by omega) (getD_in (by omega))
  obtain ⟨n1, s1, f1, f2, f3, f4, f5, f6⟩ := fe_old (s := fe0 qOld (i : Int) true) (o := qOld) hK hL (decide_eq_true hE.nx.good) (by rw [hE.nx.ep]; decide) (by rw [hf]) (by rw [hf]) b1 (by rw [hf]; show (chainP qOld (i : Int)).getD ((chainP qOld (i : Int)).length - 1) 0 = _; rw [hCo.ch]; exact b2) (hE.old ul hul)
  obtain ⟨u0, a1, a2, -⟩ := hE.unit (c := i % 2) (by omega) (k := 0) (by have := hC.n0; omega)
  obtain ⟨k, hk, n', s', M', h1, h2, h3, h4, h5, h6, h7⟩ := fe_read (s := s1) hC hT f2 hc (hJ.rdy hE hi) ⟨u0, a2, hJ.F i hi u0 a2⟩ f3 (by rw [f5, hf]) f4
  have hst := stR_it hd qOld (i : Int) true 30
  have hit : it feN 30 (hd.nd, fe0 qOld (i : Int) true) = (n', s') := it_end (k := 2 + k) (by omega) (by rw [it_add, f1]; exact h1) (by unfold feN; rw [if_pos h2])
  rw [hit] at hst
  refine ⟨n', M', by rw [hst], ?_, h6, hJ.ext hE.nx hi h7⟩
  rw [hst]
  unfold FOverV
  rw [if_pos h2, h3, h4, h5, f6, hf]
/-- a record is appended behind the change, beginning with the old projection -/
theorem keep_put {hd : HdS} (hK : Kv hd.nd 100 c M E D 1 m L) (hL : L.p = q) (hE : KEnv q E D) (hJ : JF M m q T) (hm : m ≤ 100) (hT : (T m).size ≤ 4096) (hc : c + 4 ≤ 100) :
    ∃ n' M', (stP hd qOld (T m) 60).1 = { hd with nd := n' } ∧ putN (stP hd qOld (T m) 60).2 = m ∧ Kv n' 100 (c + 4) M' E D 1 ((m : Int) + 1) L ∧ JF M' (m + 1) q T := by
  have hC := chn_of hE.nx.good hE.nx.len m (by omega)
  have hap : ap0 qOld (T m) = ⟨qOld, T m, 2, 0, 0, 0, 0, false⟩ := by unfold ap0; rw [if_neg (by decide), if_neg (by omega)]
  obtain ⟨n1, s1, f1, f2, f3, f4, f5, f6⟩ := ap_old (s := ap0 qOld (T m)) (o := qOld) hK hL (decide_eq_true hE.nx.good) (by decide) (by rw [hap]) (by rw [hap])
  have hep := hE.nx.ep
  obtain ⟨k, hk, n', s', M', h1, h2, h3, h4, h5, h6, h7⟩ := ap_run (q := q) (s := s1) hC (hE.nx.nodup (c := m % 2) (by omega)) hT (by rw [hep]; exact f2) hc (by omega) (fun k hk => by
    obtain ⟨u, u1, u2, u3, u4, u5⟩ := hE.unit (c := m % 2) (by omega) hk
    refine ⟨u, u1, u2, u4, u5, ?_⟩
    cases hM : M u ((m / 2 : Nat) : Int) with
    | none => rfl
    | some w =>
      obtain ⟨j, j1, j2, j3, -⟩ := hJ.J (m % 2) (by omega) u u3 _ w hM
      omega) f3 f4 (by rw [f5, hap]) (by rw [f6, hap])
  have hst := stP_it hd qOld (T m) 60
  have hit : it apN 60 (hd.nd, ap0 qOld (T m)) = (n', s') := it_end (k := 2 + k) (by omega) (by rw [it_add, f1]; exact h1) (by unfold apN; rw [if_pos h2])
  rw [hit] at hst
  exact ⟨n', M', by rw [hst], by rw [hst]; unfold putN; rw [if_pos ⟨h2, h4⟩, h3], by rw [hep] at h5; exact h5, hJ.grow hE.nx h6 h7⟩
theorem keep_see {hd : HdS} (hK : Kv hd.nd 100 c M E D 1 t L) (hL : L.p = q) (hE : KEnv q E D) (ht : 0 ≤ t ∧ t ≤ 16384) :
    ∃ n', (stT hd qOld [] 20).1 = { hd with nd := n' } ∧ TaV (stT hd qOld [] 20).2 = .tuple #[.int .i64 t, .int .i64 0, .bool true] ∧ Kv n' 100 c M E D 1 t L := by
  have hta : ta0 qOld = ⟨qOld, 1, 0, 0⟩ := by unfold ta0; rw [if_pos (by decide)]
  obtain ⟨n1, s1, f1, f2, f3, f4, f5⟩ := ta_old (s := ta0 qOld) (o := qOld) hK hL (decide_eq_true hE.nx.good) hE.nx.ep (by decide) ht (by rw [hta]) (by rw [hta])
  have hst := stT_it hd qOld 20
  have hit : it taN 20 (hd.nd, ta0 qOld) = (n1, s1) := it_end (by omega) f1 (by unfold taN; rw [if_pos f3])
  rw [hit] at hst
  refine ⟨n1, by rw [hst], ?_, f2⟩
  rw [hst]
  unfold TaV
  rw [if_pos f3, f4, f5]
end
/-- the tail that a change finds -/
theorem tail_m {m : Nat} {D : Nat → Bool} {P : Nat → PgS} {t : List (Int × Int)} (hm : m ≤ 1000) (hD : ∀ c, c < 2 → ∃ u : Nat, (u : Int) ∈ chO c ∧ D u = false) (hP : ∀ c, c < 2 → ∀ u : Nat, (u : Int) ∈ chO c → (P u).tail = (((m + 1 - c) / 2 : Nat) : Int))
    (ht : ∀ x, get t x = if x ∈ usP qOld ∧ D x.toNat = false then some (P x.toNat).tail else none) : tailP qOld t = m := by
  have hcl : ∀ c : Nat, c < 2 → clampP (((m + 1 - c) / 2 : Nat) : Int) = (((m + 1 - c) / 2 : Nat) : Int) := fun c hc => by
    unfold clampP
    rw [if_neg (by omega), if_neg (by omega)]
  have hin : ∀ x, x ∈ spotsP t qOld.chains 2 → ∃ c : Nat, c < 2 ∧ x = ((c : Int), (((m + 1 - c) / 2 : Nat) : Int)) := fun x hx => by
    have key : ∀ c : Nat, c < 2 → x ∈ spotC t c (chO c) → x = ((c : Int), (((m + 1 - c) / 2 : Nat) : Int)) := fun c hc hx => by
      simp only [spotC, List.mem_filterMap, Option.map_eq_some_iff] at hx
      obtain ⟨u, hu, n, hn, rfl⟩ := hx
      have hu0 : 0 ≤ u := by
        have := (nextO_old.mem hc hu).2.1
        exact this
      obtain ⟨v, rfl⟩ : ∃ v : Nat, u = v := ⟨u.toNat, by omega⟩
      rw [ht] at hn
      by_cases g : (v : Int) ∈ usP qOld ∧ D (v : Int).toNat = false
      · rw [if_pos g] at hn
        have := Option.some.inj hn
        rw [Int.toNat_natCast, hP c hc v hu] at this
        rw [← this, hcl c hc]
      · rw [if_neg g] at hn; cases hn
    have hx : x ∈ ([] ++ spotC t 0 (chO 0)) ++ spotC t 1 (chO 1) := hx
    rw [List.nil_append, List.mem_append] at hx
    rcases hx with hx | hx
    · exact ⟨0, by omega, key 0 (by omega) hx⟩
    · exact ⟨1, by omega, key 1 (by omega) hx⟩
  have hhas : ∀ c : Nat, c < 2 → ((c : Int), (((m + 1 - c) / 2 : Nat) : Int)) ∈ spotsP t qOld.chains 2 := fun c hc => by
    obtain ⟨u, hu, hd⟩ := hD c hc
    have hmem : ((c : Int), (((m + 1 - c) / 2 : Nat) : Int)) ∈ spotC t c (chO c) := by
      simp only [spotC, List.mem_filterMap, Option.map_eq_some_iff]
      refine ⟨u, hu, (P u).tail, ?_, ?_⟩
      · rw [ht, if_pos ⟨mem_unitsOf.2 (chO_units hc hu), by rw [Int.toNat_natCast]; exact hd⟩, Int.toNat_natCast]
      · rw [hP c hc u hu, hcl c hc]
    show _ ∈ ([] ++ spotC t 0 (chO 0)) ++ spotC t 1 (chO 1)
    rw [List.nil_append, List.mem_append]
    have : c = 0 ∨ c = 1 := by omega
    rcases this with rfl | rfl
    · exact Or.inl hmem
    · exact Or.inr hmem
  unfold tailP
  rw [if_pos (by decide)]
  show maxV 2 (spotsP t qOld.chains 2) = m
  refine maxV_eq (fun x hx => ?_) (by omega) ?_
  · obtain ⟨c, hc, rfl⟩ := hin x hx
    unfold spotV
    simp only
    by_cases h0 : (0 : Int) < (((m + 1 - c) / 2 : Nat) : Int)
    · rw [if_pos h0]
      have : c = 0 ∨ c = 1 := by omega
      rcases this with rfl | rfl <;> (simp only [Int.natCast_zero, Int.natCast_one]; omega)
    · rw [if_neg h0]; omega
  · by_cases h0 : m = 0
    · left; omega
    · right
      have hc : m % 2 = 1 ∨ m % 2 = 0 := by omega
      rcases hc with hc | hc
      · refine ⟨_, hhas 0 (by omega), ?_⟩
        unfold spotV
        simp only
        rw [if_pos (by omega)]
        simp only [Int.natCast_zero]
        omega
      · refine ⟨_, hhas 1 (by omega), ?_⟩
        unfold spotV
        simp only
        rw [if_pos (by omega)]
        simp only [Int.natCast_one]
        omega
/-- how many pages a unit of chain c has told -/
theorem p1_tail {n : NdS} {c0 m : Nat} {M : Pgs} {E : Nat → Int} {D : Nat → Bool} {e t : Int} {L : LayS} {T : Nat → ByteArray} (hK : Kv n 100 c0 M E D e t L) (hP : P1 M m T) {c : Nat} (hc : c < 2) {u : Nat} (hu : (u : Int) ∈ chO c) : (n.units u).pg.tail = (((m + 1 - c) / 2 : Nat) : Int) := by
  have hu5 := chO_cases hc hu
  obtain ⟨h1, h2, -⟩ := hK.un u (by omega)
  refine h1.tail (fun a v hv => ?_) ?_
  · rw [h2 a] at hv
    obtain ⟨i, i1, i2, i3, -⟩ := hP.only u a v hv
    have := nextO_old.apart (c := i % 2) (d := c) (by omega) hc i2 hu
    omega
  · by_cases h0 : (m + 1 - c) / 2 = 0
    · exact Or.inl h0
    · right
      obtain ⟨i, hi, hic, hie⟩ : ∃ i, i < m ∧ i % 2 = c ∧ i / 2 = (m + 1 - c) / 2 - 1 := ⟨2 * ((m + 1 - c) / 2 - 1) + c, by omega, by omega, by omega⟩
      refine ⟨(1, T i), ?_⟩
      have := hP.has i hi u (by rw [hic]; exact hu)
      rw [h2, ← this]
      congr 1
      omega
end Go.Proofs.YtghdhhbpbmhooaaGreat
