import Derived.Test.YtmnkackkeppheaaGreatImEnc
import Derived.Test.YtmnkackkeppheaaGreatPkFil
/- package image, plain: what Encode packs, Decode reads as it was; what it reads, packs as it stood -/
namespace Go.Proofs.YtmnkackkeppheaaGreat
open Go.RowKit Esch

set_option linter.unusedSimpArgs false
set_option linter.unusedVariables false
/-- an inode, a client's row, a dump, packed from the values -/
def eIno (s : PkS) (y : InS) : PkS := y.ps.foldl encPart (pkL (pkL (pkL (pkL s [y.ino] 4) [y.kind, y.links, y.opens] 1) [y.size] 2) [(y.ps.length : Int)] 1)
def eRow (s : PkS) (r : RowV) : PkS := pkL (pkL (pkL s [r.1.1] 8) [r.1.2] 4) [r.2.1, r.2.2] 2
def encV (v : DVal) : PkS := v.rows.foldl eRow (v.hl.foldl encHd (pkL (v.nl.foldl encEnt (pkL (pkL (v.ik.foldl eIno (pkL (pkL ([], false) [v.n] 2) [(v.ik.length : Int)] 1)) [v.m] 4) [(v.nl.length : Int)] 2)) [(v.hl.length : Int)] 1))
theorem bs_len (l : Nm) : (bs l).size = l.length := by show l.toArray.size = _; simp
theorem ba_len (b : ByteArray) : b.data.toList.length = b.size := rfl
theorem bs_ext {a b : ByteArray} (h : a.data.toList = b.data.toList) : a = b := by
  obtain ⟨a⟩ := a; obtain ⟨b⟩ := b
  congr 1
  exact Array.toList_inj.1 h
theorem bs_lst (l : Nm) : (bs l).data.toList = l := rfl
theorem bs_drop (l : Nm) (n : Nat) : (bs l).extract n (bs l).size = bs (l.drop n) := by
  apply bs_ext
  rw [bs_lst, bs_len]
  simp only [bs, ByteArray.data_extract, Array.toList_extract]
  rw [List.extract_eq_take_drop, List.take_of_length_le (by rw [List.length_drop]; exact Nat.le_refl _)]
theorem bs_take (l : Nm) (n : Nat) : (bs l).extract 0 n = bs (l.take n) := by
  apply bs_ext
  rw [bs_lst]
  simp [bs, ByteArray.data_extract]
/-- what is packed stays packed -/
def Keeps (f : PkS → PkS) : Prop := ∀ s, (f s).2 = false → s.2 = false
theorem keep_num (v : Int) (n : Nat) : Keeps (fun s => pkN s v n) := fun s h => by
  simp only [pkN] at h
  split at h
  · exact h
  · cases h
theorem keep_fold {α : Type} {f : PkS → α → PkS} (hf : ∀ a, Keeps (fun s => f s a)) : ∀ l : List α, Keeps (fun s => l.foldl f s)
  | [], _, h => h
  | a :: l, s, h => hf a s (keep_fold hf l (f s a) h)
theorem keep_list (l : List Int) (n : Nat) : Keeps (fun s => pkL s l n) := keep_fold (fun v => keep_num v n) l
theorem keep_textn (t : Nm) (n : Nat) : Keeps (fun s => ((pkN s t.length n).1 ++ t, (pkN s t.length n).2)) := fun s h => keep_num _ n s h
theorem keep_text (t : Nm) : Keeps (fun s => pkT s t) := keep_textn t 2
theorem keep_part (p : PtS) : Keeps (fun s => encPart s p) := keep_list _ _
theorem keep_comp {f g : PkS → PkS} (hg : Keeps g) (hf : Keeps f) : Keeps (fun s => g (f s)) := fun s h => hf s (hg _ h)
theorem keepN {s : PkS} {v : Int} {n : Nat} (h : (pkN s v n).2 = false) : s.2 = false := keep_num v n s h
theorem keepL {s : PkS} {l : List Int} {n : Nat} (h : (pkL s l n).2 = false) : s.2 = false := keep_list l n s h
theorem keepF {α : Type} {f : PkS → α → PkS} (hf : ∀ a, Keeps (fun s => f s a)) {s : PkS} {l : List α} (h : (l.foldl f s).2 = false) : s.2 = false := keep_fold hf l s h
theorem keepT {s : PkS} {t : Nm} (h : (pkT s t).2 = false) : s.2 = false := keep_text t s h
theorem keep_ino (y : InS) : Keeps (fun s => eIno s y) := fun s h => by
  unfold eIno at h
  exact keepL (keepL (keepL (keepL (keepF keep_part h))))
theorem keep_ent (e : EqK) : Keeps (fun s => encEnt s e) := fun s h => by
  unfold encEnt at h
  exact keepL (keepT (keepL h))
theorem keep_hd (h : Hd) : Keeps (fun s => encHd s h) := fun s h => by
  unfold encHd at h
  exact keepL (keepL (keepL h))
theorem keep_row (r : RowV) : Keeps (fun s => eRow s r) := fun s h => by
  unfold eRow at h
  exact keepL (keepL (keepL h))
theorem pkL_cons (s : PkS) (a : Int) (l : List Int) (n : Nat) : pkL s (a :: l) n = pkL (pkN s a n) l n := by unfold pkL; rw [List.foldl_cons]
theorem pkL_nil (s : PkS) (n : Nat) : pkL s [] n = s := by unfold pkL; rw [List.foldl_nil]
theorem pkT_is (s : PkS) (t : Nm) {r : PkS} (h : pkN s t.length 2 = r) : pkT s t = (r.1 ++ t, r.2) := by subst h; unfold pkT; exact rfl
/-- what f packs, rd reads: something that P holds for -/
def Enc {α : Type} (f : PkS → PkS) (rd : USt → Option (α × USt)) (P : α → Prop) : Prop := ∀ s, (f s).2 = false → ∃ l a, P a ∧ (f s).1 = s.1 ++ l ∧ ∀ rest : Nm, rd (bs (l ++ rest), false) = some (a, (bs rest, false))
theorem enc_pure {α : Type} {P : α → Prop} {a : α} (h : P a) : Enc id (fun st => some (a, st)) P := fun s _ => ⟨[], a, h, (List.append_nil _).symm, fun rest => rfl⟩
theorem enc_bind {α β : Type} {f g : PkS → PkS} {rd : USt → Option (α × USt)} {K : α × USt → Option (β × USt)} {P : α → Prop} {Q : β → Prop} (hf : Enc f rd P) (kg : Keeps g) (hg : ∀ a, P a → Enc g (fun st => K (a, st)) Q) :
    Enc (fun s => g (f s)) (fun st => (rd st).bind K) Q := fun s h => by
  obtain ⟨l, a, pa, e1, h1⟩ := hf s (kg _ h)
  obtain ⟨k, b, qb, e2, h2⟩ := hg a pa (f s) h
  refine ⟨l ++ k, b, qb, by show (g (f s)).1 = _; rw [e2, e1, List.append_assoc], fun rest => ?_⟩
  show (rd _).bind K = _
  rw [List.append_assoc, h1 (k ++ rest)]
  exact h2 rest
/-- the end: what was read, made one -/
theorem enc_end {α β : Type} {f : PkS → PkS} {rd : USt → Option (α × USt)} {F : α → β} {P : α → Prop} {Q : β → Prop} (hf : Enc f rd P) (hq : ∀ a, P a → Q (F a)) : Enc f (fun st => (rd st).bind fun r => some (F r.1, r.2)) Q :=
  enc_bind (g := id) hf (fun _ h => h) fun a ha => enc_pure (hq a ha)
theorem rNum_bs {v n : Nat} (h1 : v < 256 ^ n) (h2 : v < 9223372036854775808) (rest : Nm) : rNum n (bs (putB v n ++ rest), false) = some (v, (bs rest, false)) := by
  have hl : (bs (putB v n ++ rest)).size = n + rest.length := by rw [bs_len, List.length_append, putB_length]
  have hc : cutB (bs (putB v n ++ rest)) 0 n = putB v n := by
    unfold cutB
    rw [bs_lst, List.drop_zero, List.take_append_of_le_length (Nat.le_of_eq (putB_length v n).symm), List.take_of_length_le (Nat.le_of_eq (putB_length v n))]
  unfold rNum uLeft
  simp only [Bool.false_eq_true, if_false]
  rw [if_neg (by omega)]
  unfold unNum
  rw [if_neg (fun e => e.elim (fun h => by cases h) (fun h => by omega)), hc, getB_putB' h1, if_neg (by omega), bs_drop, List.drop_append_of_le_length (Nat.le_of_eq (putB_length v n).symm), List.drop_of_length_le (Nat.le_of_eq (putB_length v n))]
  rfl
theorem enc_num (v : Int) (n : Nat) (h8 : n ≤ 8) (hv : v < 9223372036854775808) : Enc (fun s => pkN s v n) (rNum n) (fun m => (m : Int) = v) := fun s h => by
  simp only [pkN] at h ⊢
  split at h
  · rename_i hf
    rw [if_pos hf]
    unfold fitB at hf
    rw [Bool.and_eq_true, Bool.or_eq_true, decide_eq_true_eq, decide_eq_true_eq, decide_eq_true_eq] at hf
    obtain ⟨h0, h1⟩ := hf
    refine ⟨putB v.toNat n, v.toNat, by omega, rfl, fun rest => rNum_bs ?_ (by omega) rest⟩
    rcases h1 with h1 | h1
    · subst h1; have : (256 : Nat) ^ 8 = 18446744073709551616 := by decide
      omega
    · have : ((256 ^ n : Nat) : Int) = (256 : Int) ^ n := Int.natCast_pow 256 n
      omega
  · cases h
theorem enc_one (v : Int) (n : Nat) (h8 : n ≤ 8) (hv : v < 9223372036854775808) : Enc (fun s => pkL s [v] n) (rNum n) (fun m => (m : Int) = v) := enc_num v n h8 hv
theorem enc_rep {α β : Type} {f : PkS → α → PkS} {rd : USt → Option (β × USt)} {F : α → β} (hf : ∀ a, Keeps (fun s => f s a)) : ∀ l : List α, (∀ a ∈ l, Enc (fun s => f s a) rd (fun b => b = F a)) → Enc (fun s => l.foldl f s) (rRep rd l.length) (fun r => r = l.map F)
  | [], _ => enc_pure rfl
  | a :: l, h => by
    refine enc_bind (f := fun s => f s a) (g := fun s => l.foldl f s) (h a (by simp)) (keep_fold hf l) fun b hb => ?_
    try dsimp only
    refine enc_end (F := fun q => b :: q) (enc_rep hf l fun c hc => h c (by simp [hc])) fun q hq => ?_
    rw [hb, hq]; rfl
/-- of a list that comes behind its length -/
theorem enc_many {α β : Type} {f : PkS → α → PkS} {rd : USt → Option (β × USt)} {F : α → β} (hf : ∀ a, Keeps (fun s => f s a)) (l : List α) (h : ∀ a ∈ l, Enc (fun s => f s a) rd (fun b => b = F a)) {m : Nat} (hm : (m : Int) = (l.length : Int)) : Enc (fun s => l.foldl f s) (rRep rd m) (fun r => r = l.map F) := by
  obtain rfl : m = l.length := by omega
  exact enc_rep hf l h
abbrev L63 (v : Int) : Prop := v < 9223372036854775808
theorem enc_part (p : PtS) (h : L63 p.off ∧ L63 p.len ∧ L63 p.addr ∧ L63 p.at') : Enc (fun s => encPart s p) rPart (fun q => q = p) := by
  refine enc_bind (f := fun s => pkN s p.off 2) (g := fun s => pkN (pkN (pkN s p.len 2) p.addr 2) p.at' 2) (enc_num _ 2 (by decide) h.1) (fun s h => keepN (keepN (keepN h))) fun a ha => ?_
  try dsimp only
  refine enc_bind (f := fun s => pkN s p.len 2) (g := fun s => pkN (pkN s p.addr 2) p.at' 2) (enc_num _ 2 (by decide) h.2.1) (fun s h => keepN (keepN h)) fun b hb => ?_
  try dsimp only
  refine enc_bind (f := fun s => pkN s p.addr 2) (g := fun s => pkN s p.at' 2) (enc_num _ 2 (by decide) h.2.2.1) (keep_num _ _) fun c hc => ?_
  try dsimp only
  refine enc_end (F := fun d : Nat => (⟨a, b, c, d⟩ : PtS)) (enc_num _ 2 (by decide) h.2.2.2) fun d hd => ?_
  rw [ha, hb, hc, hd]
theorem enc_ino (y : InS) (h : L63 y.ino ∧ L63 y.kind ∧ L63 y.links ∧ L63 y.opens ∧ L63 y.size ∧ y.ps.length ≤ 100000 ∧ ∀ p ∈ y.ps, L63 p.off ∧ L63 p.len ∧ L63 p.addr ∧ L63 p.at') : Enc (fun s => eIno s y) rIno (fun q => q = y) := by
  obtain ⟨h0, h1, h2, h3, h4, h5, h6⟩ := h
  refine enc_bind (f := fun s => pkN s y.ino 4) (g := fun s => y.ps.foldl encPart (pkL (pkL (pkL s [y.kind, y.links, y.opens] 1) [y.size] 2) [(y.ps.length : Int)] 1)) (enc_num _ 4 (by decide) h0) (fun s h => keepL (keepL (keepL (keepF keep_part h)))) fun a ha => ?_
  try dsimp only
  refine enc_bind (f := fun s => pkN s y.kind 1) (g := fun s => y.ps.foldl encPart (pkL (pkL (pkL s [y.links, y.opens] 1) [y.size] 2) [(y.ps.length : Int)] 1)) (enc_num _ 1 (by decide) h1) (fun s h => keepL (keepL (keepL (keepF keep_part h)))) fun b hb => ?_
  try dsimp only
  refine enc_bind (f := fun s => pkN s y.links 1) (g := fun s => y.ps.foldl encPart (pkL (pkL (pkL s [y.opens] 1) [y.size] 2) [(y.ps.length : Int)] 1)) (enc_num _ 1 (by decide) h2) (fun s h => keepL (keepL (keepL (keepF keep_part h)))) fun c hc => ?_
  try dsimp only
  refine enc_bind (f := fun s => pkN s y.opens 1) (g := fun s => y.ps.foldl encPart (pkL (pkL s [y.size] 2) [(y.ps.length : Int)] 1)) (enc_num _ 1 (by decide) h3) (fun s h => keepL (keepL (keepF keep_part h))) fun d hd => ?_
  try dsimp only
  refine enc_bind (f := fun s => pkN s y.size 2) (g := fun s => y.ps.foldl encPart (pkL s [(y.ps.length : Int)] 1)) (enc_num _ 2 (by decide) h4) (fun s h => keepL (keepF keep_part h)) fun e he => ?_
  try dsimp only
  refine enc_bind (f := fun s => pkL s [(y.ps.length : Int)] 1) (g := fun s => y.ps.foldl encPart s) (enc_one _ 1 (by decide) (by omega)) (keep_fold keep_part y.ps) fun k hk => ?_
  try dsimp only
  refine enc_end (F := fun l => (⟨a, b, c, d, e, l⟩ : InS)) (enc_many (F := id) keep_part y.ps (fun p hp => enc_part p (h6 p hp)) hk) fun l hl => ?_
  rw [ha, hb, hc, hd, he, hl, List.map_id]
theorem enc_num_at {v : Int} {n : Nat} {s r : PkS} (hr : pkN s v n = r) (h8 : n ≤ 8) (hv : v < 9223372036854775808) (h : r.2 = false) : ∃ (l : Nm) (a : Nat), (a : Int) = v ∧ r.1 = s.1 ++ l ∧ ∀ rest : Nm, rNum n (bs (l ++ rest), false) = some (a, (bs rest, false)) := by
  subst hr
  exact enc_num v n h8 hv s h
theorem enc_text (t : Nm) (ht : t.length ≤ 8) : Enc (fun s => pkT s t) (fun st => some ((unText st.1 st.2 8).1, (unText st.1 st.2 8).2)) (fun r => r.data.toList = t) := fun s h => by
  obtain ⟨r, hr⟩ : ∃ r, pkN s t.length 2 = r := ⟨_, rfl⟩
  have e0 := pkT_is s t hr
  simp only [e0] at h ⊢
  obtain ⟨l, a, pa, e, h1⟩ := enc_num_at hr (by decide) (by omega) h
  refine ⟨l ++ t, bs t, rfl, by rw [← List.append_assoc, ← e], fun rest => ?_⟩
  have h2 := h1 (t ++ rest)
  obtain rfl : a = t.length := by omega
  have h3 : unNum (bs (l ++ (t ++ rest))) false 2 = (t.length, bs (t ++ rest), false) := by
    unfold rNum at h2
    split at h2
    · cases h2
    · exact Option.some.inj h2
  rw [List.append_assoc]
  show some _ = some _
  unfold unText
  simp only [h3]
  rw [show decide (8 < t.length) = false from decide_eq_false (by omega)]
  unfold unTake
  rw [if_neg (by simp [bs_len]), bs_drop, bs_take, List.take_append_of_le_length (Nat.le_refl _), List.take_length, List.drop_append_of_le_length (Nat.le_refl _), List.drop_length]
  rfl
theorem enc_ent (e : EqK) (h : L63 e.1 ∧ e.2.1.length ≤ 8 ∧ L63 e.2.2) : Enc (fun s => encEnt s e) rEnt (fun q => q = e) := by
  refine enc_bind (f := fun s => pkN s e.1 4) (g := fun s => pkL (pkT s e.2.1) [e.2.2] 4) (enc_num _ 4 (by decide) h.1) (fun s h => keepT (keepL h)) fun a ha => ?_
  have h2 : Enc (fun s => pkL (pkT s e.2.1) [e.2.2] 4) (fun st => ((some ((unText st.1 st.2 8).1, (unText st.1 st.2 8).2) : Option (ByteArray × USt))).bind fun r => (rNum 4 r.2).bind fun c => some ((((a : Int), r.1.data.toList, (c.1 : Int)) : EqK), c.2)) (fun q => q = e) := by
    try dsimp only
    refine enc_bind (f := fun s => pkT s e.2.1) (g := fun s => pkL s [e.2.2] 4) (enc_text e.2.1 h.2.1) (fun s h => keepL h) fun b hb => ?_
    try dsimp only
    refine enc_end (F := fun c : Nat => (((a : Int), b.data.toList, (c : Int)) : EqK)) (enc_one _ 4 (by decide) h.2.2) fun c hc => ?_
    rw [ha, hb, hc]
  exact h2
theorem enc_hd (e : Hd) (h : L63 e.1.1 ∧ L63 e.1.2 ∧ L63 e.2) : Enc (fun s => encHd s e) rHd (fun q => q = e) := by
  refine enc_bind (f := fun s => pkN s e.1.1 1) (g := fun s => pkL (pkL s [e.1.2] 2) [e.2] 4) (enc_num _ 1 (by decide) h.1) (fun s h => keepL (keepL h)) fun a ha => ?_
  try dsimp only
  refine enc_bind (f := fun s => pkN s e.1.2 2) (g := fun s => pkL s [e.2] 4) (enc_num _ 2 (by decide) h.2.1) (fun s h => keepL h) fun b hb => ?_
  try dsimp only
  refine enc_end (F := fun c : Nat => ((((a : Int), (b : Int)), (c : Int)) : Hd)) (enc_one _ 4 (by decide) h.2.2) fun c hc => ?_
  rw [ha, hb, hc]
theorem enc_row (r : RowV) (h : L63 r.1.1 ∧ L63 r.1.2 ∧ L63 r.2.1 ∧ L63 r.2.2) : Enc (fun s => eRow s r) rRow (fun q => q = r) := by
  refine enc_bind (f := fun s => pkN s r.1.1 8) (g := fun s => pkL (pkL s [r.1.2] 4) [r.2.1, r.2.2] 2) (enc_num _ 8 (by decide) h.1) (fun s h => keepL (keepL h)) fun a ha => ?_
  try dsimp only
  refine enc_bind (f := fun s => pkN s r.1.2 4) (g := fun s => pkL s [r.2.1, r.2.2] 2) (enc_num _ 4 (by decide) h.2.1) (fun s h => keepL h) fun b hb => ?_
  try dsimp only
  refine enc_bind (f := fun s => pkN s r.2.1 2) (g := fun s => pkL s [r.2.2] 2) (enc_num _ 2 (by decide) h.2.2.1) (fun s h => keepL h) fun c hc => ?_
  try dsimp only
  refine enc_end (F := fun d : Nat => (((((a : Int), (b : Int)), ((c : Int), (d : Int)))) : RowV)) (enc_one _ 2 (by decide) h.2.2.2) fun d hd => ?_
  rw [ha, hb, hc, hd]
/-- values that fit -/
structure VFit (v : DVal) : Prop where
  n : L63 v.n
  m : L63 v.m
  ik : ∀ y ∈ v.ik, L63 y.ino ∧ L63 y.kind ∧ L63 y.links ∧ L63 y.opens ∧ L63 y.size ∧ y.ps.length ≤ 100000 ∧ ∀ p ∈ y.ps, L63 p.off ∧ L63 p.len ∧ L63 p.addr ∧ L63 p.at'
  il : v.ik.length ≤ 100000
  nl : ∀ e ∈ v.nl, L63 e.1 ∧ e.2.1.length ≤ 8 ∧ L63 e.2.2
  ln : v.nl.length ≤ 100000
  hl : ∀ h ∈ v.hl, L63 h.1.1 ∧ L63 h.1.2 ∧ L63 h.2
  lh : v.hl.length ≤ 100000
  rw : ∀ r ∈ v.rows, L63 r.1.1 ∧ L63 r.1.2 ∧ L63 r.2.1 ∧ L63 r.2.2
  rl : v.rows.length = 8
def encW (v : DVal) (s : PkS) : PkS := v.rows.foldl eRow (v.hl.foldl encHd (pkL (v.nl.foldl encEnt (pkL (pkL (v.ik.foldl eIno (pkL (pkL s [v.n] 2) [(v.ik.length : Int)] 1)) [v.m] 4) [(v.nl.length : Int)] 2)) [(v.hl.length : Int)] 1))
theorem enc_dump (v : DVal) (h : VFit v) : Enc (encW v) rDump (fun q => q = v) := by
  have k5 : Keeps (fun s => v.rows.foldl eRow s) := keep_fold keep_row v.rows
  have k4 : Keeps (fun s => v.rows.foldl eRow (v.hl.foldl encHd s)) := keep_comp k5 (keep_fold keep_hd v.hl)
  have k4n : Keeps (fun s => v.rows.foldl eRow (v.hl.foldl encHd (pkL s [(v.hl.length : Int)] 1))) := fun s h => keepL (k4 _ h)
  have k3 : Keeps (fun s => v.rows.foldl eRow (v.hl.foldl encHd (pkL (v.nl.foldl encEnt s) [(v.hl.length : Int)] 1))) := keep_comp k4n (keep_fold keep_ent v.nl)
  have k3n : Keeps (fun s => v.rows.foldl eRow (v.hl.foldl encHd (pkL (v.nl.foldl encEnt (pkL s [(v.nl.length : Int)] 2)) [(v.hl.length : Int)] 1))) := fun s h => keepL (k3 _ h)
  have k2m : Keeps (fun s => v.rows.foldl eRow (v.hl.foldl encHd (pkL (v.nl.foldl encEnt (pkL (pkL s [v.m] 4) [(v.nl.length : Int)] 2)) [(v.hl.length : Int)] 1))) := fun s h => keepL (k3n _ h)
  have k2 : Keeps (fun s => v.rows.foldl eRow (v.hl.foldl encHd (pkL (v.nl.foldl encEnt (pkL (pkL (v.ik.foldl eIno s) [v.m] 4) [(v.nl.length : Int)] 2)) [(v.hl.length : Int)] 1))) := keep_comp k2m (keep_fold keep_ino v.ik)
  have k2n : Keeps (fun s => v.rows.foldl eRow (v.hl.foldl encHd (pkL (v.nl.foldl encEnt (pkL (pkL (v.ik.foldl eIno (pkL s [(v.ik.length : Int)] 1)) [v.m] 4) [(v.nl.length : Int)] 2)) [(v.hl.length : Int)] 1))) := fun s h => keepL (k2 _ h)
  refine enc_bind (f := fun s => pkN s v.n 2) (g := fun s => v.rows.foldl eRow (v.hl.foldl encHd (pkL (v.nl.foldl encEnt (pkL (pkL (v.ik.foldl eIno (pkL s [(v.ik.length : Int)] 1)) [v.m] 4) [(v.nl.length : Int)] 2)) [(v.hl.length : Int)] 1))) (enc_num _ 2 (by decide) h.n) k2n fun n hn => ?_
  try dsimp only
  refine enc_bind (f := fun s => pkL s [(v.ik.length : Int)] 1) (g := fun s => v.rows.foldl eRow (v.hl.foldl encHd (pkL (v.nl.foldl encEnt (pkL (pkL (v.ik.foldl eIno s) [v.m] 4) [(v.nl.length : Int)] 2)) [(v.hl.length : Int)] 1))) (enc_one _ 1 (by decide) (by have := h.il; omega)) k2 fun k hk => ?_
  try dsimp only
  refine enc_bind (f := fun s => v.ik.foldl eIno s) (g := fun s => v.rows.foldl eRow (v.hl.foldl encHd (pkL (v.nl.foldl encEnt (pkL (pkL s [v.m] 4) [(v.nl.length : Int)] 2)) [(v.hl.length : Int)] 1))) (enc_many (F := id) keep_ino v.ik (fun y hy => enc_ino y (h.ik y hy)) hk) k2m fun ik hik => ?_
  try dsimp only
  refine enc_bind (f := fun s => pkL s [v.m] 4) (g := fun s => v.rows.foldl eRow (v.hl.foldl encHd (pkL (v.nl.foldl encEnt (pkL s [(v.nl.length : Int)] 2)) [(v.hl.length : Int)] 1))) (enc_one _ 4 (by decide) h.m) k3n fun m hm => ?_
  try dsimp only
  refine enc_bind (f := fun s => pkL s [(v.nl.length : Int)] 2) (g := fun s => v.rows.foldl eRow (v.hl.foldl encHd (pkL (v.nl.foldl encEnt s) [(v.hl.length : Int)] 1))) (enc_one _ 2 (by decide) (by have := h.ln; omega)) k3 fun k2 hk2 => ?_
  try dsimp only
  refine enc_bind (f := fun s => v.nl.foldl encEnt s) (g := fun s => v.rows.foldl eRow (v.hl.foldl encHd (pkL s [(v.hl.length : Int)] 1))) (enc_many (F := id) keep_ent v.nl (fun y hy => enc_ent y (h.nl y hy)) hk2) k4n fun nl hnl => ?_
  try dsimp only
  refine enc_bind (f := fun s => pkL s [(v.hl.length : Int)] 1) (g := fun s => v.rows.foldl eRow (v.hl.foldl encHd s)) (enc_one _ 1 (by decide) (by have := h.lh; omega)) k4 fun k3 hk3 => ?_
  try dsimp only
  refine enc_bind (f := fun s => v.hl.foldl encHd s) (g := fun s => v.rows.foldl eRow s) (enc_many (F := id) keep_hd v.hl (fun y hy => enc_hd y (h.hl y hy)) hk3) k5 fun hl hhl => ?_
  try dsimp only
  refine enc_end (F := fun rw => (⟨n, ik, m, nl, hl, rw⟩ : DVal)) (enc_many (F := id) keep_row v.rows (fun y hy => enc_row y (h.rw y hy)) (m := 8) (by rw [h.rl])) fun rw hrw => ?_
  rw [hn, hik, hm, hnl, hhl, hrw, List.map_id, List.map_id, List.map_id, List.map_id]
/-- what was packed is read as it was -/
theorem dump_of_enc (v : DVal) (h : VFit v) (hp : (encV v).2 = false) : rDump (bs (encV v).1, false) = some (v, (bs [], false)) := by
  obtain ⟨l, a, rfl, e, h1⟩ := enc_dump v h ([], false) hp
  have e : (encV a).1 = l := e
  have h2 := h1 []
  rw [List.append_nil] at h2
  rw [e]; exact h2
/-- what rd reads, packs as it stood -/
def DecI {α : Type} (rd : USt → Option (α × USt)) (F : α → List UInt8 → Prop) : Prop := ∀ s a s', rd s = some (a, s') → s'.2 = false → s.2 = false ∧ ∃ l, s.1.data.toList = l ++ s'.1.data.toList ∧ F a l
theorem dec_bind {α β : Type} {rd : USt → Option (α × USt)} {K : α × USt → Option (β × USt)} {F : α → List UInt8 → Prop} {G : α → β → List UInt8 → Prop} {H : β → List UInt8 → Prop} (hf : DecI rd F) (hg : ∀ a, DecI (fun st => K (a, st)) (G a)) (hh : ∀ a b l k, F a l → G a b k → H b (l ++ k)) : DecI (fun st => (rd st).bind K) H := fun s b s' h hs => by
  cases hr : rd s with
  | none => simp only [hr] at h; cases h
  | some r =>
    simp only [hr] at h
    obtain ⟨a, s1⟩ := r
    obtain ⟨h1, k, e1, g1⟩ := hg a s1 b s' h hs
    obtain ⟨h0, l, e0, f0⟩ := hf s a s1 hr h1
    exact ⟨h0, l ++ k, by rw [e0, e1, List.append_assoc], hh a b l k f0 g1⟩
theorem dec_end {α β : Type} {rd : USt → Option (α × USt)} {f : α → β} {F : α → List UInt8 → Prop} {H : β → List UInt8 → Prop} (hf : DecI rd F) (hh : ∀ a l, F a l → H (f a) l) : DecI (fun st => (rd st).bind fun r => some (f r.1, r.2)) H := fun s b s' h hs => by
  cases hr : rd s with
  | none => simp only [hr] at h; cases h
  | some r =>
    simp only [hr] at h
    obtain ⟨a, s1⟩ := r
    cases h
    obtain ⟨h0, l, e0, f0⟩ := hf s a _ hr hs
    exact ⟨h0, l, e0, hh a l f0⟩
/-- f packs these bytes -/
def Pk (f : PkS → PkS) (l : List UInt8) : Prop := ∀ s, f s = (s.1 ++ l, s.2)
theorem Pk.comp {f g : PkS → PkS} {l k : List UInt8} (hf : Pk f l) (hg : Pk g k) : Pk (fun s => g (f s)) (l ++ k) := fun s => by
  show g (f s) = _
  rw [hg, hf, List.append_assoc]
theorem dec_num (n : Nat) : DecI (rNum n) (fun m l => l = putB m n ∧ m < 256 ^ n) := fun s a s' h hs => by
  obtain ⟨b, bad⟩ := s
  unfold rNum uLeft at h
  cases bad
  · simp only [if_neg (show ¬ (false = true) by decide)] at h
    split at h
    · cases h
    · rename_i hn
      unfold unNum at h
      rw [if_neg (by simp; omega)] at h
      split at h
      · cases h; cases hs
      · cases h
        have hn : n ≤ b.data.toList.length := by rw [ba_len]; omega
        have hl : (cutB b 0 n).length = n := by unfold cutB; rw [List.drop_zero, List.length_take]; omega
        refine ⟨rfl, putB (getB (cutB b 0 n)) n, ?_, rfl, ?_⟩
        · have h2 := putB_getB (cutB b 0 n)
          rw [hl] at h2
          rw [h2]
          have e : b = bs b.data.toList := rfl
          have e3 : (b.extract n b.size) = bs (b.data.toList.drop n) := bs_drop b.data.toList n
          rw [e3, bs_lst]
          unfold cutB
          rw [List.drop_zero, List.take_append_drop]
        · have := getB_lt (cutB b 0 n)
          rw [hl] at this
          exact this
  · rw [if_pos rfl] at h
    split at h
    · cases h
    · rename_i hn
      unfold unNum at h
      rw [if_pos (Or.inl rfl)] at h
      cases h; cases hs
theorem pk_num {m n : Nat} {l : List UInt8} (h : l = putB m n ∧ m < 256 ^ n) : Pk (fun s => pkN s (m : Int) n) l := fun s => by
  have hf : fitB (m : Int) n = true := by
    unfold fitB
    have : ((256 ^ n : Nat) : Int) = (256 : Int) ^ n := Int.natCast_pow 256 n
    rw [decide_eq_true (by omega : (0 : Int) ≤ m), decide_eq_true (by omega : (m : Int) < 256 ^ n), Bool.or_true, Bool.true_and]
  simp only [pkN]
  rw [if_pos hf, h.1, Int.toNat_natCast]
theorem pk_one {m n : Nat} {l : List UInt8} (h : l = putB m n ∧ m < 256 ^ n) : Pk (fun s => pkL s [(m : Int)] n) l := fun s => by
  have e := pk_num h s
  simp only [pkL_cons, pkL_nil]
  exact e
theorem dec_rep {α : Type} {rd : USt → Option (α × USt)} {f : PkS → α → PkS} (hf : DecI rd (fun a l => Pk (fun s => f s a) l)) : ∀ k, DecI (rRep rd k) (fun r l => r.length = k ∧ Pk (fun s => r.foldl f s) l)
  | 0 => fun s a s' h hs => by cases h; exact ⟨hs, [], rfl, rfl, fun s => by simp⟩
  | k + 1 => by
    refine dec_bind hf (fun a => dec_end (f := fun q => a :: q) (H := fun b l => ∃ q : List α, b = a :: q ∧ q.length = k ∧ Pk (fun s => q.foldl f s) l) (dec_rep hf k) fun q l hq => ⟨q, rfl, hq⟩) ?_
    rintro a b l m h1 ⟨q, rfl, h2, h3⟩
    exact ⟨by simp [h2], h1.comp h3⟩
theorem dec_part : DecI rPart (fun p l => Pk (fun s => encPart s p) l) := by
  try dsimp only
  refine dec_bind (G := fun (a : Nat) p l => ∃ b c d : Nat, p = (⟨a, b, c, d⟩ : PtS) ∧ Pk (fun s => pkL s [(b : Int), c, d] 2) l) (dec_num 2) (fun a => ?_) ?_
  rotate_left 1
  · rintro a p l k h1 ⟨b, c, d, rfl, h2⟩; exact (by have hh := (pk_num h1).comp h2; simp only [pkL_cons, pkL_nil, encPart, eIno, encHd, encEnt, eRow, encW] at hh ⊢; exact hh)
  try dsimp only
  refine dec_bind (G := fun (b : Nat) p l => ∃ c d : Nat, p = (⟨a, b, c, d⟩ : PtS) ∧ Pk (fun s => pkL s [(c : Int), d] 2) l) (dec_num 2) (fun b => ?_) ?_
  rotate_left 1
  · rintro b p l k h1 ⟨c, d, rfl, h2⟩; exact ⟨b, c, d, rfl, (by have hh := (pk_num h1).comp h2; simp only [pkL_cons, pkL_nil, encPart, eIno, encHd, encEnt, eRow, encW] at hh ⊢; exact hh)⟩
  try dsimp only
  refine dec_bind (G := fun (c : Nat) p l => ∃ d : Nat, p = (⟨a, b, c, d⟩ : PtS) ∧ Pk (fun s => pkN s (d : Int) 2) l) (dec_num 2) (fun c => ?_) ?_
  rotate_left 1
  · rintro c p l k h1 ⟨d, rfl, h2⟩; exact ⟨c, d, rfl, (by have hh := (pk_num h1).comp h2; simp only [pkL_cons, pkL_nil, encPart, eIno, encHd, encEnt, eRow, encW] at hh ⊢; exact hh)⟩
  try dsimp only
  exact dec_end (f := fun d : Nat => (⟨a, b, c, d⟩ : PtS)) (dec_num 2) fun d l hd => ⟨d, rfl, pk_num hd⟩
theorem dec_ino : DecI rIno (fun y l => Pk (fun s => eIno s y) l) := by
  try dsimp only
  refine dec_bind (G := fun (a : Nat) y l => ∃ (b c d e : Nat) (ps : List PtS), y = (⟨a, b, c, d, e, ps⟩ : InS) ∧ Pk (fun s => ps.foldl encPart (pkL (pkL (pkL s [(b : Int), c, d] 1) [(e : Int)] 2) [(ps.length : Int)] 1)) l) (dec_num 4) (fun a => ?_) ?_
  rotate_left 1
  · rintro a y l m h1 ⟨b, c, d, e, ps, rfl, h3⟩; exact (by have hh := (pk_num h1).comp h3; simp only [pkL_cons, pkL_nil, encPart, eIno, encHd, encEnt, eRow, encW] at hh ⊢; exact hh)
  try dsimp only
  refine dec_bind (G := fun (b : Nat) y l => ∃ (c d e : Nat) (ps : List PtS), y = (⟨a, b, c, d, e, ps⟩ : InS) ∧ Pk (fun s => ps.foldl encPart (pkL (pkL (pkL s [(c : Int), d] 1) [(e : Int)] 2) [(ps.length : Int)] 1)) l) (dec_num 1) (fun b => ?_) ?_
  rotate_left 1
  · rintro b y l m h1 ⟨c, d, e, ps, rfl, h3⟩; exact ⟨b, c, d, e, ps, rfl, (by have hh := (pk_num h1).comp h3; simp only [pkL_cons, pkL_nil, encPart, eIno, encHd, encEnt, eRow, encW] at hh ⊢; exact hh)⟩
  try dsimp only
  refine dec_bind (G := fun (c : Nat) y l => ∃ (d e : Nat) (ps : List PtS), y = (⟨a, b, c, d, e, ps⟩ : InS) ∧ Pk (fun s => ps.foldl encPart (pkL (pkL (pkL s [(d : Int)] 1) [(e : Int)] 2) [(ps.length : Int)] 1)) l) (dec_num 1) (fun c => ?_) ?_
  rotate_left 1
  · rintro c y l m h1 ⟨d, e, ps, rfl, h3⟩; exact ⟨c, d, e, ps, rfl, (by have hh := (pk_num h1).comp h3; simp only [pkL_cons, pkL_nil, encPart, eIno, encHd, encEnt, eRow, encW] at hh ⊢; exact hh)⟩
  try dsimp only
  refine dec_bind (G := fun (d : Nat) y l => ∃ (e : Nat) (ps : List PtS), y = (⟨a, b, c, d, e, ps⟩ : InS) ∧ Pk (fun s => ps.foldl encPart (pkL (pkL s [(e : Int)] 2) [(ps.length : Int)] 1)) l) (dec_num 1) (fun d => ?_) ?_
  rotate_left 1
  · rintro d y l m h1 ⟨e, ps, rfl, h3⟩; exact ⟨d, e, ps, rfl, (by have hh := (pk_num h1).comp h3; simp only [pkL_cons, pkL_nil, encPart, eIno, encHd, encEnt, eRow, encW] at hh ⊢; exact hh)⟩
  try dsimp only
  refine dec_bind (G := fun (e : Nat) y l => ∃ (ps : List PtS), y = (⟨a, b, c, d, e, ps⟩ : InS) ∧ Pk (fun s => ps.foldl encPart (pkL s [(ps.length : Int)] 1)) l) (dec_num 2) (fun e => ?_) ?_
  rotate_left 1
  · rintro e y l m h1 ⟨ps, rfl, h3⟩; exact ⟨e, ps, rfl, (by have hh := (pk_num h1).comp h3; simp only [pkL_cons, pkL_nil, encPart, eIno, encHd, encEnt, eRow, encW] at hh ⊢; exact hh)⟩
  try dsimp only
  refine dec_bind (G := fun (k : Nat) y l => ∃ (ps : List PtS), y = (⟨a, b, c, d, e, ps⟩ : InS) ∧ ps.length = k ∧ Pk (fun s => ps.foldl encPart s) l) (dec_num 1) (fun k => ?_) ?_
  rotate_left 1
  · rintro k y l m h1 ⟨ps, rfl, rfl, h3⟩; exact ⟨ps, rfl, (by have hh := (pk_num h1).comp h3; simp only [pkL_cons, pkL_nil, encPart, eIno, encHd, encEnt, eRow, encW] at hh ⊢; exact hh)⟩
  try dsimp only
  exact dec_end (f := fun ps => (⟨a, b, c, d, e, ps⟩ : InS)) (dec_rep dec_part k) fun ps l h => ⟨ps, rfl, h⟩
theorem unText_ok {s s' : ByteArray} {t : ByteArray} {bad : Bool} (h : unText s bad 8 = (t, s', false)) : bad = false ∧ t.size ≤ 8 ∧ ∃ l, s.data.toList = l ++ s'.data.toList ∧ Pk (fun p => pkT p t.data.toList) l := by
  unfold unText unTake at h
  split at h
  · cases h
  · rename_i hc
    obtain ⟨r, hr⟩ : ∃ r, r = unNum s bad 2 := ⟨_, rfl⟩
    rw [← hr] at h hc
    obtain ⟨n, u, b2⟩ := r
    simp only [Bool.or_eq_true, decide_eq_true_eq, not_or] at hc h
    obtain ⟨⟨hb, h8⟩, hn⟩ := hc
    have hb : b2 = false := by cases b2 <;> simp_all
    subst hb
    have hrn : rNum 2 (s, bad) = some (n, (u, false)) := by
      unfold rNum uLeft
      cases bad
      · simp only [if_neg (show ¬ (false = true) by decide)]
        by_cases h2 : s.size < 2
        · unfold unNum at hr; rw [if_pos (Or.inr h2)] at hr; cases hr
        · rw [if_neg h2, ← hr]
      · unfold unNum at hr; rw [if_pos (Or.inl rfl)] at hr; cases hr
    obtain ⟨h0, l, e, hl⟩ := dec_num 2 _ _ _ hrn rfl
    simp only [Prod.mk.injEq, and_true] at h
    obtain ⟨rfl, rfl⟩ := h
    have hu := ba_len u
    have e1 : u.extract 0 n = bs (u.data.toList.take n) := bs_take u.data.toList n
    have e2 : u.extract n u.size = bs (u.data.toList.drop n) := bs_drop u.data.toList n
    have hln : (u.data.toList.take n).length = n := by rw [List.length_take]; omega
    rw [e1, e2]
    refine ⟨h0, by rw [bs_len]; omega, l ++ u.data.toList.take n, ?_, fun p => ?_⟩
    · rw [e, bs_lst, List.append_assoc, List.take_append_drop]
    · have hk := pk_num hl p
      rw [bs_lst]
      have hk : pkN p (n : Int) 2 = (p.1 ++ l, p.2) := hk
      show pkT p (u.data.toList.take n) = _
      unfold pkT
      rw [hln, hk, List.append_assoc]
theorem dec_ent : DecI rEnt (fun e l => Pk (fun s => encEnt s e) l) := by
  refine dec_bind (G := fun (a : Nat) e l => ∃ (t : Nm) (c : Nat), e = ((a : Int), t, (c : Int)) ∧ Pk (fun s => pkL (pkT s t) [(c : Int)] 4) l) (dec_num 4) (fun a => ?_) ?_
  · intro s e s' h hs
    cases hr : rNum 4 (unText s.1 s.2 8).2 with
    | none => simp only [hr] at h; cases h
    | some r =>
      simp only [hr] at h
      obtain ⟨c, s2⟩ := r
      cases h
      obtain ⟨h0, l, e0, f0⟩ := dec_num 4 _ _ _ hr hs
      obtain ⟨q, hq⟩ : ∃ q, q = unText s.1 s.2 8 := ⟨_, rfl⟩
      rw [← hq] at h0 e0 hr ⊢
      obtain ⟨t, u, b⟩ := q
      simp only at h0 e0 ⊢
      subst h0
      obtain ⟨h1, -, k, e1, f1⟩ := unText_ok hq.symm
      have hh := f1.comp (pk_one f0)
      exact ⟨h1, k ++ l, by rw [e1, e0, List.append_assoc], t.data.toList, c, rfl, hh⟩
  · rintro a e l k h1 ⟨t, c, rfl, h2⟩
    exact (by have hh := (pk_num h1).comp h2; simp only [pkL_cons, pkL_nil, encPart, eIno, encHd, encEnt, eRow, encW] at hh ⊢; exact hh)
theorem dec_hd : DecI rHd (fun h l => Pk (fun s => encHd s h) l) := by
  try dsimp only
  refine dec_bind (G := fun (a : Nat) p l => ∃ b c : Nat, p = ((((a : Int), (b : Int)), (c : Int)) : Hd) ∧ Pk (fun s => pkL (pkL s [(b : Int)] 2) [(c : Int)] 4) l) (dec_num 1) (fun a => ?_) ?_
  rotate_left 1
  · rintro a p l k h1 ⟨b, c, rfl, h2⟩; exact (by have hh := (pk_num h1).comp h2; simp only [pkL_cons, pkL_nil, encPart, eIno, encHd, encEnt, eRow, encW] at hh ⊢; exact hh)
  try dsimp only
  refine dec_bind (G := fun (b : Nat) p l => ∃ c : Nat, p = ((((a : Int), (b : Int)), (c : Int)) : Hd) ∧ Pk (fun s => pkN s (c : Int) 4) l) (dec_num 2) (fun b => ?_) ?_
  rotate_left 1
  · rintro b p l k h1 ⟨c, rfl, h2⟩; exact ⟨b, c, rfl, (by have hh := (pk_num h1).comp h2; simp only [pkL_cons, pkL_nil, encPart, eIno, encHd, encEnt, eRow, encW] at hh ⊢; exact hh)⟩
  try dsimp only
  exact dec_end (f := fun c : Nat => ((((a : Int), (b : Int)), (c : Int)) : Hd)) (dec_num 4) fun c l hc => ⟨c, rfl, pk_num hc⟩
theorem dec_row : DecI rRow (fun r l => Pk (fun s => eRow s r) l) := by
  try dsimp only
  refine dec_bind (G := fun (a : Nat) p l => ∃ b c d : Nat, p = (((((a : Int), (b : Int)), ((c : Int), (d : Int)))) : RowV) ∧ Pk (fun s => pkL (pkL s [(b : Int)] 4) [(c : Int), d] 2) l) (dec_num 8) (fun a => ?_) ?_
  rotate_left 1
  · rintro a p l k h1 ⟨b, c, d, rfl, h2⟩; exact (by have hh := (pk_num h1).comp h2; simp only [pkL_cons, pkL_nil, encPart, eIno, encHd, encEnt, eRow, encW] at hh ⊢; exact hh)
  try dsimp only
  refine dec_bind (G := fun (b : Nat) p l => ∃ c d : Nat, p = (((((a : Int), (b : Int)), ((c : Int), (d : Int)))) : RowV) ∧ Pk (fun s => pkL s [(c : Int), d] 2) l) (dec_num 4) (fun b => ?_) ?_
  rotate_left 1
  · rintro b p l k h1 ⟨c, d, rfl, h2⟩; exact ⟨b, c, d, rfl, (by have hh := (pk_num h1).comp h2; simp only [pkL_cons, pkL_nil, encPart, eIno, encHd, encEnt, eRow, encW] at hh ⊢; exact hh)⟩
  try dsimp only
  refine dec_bind (G := fun (c : Nat) p l => ∃ d : Nat, p = (((((a : Int), (b : Int)), ((c : Int), (d : Int)))) : RowV) ∧ Pk (fun s => pkN s (d : Int) 2) l) (dec_num 2) (fun c => ?_) ?_
  rotate_left 1
  · rintro c p l k h1 ⟨d, rfl, h2⟩; exact ⟨c, d, rfl, (by have hh := (pk_num h1).comp h2; simp only [pkL_cons, pkL_nil, encPart, eIno, encHd, encEnt, eRow, encW] at hh ⊢; exact hh)⟩
  try dsimp only
  exact dec_end (f := fun d : Nat => (((((a : Int), (b : Int)), ((c : Int), (d : Int)))) : RowV)) (dec_num 2) fun d l hd => ⟨d, rfl, pk_num hd⟩
theorem dec_dump : DecI rDump (fun v l => Pk (fun s => encW v s) l ∧ v.rows.length = 8) := by
  try dsimp only
  refine dec_bind (G := fun (n : Nat) v l => ∃ (ik : List InS) (m : Nat) (nl : List EqK) (hl : List Hd) (rw : List RowV), v = (⟨n, ik, m, nl, hl, rw⟩ : DVal) ∧ rw.length = 8 ∧ Pk (fun s => rw.foldl eRow (hl.foldl encHd (pkL (nl.foldl encEnt (pkL (pkL (ik.foldl eIno (pkL s [(ik.length : Int)] 1)) [(m : Int)] 4) [(nl.length : Int)] 2)) [(hl.length : Int)] 1))) l) (dec_num 2) (fun n => ?_) ?_
  rotate_left 1
  · rintro n v l k h1 ⟨ik, m, nl, hl, rw, rfl, h3, h4⟩; exact ⟨(by have hh := (pk_num h1).comp h4; simp only [pkL_cons, pkL_nil, encPart, eIno, encHd, encEnt, eRow, encW] at hh ⊢; exact hh), h3⟩
  try dsimp only
  refine dec_bind (G := fun (k : Nat) v l => ∃ (ik : List InS) (m : Nat) (nl : List EqK) (hl : List Hd) (rw : List RowV), v = (⟨n, ik, m, nl, hl, rw⟩ : DVal) ∧ ik.length = k ∧ rw.length = 8 ∧ Pk (fun s => rw.foldl eRow (hl.foldl encHd (pkL (nl.foldl encEnt (pkL (pkL (ik.foldl eIno s) [(m : Int)] 4) [(nl.length : Int)] 2)) [(hl.length : Int)] 1))) l) (dec_num 1) (fun k => ?_) ?_
  rotate_left 1
  · rintro k v l j h1 ⟨ik, m, nl, hl, rw, rfl, rfl, h3, h4⟩; exact ⟨ik, m, nl, hl, rw, rfl, h3, (by have hh := (pk_num h1).comp h4; simp only [pkL_cons, pkL_nil, encPart, eIno, encHd, encEnt, eRow, encW] at hh ⊢; exact hh)⟩
  try dsimp only
  refine dec_bind (G := fun (ik : List InS) v l => ∃ (m : Nat) (nl : List EqK) (hl : List Hd) (rw : List RowV), v = (⟨n, ik, m, nl, hl, rw⟩ : DVal) ∧ rw.length = 8 ∧ Pk (fun s => rw.foldl eRow (hl.foldl encHd (pkL (nl.foldl encEnt (pkL (pkL s [(m : Int)] 4) [(nl.length : Int)] 2)) [(hl.length : Int)] 1))) l) (dec_rep dec_ino k) (fun ik => ?_) ?_
  rotate_left 1
  · rintro ik v l k ⟨h1, h2⟩ ⟨m, nl, hl, rw, rfl, h3, h4⟩; exact ⟨ik, m, nl, hl, rw, rfl, h1, h3, h2.comp h4⟩
  try dsimp only
  refine dec_bind (G := fun (m : Nat) v l => ∃ (nl : List EqK) (hl : List Hd) (rw : List RowV), v = (⟨n, ik, m, nl, hl, rw⟩ : DVal) ∧ rw.length = 8 ∧ Pk (fun s => rw.foldl eRow (hl.foldl encHd (pkL (nl.foldl encEnt (pkL s [(nl.length : Int)] 2)) [(hl.length : Int)] 1))) l) (dec_num 4) (fun m => ?_) ?_
  rotate_left 1
  · rintro m v l k h1 ⟨nl, hl, rw, rfl, h3, h4⟩; exact ⟨m, nl, hl, rw, rfl, h3, (by have hh := (pk_num h1).comp h4; simp only [pkL_cons, pkL_nil, encPart, eIno, encHd, encEnt, eRow, encW] at hh ⊢; exact hh)⟩
  try dsimp only
  refine dec_bind (G := fun (k2 : Nat) v l => ∃ (nl : List EqK) (hl : List Hd) (rw : List RowV), v = (⟨n, ik, m, nl, hl, rw⟩ : DVal) ∧ nl.length = k2 ∧ rw.length = 8 ∧ Pk (fun s => rw.foldl eRow (hl.foldl encHd (pkL (nl.foldl encEnt s) [(hl.length : Int)] 1))) l) (dec_num 2) (fun k2 => ?_) ?_
  rotate_left 1
  · rintro k2 v l k h1 ⟨nl, hl, rw, rfl, rfl, h3, h4⟩; exact ⟨nl, hl, rw, rfl, h3, (by have hh := (pk_num h1).comp h4; simp only [pkL_cons, pkL_nil, encPart, eIno, encHd, encEnt, eRow, encW] at hh ⊢; exact hh)⟩
  try dsimp only
  refine dec_bind (G := fun (nl : List EqK) v l => ∃ (hl : List Hd) (rw : List RowV), v = (⟨n, ik, m, nl, hl, rw⟩ : DVal) ∧ rw.length = 8 ∧ Pk (fun s => rw.foldl eRow (hl.foldl encHd (pkL s [(hl.length : Int)] 1))) l) (dec_rep dec_ent k2) (fun nl => ?_) ?_
  rotate_left 1
  · rintro nl v l k ⟨h1, h2⟩ ⟨hl, rw, rfl, h3, h4⟩; exact ⟨nl, hl, rw, rfl, h1, h3, h2.comp h4⟩
  try dsimp only
  refine dec_bind (G := fun (k3 : Nat) v l => ∃ (hl : List Hd) (rw : List RowV), v = (⟨n, ik, m, nl, hl, rw⟩ : DVal) ∧ hl.length = k3 ∧ rw.length = 8 ∧ Pk (fun s => rw.foldl eRow (hl.foldl encHd s)) l) (dec_num 1) (fun k3 => ?_) ?_
  rotate_left 1
  · rintro k3 v l k h1 ⟨hl, rw, rfl, rfl, h3, h4⟩; exact ⟨hl, rw, rfl, h3, (by have hh := (pk_num h1).comp h4; simp only [pkL_cons, pkL_nil, encPart, eIno, encHd, encEnt, eRow, encW] at hh ⊢; exact hh)⟩
  try dsimp only
  refine dec_bind (G := fun (hl : List Hd) v l => ∃ (rw : List RowV), v = (⟨n, ik, m, nl, hl, rw⟩ : DVal) ∧ rw.length = 8 ∧ Pk (fun s => rw.foldl eRow s) l) (dec_rep dec_hd k3) (fun hl => ?_) ?_
  rotate_left 1
  · rintro hl v l k ⟨h1, h2⟩ ⟨rw, rfl, h3, h4⟩; exact ⟨hl, rw, rfl, h1, h3, h2.comp h4⟩
  try dsimp only
  exact dec_end (f := fun rw => (⟨n, ik, m, nl, hl, rw⟩ : DVal)) (dec_rep dec_row 8) fun rw l h => ⟨rw, rfl, h⟩
/-- what was read packs as it stood -/
theorem enc_of_dump {t : ByteArray} {v : DVal} {st : USt} (h : rDump (t, false) = some (v, st)) (h2 : st.2 = false) (h3 : st.1.size = 0) : encV v = (t.data.toList, false) := by
  obtain ⟨-, l, e, hp, -⟩ := dec_dump _ _ _ h h2
  have e0 : st.1.data.toList = [] := by
    exact List.length_eq_zero_iff.1 (by rw [ba_len]; exact h3)
  have := hp ([], false)
  rw [e0, List.append_nil] at e
  have e : t.data.toList = l := e
  rw [e]
  exact this
end Go.Proofs.YtmnkackkeppheaaGreat
/- what a dump's values are, once Load takes them -/
namespace Go.Proofs.YtmnkackkeppheaaGreat
open Go.RowKit Esch

set_option linter.unusedSimpArgs false
set_option linter.unusedVariables false
/-- a dump whose later rows, which nobody sees, are zeros -/
def nrm (x : DmC) : DmC := { x with l := fun i => if i < 8 then x.l i else 0, s := fun i => if i < 8 then x.s i else 0, r := fun i => if i < 16 then x.r i else 0 }
theorem nrm_cells (x : DmC) : (nrm x).cells = x.cells := rfl
theorem nrm_is {x : DmC} {v : DVal} (h : DmIs x v) : DmIs (nrm x) v := by
  obtain ⟨a, b, c, d, e, f, g⟩ := h
  refine ⟨a, b, c, d, e, f, fun k hk => ?_⟩
  obtain ⟨g0, g1, g2, g3⟩ := g k hk
  refine ⟨?_, ?_, ?_, ?_⟩
  · show (if k < 8 then x.l k else 0) = _; rw [if_pos hk]; exact g0
  · show (if k < 8 then x.s k else 0) = _; rw [if_pos hk]; exact g1
  · show (if 2 * k < 16 then x.r (2 * k) else 0) = _; rw [if_pos (by omega)]; exact g2
  · show (if 2 * k + 1 < 16 then x.r (2 * k + 1) else 0) = _; rw [if_pos (by omega)]; exact g3
theorem nrm_ok {w : World} {S : Nat → Prop} {x : DmC} (h : DmOk w S x) : DmOk w S (nrm x) := ⟨h.ino, h.nam, h.hdl, h.i1, h.n1, h.h1⟩
def valOf (x : DmC) : DVal := ⟨x.n, x.ik.map InC.val, x.m, x.nl, x.hl, (List.range 8).map fun k => ((x.l k, x.s k), (x.r (2 * k), x.r (2 * k + 1)))⟩
theorem is_val (x : DmC) : DmIs x (valOf x) := by
  refine ⟨rfl, rfl, rfl, rfl, rfl, by simp [valOf], fun k hk => ?_⟩
  have e : (valOf x).rows.getD k default = ((x.l k, x.s k), (x.r (2 * k), x.r (2 * k + 1))) := by
    unfold valOf
    rw [List.getD_eq_getElem?_getD, List.getElem?_map, List.getElem?_range hk]; rfl
  rw [e]
  exact ⟨rfl, rfl, rfl, rfl⟩
theorem same_of {x y : DmC} {v : DVal} (hx : DmIs x v) (hy : DmIs y v) : x.same y = true := by
  obtain ⟨a, b, c, d, e, f, g⟩ := hx
  obtain ⟨a', b', c', d', e', f', g'⟩ := hy
  unfold DmC.same
  simp only [Bool.and_eq_true, decide_eq_true_eq]
  rw [first8, first8, first16, a, b, c, d, e, a', b', c', d', e']
  refine ⟨rfl, rfl, rfl, rfl, rfl, fun k hk => (g k hk).1.trans (g' k hk).1.symm, fun k hk => (g k hk).2.1.trans (g' k hk).2.1.symm, fun j hj => ?_⟩
  have h1 := g (j / 2) (by omega)
  have h2 := g' (j / 2) (by omega)
  by_cases hj2 : j % 2 = 0
  · rw [show j = 2 * (j / 2) by omega]; exact h1.2.2.1.trans h2.2.2.1.symm
  · rw [show j = 2 * (j / 2) + 1 by omega]; exact h1.2.2.2.trans h2.2.2.2.symm
theorem is_same {x y : DmC} {v : DVal} (h : x.same y = true) (hx : DmIs x v) : DmIs y v := by
  obtain ⟨a, b, c, d, e, f, g⟩ := hx
  unfold DmC.same at h
  simp only [Bool.and_eq_true, decide_eq_true_eq] at h
  rw [first8, first8, first16] at h
  obtain ⟨h1, h0, h2, h3, h4, h5, h6, h7⟩ := h
  exact ⟨h0.symm.trans a, h1.symm.trans b, h2.symm.trans c, h3.symm.trans d, h4.symm.trans e, f, fun k hk => ⟨(h5 k hk).symm.trans (g k hk).1, (h6 k hk).symm.trans (g k hk).2.1, (h7 (2 * k) (by omega)).symm.trans (g k hk).2.2.1, (h7 (2 * k + 1) (by omega)).symm.trans (g k hk).2.2.2⟩⟩
theorem foldl_like {α β : Type} {f g : β → α → β} : ∀ (l : List α) (s : β), (∀ a ∈ l, ∀ s, f s a = g s a) → l.foldl f s = l.foldl g s
  | [], _, _ => rfl
  | a :: l, s, h => by rw [List.foldl_cons, List.foldl_cons, h a (by simp) s]; exact foldl_like l _ (fun b hb => h b (by simp [hb]))
theorem range_all {α : Type} (l : List α) (d : α) : (List.range l.length).map (fun k => l.getD k d) = l := by
  refine List.ext_getElem (by simp) fun i h1 h2 => ?_
  rw [List.getElem_map, List.getElem_range, List.getD_eq_getElem?_getD, List.getElem?_eq_getElem h2]; rfl
theorem enc_is {x : DmC} {v : DVal} (h : DmIs x v) : encD x = encV v := by
  obtain ⟨a, b, c, d, e, f, g⟩ := h
  have hl : x.ik.length = v.ik.length := by rw [← b, List.length_map]
  have hi : ∀ s : PkS, x.ik.foldl encIno s = v.ik.foldl eIno s := fun s => by rw [← b, List.foldl_map]; rfl
  have hr : ∀ s : PkS, (List.range 8).foldl (encRow x) s = v.rows.foldl eRow s := fun s => by
    have h1 : (List.range 8).foldl (encRow x) s = (List.range 8).foldl (fun s k => eRow s (v.rows.getD k default)) s := foldl_like _ _ fun k hk s => by
      obtain ⟨g0, g1, g2, g3⟩ := g k (List.mem_range.1 hk)
      unfold encRow eRow
      rw [g0, g1, g2, g3]
    have h2 := range_all v.rows default
    rw [f] at h2
    rw [h1, ← List.foldl_map (f := fun k => v.rows.getD k default) (g := eRow), h2]
  unfold encD encC encB encA encV
  rw [hr, hi, hl, a, c, d, e]
theorem fill_some {v : DVal} {s : StS} (h : fillS v = some s) : ∃ n q p, FillB v n q ∧ (List.range 8).foldlM (rowF v) (q.1, []) = some p ∧ s = ⟨⟨tabOf v.ik v.m, n⟩, p.1, p.2, v.n⟩ := by
  unfold fillS at h
  split at h
  · cases h
  · rename_i ha
    cases hn : v.nl.foldlM addF tr0.n with
    | none => rw [hn] at h; cases h
    | some n =>
      rw [hn] at h
      cases hq : v.hl.foldlM (opnF (tabOf v.ik v.m)) (hd0, []) with
      | none => rw [hq] at h; cases h
      | some q =>
        rw [hq] at h
        simp only [Option.bind_some] at h
        split at h
        · cases h
        · cases hp : (List.range 8).foldlM (rowF v) (q.1, []) with
          | none => rw [hp] at h; cases h
          | some p =>
            rw [hp] at h
            cases h
            exact ⟨n, q, p, ⟨⟨ha, hn⟩, hq⟩, hp, rfl⟩
theorem loadP_rows {l : List InS} {nx : Int} (h : loadP l nx = 0) : headP l nx = true ∧ rowsP l nx l.length = true := by
  unfold loadP at h
  split at h
  · assumption
  · cases h
/-- an inode that Load takes -/
structure InOk (y : InS) : Prop where
  i0 : 1 ≤ y.ino
  i1 : y.ino ≤ 2147483647
  k0 : 1 ≤ y.kind ∧ y.kind ≤ 2
  l0 : 0 ≤ y.links ∧ y.links ≤ 8
  o0 : 0 ≤ y.opens ∧ y.opens ≤ 128
  s0 : 0 ≤ y.size ∧ y.size ≤ 8192
  pl : y.ps.length ≤ 64
  ps : ∀ p ∈ y.ps, p.In
theorem goodI_ok {y : InS} (h : goodI y = true) : (1 ≤ y.kind ∧ y.kind ≤ 2) ∧ (0 ≤ y.links ∧ y.links ≤ 8) ∧ (0 ≤ y.opens ∧ y.opens ≤ 128) ∧ (0 ≤ y.size ∧ y.size ≤ 8192) ∧ y.ps.length ≤ 64 ∧ ∀ p ∈ y.ps, p.In := by
  have hl := goodI_len h
  unfold goodI at h
  split at h
  · cases h
  · rename_i h0
    split at h
    · rename_i h1
      simp only [Bool.and_eq_true, decide_eq_true_eq] at h
      refine ⟨by omega, by omega, by omega, by omega, hl, fun p hp => ?_⟩
      have := List.length_eq_zero_iff.1 h.2.2
      rw [this] at hp; cases hp
    · split at h
      · rename_i h2
        simp only [Bool.and_eq_true, decide_eq_true_eq] at h
        exact ⟨by omega, by omega, by omega, by omega, hl, fun p hp => one_in.1 (goodP_one h.2.2.1 hp)⟩
      · cases h
theorem rows_in {l : List InS} {nx : Int} (h : loadP l nx = 0) : (2 ≤ nx ∧ nx ≤ 2147483647) ∧ l.length ≤ 64 ∧ ∀ y ∈ l, InOk y := by
  obtain ⟨hh, hr⟩ := loadP_rows h
  unfold headP at hh
  simp only [Bool.and_eq_true, decide_eq_true_eq] at hh
  obtain ⟨h1, h2, h3, h4, h5, h6, h7⟩ := hh
  refine ⟨⟨h6, h7⟩, h2, fun y hy => ?_⟩
  obtain ⟨i, hi, rfl⟩ := List.mem_iff_getElem.1 hy
  have hri := rowsP_all hr i hi
  have hge : l.getD i in0 = l[i] := by rw [List.getD_eq_getElem?_getD, List.getElem?_eq_getElem hi]; rfl
  have hin : 1 ≤ (l.getD i in0).ino := by
    by_cases h0 : i = 0
    · subst h0; omega
    · have := rowsP_rise hr 0 i (by omega) hi; omega
  unfold rowP at hri
  simp only [Bool.and_eq_true, decide_eq_true_eq] at hri
  rw [hge] at hri hin
  obtain ⟨a, b, c, d, e, f⟩ := goodI_ok hri.1
  exact ⟨hin, by omega, a, b, c, d, e, f⟩
theorem len_split {α : Type} (p : α → Bool) : ∀ l : List α, l.length = (l.filter p).length + (l.filter fun e => !p e).length
  | [] => rfl
  | a :: l => by
    have h := len_split p l
    cases hp : p a <;> simp [hp] <;> omega
theorem few_names : ∀ (K : List Int) (m : List Ent), (∀ k ∈ K, namesN m k ≤ 8) → (∀ e ∈ m, e.2 ∈ K) → m.length ≤ 8 * K.length
  | [], m, _, h => by
    cases m with
    | nil => simp
    | cons e m => exact absurd (h e (by simp)) (by simp)
  | k :: K, m, h1, h2 => by
    have h3 := few_names K (m.filter fun e => !(e.2 == k)) (fun j hj => Nat.le_trans (by
      unfold namesN
      exact (List.filter_sublist.filter _).length_le) (h1 j (by simp [hj]))) (fun e he => by
      rw [List.mem_filter] at he
      have := h2 e he.1
      rcases List.mem_cons.1 this with h | h
      · have h4 := he.2; rw [h] at h4; simp at h4
      · exact h)
    have h4 := h1 k (by simp)
    have h5 : m.length = namesN m k + (m.filter fun e => !(e.2 == k)).length := by
      unfold namesN
      exact len_split (fun e : Ent => e.2 == k) m
    rw [List.length_cons]
    omega
/-- what Load takes -/
structure VOk (v : DVal) : Prop where
  n : 0 ≤ v.n ∧ v.n ≤ 16384
  m : 2 ≤ v.m ∧ v.m ≤ 2147483647
  il : v.ik.length ≤ 64
  ik : ∀ y ∈ v.ik, InOk y
  nl : ∀ e ∈ v.nl, (1 ≤ e.1 ∧ e.1 ≤ 2147483647) ∧ e.2.1.length ≤ 8 ∧ (1 ≤ e.2.2 ∧ e.2.2 ≤ 2147483647)
  ln : v.nl.length ≤ 512
  hl : ∀ h ∈ v.hl, (0 ≤ h.1.1 ∧ h.1.1 < 8) ∧ (0 ≤ h.1.2 ∧ h.1.2 < 16384) ∧ (1 ≤ h.2 ∧ h.2 ≤ 2147483647)
  rw : ∀ k : Nat, k < 8 → (0 ≤ (v.rows.getD k default).1.1 ∧ (v.rows.getD k default).1.1 ≤ 1099511627776) ∧ 0 ≤ (v.rows.getD k default).1.2
theorem LoadOk.ok {v : DVal} {s : StS} (h : LoadOk v s) : VOk v := by
  obtain ⟨n, q, p, hB, hp, rfl⟩ := fill_some h.f
  have ha := hB.a
  have hl : loadP v.ik v.m = 0 := by
    by_cases e : loadP v.ik v.m = 0
    · exact e
    · exact absurd (Or.inr (Or.inr e)) ha
  obtain ⟨hm, hil, hik⟩ := rows_in hl
  refine ⟨by omega, hm, hil, hik, fun e he => ?_, ?_, fun e he => ?_, fun k hk => ?_⟩
  · obtain ⟨a, b, c, -⟩ := foldM_all (Q := fun e : EqK => nameL e.2.1 = true ∧ (1 ≤ e.1 ∧ e.1 ≤ 2147483647) ∧ (1 ≤ e.2.2 ∧ e.2.2 ≤ 2147483647) ∧ True) (fun b a c hc => ⟨(addF_ok hc).1, (addF_ok hc).2.1, (addF_ok hc).2.2.1, trivial⟩) _ _ _ hB.n e he
    exact ⟨b, (nameL_len a).2.1, c⟩
  · obtain ⟨nl, h1, h2⟩ := h.sm.nv
    have e1 : v.nl.length = n.m.length := by
      rw [h2, List.length_map, h1.1.length_eq, List.filter_eq_self.2 (fun _ _ => rfl)]
    have h3 := few_names (v.ik.map fun x => x.ino) n.m (fun k hk => ?_) (fun e he => ?_)
    · rw [List.length_map] at h3; omega
    · by_cases h1k : k = 1
      · rw [h1k]; have := h.ck.one; rw [this]; omega
      · have hc := h.ck.ino k (by simpa [tabOf] using hk) h1k
        have h4 := hc.1
        have h5 : ((tabOf v.ik v.m).at k).links ≤ 8 := by
          unfold TabS.at
          cases hg : get (tabOf v.ik v.m).m k with
          | none => exact (by decide : (0 : Int) ≤ 8)
          | some u =>
            obtain ⟨pre, post, he, -⟩ := get_some hg
            have hu : (k, u) ∈ (tabOf v.ik v.m).m := by rw [he]; simp
            simp only [tabOf, List.mem_map, Prod.mk.injEq] at hu
            obtain ⟨y, hy, -, rfl⟩ := hu
            exact (hik y hy).l0.2
        have h6 : ((tabOf v.ik v.m).at k).links = (namesN n.m k : Nat) := h4
        omega
    · have hc := (h.ck.ent e he).1
      have hc : (get (tabOf v.ik v.m).m e.2).isSome = true := hc
      cases hg : get (tabOf v.ik v.m).m e.2 with
      | none => rw [hg] at hc; cases hc
      | some u =>
        obtain ⟨pre, post, he2, -⟩ := get_some hg
        have hu : (e.2, u) ∈ (tabOf v.ik v.m).m := by rw [he2]; simp
        simp only [tabOf, List.mem_map, Prod.mk.injEq] at hu
        obtain ⟨y, hy, h1, -⟩ := hu
        exact List.mem_map.2 ⟨y, hy, h1⟩
  · obtain ⟨a, b, c⟩ := foldM_all (Q := fun h : Hd => clientB h.1.1 = true ∧ (0 ≤ h.1.2 ∧ h.1.2 < 16384) ∧ (1 ≤ h.2 ∧ h.2 ≤ 2147483647)) (fun b a c hc => ⟨(opnF_ok hc).1, (opnF_ok hc).2.1, (opnF_ok hc).2.2.1⟩) _ _ _ hB.q e he
    refine ⟨?_, b, c⟩
    unfold clientB at a
    simp only [Bool.and_eq_true, decide_eq_true_eq] at a
    exact a
  · exact foldM_all (Q := fun k : Nat => (0 ≤ (v.rows.getD k default).1.1 ∧ (v.rows.getD k default).1.1 ≤ 1099511627776) ∧ 0 ≤ (v.rows.getD k default).1.2) (fun b a c hc => ⟨(rowF_ok hc).1, (rowF_ok hc).2.1⟩) _ _ _ hp k (List.mem_range.2 hk)
/-- and what else is asked, that it fits -/
structure Rest (v : DVal) : Prop where
  rl : v.rows.length = 8
  rw : ∀ k : Nat, k < 8 → I64 (v.rows.getD k default).1.2 ∧ I64 (v.rows.getD k default).2.1 ∧ I64 (v.rows.getD k default).2.2
  lh : v.hl.length ≤ 1000
theorem VOk.fit {v : DVal} (h : VOk v) (hr : Rest v) : VFit v := by
  refine ⟨by have := h.n; show _ < _; omega, by have := h.m; show _ < _; omega, fun y hy => ?_, by have := h.il; omega, fun e he => ?_, by have := h.ln; omega, fun e he => ?_, by have := hr.lh; omega, fun r hm => ?_, hr.rl⟩
  · have o := h.ik y hy
    have := o.i1; have := o.k0; have := o.l0; have := o.o0; have := o.s0; have := o.pl
    refine ⟨by show _ < _; omega, by show _ < _; omega, by show _ < _; omega, by show _ < _; omega, by show _ < _; omega, by omega, fun p hp => ?_⟩
    obtain ⟨a, b, c, d, e, f, g, i⟩ := o.ps p hp
    exact ⟨by show _ < _; omega, by show _ < _; omega, by show _ < _; omega, by show _ < _; omega⟩
  · obtain ⟨a, b, c⟩ := h.nl e he
    exact ⟨by show _ < _; omega, b, by show _ < _; omega⟩
  · obtain ⟨a, b, c⟩ := h.hl e he
    exact ⟨by show _ < _; omega, by show _ < _; omega, by show _ < _; omega⟩
  · obtain ⟨k, hk, rfl⟩ := List.mem_iff_getElem.1 hm
    rw [hr.rl] at hk
    have e : v.rows.getD k default = v.rows[k] := by rw [List.getD_eq_getElem?_getD, List.getElem?_eq_getElem (by rw [hr.rl]; exact hk)]; rfl
    have h1 := h.rw k hk
    have h2 := hr.rw k hk
    rw [e] at h1 h2
    exact ⟨by show _ < _; omega, h2.1.2, h2.2.1.2, h2.2.2.2⟩
theorem VOk.fitD {v : DVal} {x : DmC} (h : VOk v) (hr : Rest v) (hx : DmIs x v) : DmFit (nrm x) := by
  have hi : ∀ y ∈ x.ik, InOk y.val := fun y hy => h.ik _ (by rw [← hx.2.1]; exact List.mem_map_of_mem hy)
  have hlen : x.ik.length = v.ik.length := by rw [← hx.2.1, List.length_map]
  obtain ⟨a, b, c, d, e, f, g⟩ := hx
  have hn := h.nl
  have hh := h.hl
  have hln := h.ln
  have hlh := hr.lh
  rw [← d] at hn hln
  rw [← e] at hh hlh
  have hnb : ∀ l : List EqK, (∀ e ∈ l, e.2.1.length ≤ 8) → (l.flatMap fun e => e.2.1).length ≤ 8 * l.length := fun l => by
    induction l with
    | nil => intro _; simp
    | cons q l ih =>
      intro hq
      have h1 := ih (fun e he => hq e (by simp [he]))
      have h2 := hq q (by simp)
      rw [List.flatMap_cons, List.length_append, List.length_cons]
      omega
  refine ⟨by show I64 x.n; rw [a]; have := h.n; exact ⟨by omega, by omega⟩, by show I64 x.m; rw [c]; have := h.m; exact ⟨by omega, by omega⟩, fun y hy => ?_, by show x.ik.length ≤ 100; have := h.il; omega, fun e he => ?_, ?_, fun e he => ?_, hlh, fun k hk => ?_⟩
  · have o := hi y hy
    have h1 : 1 ≤ y.ino := o.i0
    have h2 : y.ino ≤ 2147483647 := o.i1
    have h3 : 1 ≤ y.kind ∧ y.kind ≤ 2 := o.k0
    have h4 : 0 ≤ y.links ∧ y.links ≤ 8 := o.l0
    have h5 : 0 ≤ y.opens ∧ y.opens ≤ 128 := o.o0
    have h6 : 0 ≤ y.size ∧ y.size ≤ 8192 := o.s0
    refine ⟨⟨by omega, by omega⟩, ⟨by omega, by omega⟩, ⟨by omega, by omega⟩, ⟨by omega, by omega⟩, ⟨by omega, by omega⟩, o.pl, fun p hp => ?_⟩
    obtain ⟨a, b, c, d, e, f, g, i⟩ := o.ps p hp
    exact ⟨⟨by omega, by omega⟩, ⟨by omega, by omega⟩, ⟨by omega, by omega⟩, ⟨by omega, by omega⟩⟩
  · obtain ⟨a, b, c⟩ := hn e he
    exact ⟨⟨by omega, by omega⟩, by omega, ⟨by omega, by omega⟩⟩
  · have h1 := hnb x.nl (fun e he => (hn e he).2.1)
    show (x.nl.flatMap fun e => e.2.1).length + 10 * x.nl.length ≤ 500000
    omega
  · obtain ⟨a, b, c⟩ := hh e he
    exact ⟨⟨by omega, by omega⟩, ⟨by omega, by omega⟩, ⟨by omega, by omega⟩⟩
  · have z : I64 0 := ⟨by decide, by decide⟩
    refine ⟨?_, ?_, ?_⟩
    · show I64 (if k < 8 then x.l k else 0)
      by_cases h8 : k < 8
      · rw [if_pos h8, (g k h8).1]; have := (h.rw k h8).1; exact ⟨by omega, by omega⟩
      · rw [if_neg h8]; exact z
    · show I64 (if k < 8 then x.s k else 0)
      by_cases h8 : k < 8
      · rw [if_pos h8, (g k h8).2.1]; exact (hr.rw k h8).1
      · rw [if_neg h8]; exact z
    · show I64 (if k < 16 then x.r k else 0)
      rw [if_pos hk]
      by_cases hj2 : k % 2 = 0
      · rw [show k = 2 * (k / 2) by omega, (g (k / 2) (by omega)).2.2.1]; exact (hr.rw (k / 2) (by omega)).2.1
      · rw [show k = 2 * (k / 2) + 1 by omega, (g (k / 2) (by omega)).2.2.2]; exact (hr.rw (k / 2) (by omega)).2.2
/-- it is never too long -/
theorem VOk.short {v : DVal} {x : DmC} (h : VOk v) (hx : DmIs x v) (hh : v.hl.length ≤ 300) : (encV v).1.length ≤ 65536 := by
  rw [← enc_is hx]
  have hi : ∀ y ∈ x.ik, InOk y.val := fun y hy => h.ik _ (by rw [← hx.2.1]; exact List.mem_map_of_mem hy)
  have hlen : x.ik.length = v.ik.length := by rw [← hx.2.1, List.length_map]
  obtain ⟨a, b, c, d, e, f, g⟩ := hx
  have hn := h.nl
  have hln := h.ln
  have hil := h.il
  rw [← d] at hn hln
  rw [← e] at hh
  have hnb : ∀ l : List EqK, (∀ e ∈ l, e.2.1.length ≤ 8) → (l.flatMap fun e => e.2.1).length ≤ 8 * l.length := fun l => by
    induction l with
    | nil => intro _; simp
    | cons q l ih =>
      intro hq
      have h1 := ih (fun e he => hq e (by simp [he]))
      have h2 := hq q (by simp)
      rw [List.flatMap_cons, List.length_append, List.length_cons]
      omega
  have h1 := encRows_len x (List.range 8) (x.hl.foldl encHd (encC x))
  have h2 := encHds_len x.hl (encC x)
  have h3 := pkL_len [(x.hl.length : Int)] 1 (x.nl.foldl encEnt (encB x))
  have h4 := encEnts_len x.nl (encB x)
  have h5 := pkL_len [(x.nl.length : Int)] 2 (pkL (x.ik.foldl encIno (encA x)) [x.m] 4)
  have h6 := pkL_len [x.m] 4 (x.ik.foldl encIno (encA x))
  have h7 := encInos_len x.ik (encA x) (fun y hy => (hi y hy).pl)
  have h8 := pkL_len [(x.ik.length : Int)] 1 (pkL ([], false) [x.n] 2)
  have h9 := pkL_len [x.n] 2 ([], false)
  have h10 := hnb x.nl (fun e he => (hn e he).2.1)
  unfold encD
  unfold encC at h1 h2 ⊢
  unfold encB at h1 h2 h3 h4 ⊢
  unfold encA at h1 h2 h3 h4 h5 h6 h7 ⊢
  simp only [List.length_cons, List.length_nil, List.length_range] at *
  omega
theorem fit_of_pk {s : PkS} {v : Int} {n : Nat} (h8 : n < 8) (h : (pkN s v n).2 = false) : 0 ≤ v ∧ v < 256 ^ n := by
  unfold pkN at h
  split at h
  · rename_i hf
    unfold fitB at hf
    rw [Bool.and_eq_true, Bool.or_eq_true, decide_eq_true_eq, decide_eq_true_eq, decide_eq_true_eq] at hf
    exact ⟨hf.1, hf.2.resolve_left (by omega)⟩
  · cases h
theorem fit_row {s : PkS} {r : RowV} (h : (eRow s r).2 = false) : I64 r.1.2 ∧ I64 r.2.1 ∧ I64 r.2.2 := by
  unfold eRow at h
  simp only [pkL_cons, pkL_nil] at h
  have h1 := fit_of_pk (by decide) h
  have h2 := fit_of_pk (by decide) (keepN h)
  have h3 := fit_of_pk (by decide) (keepN (keepN h))
  have e2 : (256 : Int) ^ 2 = 65536 := by decide
  have e4 : (256 : Int) ^ 4 = 4294967296 := by decide
  exact ⟨⟨by omega, by omega⟩, ⟨by omega, by omega⟩, ⟨by omega, by omega⟩⟩
theorem fit_rows : ∀ (l : List RowV) (s : PkS), (l.foldl eRow s).2 = false → ∀ r ∈ l, I64 r.1.2 ∧ I64 r.2.1 ∧ I64 r.2.2
  | [], _, _, r, hr => by cases hr
  | a :: l, s, h, r, hr => by
    rw [List.foldl_cons] at h
    rcases List.mem_cons.1 hr with rfl | hr
    · exact fit_row (keepF keep_row h)
    · exact fit_rows l _ h r hr
theorem rest_of_enc {v : DVal} (hl : v.rows.length = 8) (h : (encV v).2 = false) : Rest v ∧ v.hl.length ≤ 300 := by
  unfold encV at h
  have hh : v.hl.length < 256 := by
    have h1 := keepF keep_hd (keepF keep_row h)
    simp only [pkL_cons, pkL_nil] at h1
    have h2 := fit_of_pk (by decide) h1
    have e1 : (256 : Int) ^ 1 = 256 := by decide
    omega
  refine ⟨⟨hl, fun k hk => ?_, by omega⟩, by omega⟩
  have hm : v.rows.getD k default ∈ v.rows := by
    rw [List.getD_eq_getElem?_getD, List.getElem?_eq_getElem (by rw [hl]; exact hk)]
    exact List.getElem_mem _
  exact fit_rows _ _ h _ hm
end Go.Proofs.YtmnkackkeppheaaGreat
