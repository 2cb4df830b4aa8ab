/- a change, whatever becomes of its questions, units that leave down or not: plain Lean -/
import Derived.Test.YtghdhhbpbmhooaaGreatKeepOk2
namespace Go.Proofs.YtghdhhbpbmhooaaGreat
open Go.RowKit Esch

theorem keep_change {hd : HdS} {q : Proj} {c m : Nat} {M : Pgs} {D : Nat → Bool} {T : Nat → ByteArray} (hK : Kv hd.nd 100 c M E0 D 0 m (lay0 qOld)) (hP : P1 M m T) (hm : m ≤ 1000) (hq : nextB qOld q = true) (hD : ∀ u : Nat, D u = true → (u : Int) ∉ q.units) (fates : List Int) :
    (stC hd q fates (fates.length + 60)).2.at = 4 ∧ (stC hd q fates (fates.length + 60)).2.overE = 0 ∧ ∃ E, Kv (stC hd q fates (fates.length + 60)).1.nd 100 c M E D 1 m ((lay0 qOld).count q) ∧ KEnv q E D := by
  have hnx := nextO hq
  have hep := hnx.ep
  have h0 := pre_old (E := fun _ => 0) (D := D) hq (fun _ _ => Or.inl rfl) (fun u hu hd hu' => by
    have hu0 := (usP_in (p := qOld) (by decide) hu).1
    refine hD u.toNat hd ?_
    rw [show ((u.toNat : Nat) : Int) = u by omega]
    exact mem_unitsOf.1 hu')
  have hp : ChPre qOld q D (fun _ => 0) (lay0 qOld) ⟨0, true, m⟩ := ⟨h0.hn, h0.hm, h0.lp, h0.ee, h0.dn, by show (0 : Int) < q.epoch; omega⟩
  have hI : ChI qOld q (fun i => (hd.nd.units i).pg) D (fun _ => 0) (lay0 qOld) ⟨0, true, m⟩ hd.nd (re0 q) := ChI.start hp (fun i hi => ⟨rfl, (hK.un i hi).2.2.2⟩) (fun i hi => (hK.un i hi).2.2.1) hK.l hK.o
  have hend := stC_end hp hI fates
  obtain ⟨n', hn'⟩ : ∃ n', n' = (stC hd q fates (fates.length + 60)).1.nd := ⟨_, rfl⟩
  rw [← hn'] at hend ⊢
  refine ⟨hend.fin.1, hend.fin.2, fun u => (n'.units u).epoch, ⟨fun u hu => ?_, ?_, hend.lay⟩, ⟨hnx, fun u _ hu => ?_, fun u hu => ?_, fun u hu => ?_⟩⟩
  · obtain ⟨g1, g2⟩ := hend.pg u hu
    obtain ⟨k1, k2, -⟩ := hK.un u hu
    rw [g1]
    exact ⟨k1, k2, rfl, g2⟩
  · obtain ⟨t, ho, ht⟩ := hend.ord
    rw [ho, hep]
    have := tail_m (m := m) (D := D) (P := fun i => (hd.nd.units i).pg) (t := t) hm (fun c hc => by
      have hf := hnx.first c hc
      have hmem : (chQ q c).getD 0 0 ∈ chQ q c := getD_in (by have := (hnx.chain hc).1; omega)
      obtain ⟨f1, f2, f3⟩ := hnx.mem hc hmem
      refine ⟨((chQ q c).getD 0 0).toNat, ?_, ?_⟩
      · rw [show ((((chQ q c).getD 0 0).toNat : Nat) : Int) = (chQ q c).getD 0 0 by omega]; exact hf
      · cases hd' : D ((chQ q c).getD 0 0).toNat with
        | false => rfl
        | true =>
          refine absurd ?_ (hD _ hd')
          rw [show ((((chQ q c).getD 0 0).toNat : Nat) : Int) = (chQ q c).getD 0 0 by omega]
          exact f1) (fun c hc u hu => p1_tail hK hP hc hu) ht
    rw [this]
  · cases hd' : D u with
    | false => rfl
    | true => exact absurd hu (hD u hd')
  · rcases hend.ep u hu with e | e
    · show (n'.units u).epoch ≤ 1; omega
    · show (n'.units u).epoch ≤ 1; omega
  · cases hd' : D u with
    | true => exact Or.inl rfl
    | false =>
      refine Or.inr ⟨rfl, ?_⟩
      have := hend.sl (u : Int) (mem_unitsOf.2 hu) (by rw [Int.toNat_natCast]; exact hd')
      rw [Int.toNat_natCast] at this
      show 0 < (n'.units u).epoch
      omega
/-- a unit goes down -/
theorem kv_crash {n : NdS} {R c : Nat} {M : Pgs} {E : Nat → Int} {D : Nat → Bool} {e t : Int} {L : LayS} (h : Kv n R c M E D e t L) (u : Nat) : Kv { n with units := fun j => if j = u then { n.units u with down := true } else n.units j } R c M E (fun j => if j = u then true else D j) e t L := by
  refine ⟨fun j hj => ?_, h.o, h.l⟩
  by_cases g : j = u
  · subst g
    simp only [if_true]
    obtain ⟨h1, h2, h3, -⟩ := h.un j hj
    exact ⟨h1, h2, h3, trivial⟩
  · simp only [if_neg g]
    exact h.un j hj
end Go.Proofs.YtghdhhbpbmhooaaGreat
