import Derived.Test.YtpkdpmkiplopmaaMapRange
import Derived.WideKeyEntry
/- 'm[k] op= v': the entry, then the store -/
namespace Esch
open Go
variable {P : Program} {K V : Type} {κ : K → Value} {ν : V → Value} {m : List (K × V)} {w : World} {b : Nat} {es : Array MapEntry} {clock : Nat} {mt kt et : TypeId} [DecidableEq K]

theorem set_set (m : List (K × V)) (k : K) (u v : V) : set (set m k u) k v = set m k v := by
  induction m with
  | nil => simp [set]
  | cons p m ih => grind [set]
theorem modify_length (es : Array MapEntry) (e : MapEntry) (f : MapEntry → MapEntry) : ((es.push e).modify es.size f) = es.push (f e) := by
  apply Array.toList_inj.1
  have := @modify_at (es.push e) es.toList [] e (by simp) f
  simpa using this
theorem born_lt_nodup {l : List MapEntry} (h : (l.map (·.born)).Pairwise (· < ·)) : (l.map (·.born)).Nodup := h.imp (fun h => Nat.ne_of_lt h)

/-- the entry is there, or is made; then a value is stored into it -/
theorem MapAt.entry (h : MapAt w b κ ν m es clock) (hK : KeyOK P kt κ) (ht : P.underlying mt = some (.map kt et)) (z : V) (hz : ∀ w, (zeroValue et).run P w = .ok (ν z) w) (k : K) :
    ∃ (st : Nat) (es1 : Array MapEntry) (clock1 : Nat), (Instr.mapEntry mt (.map (some b)) (κ k)).run P w = .ok (.tuple #[ν ((get m k).getD z), goInt st]) (putObj w b (.map es1 clock1)) ∧
      MapAt (putObj w b (.map es1 clock1)) b κ ν (set m k ((get m k).getD z)) es1 clock1 ∧
      ∀ (W : World) (val : V), W.heap[b]? = some (.map es1 clock1) → ∃ es2, (Instr.entryStore mt (.map (some b)) (goInt st) (ν val)).run P W = .ok () (putObj W b (.map es2 clock1)) ∧ MapAt (putObj W b (.map es2 clock1)) b κ ν (set m k val) es2 clock1 := by
  cases hg : get m k with
  | none =>
    have hrun : (Instr.mapEntry mt (.map (some b)) (κ k)).run P w = .ok (.tuple #[ν z, goInt clock]) (putObj w b (.map (es.push { key := κ k, val := ν z, born := clock }) (clock + 1))) := by
      unfold Instr.mapEntry
      rw [run_bind' _ _ _ _ (run_underlying ht w)]
      simp only
      rw [run_bind' _ _ _ _ (run_getObj_map h.block)]
      simp only
      rw [run_bind' _ _ _ _ (hK.check _ _ _), run_bind' _ _ _ _ (hK.ne k _ w (h.miss hg))]
      simp only
      rw [run_bind' _ _ _ _ (hz w), run_bind' _ _ _ _ (run_setObj h.block (by simp))]
      rfl
    have hp := h.put_miss (u := z) hg
    refine ⟨clock, _, _, hrun, hp, fun W val hW => ?_⟩
    have hidx : (es.push { key := κ k, val := ν z, born := clock }).findIdx? (fun e => ((e.born : Nat) : Int) == ((clock : Nat) : Int)) = some es.size := by
      rw [WideElems.findIdx_arr]
      exact WideElems.findIdx_born (l := (es.push { key := κ k, val := ν z, born := clock }).toList) (j := es.size) (e0 := { key := κ k, val := ν z, born := clock }) (born_lt_nodup hp.born) (by simp)
    have hW' : MapAt W b κ ν (set m k z) (es.push { key := κ k, val := ν z, born := clock }) (clock + 1) := ⟨hW, hp.pairs, hp.apart, hp.born, hp.clock⟩
    refine ⟨es.push { key := κ k, val := ν val, born := clock }, ?_, ?_⟩
    · unfold Instr.entryStore
      simp only
      rw [run_bind' _ _ _ _ (run_getObj_map hW)]
      simp only [goInt, asInt, asIntOf, pure_bind, hidx]
      rw [run_setObj hW (by simp), modify_length]
      rfl
    · obtain ⟨q1, q2, q3, q4, q5⟩ := h
      have hn := get_none.1 hg
      refine ⟨putObj_at hW, ?_, set_nodup k val q3, ?_, ?_⟩
      · rw [set_miss _ _ _ hn]; simp [q2]
      · have := hp.born; simpa using this
      · have := hp.clock
        simp only [Array.toList_push, List.mem_append, List.mem_singleton] at this ⊢
        rintro x (hx | rfl)
        · exact this x (Or.inl hx)
        · exact this { key := κ k, val := ν z, born := clock } (Or.inr rfl)
  | some v =>
    obtain ⟨pre, e, post, mpre, mpost, he, hm, hpre, hpost, hp, hek, hev, hn⟩ := h.hit hg
    have hf := hK.hit k pre e post w hp hek
    rw [← he] at hf
    have hmod := fun f => modify_at he f
    have hrun : (Instr.mapEntry mt (.map (some b)) (κ k)).run P w = .ok (.tuple #[ν v, goInt e.born]) (putObj w b (.map (es.modify pre.length (fun e => { e with key := κ k })) clock)) := by
      unfold Instr.mapEntry
      rw [run_bind' _ _ _ _ (run_underlying ht w)]
      simp only
      rw [run_bind' _ _ _ _ (run_getObj_map h.block)]
      simp only
      rw [run_bind' _ _ _ _ (hK.check _ _ _), run_bind' _ _ _ _ hf]
      simp only [at_len he, Option.map_some, Option.getD_some, hek]
      rw [run_bind' _ _ _ _ (keyStays hK k), run_bind' _ _ _ _ (run_setObj h.block (by simp)), hev]
      rfl
    have hp1 := h.put_hit (u := v) he hm hpre hpost hn (es' := es.modify pre.length (fun e => { e with key := κ k })) (by rw [hmod]; simp [← hev])
    refine ⟨e.born, _, _, hrun, hp1, fun W val hW => ?_⟩
    have he1 : (es.modify pre.length (fun e => { e with key := κ k })).toList = pre ++ { e with key := κ k } :: post := hmod _
    have hidx : (es.modify pre.length (fun e => { e with key := κ k })).findIdx? (fun x => ((x.born : Nat) : Int) == ((e.born : Nat) : Int)) = some pre.length := by
      rw [WideElems.findIdx_arr, he1]
      exact WideElems.findIdx_born (l := pre ++ { e with key := κ k } :: post) (j := pre.length) (e0 := { e with key := κ k }) (by rw [← he1]; exact born_lt_nodup hp1.born) (by simp)
    refine ⟨(es.modify pre.length (fun e => { e with key := κ k })).modify pre.length (fun e => { e with val := ν val }), ?_, ?_⟩
    · unfold Instr.entryStore
      simp only
      rw [run_bind' _ _ _ _ (run_getObj_map hW)]
      simp only [goInt, asInt, asIntOf, pure_bind, hidx]
      rw [run_setObj hW (by simp)]
      rfl
    · have he2 := @modify_at _ pre post _ he1 (fun e => { e with val := ν val })
      have hW0 : MapAt W b κ ν (set m k v) _ clock := ⟨hW, hp1.pairs, hp1.apart, hp1.born, hp1.clock⟩
      subst hm
      rw [set_hit _ _ _ _ _ hn] at hW0
      have := hW0.put_hit (u := val) (k := k) (v := v) (e := { e with key := κ k }) he1 rfl hpre hpost hn (es' := (es.modify pre.length (fun e => { e with key := κ k })).modify pre.length (fun e => { e with val := ν val })) he2
      rwa [← set_hit mpre mpost k v v hn, set_set] at this
end Esch
