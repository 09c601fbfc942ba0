/-
  The reference's Strike by any fault; what a store is goes on to be, whatever is done to it.
-/
import Derived.Test.YtfkonpmnclknaaaRefU
import Derived.Test.YtfkonpmnclknaaaRefW
import Derived.Test.YtfkonpmnclknaaaRefC
namespace Go.Proofs.Ytfkonpmnclknaaa
open Go.RowKit

theorem coh_new : Coh Sto.new := rfl
theorem tried_coh {s : Sto} (h : Coh s) : Coh s.tried := by
  unfold Coh at *
  rw [tried_seen, tried_writes, tried_good, h]
theorem settled_coh (s : Sto) : Coh s.settled := rfl
theorem put_coh {s : Sto} (h : Coh s) (o : Ob) : Coh (s.put o).1 := by
  unfold Sto.put
  split
  · exact h
  · split
    · exact h
    · split
      · exact h
      · split
        · exact tried_coh h
        · show putO s.seen o = fullGo (s.writes ++ [⟨o.1, o.2, false⟩]) s.tried.good
          rw [fullGo_snoc, tried_good, ← h]
          rfl
theorem del_coh {s : Sto} (h : Coh s) (n : ByteArray) : Coh (s.del n).1 := by
  unfold Sto.del
  split
  · split
    · exact tried_coh h
    · show delO s.seen n = fullGo (s.writes ++ [⟨n, ⟨#[]⟩, true⟩]) s.tried.good
      rw [fullGo_snoc, tried_good, ← h]
      rfl
  · exact h
theorem sync_coh {s : Sto} (h : Coh s) : Coh s.sync.1 := by
  unfold Sto.sync
  split
  · exact h
  · exact settled_coh s
theorem crash_coh (s : Sto) (l : List Int) : Coh (s.crash l) := rfl
theorem strike_coh {s : Sto} (h : Coh s) (f : Flt) : Coh (s.strike f).1 := by
  unfold Sto.strike
  split
  · exact h
  · dsimp only
    repeat' split
    · exact settled_coh _
    · unfold Sto.lost
      split <;> exact settled_coh _
    · unfold Sto.bent
      split
      · exact settled_coh _
      · split <;> exact settled_coh _
    all_goals exact h
theorem StoAt.ok {w : World} {b N : Nat} {F : List Nat} {s : Sto} (h : StoAt w b F N s) (hc : Coh s) : StoOk N s := by
  obtain ⟨gm, sm, V, rfl, h⟩ := h
  exact { coh := hc, ng := h.ng, nw := h.nw, len := h.len, cap := h.cap, rf := h.rf, rf9 := h.rf9, rm9 := h.rm9, rm := h.rm }

theorem ref07_Strike (b : Nat) (F : List Nat) (N : Nat) (s : Sto) (hs : StoOk N s) (f : Flt) (w : World) (h : RefAt w b F s) :
    Calls Try.prog 57 #[.pointer (some ⟨b, 0, none⟩), f.agg] w fun e w' => e = .returned (.int .i64 (s.strike f).2) ∧ RefTo b F (s.strike f).1 w w' := by
  cases hb : f.bad
  · have hk : f.kind = 1 ∨ f.kind = 2 ∨ f.kind = 3 ∨ f.kind = 4 ∨ f.kind = 5 ∨ f.kind = 6 ∨ f.kind = 7 := by
      have h1 := hb
      unfold Flt.bad at h1
      simp only [Bool.or_eq_false_iff, decide_eq_false_iff_not] at h1
      omega
    obtain ⟨kind, store, n, at_, c⟩ := f
    dsimp only at hk
    unfold Sto.strike
    rw [if_neg (by rw [hb]; decide)]
    dsimp only
    rcases hk with rfl | rfl | rfl | rfl | rfl | rfl | rfl
    · exact ref_strike_wipe b F N s hs store n at_ c hb w h
    · exact ref_strike_lose b F N s hs store n at_ c hb w h
    · exact ref_strike_bend b F N s hs store n at_ c hb w h
    · exact ref_strike_down b F s store n at_ c hb w h
    · exact ref_strike_up b F s store n at_ c hb w h
    · exact ref_strike_refuse b F s store n at_ c hb w h
    · exact ref_strike_room b F s store n at_ c hb w h
  · unfold Sto.strike
    rw [if_pos hb]
    exact ref_strike_bad b F s f hb w h
end Go.Proofs.Ytfkonpmnclknaaa
