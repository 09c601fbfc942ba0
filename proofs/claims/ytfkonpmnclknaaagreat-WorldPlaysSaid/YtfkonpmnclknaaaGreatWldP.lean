/-
  The program's world beside the reference's, from a base on: what each call makes of them.
-/
import Derived.Test.YtfkonpmnclknaaaGreatWldM
import Derived.Test.YtfkonpmnclknaaaGreatWldN
import Derived.Test.YtfkonpmnclknaaaGreatWldO
namespace Go.Proofs.YtfkonpmnclknaaaGreat
open Go.RowKit
attribute [local go_sem ↓] Go.wp_at_zero Go.wp_at_succ

theorem sto_new_ok (N : Nat) (hN : N ≤ 1000000) : StoOk N Sto.new :=
  { coh := rfl, ng := by simp [Sto.new], nw := by simp [Sto.new], len := by simp [Sto.new], cap := hN, rf := by simp [Sto.new], rf9 := by simp [Sto.new], rm := by simp [Sto.new], rm9 := by simp [Sto.new] }
theorem wok_new (n : Nat) : WOk 0 (Wld.new n) := fun p hp => by
  unfold Wld.new at hp
  rw [List.eq_of_mem_replicate hp]
  exact sto_new_ok 0 (by omega)

/-- The two worlds, in blocks that came to be behind a base; three stores. -/
def Both (B : Nat) (w wr : World) (b N c : Nat) (m x : Wld) : Prop := ∃ X Y, WTwo wr b X N c Y m x ∧ (∀ i ∈ X ++ Y, B ≤ i) ∧ Below B w wr ∧ m.stores.length = 3 ∧ x.stores.length = 3
section
variable {B b N M c : Nat} {m x m' x' : Wld} {w wr w' w1 w2 w3 : World}
theorem Both.bel (h : Both B w wr b N c m x) : Below B w wr := by
  obtain ⟨X, Y, h1, h2, h3, h4, h5⟩ := h
  exact h3
theorem Both.three (h : Both B w wr b N c m x) : m.stores.length = 3 ∧ x.stores.length = 3 := by
  obtain ⟨X, Y, h1, h2, h3, h4⟩ := h
  exact h4
theorem Both.cm (h : Both B w wr b N c m x) : m.calls ≤ N := by
  obtain ⟨X, Y, h1, h2, h3, h4⟩ := h
  exact h1.cm
theorem Both.lt (h : Both B w wr b N c m x) : b < wr.heap.size := by
  obtain ⟨X, Y, h1, h2, h3, h4⟩ := h
  exact h1.p.lt _ h1.p.mem
theorem Both.below (h : Both B w wr b N c m x) (hB : B ≤ w.heap.size) (hb : Below wr.heap.size wr w') : Both B w w' b N c m x := by
  obtain ⟨X, Y, h1, h2, h3, h4, h5⟩ := h
  exact ⟨X, Y, h1.below hb, h2, h3.trans (hb.mono (Nat.le_trans hB h3.size)), h4, h5⟩
theorem Both.more (h : Both B w wr b N c m x) (hM : N ≤ M) (hc : M ≤ 1000000) : Both B w wr b M c m x := by
  obtain ⟨X, Y, h1, h2⟩ := h
  exact ⟨X, Y, h1.more hM hc, h2⟩
theorem Both.from {X Y : List Nat} (h2 : ∀ i ∈ X ++ Y, B ≤ i) (h3 : Below B w wr) (hB : B ≤ w.heap.size) (k : WTo b X M c Y m' x' wr w') (h4 : m'.stores.length = 3) (h5 : x'.stores.length = 3) : Both B w w' b M c m' x' := by
  obtain ⟨X1, Y1, k1, k2, k3, _⟩ := WTo.step h2 k (Nat.le_trans hB h3.size)
  exact ⟨X1, Y1, k1, k2, h3.trans k3, h4, h5⟩
theorem Both.new {X Y : List Nat} (hb : Below B w w1) (hB : B ≤ w1.heap.size) (h1 : WldAt w2 b X 0 (Wld.new 3)) (h2 : ∀ i ∈ X, w1.heap.size ≤ i) (h3 : Below w1.heap.size w1 w2) (k1 : RWAt w3 c Y (Wld.new 3)) (k2 : ∀ i ∈ Y, w2.heap.size ≤ i) (k3 : Below w2.heap.size w2 w3) : Both B w w3 b 0 c (Wld.new 3) (Wld.new 3) := by
  have y2 := h3.size
  refine ⟨X, Y, ⟨h1.below k3, k1, wok_new 3, fun i hi hf => ?_, Nat.le_refl _, Nat.le_refl _, by rw [wnew_len]; omega, by rw [wnew_len]; omega⟩, fun i hi => ?_, (hb.trans (h3.mono hB)).trans (k3.mono (by omega)), wnew_len 3, wnew_len 3⟩
  · have := h1.lt i hi
    have := k2 i hf
    omega
  · rcases List.mem_append.1 hi with hi | hi
    · have := h2 i hi; omega
    · have := k2 i hi; omega
theorem Both.do_ {a : Stepx} (h : Both B w wr b N c m x) (hB : B ≤ w.heap.size) (ha : StepOk wr B a) (hN : N + 1 ≤ 1000000) :
    Calls Tryz.prog 13 #[a.agg, .pointer (some ⟨b, 0, none⟩), .pointer (some ⟨c, 0, none⟩)] wr fun e w' => ∃ R, e = .returned (.bool R) ∧ (m = x → R = true) ∧ Both B w w' b (N + 1) c (m.step a) (x.step a) := by
  obtain ⟨X, Y, h1, h2, h3, h4, h5⟩ := h
  refine (law08_do b N c X Y m x a B wr hN h1 ha (Nat.le_trans hB h3.size) h2).mono ?_
  rintro e w' ⟨R, rfl, k1, k2⟩
  exact ⟨R, rfl, k1, Both.from h2 h3 hB k2 (by rw [step_len]; exact h4) (by rw [step_len]; exact h5)⟩
theorem Both.calls (h : Both B w wr b N c m x) :
    Calls Tryz.prog 20 #[.pointer (some ⟨b, 0, none⟩)] wr fun e w' => e = .returned (.int .i64 m.calls) ∧ wr = w' := by
  obtain ⟨X, Y, h1, h2, h3, h4, h5⟩ := h
  refine (world_Calls b N X m wr h1.p).mono ?_
  rintro e w' ⟨rfl, rfl⟩
  exact ⟨rfl, rfl⟩
theorem Both.dark (h : Both B w wr b N c m x) :
    Calls Tryz.prog 18 #[.pointer (some ⟨b, 0, none⟩)] wr fun e w' => e = .returned (.bool m.dark) ∧ wr = w' := by
  obtain ⟨X, Y, h1, h2, h3, h4, h5⟩ := h
  refine (world_Dark b N X m wr h1.p).mono ?_
  rintro e w' ⟨rfl, rfl⟩
  exact ⟨rfl, rfl⟩
theorem Both.cut (h : Both B w wr b N c m x) (hB : B ≤ w.heap.size) (n : Int) (hn : n ≤ 9223372036854775807) :
    Calls Tryz.prog 21 #[.pointer (some ⟨b, 0, none⟩), .int .i64 n] wr fun e w' => e = .returned (.int .i64 (m.cut n).2) ∧ Both B w w' b N c (m.cut n).1 x := by
  obtain ⟨X, Y, h1, h2, h3, h4, h5⟩ := h
  refine (world_Cut b N X m n hn wr h1.p).mono ?_
  rintro e w' ⟨rfl, t1⟩
  exact ⟨rfl, Both.from h2 h3 hB (WTo.done h1 (Below.refl _ _) t1 (RWTo.same (h1.ref_after (Below.refl _ _) t1) (Below.refl _ _)) h1.ok (by rw [cut_calls]; exact h1.cm) h1.cx (by rw [cut_len]; exact h1.nm) h1.nx) (by rw [cut_len]; exact h4) h5⟩
theorem Both.cutx (h : Both B w wr b N c m x) (hB : B ≤ w.heap.size) (n : Int) (hn : n ≤ 9223372036854775807) :
    Calls Tryz.prog 22 #[.pointer (some ⟨c, 0, none⟩), .int .i64 n] wr fun e w' => e = .returned (.int .i64 (x.cut n).2) ∧ Both B w w' b N c m (x.cut n).1 := by
  obtain ⟨X, Y, h1, h2, h3, h4, h5⟩ := h
  refine (ref08_Cut c Y x n hn wr h1.r).mono ?_
  rintro e w' ⟨rfl, t1⟩
  exact ⟨rfl, Both.from h2 h3 hB (WTo.done' h1 (Below.refl _ _) t1 (WldTo.same (h1.prog_after (Below.refl _ _) t1) (Below.refl _ _)) (h1.ok.cut _) h1.cm (by rw [cut_calls]; exact h1.cx) h1.nm (by rw [cut_len]; exact h1.nx)) h4 (by rw [cut_len]; exact h5)⟩
theorem Both.crash (h : Both B w wr b N c m x) (hB : B ≤ w.heap.size) (A : Option Addr) (nl k : Nat) (ks : List Surv) (hs : SurvsAt wr B A nl ks) (hk : ∀ y ∈ ks, IntsAt wr B y.A y.n y.keep) :
    Calls Tryz.prog 16 #[.pointer (some ⟨b, 0, none⟩), .slice A nl k] wr fun e w' => e = .returned (.int .i64 0) ∧ Both B w w' b N c (m.crash (ks.map Surv.keep)) x := by
  obtain ⟨X, Y, h1, h2, h3, h4, h5⟩ := h
  refine (world_Crash b N X m A nl k ks B wr h1.p hs hk (Nat.le_trans hB h3.size) (fun i hi => h2 i (List.mem_append.2 (.inl hi))) h1.nm).mono ?_
  rintro e w' ⟨rfl, t1⟩
  exact ⟨rfl, Both.from h2 h3 hB (WTo.done h1 (Below.refl _ _) t1 (RWTo.same (h1.ref_after (Below.refl _ _) t1) (Below.refl _ _)) h1.ok h1.cm h1.cx (by rw [crash_len]; exact h1.nm) h1.nx) (by rw [crash_len]; exact h4) h5⟩
theorem Both.crashx (h : Both B w wr b N c m x) (hB : B ≤ w.heap.size) (A : Option Addr) (nl k : Nat) (ks : List Surv) (hs : SurvsAt wr B A nl ks) (hk : ∀ y ∈ ks, IntsAt wr B y.A y.n y.keep) :
    Calls Tryz.prog 19 #[.pointer (some ⟨c, 0, none⟩), .slice A nl k] wr fun e w' => e = .returned (.tuple #[]) ∧ Both B w w' b N c m (x.crash (ks.map Surv.keep)) := by
  obtain ⟨X, Y, h1, h2, h3, h4, h5⟩ := h
  refine (ref08_Crash c N Y x A nl k ks B wr h1.r h1.ok hs hk (Nat.le_trans hB h3.size) (fun i hi => h2 i (List.mem_append.2 (.inr hi))) h1.nx).mono ?_
  rintro e w' ⟨rfl, t1⟩
  exact ⟨rfl, Both.from h2 h3 hB (WTo.done' h1 (Below.refl _ _) t1 (WldTo.same (h1.prog_after (Below.refl _ _) t1) (Below.refl _ _)) (h1.ok.crash _) h1.cm h1.cx h1.nm (by rw [crash_len]; exact h1.nx)) h4 (by rw [crash_len]; exact h5)⟩
end
end Go.Proofs.YtfkonpmnclknaaaGreat
