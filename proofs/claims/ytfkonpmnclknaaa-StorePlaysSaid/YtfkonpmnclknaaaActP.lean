/-
  A store and the reference's, the same: act, told.
-/
import Derived.Test.YtfkonpmnclknaaaRefV
import Derived.Test.YtfkonpmnclknaaaSamA
namespace Go.Proofs.Ytfkonpmnclknaaa
open Go.RowKit
attribute [local go_sem ↓] Go.wp_at_zero Go.wp_at_succ

structure Pair (w : World) (b : Nat) (F : List Nat) (N c : Nat) (G : List Nat) (s : Sto) : Prop where
  sto : StoAt w b F N s
  ref : RefAt w c G s
  coh : Coh s
  sep : ∀ i ∈ F, i ∉ G
def PairTo (b : Nat) (F : List Nat) (N c : Nat) (G : List Nat) (s' : Sto) (w w' : World) : Prop :=
  ∃ F' G', Pair w' b F' N c G' s' ∧ But (F ++ G) w w' ∧ ∀ i ∈ F' ++ G', i ∈ F ++ G ∨ w.heap.size ≤ i
section
variable {w w0 w1 w2 w' : World} {b N M c : Nat} {F G : List Nat} {s s' : Sto}
theorem Pair.ok (h : Pair w b F N c G s) : StoOk N s := h.sto.ok h.coh
theorem Pair.below (h : Pair w b F N c G s) (hb : Below w.heap.size w w') : Pair w' b F N c G s := ⟨h.sto.below hb, h.ref.below hb, h.coh, h.sep⟩
theorem Pair.more (h : Pair w b F N c G s) (hM : N ≤ M) (hc : M ≤ 1000000) : Pair w b F M c G s := ⟨h.sto.more hM hc, h.ref, h.coh, h.sep⟩
theorem Pair.but {X : List Nat} (h : Pair w b F N c G s) (hb : But X w w') (hX : ∀ i ∈ F ++ G, i ∉ X) : Pair w' b F N c G s :=
  ⟨h.sto.but hb fun i hi => hX i (List.mem_append.2 (.inl hi)), h.ref.but hb fun i hi => hX i (List.mem_append.2 (.inr hi)), h.coh, h.sep⟩
theorem Pair.lt (h : Pair w b F N c G s) : ∀ i ∈ F ++ G, i < w.heap.size := fun i hi => (List.mem_append.1 hi).elim (h.sto.lt i) (h.ref.lt i)
theorem Pair.ref_after (h : Pair w b F N c G s) (hA : Below w.heap.size w w0) (t1 : StoTo b F M s' w0 w1) : RefAt w1 c G s := by
  obtain ⟨F', h1, h2, h3⟩ := t1
  exact (h.ref.below hA).but h2 fun i hi hf => h.sep i hf hi
theorem Pair.sto_after (h : Pair w b F N c G s) (hA : Below w.heap.size w w0) (t1 : RefTo c G s' w0 w1) : StoAt w1 b F N s := by
  obtain ⟨G', h1, h2, h3⟩ := t1
  exact (h.sto.below hA).but h2 h.sep
theorem PairTo.same (h : Pair w b F N c G s) (hb : Below w.heap.size w w') : PairTo b F N c G s w w' := ⟨F, G, h.below hb, But.of_below hb, fun _ hi => .inl hi⟩
theorem PairTo.more (h : PairTo b F N c G s w w') (hM : N ≤ M) (hc : M ≤ 1000000) : PairTo b F M c G s w w' := by
  obtain ⟨F', G', h1, h2⟩ := h
  exact ⟨F', G', h1.more hM hc, h2⟩
theorem PairTo.done (h : Pair w b F N c G s) (hA : Below w.heap.size w w0) (t1 : StoTo b F M s' w0 w1) (t2 : RefTo c G s' w1 w2) (hc : Coh s') : PairTo b F M c G s' w w2 := by
  obtain ⟨F1, h1, h2, h3⟩ := t1
  obtain ⟨G1, k1, k2, k3⟩ := t2
  have hF1 : ∀ i ∈ F1, i ∉ G := fun i hi hg => by
    rcases h3 i hi with e | e
    · exact h.sep i e hg
    · have := h.ref.lt i hg
      have := hA.size
      omega
  refine ⟨F1, G1, ⟨h1.but k2 hF1, k1, hc, fun i hi hg => ?_⟩, ?_, fun i hi => ?_⟩
  · rcases k3 i hg with e | e
    · exact hF1 i hi e
    · have := h1.lt i hi
      omega
  · exact ((But.of_below (F := F ++ G) hA).trans h2 fun i hi => .inl (List.mem_append.2 (.inl hi))).trans k2 fun i hi => .inl (List.mem_append.2 (.inr hi))
  · have z1 := hA.size
    have z2 := h2.size
    rcases List.mem_append.1 hi with hi | hi
    · rcases h3 i hi with e | e
      · exact .inl (List.mem_append.2 (.inl e))
      · exact .inr (by omega)
    · rcases k3 i hi with e | e
      · exact .inl (List.mem_append.2 (.inr e))
      · exact .inr (by omega)
theorem PairTo.done' (h : Pair w b F N c G s) (hA : Below w.heap.size w w0) (t1 : RefTo c G s' w0 w1) (t2 : StoTo b F M s' w1 w2) (hc : Coh s') : PairTo b F M c G s' w w2 := by
  obtain ⟨G1, k1, k2, k3⟩ := t1
  obtain ⟨F1, h1, h2, h3⟩ := t2
  have hG1 : ∀ i ∈ G1, i ∉ F := fun i hi hg => by
    rcases k3 i hi with e | e
    · exact h.sep i hg e
    · have := h.sto.lt i hg
      have := hA.size
      omega
  refine ⟨F1, G1, ⟨h1, k1.but h2 hG1, hc, fun i hi hg => ?_⟩, ?_, fun i hi => ?_⟩
  · rcases h3 i hi with e | e
    · exact hG1 i hg e
    · have := k1.lt i hg
      omega
  · exact ((But.of_below (F := F ++ G) hA).trans k2 fun i hi => .inl (List.mem_append.2 (.inr hi))).trans h2 fun i hi => .inl (List.mem_append.2 (.inl hi))
  · have z1 := hA.size
    have z2 := k2.size
    rcases List.mem_append.1 hi with hi | hi
    · rcases h3 i hi with e | e
      · exact .inl (List.mem_append.2 (.inl e))
      · exact .inr (by omega)
    · rcases k3 i hi with e | e
      · exact .inl (List.mem_append.2 (.inr e))
      · exact .inr (by omega)
end

/-- What an act makes of a store. -/
def Sto.act (s : Sto) (a : Actx) : Sto :=
  if a.kind = 0 then (s.put (a.name, a.data)).1 else if a.kind = 1 then s else if a.kind = 2 then (s.del a.name).1 else if a.kind = 3 then s
    else if a.kind = 4 then s.sync.1 else if a.kind = 5 then s.crash a.keep else (s.strike a.f).1
def Actx.agg (a : Actx) : Value := .agg #[.int .u8 a.kind, .string a.name, .string a.data, .slice a.kA a.kn a.kc, .int .u8 a.f.kind, .int .i64 a.f.store, .int .i64 a.f.n, .int .i64 a.f.at_, .int .i64 a.f.c]

set_option maxHeartbeats 4000000 in
theorem law07_texts (A : Option Addr) (n c : Nat) (A' : Option Addr) (n' c' : Nat) (l : List ByteArray) (w : World) (h : StrsAt w w.heap.size A n l) (h' : StrsAt w w.heap.size A' n' l) :
    Calls Try.prog 52 #[.slice A n c, .slice A' n' c'] w fun e w' => e = .returned (.bool true) ∧ Below w.heap.size w w' := by
  obtain rfl : n = n' := by rw [← h.1, ← h'.1]
  have hn9 := h.2.1
  go_enter Try.func52, Try.ntmps52
  go_wp2_with fail
  go_loopw [5] (fun i wr => ∃ j : Nat, j ≤ n ∧ i = .int .i64 j ∧ Below w.heap.size w wr) (fun i _ => n - (intOf i).toNat)
  case atStart => exact ⟨0, Nat.zero_le _, rfl, Below.refl _ _⟩
  case round =>
    obtain ⟨j, hj, rfl, hbr⟩ := hrel
    obtain ⟨wp, rfl⟩ : ∃ x : World, x = wr := ⟨_, rfl⟩
    by_cases hlt : j < n
    · obtain ⟨b0, off, p, rfl, hb0, hx, q0⟩ := (h.to hbr).str hlt
      obtain ⟨b1, off1, p1, rfl, hb1, hx1, r0⟩ := (h'.to hbr).str hlt
      obtain rfl : p = p1 := by rw [hx] at hx1; exact Option.some.inj hx1
      have e0 : (p.toList == p.toList) = true := by simp
      replace hx := Lib.hid hx
      replace hx1 := Lib.hid hx1
      go_wp2_with fail
      go_quiet (fail)
      go_wp2_with fail
      go_roundw
      case rel => exact ⟨j + 1, by omega, by go_num, (by repeat (first | exact Below.refl _ _ | assumption | refine Below.drew ?_ | refine below_drewN ?_ _ | refine Below.alloc ?_ (by first | omega | (simp; try omega)) _ | refine Below.setCell ?_ (by first | omega | (simp; try omega)) _ | (refine Below.trans ?_ (Below.mono (by assumption) (by first | omega | (simp; try omega))))))⟩
      case measure => simp [intOf]; omega
    · obtain rfl : j = n := by omega
      go_wp2_with fail
      go_ret
      exact ⟨rfl, hbr⟩

set_option maxHeartbeats 4000000 in
theorem law07_told (b : Nat) (F : List Nat) (N c : Nat) (G : List Nat) (s : Sto) (w : World) (h : Pair w b F N c G s) :
    Calls Try.prog 25 #[.pointer (some ⟨b, 0, none⟩), .pointer (some ⟨c, 0, none⟩)] w fun e w' => e = .returned (.bool true) ∧ Below w.heap.size w w' := by
  have hk := h.ok
  have hs := h.sto
  have hr := h.ref
  have hS := Lib.hid fun W (x : Below w.heap.size w W) => store_Objects b F N s W (hs.below x)
  have hR := Lib.hid fun W (x : Below w.heap.size w W) => ref07_Objects c G N s hk W (hr.below x)
  have hU := Lib.hid fun W (x : Below w.heap.size w W) => store_Up b F N s W (hs.below x)
  have hV := Lib.hid fun W (x : Below w.heap.size w W) => ref07_Up c G s W (hr.below x)
  have hX := Lib.hid fun W (x : Below w.heap.size w W) => store_Sound b F N s W (hs.below x)
  have hY := Lib.hid fun W (x : Below w.heap.size w W) => ref07_Sound c G s W (hr.below x)
  have e1 : ∀ B : Bool, (B == B) = true := by simp
  replace e1 := Lib.hid e1
  clear h hk hs hr
  go_enter Try.func25, Try.ntmps25
  go_wp2_with fail
  refine (hS.out w (Below.refl _ _)).mono ?_
  rintro e w1 ⟨v1, rfl, o1, b1⟩
  obtain ⟨A1, m1, c1, rfl⟩ : ∃ A m c, v1 = .slice A m c := by obtain ⟨A, c, e⟩ := Owns.form o1; exact ⟨A, _, c, e⟩
  have r1 := Owns.row (k := 2) (fun x => objE.len x) o1
  go_wp2_with fail
  refine (hR.out w1 b1).mono ?_
  rintro e w2 ⟨v2, rfl, o2, b2⟩
  obtain ⟨A2, m2, c2, rfl⟩ : ∃ A m c, v2 = .slice A m c := by obtain ⟨A, c, e⟩ := Owns.form o2; exact ⟨A, _, c, e⟩
  have r2 := Owns.row (k := 2) (fun x => objE.len x) o2
  have b3 := b1.trans (b2.mono b1.size)
  go_wp2_with fail
  refine (ref07_SameObjects A1 m1 c1 A2 m2 c2 s.seen w2 (r1.to b2) r2).mono ?_
  rintro e w3 ⟨rfl, b4⟩
  have b5 := b3.trans (b4.mono b3.size)
  go_wp2_with fail
  refine (hU.out w3 b5).mono ?_
  rintro e w4 ⟨rfl, rfl⟩
  go_wp2_with fail
  refine (hV.out w4 b5).mono ?_
  rintro e w5 ⟨rfl, rfl⟩
  go_wp2_with fail
  refine (hX.out w5 b5).mono ?_
  rintro e w6 ⟨rfl, rfl⟩
  go_wp2_with fail
  refine (hY.out w6 b5).mono ?_
  rintro e w7 ⟨rfl, rfl⟩
  go_wp2_with fail
  go_ret
  exact ⟨rfl, b5⟩
end Go.Proofs.Ytfkonpmnclknaaa
