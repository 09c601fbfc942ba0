/-
  A drawn region whose first n operations keep a condition on the world, and whose last ones come in one forced order: what yields in every such world may be taken first; what does not comes when nothing else may.
-/
import Derived.Test.YtdhlmhkabckbaaaGreatDoorBase
import Derived.StillTail
import Derived.Deep.RegionHeld
namespace Go.Proofs.YtdhlmhkabckbaaaGreatDoor
open Go Go.RowKit

section
variable {P : Program} {ops : Array Oper} {md : Region.Mode} {Q : Exit → Act → World → Prop} {S : World → Prop}

def heldT (P : Program) (md : Region.Mode) (ops : Array Oper) (Q : Exit → Act → World → Prop) (S : World → Prop) (n : Nat) (L : Array Bool → Act → World → Prop) : Nat → Array Bool → Act → World → Prop
  | 0, listed, a, w => L listed a w
  | f + 1, listed, a, w => Region.ready md ops listed ≠ [] ∧ ∀ i ∈ Region.ready md ops listed, i < n ∧ wpOp P ops Q i (fun a' w' => S w' ∧ heldT P md ops Q S n L f (listed.setIfInBounds i true) a' w') a w

theorem any_of_heldT {n g : Nat} {L : Array Bool → Act → World → Prop} (hL : ∀ listed a w, L listed a w → wpAny P md ops Q g listed a w) :
    ∀ (f : Nat) (listed : Array Bool) (a : Act) (w : World), heldT P md ops Q S n L f listed a w → wpAny P md ops Q (f + g) listed a w
  | 0, listed, a, w, h => by rw [Nat.zero_add]; exact hL _ _ _ h
  | f + 1, listed, a, w, h => by
    rw [show f + 1 + g = (f + g) + 1 by omega]
    exact ⟨fun h0 => absurd h0 h.1, fun i hi => wpOp_mono (fun a' w' h' => any_of_heldT hL f _ a' w' h'.2) (h.2 i hi).2⟩

theorem heldT_first {n i : Nat} {oi : Oper} {v : Value} {L : Array Bool → Act → World → Prop} (hi : ops[i]? = some oi) (hsel : ∀ (j : Nat) (o : Oper) cs b, ops[j]? = some o → o.op ≠ .select cs b)
    (hQ : ∀ c a w, Q (.panic c) (a.put oi.dst v) w → Q (.panic c) a w)
    (hs : Region.sinkB md ops n = true) (hc : Region.chainB md ops n = true) (hn : n < ops.size) (hin : i < n) (hdone : ∀ listed a w, L listed a w → ∀ j ∈ Region.ready md ops listed, n ≤ j) :
    ∀ (f : Nat) (listed : Array Bool) (a : Act) (w : World), HeadInv md ops n listed →
      (∀ j oj, ops[j]? = some oj → j ≠ i → listed.getD j true = false → (∀ e ∈ oj.after, Region.binds md e = true → e.on ≠ i) → oi.apart ops oj = true) →
      i ∈ Region.ready md ops listed → YieldsIf P ops S oi v a → S w →
      heldT P md ops Q S n L f (listed.setIfInBounds i true) (a.put oi.dst v) w → heldT P md ops Q S n L (f + 1) listed a w := by
  intro f
  induction f with
  | zero =>
    intro listed a w inv _ hr hy hS H
    have hun := (mem_ready.1 hr).1
    refine ⟨fun h => (by rw [h] at hr; cases hr), fun j hj => ?_⟩
    have hjn : j < n := Nat.lt_of_not_le fun h => tail_waits hs hc hn inv _ i rfl hin hun j h hj
    refine ⟨hjn, ?_⟩
    by_cases hji : j = i
    · subst hji; exact hy.wpOp hi hS ⟨hS, H⟩
    · have := hdone _ _ _ H j (ready_mono hj hji)
      omega
  | succ f ih =>
    intro listed a w inv hfree hr hy hS H
    have hun := (mem_ready.1 hr).1
    refine ⟨fun h => (by rw [h] at hr; cases hr), fun j hj => ?_⟩
    have hjn : j < n := Nat.lt_of_not_le fun h => tail_waits hs hc hn inv _ i rfl hin hun j h hj
    refine ⟨hjn, ?_⟩
    by_cases hji : j = i
    · subst hji; exact hy.wpOp hi hS ⟨hS, H⟩
    · have h1 := (H.2 j (ready_mono hj hji)).2
      obtain ⟨hjun, oj, hoj, hall⟩ := mem_ready.1 hj
      have hnot : ∀ e ∈ oj.after, Region.binds md e = true → e.on ≠ i := fun e he hb heq => by
        have h1 := hall e he hb
        rw [heq, getD_both hun] at h1
        cases h1
      have h2 := wpOp_putIf hoj (hfree j oj hoj hji hjun hnot) (fun cs b => hsel i oi cs b hi) (fun cs b => hsel j oj cs b hoj) hQ hy h1
      refine wpOp_mono (fun a' w' h3 => ⟨h3.2.1, ih (listed.setIfInBounds j true) a' w' (inv.set hj hjn) (fun k ok hk hki hkun hno => hfree k ok hk hki ?_ hno) (ready_mono hr (Ne.symm hji)) h3.1 h3.2.1 ?_⟩) h2
      · by_cases hjk : j = k
        · subst hjk; exact hjun
        · rw [getD_set_ne true hjk] at hkun; exact hkun
      · rw [Array.setIfInBounds_comm _ _ hji]
        exact h3.2.2

/-- The forced tail. -/
def tailL (P : Program) (md : Region.Mode) (l : List Oper) (Q : Exit → Act → World → Prop) (n : Nat) : Array Bool → Act → World → Prop :=
  fun listed a w => Region.seqB md l.toArray (l.length - n) n listed = true ∧ wpList P l.toArray Q (l.drop n) a w
/-- What is left to do, the invariant beside it. -/
def HT (P : Program) (l : List Oper) (Q : Exit → Act → World → Prop) (S : World → Prop) (n f : Nat) (listed : Array Bool) (a : Act) (w : World) : Prop :=
  HeadInv .any l.toArray n listed → heldT P .any l.toArray Q S n (tailL P .any l Q n) f listed a w

variable {l : List Oper} {n f : Nat} {listed : Array Bool} {a : Act} {w : World}
theorem HT.take {i : Nat} {oi : Oper} {v : Value} (hi : l.toArray[i]? = some oi) (hB : (Region.noSelect l.toArray && Region.sinkB .any l.toArray n && Region.chainB .any l.toArray n && decide (n < l.toArray.size) && decide (i < n) && Region.free .any l.toArray listed i && (Region.ready .any l.toArray listed).contains i) = true)
    (hQ : ∀ c a w, Q (.panic c) (a.put oi.dst v) w → Q (.panic c) a w) (hy : YieldsIf P l.toArray S oi v a) (hS : S w) (h : HT P l Q S n f (listed.setIfInBounds i true) (a.put oi.dst v) w) : HT P l Q S n (f + 1) listed a w := by
  intro inv
  simp only [Bool.and_eq_true, decide_eq_true_eq] at hB
  obtain ⟨⟨⟨⟨⟨⟨h1, h2⟩, h3⟩, h4⟩, h5⟩, h6⟩, h7⟩ := hB
  have hr : i ∈ Region.ready .any l.toArray listed := by simpa using h7
  exact heldT_first hi (Region.noSelect_spec h1) hQ h2 h3 h4 h5 (fun _ _ _ hL => seqB_ready hL.1) f listed a w inv (Region.free_spec hi h6) hr hy hS (h (inv.set hr h5))
theorem HT.only {i : Nat} {o : Oper} (hi : l.toArray[i]? = some o) (hB : (decide (i < n) && (Region.ready .any l.toArray listed == [i])) = true)
    (h : ∀ K : Act → World → Prop, Shut (∀ a' w', S w' → (S w' → HT P l Q S n f (listed.setIfInBounds i true) a' w') → K a' w') → if Region.wanted o (yielded l.toArray a.tmps) = true then o.wp P a w K Q else K (a.put o.dst undef) w) :
    HT P l Q S n (f + 1) listed a w := by
  intro inv
  simp only [Bool.and_eq_true, decide_eq_true_eq, beq_iff_eq] at hB
  obtain ⟨h5, h7⟩ := hB
  refine ⟨by rw [h7]; simp, fun j hj => ?_⟩
  have hr : i ∈ Region.ready .any l.toArray listed := by rw [h7]; simp
  rw [h7] at hj
  obtain rfl : j = i := by simpa using hj
  refine ⟨h5, ?_⟩
  have := h (fun a' w' => S w' ∧ heldT P .any l.toArray Q S n (tailL P .any l Q n) f (listed.setIfInBounds j true) a' w') (fun a' w' hS hh => ⟨hS, hh hS (inv.set hr h5)⟩)
  unfold wpOp
  simp only [hi]
  split
  · rename_i hw
    rw [if_pos hw] at this
    exact .inl this
  · rename_i hw
    rw [if_neg hw] at this
    exact this
theorem HT.tail (hB : Region.seqB .any l.toArray (l.length - n) n listed = true) (h : wpList P l.toArray Q (l.drop n) a w) : HT P l Q S n 0 listed a w := fun _ => ⟨hB, h⟩

theorem region_held_tail (n : Nat) (S : World → Prop) {id : Nat} {l : List Oper} (hm : P.follows .mixedOrders = true) (hB : decide (n < l.length) = true) (h : HT P l Q S n n (Array.replicate l.length false) a w.drew) : (Code.region id l.toArray true).wp P Q a w := by
  have hn : n < l.length := of_decide_eq_true hB
  have inv0 : HeadInv .any l.toArray n (Array.replicate l.length false) :=
    ⟨by simp, fun j oj _ hl => (by rw [getD_replicate_false] at hl; cases hl), fun t _ ht => getD_in (by simpa using ht) (getD_replicate_false _ _)⟩
  have H := h inv0
  refine wp_region_any hm ?_
  have := any_of_heldT (Q := Q) (g := l.length - n) (fun listed' a' w' hL => by
    have := wpAny_of_seq (md := .any) (Q' := Q) (ops := l.toArray) (l.drop n) n listed' a' w' (fun j => by simp [List.getElem?_drop]) (by rw [List.length_drop]; exact hL.1) hL.2
    rwa [List.length_drop] at this) _ _ _ _ H
  rw [show n + (l.length - n) = l.toArray.size by simp; omega] at this
  simpa using this
end

section
variable {P : Program} {Q : Exit → Act → World → Prop} {S : World → Prop} {l : List Oper} {n f : Nat} {listed : Array Bool} {a : Act} {w : World}
theorem HT.takeL {i : Nat} {oi : Oper} {v : Value} (hi : l[i]? = some oi) (hB : (Region.noSelect l.toArray && Region.sinkB .any l.toArray n && Region.chainB .any l.toArray n && decide (n < l.toArray.size) && decide (i < n) && Region.free .any l.toArray listed i && (Region.ready .any l.toArray listed).contains i) = true)
    (hQ : ∀ c a w, Q (.panic c) (a.put oi.dst v) w → Q (.panic c) a w) (hy : YieldsIf P l.toArray S oi v a) (hS : S w) (h : HT P l Q S n f (listed.setIfInBounds i true) (a.put oi.dst v) w) : HT P l Q S n (f + 1) listed a w :=
  HT.take (by simpa using hi) hB hQ hy hS h
theorem HT.onlyL {i : Nat} {o : Oper} (hi : l[i]? = some o) (hB : (decide (i < n) && (Region.ready .any l.toArray listed == [i])) = true)
    (h : ∀ K : Act → World → Prop, Shut (∀ a' w', S w' → (S w' → HT P l Q S n f (listed.setIfInBounds i true) a' w') → K a' w') → if Region.wanted o (yielded l.toArray a.tmps) = true then o.wp P a w K Q else K (a.put o.dst undef) w) :
    HT P l Q S n (f + 1) listed a w := HT.only (by simpa using hi) hB h
end

section
variable {P : Program} {Q : Exit → Act → World → Prop} {S : World → Prop} {l : List Oper} {n f : Nat} {listed : Array Bool} {a : Act} {w : World}
theorem HT.step {i : Nat} {o : Oper} (hi : l.toArray[i]? = some o) (h5 : i < n) (hr : i ∈ Region.ready .any l.toArray listed) (inv : HeadInv .any l.toArray n listed)
    (h : ∀ K : Act → World → Prop, Shut (∀ a' w', S w' → (S w' → HT P l Q S n f (listed.setIfInBounds i true) a' w') → K a' w') → if Region.wanted o (yielded l.toArray a.tmps) = true then o.wp P a w K Q else K (a.put o.dst undef) w) :
    i < n ∧ wpOp P l.toArray Q i (fun a' w' => S w' ∧ heldT P .any l.toArray Q S n (tailL P .any l Q n) f (listed.setIfInBounds i true) a' w') a w := by
  refine ⟨h5, ?_⟩
  have := h (fun a' w' => S w' ∧ heldT P .any l.toArray Q S n (tailL P .any l Q n) f (listed.setIfInBounds i true) a' w') (fun a' w' hS hh => ⟨hS, hh hS (inv.set hr h5)⟩)
  unfold wpOp
  simp only [hi]
  split
  · rename_i hw
    rw [if_pos hw] at this
    exact .inl this
  · rename_i hw
    rw [if_neg hw] at this
    exact this
theorem HT.twoL {i j : Nat} {o o' : Oper} (hi : l[i]? = some o) (hj : l[j]? = some o') (hB : (decide (i < n) && decide (j < n) && (Region.ready .any l.toArray listed == [i, j])) = true)
    (h : ∀ K : Act → World → Prop, Shut (∀ a' w', S w' → (S w' → HT P l Q S n f (listed.setIfInBounds i true) a' w') → K a' w') → if Region.wanted o (yielded l.toArray a.tmps) = true then o.wp P a w K Q else K (a.put o.dst undef) w)
    (h' : ∀ K : Act → World → Prop, Shut (∀ a' w', S w' → (S w' → HT P l Q S n f (listed.setIfInBounds j true) a' w') → K a' w') → if Region.wanted o' (yielded l.toArray a.tmps) = true then o'.wp P a w K Q else K (a.put o'.dst undef) w) :
    HT P l Q S n (f + 1) listed a w := by
  intro inv
  simp only [Bool.and_eq_true, decide_eq_true_eq, beq_iff_eq] at hB
  obtain ⟨⟨hin, hjn⟩, h7⟩ := hB
  refine ⟨by rw [h7]; simp, fun q hq => ?_⟩
  have hr := hq
  rw [h7] at hq
  simp only [List.mem_cons, List.not_mem_nil, or_false] at hq
  rcases hq with rfl | rfl
  · exact HT.step (by simpa using hi) hin hr inv h
  · exact HT.step (by simpa using hj) hjn hr inv h'
end
end Go.Proofs.YtdhlmhkabckbaaaGreatDoor
