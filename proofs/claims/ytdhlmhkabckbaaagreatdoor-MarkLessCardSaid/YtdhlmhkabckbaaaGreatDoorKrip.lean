/-
  A drawn region of calls that only make memory, beside allocations that may come at any time: the allocations float, and one way through the region serves.
-/
import Derived.Test.YtdhlmhkabckbaaaGreatDoorBase
import Derived.Deep.RegionHeld
import Derived.StillTail
import Derived.Test.YtdhlmhkabckbaaaGreatDoorElem
namespace Go.Proofs.YtdhlmhkabckbaaaGreatDoor
open Go Go.RowKit

section
variable {P : Program} {ops : Array Oper} {Q : Exit → Act → World → Prop} {S : World → Prop}

theorem wpOp_fwd {j : Nat} {d : Option Nat} {oj : Oper} {v : Value} (hj : ops[j]? = some oj) (h1 : ∀ x, d = some x → x ∉ oj.looksAt ops) (h2 : ∀ x, d = some x → oj.dst ≠ some x) (hsj : ∀ cs b, oj.op ≠ .select cs b)
    (hQ : ∀ c a w, Q (.panic c) a w → Q (.panic c) (a.put d v) w) {K : Act → World → Prop} {a : Act} {w : World} (h : wpOp P ops Q j K a w) :
    wpOp P ops Q j (fun a' w' => ∃ a0, a' = a0.put d v ∧ K a0 w') (a.put d v) w := by
  unfold wpOp at *
  simp only [hj] at *
  rw [wanted_put oj a d v h1]
  split
  · rename_i hw
    simp only [hw, if_true] at h
    rcases h with h | ⟨hasks, hlets⟩
    case inr => exact .inr ⟨by unfold Oper.asks at *; rw [execOp_put oj hsj a d v h1]; exact hasks, hlets⟩
    refine .inl ?_
    unfold Oper.wp at *
    rw [execOp_put oj hsj a d v h1]
    generalize (execOp a.eval oj).run P w = r at *
    cases r with
    | ok n w' =>
      cases n <;> simp only [Oper.upon] at h ⊢
      case value u => exact ⟨a.put oj.dst u, Act.put_comm a v u h2, h⟩
      case skip => exact ⟨a.put oj.dst undef, Act.put_comm a v undef h2, h⟩
      case defer x =>
        refine ⟨({ a with defers := x :: a.defers } : Act).put oj.dst undef, ?_, h⟩
        rw [Act.put_defers]
        exact Act.put_comm _ v undef h2
      case enter f args =>
        refine Calls.mono h fun e w'' he => ?_
        cases e with
        | returned u => exact ⟨a.put oj.dst u, Act.put_comm a v u h2, he⟩
        | panicked c => exact hQ _ _ _ he
        | outgrown => exact he
      case row row args => exact Rows.mono h fun u w'' he => ⟨a.put oj.dst u, Act.put_comm a v u h2, he⟩
    | halt x w' =>
      cases x <;> simp only [Oper.upon] at h ⊢
      case panic u => exact hQ _ _ _ h
      all_goals exact h
  · rename_i hw
    simp only [hw] at h
    exact ⟨a.put oj.dst undef, Act.put_comm a v undef h2, h⟩

theorem wpOp_inv {I : Act → Prop} {j : Nat} {oj : Oper} (hj : ops[j]? = some oj) {K : Act → World → Prop} {a : Act} {w : World} (hI : ∀ u, I (a.put oj.dst u)) (hId : ∀ x, I (({ a with defers := x :: a.defers } : Act).put oj.dst undef))
    (h : wpOp P ops Q j K a w) : wpOp P ops Q j (fun a' w' => I a' ∧ K a' w') a w := by
  unfold wpOp at *
  simp only [hj] at *
  split
  · rename_i hw
    simp only [hw, if_true] at h
    rcases h with h | h
    case inr => exact .inr h
    refine .inl ?_
    unfold Oper.wp at *
    generalize (execOp a.eval oj).run P w = r at *
    cases r with
    | ok n w' =>
      cases n <;> simp only [Oper.upon] at h ⊢
      case value u => exact ⟨hI u, h⟩
      case skip => exact ⟨hI _, h⟩
      case defer x => exact ⟨hId x, h⟩
      case enter f args =>
        refine Calls.mono h fun e w'' he => ?_
        cases e with
        | returned u => exact ⟨hI u, he⟩
        | panicked c => exact he
        | outgrown => exact he
      case row row args => exact Rows.mono h fun u w'' he => ⟨hI u, he⟩
    | halt x w' =>
      cases x <;> simp only [Oper.upon] at h ⊢
      all_goals exact h
  · rename_i hw
    simp only [hw] at h
    exact ⟨hI _, h⟩

/-- A pure operation that leans on a float: its number, itself, its value by the float's. -/
structure Tr where
  i : Nat
  o : Oper
  g : Value → Value
/-- An operation that floats: its number, itself, what is known of its value once it has come up, and what leans on it. -/
structure Fl where
  i : Nat
  o : Oper
  V : Value → World → Prop
  t : Option Tr
def Fl.is (x : Fl) : List Nat := match x.t with | none => [x.i] | some t => [x.i, t.i]
def Fl.os (x : Fl) : List Oper := match x.t with | none => [x.o] | some t => [x.o, t.o]
def Fl.mark (x : Fl) (M : Array Bool) : Array Bool := match x.t with | none => M.setIfInBounds x.i true | some t => (M.setIfInBounds x.i true).setIfInBounds t.i true
def Fl.put (x : Fl) (a : Act) (v : Value) : Act := match x.t with | none => a.put x.o.dst v | some t => (a.put x.o.dst v).put t.o.dst (t.g v)
def Fl.n (x : Fl) : Nat := match x.t with | none => 1 | some _ => 2
def Fl.off (ops : Array Oper) (x : Fl) (o : Oper) : Bool := x.os.all fun p => p.apart ops o
def Fl.apart (ops : Array Oper) (x y : Fl) : Bool := x.is.all (fun i => !y.is.contains i) && y.os.all (fun o => x.off ops o)
/-- Behind the float what leans on it may be taken at once. -/
def Fl.ripe (ops : Array Oper) (M : Array Bool) (x : Fl) : Bool := match x.t with
  | none => true
  | some t => M.getD x.i false || (Region.free .any ops (M.setIfInBounds x.i true) t.i && (Region.ready .any ops (M.setIfInBounds x.i true)).contains t.i)
theorem Fl.i_mem (x : Fl) : x.i ∈ x.is := by
  unfold Fl.is
  split <;> simp
theorem Fl.o_mem (x : Fl) : x.o ∈ x.os := by
  unfold Fl.os
  split <;> simp
theorem Fl.off_at {x : Fl} {o p : Oper} (h : x.off ops o = true) (hp : p ∈ x.os) : p.apart ops o = true := List.all_eq_true.1 h p hp
theorem Fl.apart_at {x y : Fl} (h : x.apart ops y = true) {o p : Oper} (hp : p ∈ x.os) (ho : o ∈ y.os) : p.apart ops o = true := by
  simp only [Fl.apart, Bool.and_eq_true] at h
  exact Fl.off_at (List.all_eq_true.1 h.2 o ho) hp
theorem Fl.apart_off {x y : Fl} (h : x.apart ops y = true) {o : Oper} (ho : o ∈ y.os) : x.off ops o = true := List.all_eq_true.2 fun _ hp => Fl.apart_at h hp ho
theorem Fl.apart_ne {x y : Fl} (h : x.apart ops y = true) : x.i ≠ y.i := by
  simp only [Fl.apart, Bool.and_eq_true, List.all_eq_true] at h
  intro e
  have h1 := h.1 x.i x.i_mem
  rw [e] at h1
  have h2 := List.contains_iff_mem.2 y.i_mem
  rw [h2] at h1
  cases h1
theorem set_comm (M : Array Bool) (i j : Nat) : (M.setIfInBounds i true).setIfInBounds j true = (M.setIfInBounds j true).setIfInBounds i true := by
  by_cases h : i = j
  · rw [h]
  · rw [Array.setIfInBounds_comm _ _ h]
theorem Fl.mark_set (x : Fl) (M : Array Bool) (j : Nat) : x.mark (M.setIfInBounds j true) = (x.mark M).setIfInBounds j true := by
  unfold Fl.mark
  split
  · exact set_comm _ _ _
  · rw [set_comm M j x.i, set_comm _ j]
theorem Fl.mark_mark (x y : Fl) (M : Array Bool) : x.mark (y.mark M) = y.mark (x.mark M) := by
  conv => lhs; rw [Fl.mark.eq_def y]
  conv => rhs; rw [Fl.mark.eq_def y]
  split
  · rw [Fl.mark_set]
  · rw [Fl.mark_set, Fl.mark_set]
theorem Fl.mark_size (x : Fl) (M : Array Bool) : (x.mark M).size = M.size := by
  unfold Fl.mark
  split <;> simp
theorem Fl.mark_self (x : Fl) (M : Array Bool) (h : x.i < M.size) : (x.mark M).getD x.i false = true := by
  unfold Fl.mark
  split
  · simp [h]
  · exact getD_set_true (by simp [h])
theorem Fl.mark_true (x : Fl) {M : Array Bool} {y : Nat} (h : M.getD y false = true) : (x.mark M).getD y false = true := by
  unfold Fl.mark
  split
  · exact getD_set_true h
  · exact getD_set_true (getD_set_true h)
theorem Fl.put_put (x : Fl) (a : Act) (u v : Value) {d : Option Nat} (h : ∀ o ∈ x.os, ∀ y, d = some y → o.dst ≠ some y) : x.put (a.put d v) u = (x.put a u).put d v := by
  unfold Fl.put
  unfold Fl.os at h
  split
  · rename_i ht
    simp only [ht] at h
    exact Act.put_comm _ _ _ (h x.o (by simp))
  · rename_i t ht
    simp only [ht] at h
    rw [Act.put_comm _ _ _ (h x.o (by simp)), Act.put_comm _ _ _ (h t.o (by simp))]
theorem Fl.put_fl (x y : Fl) (a : Act) (u v : Value) (h : x.apart ops y = true) : x.put (y.put a v) u = y.put (x.put a u) v := by
  have h1 : ∀ p ∈ y.os, ∀ o ∈ x.os, ∀ z, p.dst = some z → o.dst ≠ some z := fun p hp o ho z hz e => (Oper.apart_spec (Fl.apart_at h ho hp)).2.1 z e hz
  have hos : y.os = match y.t with | none => [y.o] | some t => [y.o, t.o] := rfl
  conv => lhs; rw [Fl.put.eq_def y]
  conv => rhs; rw [Fl.put.eq_def y]
  split
  · exact Fl.put_put x _ _ _ (h1 _ y.o_mem)
  · rename_i t ht
    rw [Fl.put_put x _ _ _ (h1 _ (by rw [hos, ht]; simp)), Fl.put_put x _ _ _ (h1 _ y.o_mem)]

structure FloatK (P : Program) (ops : Array Oper) (w : World) (x : Fl) (a : Act) : Prop where
  at_ : ops[x.i]? = some x.o
  wanted : Region.wanted x.o (yielded ops a.tmps) = true
  run : ∀ w1 : World, w.heap.size ≤ w1.heap.size → ∃ v w2, (execOp a.eval x.o).run P w1 = .ok (.value v) w2 ∧ Below w1.heap.size w1 w2 ∧ x.V v w2
  stay : ∀ v w1 w2, x.V v w1 → Below w1.heap.size w1 w2 → x.V v w2
  lean : ∀ t, x.t = some t → ops[t.i]? = some t.o ∧ ∀ v w2, x.V v w2 → Yields P ops t.o (t.g v) (a.put x.o.dst v)
theorem Yields.same {o : Oper} {v : Value} {a a' : Act} (hy : Yields P ops o v a) (he : execOp a'.eval o = execOp a.eval o)
    (hw : Region.wanted o (yielded ops a'.tmps) = Region.wanted o (yielded ops a.tmps)) : Yields P ops o v a' := by
  unfold Yields at *
  rw [he, hw]
  exact hy
theorem FloatK.put {w : World} {x : Fl} {a : Act} (h : FloatK P ops w x a) (hs : ∀ (j : Nat) (o : Oper) cs b, ops[j]? = some o → o.op ≠ .select cs b) {o : Oper} (ho : x.off ops o = true) (v : Value) : FloatK P ops w x (a.put o.dst v) := by
  have hx := Oper.apart_spec (Fl.off_at ho x.o_mem)
  have he := execOp_put x.o (fun cs b => hs _ _ cs b h.at_) a o.dst v hx.2.2
  have hw := wanted_put x.o a o.dst v hx.2.2
  refine ⟨h.at_, by rw [hw]; exact h.wanted, by rw [he]; exact h.run, h.stay, fun t ht => ⟨(h.lean t ht).1, fun u wu hu => ?_⟩⟩
  have htm : t.o ∈ x.os := by unfold Fl.os; rw [ht]; simp
  have h3 := Oper.apart_spec (Fl.off_at ho htm)
  rw [Act.put_comm a v u (fun y hy e => hx.2.1 y e hy)]
  exact Yields.same ((h.lean t ht).2 u wu hu) (execOp_put t.o (fun cs b => hs _ _ cs b (h.lean t ht).1) _ _ _ h3.2.2) (wanted_put t.o _ _ _ h3.2.2)
theorem FloatK.defers {w : World} {x : Fl} {a : Act} (h : FloatK P ops w x a) (d : List Deferred) : FloatK P ops w x { a with defers := d } := by
  refine ⟨h.at_, h.wanted, h.run, h.stay, fun t ht => ⟨(h.lean t ht).1, fun u wu hu => ?_⟩⟩
  have h1 := (h.lean t ht).2 u wu hu
  refine Yields.same h1 ?_ ?_
  · cases x.o.dst <;> rfl
  · cases x.o.dst <;> rfl
theorem FloatK.putX {w : World} {x z : Fl} {a : Act} (h : FloatK P ops w x a) (hs : ∀ (j : Nat) (o : Oper) cs b, ops[j]? = some o → o.op ≠ .select cs b) (hz : x.apart ops z = true) (v : Value) : FloatK P ops w x (z.put a v) := by
  have hos : z.os = match z.t with | none => [z.o] | some t => [z.o, t.o] := rfl
  unfold Fl.put
  split
  · exact h.put hs (Fl.apart_off hz z.o_mem) v
  · rename_i t ht
    exact (h.put hs (Fl.apart_off hz z.o_mem) v).put hs (Fl.apart_off hz (by rw [hos, ht]; simp)) _
theorem FloatK.to {w w1 : World} {x : Fl} {a : Act} (h : FloatK P ops w x a) (hb : w.heap.size ≤ w1.heap.size) : FloatK P ops w1 x a :=
  ⟨h.at_, h.wanted, fun w2 h2 => h.run w2 (Nat.le_trans hb h2), h.stay, h.lean⟩

def fMask : List Fl → (Nat → Option Value) → Array Bool → Array Bool
  | [], _, l => l
  | x :: F, m, l => if (m x.i).isSome then x.mark (fMask F m l) else fMask F m l
def fAct : List Fl → (Nat → Option Value) → Act → Act
  | [], _, a => a
  | x :: F, m, a => match m x.i with | none => fAct F m a | some v => x.put (fAct F m a) v
def fLeft : List Fl → (Nat → Option Value) → Nat
  | [], _ => 0
  | x :: F, m => if (m x.i).isSome then fLeft F m else fLeft F m + x.n
def masks : List Fl → Array Bool → List (Array Bool)
  | [], l => [l]
  | x :: F, l => masks F l ++ (masks F l).map x.mark
theorem fMask_mem (m : Nat → Option Value) (l : Array Bool) : ∀ F : List Fl, fMask F m l ∈ masks F l
  | [] => by simp [fMask, masks]
  | x :: F => by
    have ih := fMask_mem m l F
    simp only [fMask, masks, List.mem_append, List.mem_map]
    split
    · exact .inr ⟨_, ih, rfl⟩
    · exact .inl ih
theorem fMask_set (m : Nat → Option Value) (l : Array Bool) (j : Nat) : ∀ F : List Fl, fMask F m (l.setIfInBounds j true) = (fMask F m l).setIfInBounds j true
  | [] => rfl
  | x :: F => by
    simp only [fMask]
    rw [fMask_set m l j F]
    split
    · exact x.mark_set _ _
    · rfl
theorem fMask_mark (m : Nat → Option Value) (l : Array Bool) (x : Fl) : ∀ F : List Fl, fMask F m (x.mark l) = x.mark (fMask F m l)
  | [] => rfl
  | z :: F => by
    simp only [fMask]
    rw [fMask_mark m l x F]
    split
    · exact z.mark_mark x _
    · rfl
theorem fMask_size (m : Nat → Option Value) (l : Array Bool) : ∀ F : List Fl, (fMask F m l).size = l.size
  | [] => rfl
  | x :: F => by
    simp only [fMask]
    split
    · rw [x.mark_size, fMask_size m l F]
    · exact fMask_size m l F
theorem fMask_some {m : Nat → Option Value} {l : Array Bool} {x : Fl} : ∀ {F : List Fl}, x ∈ F → (m x.i).isSome = true → (fMask F m l).getD x.i false = true ∨ l.size ≤ x.i
  | [], h, _ => absurd h List.not_mem_nil
  | z :: F, h, hm => by
    simp only [fMask]
    rcases List.mem_cons.1 h with rfl | h
    · rw [if_pos hm]
      rcases Nat.lt_or_ge x.i l.size with h' | h'
      · exact .inl (x.mark_self _ (by rw [fMask_size]; exact h'))
      · exact .inr h'
    · rcases fMask_some h hm with h1 | h1
      · left
        split
        · exact z.mark_true h1
        · exact h1
      · exact .inr h1

/-- The floats part from one another: numbers and temporaries. -/
def partB (ops : Array Oper) : List Fl → Bool
  | [] => true
  | x :: F => F.all (fun y => x.apart ops y && y.apart ops x) && partB ops F
theorem fAct_put {d : Option Nat} {v : Value} (m : Nat → Option Value) (a : Act) : ∀ {F : List Fl}, (∀ x ∈ F, ∀ o ∈ x.os, ∀ y, d = some y → o.dst ≠ some y) → fAct F m (a.put d v) = (fAct F m a).put d v
  | [], _ => rfl
  | x :: F, h => by
    have ih := fAct_put (v := v) m a (F := F) (fun z hz => h z (List.mem_cons_of_mem _ hz))
    simp only [fAct]
    split
    · exact ih
    · rw [ih]
      exact x.put_put _ _ _ (h x List.mem_cons_self)
theorem fAct_fl {x : Fl} {v : Value} (m : Nat → Option Value) (a : Act) : ∀ {F : List Fl}, (∀ z ∈ F, z.apart ops x = true) → fAct F m (x.put a v) = x.put (fAct F m a) v
  | [], _ => rfl
  | z :: F, h => by
    have ih := fAct_fl (v := v) m a (F := F) (fun q hq => h q (List.mem_cons_of_mem _ hq))
    simp only [fAct]
    split
    · exact ih
    · rw [ih]
      exact z.put_fl x _ _ _ (h z List.mem_cons_self)
def upd (m : Nat → Option Value) (i : Nat) (v : Value) : Nat → Option Value := fun j => if j = i then some v else m j
theorem upd_self (m : Nat → Option Value) (i : Nat) (v : Value) : upd m i v i = some v := by simp [upd]
theorem upd_other {m : Nat → Option Value} {i j : Nat} (v : Value) (h : j ≠ i) : upd m i v j = m j := by simp [upd, h]
theorem upd_out {m : Nat → Option Value} {i : Nat} {v : Value} {l : Array Bool} {a : Act} : ∀ {F : List Fl}, (∀ x ∈ F, x.i ≠ i) → fMask F (upd m i v) l = fMask F m l ∧ fAct F (upd m i v) a = fAct F m a ∧ fLeft F (upd m i v) = fLeft F m
  | [], _ => ⟨rfl, rfl, rfl⟩
  | x :: F, h => by
    obtain ⟨h1, h2, h3⟩ := upd_out (m := m) (i := i) (v := v) (l := l) (a := a) (F := F) (fun z hz => h z (List.mem_cons_of_mem _ hz))
    simp only [fMask, fAct, fLeft, upd_other v (h x List.mem_cons_self), h1, h2, h3]
    exact ⟨trivial, trivial, trivial⟩
theorem upd_in {m : Nat → Option Value} {v : Value} {l : Array Bool} {a : Act} {x : Fl} : ∀ {F : List Fl}, partB ops F = true → x ∈ F → m x.i = none → fMask F (upd m x.i v) l = x.mark (fMask F m l) ∧ fAct F (upd m x.i v) a = x.put (fAct F m a) v ∧ fLeft F m = fLeft F (upd m x.i v) + x.n
  | [], _, h, _ => absurd h List.not_mem_nil
  | z :: F, hp, h, hm => by
    simp only [partB, Bool.and_eq_true, List.all_eq_true] at hp
    rcases List.mem_cons.1 h with rfl | h
    · obtain ⟨h1, h2, h3⟩ := upd_out (m := m) (i := x.i) (v := v) (l := l) (a := a) (F := F) (fun q hq e => Fl.apart_ne (hp.1 q hq).1 e.symm)
      simp only [fMask, fAct, fLeft, upd_self, hm, h1, h2, h3]
      exact ⟨by simp, trivial, by simp⟩
    · obtain ⟨h1, h2, h3⟩ := upd_in (v := v) (l := l) (a := a) hp.2 h hm
      have hne := hp.1 x h
      have hu := upd_other (m := m) v (Fl.apart_ne hne.1)
      simp only [fMask, fAct, fLeft, hu, h1, h2, h3]
      refine ⟨?_, ?_, ?_⟩
      · split
        · exact z.mark_mark x _
        · rfl
      · cases m z.i with
        | none => rfl
        | some u => exact z.put_fl x _ _ _ hne.1
      · split <;> omega

/-- What is left to do, whichever of the floats have come up. -/
def kF (P : Program) (ops : Array Oper) (Q : Exit → Act → World → Prop) (S : World → Prop) (F : List Fl) (f : Nat) (listed : Array Bool) (a : Act) (w : World) : Prop :=
  (∀ x ∈ F, FloatK P ops w x a) → ∀ m w1, (w1 = w ∨ (F ≠ [] ∧ Below w.heap.size w w1)) → S w1 → (∀ x ∈ F, ∀ v, m x.i = some v → x.V v w1) →
    wpAnyH P .any ops Q S (f + fLeft F m) (fMask F m listed) (fAct F m a) w1

theorem ext_of {F : List Fl} {w w1 : World} (h : w1 = w ∨ (F ≠ [] ∧ Below w.heap.size w w1)) : Below w.heap.size w w1 := by
  rcases h with rfl | h
  · exact Below.refl _ _
  · exact h.2

variable {F : List Fl} {f : Nat} {listed : Array Bool} {a : Act} {w : World}

/-- One more float. -/
theorem kF.float {x : Fl} (hi : (F.map (·.i)).contains x.i = false) (hx : FloatK P ops w x a) (h : kF P ops Q S (x :: F) f listed a w) : kF P ops Q S F (f + x.n) listed a w := by
  intro hF m w1 hw hS hg
  have hne : ∀ z ∈ F, z.i ≠ x.i := fun z hz e => by
    have : (F.map (·.i)).contains x.i = true := List.contains_iff_mem.2 (List.mem_map.2 ⟨z, hz, e⟩)
    rw [this] at hi
    cases hi
  have key : ∀ (F : List Fl), (∀ z ∈ F, z.i ≠ x.i) → fMask F (fun j => if j = x.i then none else m j) listed = fMask F m listed ∧ fAct F (fun j => if j = x.i then none else m j) a = fAct F m a ∧ fLeft F (fun j => if j = x.i then none else m j) = fLeft F m := by
    intro F
    induction F with
    | nil => intro _; exact ⟨rfl, rfl, rfl⟩
    | cons z F ih =>
      intro hz
      obtain ⟨h1, h2, h3⟩ := ih fun q hq => hz q (List.mem_cons_of_mem _ hq)
      have hzx : (if z.i = x.i then none else m z.i) = m z.i := if_neg (hz z List.mem_cons_self)
      simp only [fMask, fAct, fLeft, hzx, h1, h2, h3]
      exact ⟨trivial, trivial, trivial⟩
  obtain ⟨k1, k2, k3⟩ := key F hne
  have := h (fun z hz => by rcases List.mem_cons.1 hz with rfl | hz; exact hx; exact hF z hz) (fun j => if j = x.i then none else m j) w1 (hw.imp id fun q => ⟨by simp, q.2⟩) hS (fun z hz v hv => by
    rcases List.mem_cons.1 hz with rfl | hz
    · simp at hv
    · rw [if_neg (hne z hz)] at hv
      exact hg z hz v hv)
  simp only [fMask, fAct, fLeft, k1, k2, k3] at this
  simp at this
  rw [show f + x.n + fLeft F m = f + (fLeft F m + x.n) by omega]
  exact this

theorem yields_fl {x : Fl} {oj : Oper} {v : Value} {a : Act} (hs : ∀ cs b, oj.op ≠ .select cs b) (h : x.off ops oj = true) (hy : YieldsIf P ops S oj v a) (u : Value) : YieldsIf P ops S oj v (x.put a u) := by
  have hos : x.os = match x.t with | none => [x.o] | some t => [x.o, t.o] := rfl
  have step : ∀ p ∈ x.os, ∀ (a : Act) u, YieldsIf P ops S oj v a → YieldsIf P ops S oj v (a.put p.dst u) := fun p hp a u hy =>
    hy.of_same (execOp_put oj hs _ _ _ (Oper.apart_spec (Fl.off_at h hp)).1) (wanted_put oj _ _ _ (Oper.apart_spec (Fl.off_at h hp)).1)
  unfold Fl.put
  split
  · exact step _ x.o_mem _ _ hy
  · rename_i t ht
    exact step _ (by rw [hos, ht]; simp) _ _ (step _ x.o_mem _ _ hy)

/-- An operation that yields its value in every world that meets S is taken. -/
theorem kF.take {j : Nat} {oj : Oper} {v : Value} (hj : ops[j]? = some oj) (hB : (Region.noSelect ops && F.all (fun x => x.off ops oj) && (masks F listed).all (fun M => Region.free .any ops M j && (Region.ready .any ops M).contains j)) = true)
    (hQ : ∀ c a w, Q (.panic c) (a.put oj.dst v) w → Q (.panic c) a w) (hy : YieldsIf P ops S oj v a) (h : kF P ops Q S F f (listed.setIfInBounds j true) (a.put oj.dst v) w) : kF P ops Q S F (f + 1) listed a w := by
  intro hF m w1 hw hS hg
  simp only [Bool.and_eq_true, List.all_eq_true] at hB
  obtain ⟨⟨h1, h3⟩, h4⟩ := hB
  have hsel := Region.noSelect_spec h1
  obtain ⟨h5, h6⟩ := h4 _ (fMask_mem m listed F)
  have hsF : ∀ x ∈ F, FloatK P ops w x (a.put oj.dst v) := fun x hx => (hF x hx).put hsel (h3 x hx) v
  have hh := h hsF m w1 hw hS hg
  rw [fMask_set, fAct_put m a (fun x hx o ho y hy' => fun e => (Oper.apart_spec (Fl.off_at (h3 x hx) ho)).2.1 y e hy')] at hh
  have hy' : YieldsIf P ops S oj v (fAct F m a) := by
    have : ∀ F : List Fl, (∀ x ∈ F, x.off ops oj = true) → YieldsIf P ops S oj v (fAct F m a) := by
      intro F
      induction F with
      | nil => intro _; exact hy
      | cons z F ih =>
        intro hz
        have ih' := ih fun q hq => hz q (List.mem_cons_of_mem _ hq)
        simp only [fAct]
        split
        · exact ih'
        · exact yields_fl (fun cs b => hsel j oj cs b hj) (hz z List.mem_cons_self) ih' _
    exact this F h3
  rw [show f + 1 + fLeft F m = (f + fLeft F m) + 1 by omega]
  exact wpAnyH_first hj hsel hQ _ _ _ _ (Region.free_spec hj h5) (by simpa using h6) hy' hS hh

theorem part_of {x z : Fl} : ∀ {G : List Fl}, partB ops G = true → z ∈ G → x ∈ G → z = x ∨ (z.apart ops x = true ∧ x.apart ops z = true)
  | [], _, h, _ => absurd h List.not_mem_nil
  | q :: G, hq, hz, hx => by
    simp only [partB, Bool.and_eq_true, List.all_eq_true] at hq
    rcases List.mem_cons.1 hz with e1 | hz
    · rcases List.mem_cons.1 hx with e2 | hx
      · exact .inl (e1.trans e2.symm)
      · exact .inr (by rw [e1]; exact hq.1 x hx)
    · rcases List.mem_cons.1 hx with e2 | hx
      · exact .inr (by rw [e2]; exact (hq.1 z hz).symm)
      · exact part_of hq.2 hz hx
theorem part_ne {x z : Fl} {G : List Fl} (hp : partB ops G = true) (hz : z ∈ G) (hx : x ∈ G) (e : z.i = x.i) : z = x := by
  rcases part_of hp hz hx with h | h
  · exact h
  · exact absurd e (Fl.apart_ne h.1)

/-- What is known of a float that is still to come stands whichever of the others have come up. -/
theorem fl_act {m : Nat → Option Value} {x : Fl} {w : World} (hsel : ∀ (j : Nat) (o : Oper) cs b, ops[j]? = some o → o.op ≠ .select cs b) : ∀ (G : List Fl), (∀ z ∈ G, m z.i = none ∨ x.apart ops z = true) → FloatK P ops w x a → FloatK P ops w x (fAct G m a)
  | [], _, h => h
  | z :: G, hz, h => by
    have ih := fl_act (m := m) hsel G (fun q hq => hz q (List.mem_cons_of_mem _ hq)) h
    simp only [fAct]
    rcases hz z List.mem_cons_self with h0 | h0
    · rw [h0]; exact ih
    · cases m z.i with
      | none => exact ih
      | some u => exact ih.putX hsel h0 u

theorem quiet_put (hQ : ∀ c (d : Nat) v a w, Q (.panic c) a w ↔ Q (.panic c) (a.put (some d) v) w) (c : List PanicEntry) (d : Option Nat) (v : Value) (a : Act) (w : World) : Q (.panic c) a w ↔ Q (.panic c) (a.put d v) w := by
  cases d with
  | none => exact Iff.rfl
  | some d => exact hQ c d v a w
/-- Behind a float what leans on it is taken first. -/
theorem lean_up {x : Fl} {M : Array Bool} {A : Act} {w1 w2 : World} {v : Value} {n : Nat} (hsel : ∀ (j : Nat) (o : Oper) cs b, ops[j]? = some o → o.op ≠ .select cs b) (hQ : ∀ c (d : Nat) v a w, Q (.panic c) a w ↔ Q (.panic c) (a.put (some d) v) w) (hx : FloatK P ops w1 x A) (hM : M.getD x.i false = false) (hr : x.ripe ops M = true) (hS : S w2) (hv : x.V v w2)
    (h : wpAnyH P .any ops Q S n (x.mark M) (x.put A v) w2) : wpAnyH P .any ops Q S (n + (x.n - 1)) (M.setIfInBounds x.i true) (A.put x.o.dst v) w2 := by
  have hl := hx.lean
  unfold Fl.ripe at hr
  unfold Fl.mark Fl.put at h
  unfold Fl.n
  split at hr
  · rename_i ht
    simp only [ht] at h ⊢
    exact h
  · rename_i t ht
    simp only [ht] at h ⊢
    rw [hM] at hr
    simp only [Bool.false_or, Bool.and_eq_true] at hr
    obtain ⟨ha, hy⟩ := hl t ht
    exact wpAnyH_first ha hsel (fun c a w hq => (quiet_put hQ c _ _ a w).2 hq) _ _ _ _ (Region.free_spec ha hr.1) (by simpa using hr.2) (hy v w2 hv).yieldsIf hS h

/-- A float comes up. -/
theorem kF_up {m : Nat → Option Value} {w1 : World} {x : Fl} (hp : partB ops F = true) (hsel : ∀ (j : Nat) (o : Oper) cs b, ops[j]? = some o → o.op ≠ .select cs b) (hF : ∀ x ∈ F, FloatK P ops w1 x a) (hx : x ∈ F) (hm : m x.i = none)
    {K : Act → World → Prop} (h : ∀ v w2, Below w1.heap.size w1 w2 → x.V v w2 → FloatK P ops w1 x (fAct F m a) → K ((fAct F m a).put x.o.dst v) w2) : wpOp P ops Q x.i K (fAct F m a) w1 := by
  have hf : FloatK P ops w1 x (fAct F m a) := by
    refine fl_act hsel F (fun z hz => ?_) (hF x hx)
    rcases part_of hp hz hx with e | e
    · exact .inl (by rw [e]; exact hm)
    · exact .inr e.2
  obtain ⟨v, w2, hr, hb, hv⟩ := hf.run w1 (Nat.le_refl _)
  unfold wpOp
  simp only [hf.at_, hf.wanted, if_true]
  refine .inl ?_
  unfold Oper.wp
  rw [hr]
  simp only [Oper.upon]
  exact h v w2 hb hv hf

theorem none_of {m : Nat → Option Value} {x : Fl} (hi : x.i ∈ Region.ready .any ops (fMask F m listed)) (hx : x ∈ F) : m x.i = none := by
  have h0 := (mem_ready.1 hi).1
  cases hm : m x.i with
  | none => rfl
  | some v =>
    exfalso
    rcases fMask_some (m := m) (l := listed) hx (by rw [hm]; rfl) with h1 | h1
    · rw [getD_both h0] at h1
      cases h1
    · rw [← fMask_size m listed F] at h1
      simp [Array.getElem?_eq_none h1] at h0
theorem good_upd {m : Nat → Option Value} {x : Fl} {v : Value} {w2 : World} (hp : partB ops F = true) (hx : x ∈ F) (hv : x.V v w2) (hg : ∀ z ∈ F, ∀ u, m z.i = some u → z.V u w2) : ∀ z ∈ F, ∀ u, upd m x.i v z.i = some u → z.V u w2 := by
  intro z hz u hu
  by_cases e : z.i = x.i
  · obtain rfl := part_ne hp hz hx e
    rw [upd_self] at hu
    cases hu
    exact hv
  · rw [upd_other v e] at hu
    exact hg z hz u hu

/-- What a step does to the floats that have come up. -/
def Keeps (F : List Fl) (w w' : World) : Prop := F = [] ∨ Below w.heap.size w w' ∨ (w.heap.size ≤ w'.heap.size ∧ ∀ x ∈ F, ∀ v, x.V v w → x.V v w')

theorem Fl.n_pos (x : Fl) : 1 ≤ x.n := by
  unfold Fl.n
  split <;> omega

theorem wpOp_fl {z : Fl} {j : Nat} {oj : Oper} (hj : ops[j]? = some oj) (hz : z.off ops oj = true) (hs : ∀ cs b, oj.op ≠ .select cs b) (hQ : ∀ c (d : Nat) v a w, Q (.panic c) a w ↔ Q (.panic c) (a.put (some d) v) w) (u : Value) {K : Act → World → Prop} {a : Act} {w : World}
    (h : wpOp P ops Q j K a w) : wpOp P ops Q j (fun a' w' => ∃ a0, a' = z.put a0 u ∧ K a0 w') (z.put a u) w := by
  have step : ∀ p ∈ z.os, ∀ (a : Act) u (K : Act → World → Prop), wpOp P ops Q j K a w → wpOp P ops Q j (fun a' w' => ∃ a0, a' = a0.put p.dst u ∧ K a0 w') (a.put p.dst u) w := fun p hp a u K h =>
    wpOp_fwd hj (Oper.apart_spec (Fl.off_at hz hp)).1 (Oper.apart_spec (Fl.off_at hz hp)).2.1 hs (fun c a w hq => (quiet_put hQ c _ _ a w).1 hq) h
  have hos : z.os = match z.t with | none => [z.o] | some t => [z.o, t.o] := rfl
  unfold Fl.put
  split
  · exact step _ z.o_mem _ _ _ h
  · rename_i t ht
    refine wpOp_mono (fun a' w' h => ?_) (step t.o (by rw [hos, ht]; simp) _ _ _ (step _ z.o_mem _ _ _ h))
    obtain ⟨a1, e1, a0, e0, h0⟩ := h
    exact ⟨a0, by rw [e1, e0], h0⟩

/-- Of what may come up only one operation is no float: it is carried out, in whatever world lies above. -/
theorem kF.only {j : Nat} {oj : Oper} (hj : ops[j]? = some oj) (hB : (Region.noSelect ops && partB ops F && F.all (fun x => x.i != j && x.off ops oj) && (masks F listed).all (fun M => (Region.ready .any ops M).contains j && (Region.ready .any ops M).all (fun i => i == j || (F.map (·.i)).contains i) && F.all (fun x => x.ripe ops M))) = true)
    (hQ : ∀ c (d : Nat) v a w, Q (.panic c) a w ↔ Q (.panic c) (a.put (some d) v) w) (hSt : ∀ w1 w2, S w1 → Below w1.heap.size w1 w2 → S w2)
    (h : ∀ w1, Below w.heap.size w w1 → (F = [] → w1 = w) → S w1 → wpOp P ops Q j (fun a' w' => S w' ∧ Keeps F w1 w' ∧ kF P ops Q S F f (listed.setIfInBounds j true) a' w') a w1) : kF P ops Q S F (f + 1) listed a w := by
  intro hF
  simp only [Bool.and_eq_true, List.all_eq_true, bne_iff_ne] at hB
  obtain ⟨⟨⟨h1, hp⟩, h3⟩, h4⟩ := hB
  have hsel := Region.noSelect_spec h1
  have step : ∀ k, (∀ k', k' < k → ∀ m w1, fLeft F m = k' → Below w.heap.size w w1 → (F = [] → w1 = w) → S w1 → (∀ x ∈ F, ∀ v, m x.i = some v → x.V v w1) → wpAnyH P .any ops Q S (f + 1 + k') (fMask F m listed) (fAct F m a) w1) →
      ∀ m w1, fLeft F m = k → Below w.heap.size w w1 → (F = [] → w1 = w) → S w1 → (∀ x ∈ F, ∀ v, m x.i = some v → x.V v w1) → wpAnyH P .any ops Q S (f + 1 + k) (fMask F m listed) (fAct F m a) w1 := by
    intro k ih m w1 hk hb he hS hg
    rw [show f + 1 + k = (f + k) + 1 by omega]
    obtain ⟨⟨hr1, hr2⟩, hr3⟩ := h4 _ (fMask_mem m listed F)
    refine ⟨fun h0 => ?_, fun i hi => ?_⟩
    · rw [h0] at hr1
      simp at hr1
    · have hi2 := hr2 i hi
      by_cases hij : i = j
      · subst hij
        have h6 := wpOp_inv (I := fun a' => ∀ x ∈ F, FloatK P ops w1 x a') hj (fun u x hx => ((hF x hx).to hb.size).put hsel (h3 x hx).2 u)
          (fun d x hx => (((hF x hx).to hb.size).defers _).put hsel (h3 x hx).2 _) (h w1 hb he hS)
        have h7 : ∀ (G : List Fl), (∀ x ∈ G, x.off ops oj = true) → ∀ {K : Act → World → Prop}, wpOp P ops Q i K a w1 → wpOp P ops Q i (fun a' w' => ∃ a0, a' = fAct G m a0 ∧ K a0 w') (fAct G m a) w1 := by
          intro G
          induction G with
          | nil => intro _ K hK; exact wpOp_mono (fun a' w' h => ⟨a', rfl, h⟩) hK
          | cons z G ihG =>
            intro hz K hK
            have ihG' := ihG (fun q hq => hz q (List.mem_cons_of_mem _ hq)) hK
            simp only [fAct]
            cases m z.i with
            | none => exact ihG'
            | some u =>
              refine wpOp_mono (fun a' w' h => ?_) (wpOp_fl hj (hz z List.mem_cons_self) (fun cs b => hsel i oj cs b hj) hQ u ihG')
              obtain ⟨a1, e1, a0, e0, hK0⟩ := h
              exact ⟨a0, by rw [e1, e0], hK0⟩
        refine wpOp_mono (fun a' w' h8 => ?_) (h7 F (fun x hx => (h3 x hx).2) h6)
        obtain ⟨a0, e, hI, hS', hbw, hk'⟩ := h8
        subst e
        refine ⟨hS', ?_⟩
        have h9 := hk' (fun x hx => by
          rcases hbw with e | hbw | hbw
          · subst e; cases hx
          · exact (hI x hx).to hbw.size
          · exact (hI x hx).to hbw.1) m w' (.inl rfl) hS' (fun x hx v hv => by
          rcases hbw with e | hbw | hbw
          · subst e; cases hx
          · exact (hI x hx).stay v _ _ (hg x hx v hv) hbw
          · exact hbw.2 x hx v (hg x hx v hv))
        rw [fMask_set, hk] at h9
        exact h9
      · have hc : (F.map (·.i)).contains i = true := by
          simp only [Bool.or_eq_true, beq_iff_eq] at hi2
          exact hi2.resolve_left hij
        obtain ⟨x, hx, rfl⟩ := List.mem_map.1 (List.contains_iff_mem.1 hc)
        have hmn := none_of hi hx
        refine kF_up hp hsel (fun z hz => (hF z hz).to hb.size) hx hmn (fun v w2 hb2 hv hfx => ⟨hSt _ _ hS hb2, ?_⟩)
        obtain ⟨e1, e2, e3⟩ := upd_in (v := v) (l := listed) (a := a) hp hx hmn
        have hn := x.n_pos
        have h9 := ih (fLeft F (upd m x.i v)) (by omega) (upd m x.i v) w2 rfl (hb.trans (hb2.mono hb.size)) (fun e => by subst e; cases hx) (hSt _ _ hS hb2) (good_upd hp hx hv fun z hz u hu => (hF z hz).stay u _ _ (hg z hz u hu) hb2)
        rw [e1, e2] at h9
        rw [show f + k = f + 1 + fLeft F (upd m x.i v) + (x.n - 1) by omega]
        exact lean_up hsel hQ hfx (getD_both (mem_ready.1 hi).1) (hr3 x hx) (hSt _ _ hS hb2) hv h9
  have key : ∀ k, ∀ k', k' ≤ k → ∀ m w1, fLeft F m = k' → Below w.heap.size w w1 → (F = [] → w1 = w) → S w1 → (∀ x ∈ F, ∀ v, m x.i = some v → x.V v w1) → wpAnyH P .any ops Q S (f + 1 + k') (fMask F m listed) (fAct F m a) w1 := by
    intro k
    induction k with
    | zero => intro k' hk'; exact step k' (fun k'' h => absurd h (by omega))
    | succ k ih => intro k' hk'; exact step k' (fun k'' h => ih k'' (by omega))
  intro m w1 hw hS hg
  exact key _ _ (Nat.le_refl _) m w1 rfl (ext_of hw) (fun e => hw.elim id fun q => absurd e q.1) hS hg

/-- A float comes up, for nothing else may. -/
theorem kF.settle {x : Fl} (hB : (Region.noSelect ops && partB ops (x :: F) && (masks F listed).all (fun M => (Region.ready .any ops M).contains x.i && (Region.ready .any ops M).all (fun i => i == x.i || (F.map (·.i)).contains i) && (x :: F).all (fun z => z.ripe ops M))) = true)
    (hQ : ∀ c (d : Nat) v a w, Q (.panic c) a w ↔ Q (.panic c) (a.put (some d) v) w) (hSt : ∀ w1 w2, S w1 → Below w1.heap.size w1 w2 → S w2)
    (h : ∀ w1, Below w.heap.size w w1 → S w1 → ∀ v, x.V v w1 → kF P ops Q S F f (x.mark listed) (x.put a v) w1) : kF P ops Q S (x :: F) f listed a w := by
  intro hF
  simp only [Bool.and_eq_true, List.all_eq_true] at hB
  obtain ⟨⟨h1, hp⟩, h4⟩ := hB
  have hsel := Region.noSelect_spec h1
  have hp' : partB ops F = true := by
    simp only [partB, Bool.and_eq_true] at hp
    exact hp.2
  have hxF : ∀ z ∈ F, x.apart ops z = true ∧ z.apart ops x = true := fun z hz => by
    simp only [partB, Bool.and_eq_true, List.all_eq_true] at hp
    exact hp.1 z hz
  have hFx := hF x List.mem_cons_self
  have hFF : ∀ z ∈ F, FloatK P ops w z a := fun z hz => hF z (List.mem_cons_of_mem _ hz)
  have hxn := x.n_pos
  have yes : ∀ m w1 v, Below w.heap.size w w1 → S w1 → x.V v w1 → (∀ z ∈ F, ∀ v, m z.i = some v → z.V v w1) → wpAnyH P .any ops Q S (f + fLeft F m) (x.mark (fMask F m listed)) (x.put (fAct F m a) v) w1 := by
    intro m w1 v hb hS hv hg
    have hh := h w1 hb hS v hv (fun z hz => ((hFF z hz).to hb.size).putX hsel (hxF z hz).2 v) m w1 (.inl rfl) hS hg
    rwa [fMask_mark, fAct_fl m a (fun z hz => (hxF z hz).2)] at hh
  have step : ∀ k, (∀ k', k' < k → ∀ m w1, fLeft F m = k' → Below w.heap.size w w1 → S w1 → (∀ z ∈ F, ∀ v, m z.i = some v → z.V v w1) → wpAnyH P .any ops Q S (f + (k' + x.n)) (fMask F m listed) (fAct F m a) w1) →
      ∀ m w1, fLeft F m = k → Below w.heap.size w w1 → S w1 → (∀ z ∈ F, ∀ v, m z.i = some v → z.V v w1) → wpAnyH P .any ops Q S (f + (k + x.n)) (fMask F m listed) (fAct F m a) w1 := by
    intro k ih m w1 hk hb hS hg
    rw [show f + (k + x.n) = (f + k + (x.n - 1)) + 1 by omega]
    obtain ⟨⟨hr1, hr2⟩, hr3⟩ := h4 _ (fMask_mem m listed F)
    refine ⟨fun h0 => ?_, fun i hi => ?_⟩
    · rw [h0] at hr1
      simp at hr1
    · have hi2 := hr2 i hi
      by_cases hij : i = x.i
      · subst hij
        have hf := (fl_act (m := m) hsel F (fun z hz => .inr (hxF z hz).1) hFx).to hb.size
        obtain ⟨v, w2, hr, hb2, hv⟩ := hf.run w1 (Nat.le_refl _)
        unfold wpOp
        simp only [hf.at_, hf.wanted, if_true]
        refine .inl ?_
        unfold Oper.wp
        rw [hr]
        simp only [Oper.upon]
        refine ⟨hSt _ _ hS hb2, ?_⟩
        refine lean_up hsel hQ hf (getD_both (mem_ready.1 hi).1) (hr3 x List.mem_cons_self) (hSt _ _ hS hb2) hv ?_
        rw [← hk]
        exact yes m w2 v (hb.trans (hb2.mono hb.size)) (hSt _ _ hS hb2) hv fun z hz u hu => (hFF z hz).stay u _ _ (hg z hz u hu) hb2
      · have hc : (F.map (·.i)).contains i = true := by
          simp only [Bool.or_eq_true, beq_iff_eq] at hi2
          exact hi2.resolve_left hij
        obtain ⟨z, hz, rfl⟩ := List.mem_map.1 (List.contains_iff_mem.1 hc)
        have hmn := none_of hi hz
        refine kF_up hp' hsel (fun z hz => (hFF z hz).to hb.size) hz hmn (fun v w2 hb2 hv hfz => ⟨hSt _ _ hS hb2, ?_⟩)
        obtain ⟨e1, e2, e3⟩ := upd_in (v := v) (l := listed) (a := a) hp' hz hmn
        have hn := z.n_pos
        have h9 := ih (fLeft F (upd m z.i v)) (by omega) (upd m z.i v) w2 rfl (hb.trans (hb2.mono hb.size)) (hSt _ _ hS hb2) (good_upd hp' hz hv fun q hq u hu => (hFF q hq).stay u _ _ (hg q hq u hu) hb2)
        rw [e1, e2] at h9
        rw [show f + k + (x.n - 1) = f + (fLeft F (upd m z.i v) + x.n) + (z.n - 1) by omega]
        exact lean_up hsel hQ hfz (getD_both (mem_ready.1 hi).1) (hr3 z (List.mem_cons_of_mem _ hz)) (hSt _ _ hS hb2) hv h9
  have key : ∀ k, ∀ k', k' ≤ k → ∀ m w1, fLeft F m = k' → Below w.heap.size w w1 → S w1 → (∀ z ∈ F, ∀ v, m z.i = some v → z.V v w1) → wpAnyH P .any ops Q S (f + (k' + x.n)) (fMask F m listed) (fAct F m a) w1 := by
    intro k
    induction k with
    | zero => intro k' hk'; exact step k' (fun k'' h => absurd h (by omega))
    | succ k ih => intro k' hk'; exact step k' (fun k'' h => ih k'' (by omega))
  intro m w1 hw hS hg
  have hb := ext_of hw
  have hgF : ∀ z ∈ F, ∀ v, m z.i = some v → z.V v w1 := fun z hz => hg z (List.mem_cons_of_mem _ hz)
  cases hm : m x.i with
  | none =>
    simp only [fMask, fAct, fLeft, hm, Option.isSome_none, Bool.false_eq_true, if_false]
    exact key _ _ (Nat.le_refl _) m w1 rfl hb hS hgF
  | some v =>
    simp only [fMask, fAct, fLeft, hm, Option.isSome_some, if_true]
    exact yes m w1 v hb hS (hg x List.mem_cons_self v hm) hgF

/-- All have come up. -/
theorem kF.done (hr : (Region.ready .any ops listed == []) = true) (h : Q .normal a w) : kF P ops Q S [] f listed a w := by
  intro _ m w1 hw _ _
  have hr : Region.ready .any ops listed = [] := by simpa using hr
  rcases hw with rfl | h'
  · show wpAnyH P .any ops Q S (f + 0) listed a w1
    cases f with
    | zero => exact ⟨hr, h⟩
    | succ f => exact ⟨fun _ => h, fun i hi => by rw [hr] at hi; cases hi⟩
  · exact absurd rfl h'.1
theorem region_krip {id : Nat} {l : List Oper} (S : World → Prop) (hm : P.follows .mixedOrders = true) (hS : S w.drew) (h : kF P l.toArray Q S [] l.length (Array.replicate l.length false) a w.drew) : (Code.region id l.toArray true).wp P Q a w := by
  refine wp_region_held_drew (S := S) hm hS fun _ => ?_
  have := h (fun x hx => absurd hx List.not_mem_nil) (fun _ => none) w.drew (.inl rfl) hS (fun x hx => absurd hx List.not_mem_nil)
  simpa [fMask, fAct, fLeft] using this
end

section
variable {P : Program} {Q : Exit → Act → World → Prop} {S : World → Prop} {F : List Fl} {f : Nat} {l : List Oper} {listed : Array Bool} {a : Act} {w : World}
theorem below_S {B : Nat} {w0 w1 w2 : World} (hB : B ≤ w0.heap.size) (h : Below B w0 w1) (hb : Below w1.heap.size w1 w2) : Below B w0 w2 := h.trans (hb.mono (Nat.le_trans hB h.size))
theorem kF.takeL {i : Nat} {oi : Oper} {v : Value} (hi : l[i]? = some oi) (hB : (Region.noSelect l.toArray && F.all (fun x => x.off l.toArray oi) && (masks F listed).all (fun M => Region.free .any l.toArray M i && (Region.ready .any l.toArray M).contains i)) = true)
    (hQ : ∀ c a w, Q (.panic c) (a.put oi.dst v) w → Q (.panic c) a w) (hy : YieldsIf P l.toArray S oi v a) (h : kF P l.toArray Q S F f (listed.setIfInBounds i true) (a.put oi.dst v) w) : kF P l.toArray Q S F (f + 1) listed a w :=
  kF.take (by simpa using hi) hB hQ hy h
/-- Any two operations part, or one waits for the other: looked at once for the whole region. -/
def allFree (l : List Oper) : Bool := l.zipIdx.all fun x => l.zipIdx.all fun y => x.2 == y.2 || y.1.after.any (fun e => Region.binds .any e && e.on == x.2) || x.1.after.any (fun e => Region.binds .any e && e.on == y.2) || x.1.apart l.toArray y.1
def readyAt (l : List Oper) (listed : Array Bool) (i : Nat) : Bool := !listed.getD i true && match l[i]? with | none => false | some o => o.after.all (fun e => !Region.binds .any e || listed.getD e.on false)
theorem kF.startN (h1 : Region.noSelect l.toArray = true) (h2 : allFree l = true) (h : Region.noSelect l.toArray = true → allFree l = true → kF P l.toArray Q S F f listed a w) : kF P l.toArray Q S F f listed a w := h h1 h2
/-- An operation that only reads is taken: the region's own check stands from the start. -/
theorem kF.takeN {i : Nat} {oi : Oper} {v : Value} (hs : Region.noSelect l.toArray = true) (hfr : allFree l = true) (hi : l[i]? = some oi) (hr : readyAt l listed i = true)
    (hQ : ∀ c a w, Q (.panic c) (a.put oi.dst v) w → Q (.panic c) a w) (hy : YieldsIf P l.toArray S oi v a) (h : kF P l.toArray Q S [] f (listed.setIfInBounds i true) (a.put oi.dst v) w) : kF P l.toArray Q S [] (f + 1) listed a w := by
  intro _ m w1 hw hS _
  have hh := h (fun x hx => absurd hx List.not_mem_nil) m w1 hw hS (fun x hx => absurd hx List.not_mem_nil)
  have hi' : l.toArray[i]? = some oi := by simpa using hi
  unfold readyAt at hr
  rw [hi] at hr
  simp only [Bool.and_eq_true, Bool.not_eq_true', Array.all_eq_true'] at hr
  have hre : i ∈ Region.ready .any l.toArray listed := mem_ready.2 ⟨hr.1, oi, hi', fun e he hb => by
    have := hr.2 e he
    simp only [Bool.or_eq_true, Bool.not_eq_true'] at this
    rcases this with h | h
    · rw [hb] at h; cases h
    · exact h⟩
  refine wpAnyH_first hi' (Region.noSelect_spec hs) hQ (f + 0) listed a w1 (fun j oj hj hne hun hno => ?_) hre hy hS hh
  have hj' : l[j]? = some oj := by simpa using hj
  have hm : ∀ {k : Nat} {o : Oper}, l[k]? = some o → (o, k) ∈ l.zipIdx := fun {k o} h => by
    rw [List.mem_zipIdx_iff_getElem?]
    exact h
  have h3 := List.all_eq_true.1 (List.all_eq_true.1 hfr _ (hm hi)) _ (hm hj')
  simp only [Bool.or_eq_true, beq_iff_eq, Array.any_eq_true', Bool.and_eq_true] at h3
  rcases h3 with ((h3 | ⟨e, he, hb, ho⟩) | ⟨e, he, hb, ho⟩) | h3
  · exact absurd h3.symm hne
  · exact absurd ho (hno e he hb)
  · exfalso
    have h4 := (mem_ready.1 hre).2
    obtain ⟨o, ho', h5⟩ := h4
    rw [hi'] at ho'
    cases ho'
    have h6 := h5 e he hb
    rw [ho, getD_both hun] at h6
    cases h6
  · exact h3
theorem kF.onlyL {j : Nat} {oj : Oper} (hj : l[j]? = some oj) (hB : (Region.noSelect l.toArray && partB l.toArray F && F.all (fun x => x.i != j && x.off l.toArray oj) && (masks F listed).all (fun M => (Region.ready .any l.toArray M).contains j && (Region.ready .any l.toArray M).all (fun i => i == j || (F.map (·.i)).contains i) && F.all (fun x => x.ripe l.toArray M))) = true)
    (hQ : ∀ c (d : Nat) v a w, Q (.panic c) a w ↔ Q (.panic c) (a.put (some d) v) w) (hSt : ∀ w1 w2, S w1 → Below w1.heap.size w1 w2 → S w2)
    (h : ∀ w1, Below w.heap.size w w1 → (F = [] → w1 = w) → S w1 → ∀ K : Act → World → Prop, Shut (∀ a' w', S w' → Keeps F w1 w' → kF P l.toArray Q S F f (listed.setIfInBounds j true) a' w' → K a' w') →
      if Region.wanted oj (yielded l.toArray a.tmps) = true then oj.wp P a w1 K Q else K (a.put oj.dst undef) w1) : kF P l.toArray Q S F (f + 1) listed a w := by
  refine kF.only (oj := oj) (by simpa using hj) hB hQ hSt fun w1 hb he hS => ?_
  have hh := h w1 hb he hS (fun a' w' => S w' ∧ Keeps F w1 w' ∧ kF P l.toArray Q S F f (listed.setIfInBounds j true) a' w') (fun a' w' h1 h2 h3 => ⟨h1, h2, h3⟩)
  unfold wpOp
  simp only [show l.toArray[j]? = some oj by simpa using hj]
  split
  · rename_i hw
    rw [if_pos hw] at hh
    exact .inl hh
  · rename_i hw
    rw [if_neg hw] at hh
    exact hh

theorem kF.lastL {j : Nat} {oj : Oper} (hj : l[j]? = some oj) (hB : (Region.noSelect l.toArray && (Region.ready .any l.toArray listed == [j])) = true)
    (hQ : ∀ c (d : Nat) v a w, Q (.panic c) a w ↔ Q (.panic c) (a.put (some d) v) w) (hSt : ∀ w1 w2, S w1 → Below w1.heap.size w1 w2 → S w2)
    (h : S w → ∀ K : Act → World → Prop, Shut (∀ a' w', S w' → kF P l.toArray Q S [] f (listed.setIfInBounds j true) a' w' → K a' w') →
      if Region.wanted oj (yielded l.toArray a.tmps) = true then oj.wp P a w K Q else K (a.put oj.dst undef) w) : kF P l.toArray Q S [] (f + 1) listed a w := by
  simp only [Bool.and_eq_true, beq_iff_eq] at hB
  refine kF.onlyL (F := []) hj (by simp [hB.1, hB.2, masks, partB]) hQ hSt fun w1 _ he hS K hK => ?_
  obtain rfl := he rfl
  exact h hS K fun a' w' h1 h2 => hK.out a' w' h1 (.inl rfl) h2

/-- What is known of a new block, whose value is val of its number. -/
def newV (val : Nat → Value) (ob : Obj) (B : Nat) (v : Value) (w : World) : Prop := ∃ b, B ≤ b ∧ v = val b ∧ w.heap[b]? = some ob
theorem newV.stay {val : Nat → Value} {ob : Obj} {B : Nat} {v : Value} {w1 w2 : World} (h : newV val ob B v w1) (hb : Below w1.heap.size w1 w2) : newV val ob B v w2 := by
  obtain ⟨b, h1, h2, h3⟩ := h
  exact ⟨b, h1, h2, (hb.block b (Array.getElem?_eq_some_iff.1 h3).1).trans h3⟩
theorem newV.grown {val : Nat → Value} {cs : Array Value} {T T' : TypeId} {fz fz' : Nat × Nat} {cs' : Array Value} {B g : Nat} {v : Value} {w1 w2 : World} (h : newV val (.cells cs T fz) B v w1) (hg : w1.grownBy w2 (some g)) (hr : w1.heap[g]? = some (.cells cs' T' fz')) (hT : T ≠ T') : newV val (.cells cs T fz) B v w2 := by
  obtain ⟨b, h1, h2, h3⟩ := h
  refine ⟨b, h1, h2, (hg.block b (Array.getElem?_eq_some_iff.1 h3).1 (fun e => ?_)).trans h3⟩
  injection e with e
  rw [e, hr] at h3
  simp at h3
  exact hT h3.2.1.symm
theorem kF.newL {i : Nat} {oi : Oper} (val : Nat → Value) (ob : Obj) (hi : l[i]? = some oi) (hF : (F.map (·.i)).contains i = false) (hw : Region.wanted oi (yielded l.toArray a.tmps) = true)
    (hr : ∀ w1 : World, (execOp a.eval oi).run P w1 = .ok (.value (val w1.heap.size)) (w1.alloc ob)) (h : kF P l.toArray Q S (⟨i, oi, newV val ob w.heap.size, none⟩ :: F) f listed a w) : kF P l.toArray Q S F (f + 1) listed a w :=
  kF.float (x := ⟨i, oi, newV val ob w.heap.size, none⟩) hF ⟨by simpa using hi, hw, fun w1 hb => ⟨_, _, hr w1, (Below.refl _ _).alloc (Nat.le_refl _) _, ⟨w1.heap.size, hb, rfl, heap_alloc_new w1 ob⟩⟩, fun v w1 w2 h hb => h.stay hb, fun t ht => by cases ht⟩ h
/-- A new block on which a pure operation leans. -/
theorem kF.newT {i : Nat} {oi : Oper} (val : Nat → Value) (ob : Obj) (k : Nat) (g : Value → Value) {ok : Oper} (hi : l[i]? = some oi) (hk : l[k]? = some ok) (hF : (F.map (·.i)).contains i = false) (hw : Region.wanted oi (yielded l.toArray a.tmps) = true)
    (hr : ∀ w1 : World, (execOp a.eval oi).run P w1 = .ok (.value (val w1.heap.size)) (w1.alloc ob)) (hy : ∀ b, Yields P l.toArray ok (g (val b)) (a.put oi.dst (val b))) (h : kF P l.toArray Q S (⟨i, oi, newV val ob w.heap.size, some ⟨k, ok, g⟩⟩ :: F) f listed a w) : kF P l.toArray Q S F (f + 2) listed a w :=
  kF.float (x := ⟨i, oi, newV val ob w.heap.size, some ⟨k, ok, g⟩⟩) hF ⟨by simpa using hi, hw, fun w1 hb => ⟨_, _, hr w1, (Below.refl _ _).alloc (Nat.le_refl _) _, ⟨w1.heap.size, hb, rfl, heap_alloc_new w1 ob⟩⟩, fun v w1 w2 h hb => h.stay hb, fun t ht => by cases ht; exact ⟨by simpa using hk, fun v w2 hv => by obtain ⟨b, _, rfl, _⟩ := hv; exact hy b⟩⟩ h
theorem kF.settleL {i : Nat} {oi : Oper} {V : Value → World → Prop} (hB : (Region.noSelect l.toArray && partB l.toArray (⟨i, oi, V, none⟩ :: F) && (masks F listed).all (fun M => (Region.ready .any l.toArray M).contains i && (Region.ready .any l.toArray M).all (fun j => j == i || (F.map (·.i)).contains j) && ((⟨i, oi, V, none⟩ : Fl) :: F).all (fun z => z.ripe l.toArray M))) = true)
    (hQ : ∀ c (d : Nat) v a w, Q (.panic c) a w ↔ Q (.panic c) (a.put (some d) v) w) (hSt : ∀ w1 w2, S w1 → Below w1.heap.size w1 w2 → S w2)
    (h : ∀ w1, Below w.heap.size w w1 → S w1 → ∀ v, V v w1 → kF P l.toArray Q S F f (listed.setIfInBounds i true) (a.put oi.dst v) w1) : kF P l.toArray Q S (⟨i, oi, V, none⟩ :: F) f listed a w :=
  kF.settle (x := ⟨i, oi, V, none⟩) hB hQ hSt h
theorem kF.settleT {i : Nat} {oi : Oper} {V : Value → World → Prop} {t : Tr} (hB : (Region.noSelect l.toArray && partB l.toArray (⟨i, oi, V, some t⟩ :: F) && (masks F listed).all (fun M => (Region.ready .any l.toArray M).contains i && (Region.ready .any l.toArray M).all (fun j => j == i || (F.map (·.i)).contains j) && ((⟨i, oi, V, some t⟩ : Fl) :: F).all (fun z => z.ripe l.toArray M))) = true)
    (hQ : ∀ c (d : Nat) v a w, Q (.panic c) a w ↔ Q (.panic c) (a.put (some d) v) w) (hSt : ∀ w1 w2, S w1 → Below w1.heap.size w1 w2 → S w2)
    (h : ∀ w1, Below w.heap.size w w1 → S w1 → ∀ v, V v w1 → kF P l.toArray Q S F f ((listed.setIfInBounds i true).setIfInBounds t.i true) ((a.put oi.dst v).put t.o.dst (t.g v)) w1) : kF P l.toArray Q S (⟨i, oi, V, some t⟩ :: F) f listed a w :=
  kF.settle (x := ⟨i, oi, V, some t⟩) hB hQ hSt h
end

section
variable {α β : Type} {k k' : Nat} {enc : α → List Value} {enc' : β → List Value} {T T' : TypeId} {w w' : World} {base base' : Nat} {v u : Value} {l : List α} {l' : List β}
theorem Owns.at_type (h : Owns k enc T w base v l) {i : Nat} (hi : v.ownBlock = some i) : ∃ cs fz, w.heap[i]? = some (.cells cs T fz) := by
  rcases h.2 with ⟨e, _⟩ | ⟨g, cap, cur, e, _, hh, _⟩
  · rw [e] at hi
    cases hi
  · rw [e] at hi
    cases hi
    exact ⟨_, _, hh⟩
theorem Owns.grownT (h : Owns k enc T w base v l) (ho : Owns k' enc' T' w base' u l') (hg : w.grownBy w' u.ownBlock) (hT : T ≠ T') : Owns k enc T w' base v l := by
  refine h.grown hg ?_
  cases hv : v.ownBlock with
  | none => exact .inl rfl
  | some i =>
    refine .inr fun e => ?_
    obtain ⟨cs, fz, h1⟩ := h.at_type hv
    obtain ⟨cs', fz', h2⟩ := ho.at_type e.symm
    rw [h1] at h2
    simp at h2
    exact hT h2.2.1
theorem newV.grownOwn {val : Nat → Value} {cs : Array Value} {fz : Nat × Nat} {B : Nat} (h : newV val (.cells cs T fz) B v w) (ho : Owns k' enc' T' w base' u l') (hg : w.grownBy w' u.ownBlock) (hT : T ≠ T') : newV val (.cells cs T fz) B v w' := by
  obtain ⟨b, h1, h2, h3⟩ := h
  refine ⟨b, h1, h2, (hg.block b (Array.getElem?_eq_some_iff.1 h3).1 (fun e => ?_)).trans h3⟩
  obtain ⟨cs', fz', h4⟩ := ho.at_type e.symm
  rw [h3] at h4
  simp at h4
  exact hT h4.2.1
theorem own_empty {b : Nat} (h : w.heap[b]? = some (.cells #[] T)) (hb : base ≤ b) : Owns k enc T w base (.slice (some ⟨b, 0, none⟩) 0 0) [] :=
  ⟨by simp, .inr ⟨b, 0, #[], rfl, hb, h, Nat.le_refl _, by simp [maxLen], by simp, by simp⟩⟩
end
end Go.Proofs.YtdhlmhkabckbaaaGreatDoor
