/-
  A drawn region of calls that only make memory, beside allocations that may come at any time: the allocations float, and one way through the region serves.
-/
import Derived.Test.YtbfephekkfieaaaBase
import Derived.Deep.RegionHeld
import Derived.StillTail
import Derived.Test.YtbfephekkfieaaaElem
namespace Go.Proofs.Ytbfephekkfieaaa
open Go Go.RowKit

section
variable {P : Program} {ops : Array Oper} {Q : Exit → Act → World → Prop} {S : World → Prop}

theorem wpOp_fwd {j : Nat} {d : Option Nat} {oj : Oper} {v : Value} (hj : ops[j]? = some oj) (h1 : ∀ x, d = some x → x ∉ oj.looksAt ops) (h2 : ∀ x, d = some x → oj.dst ≠ some x) (hsj : ∀ cs b, oj.op ≠ .select cs b)
    (hQ : ∀ c a w, Q (.panic c) a w → Q (.panic c) (a.put d v) w) {K : Act → World → Prop} {a : Act} {w : World} (h : wpOp P ops Q j K a w) :
    wpOp P ops Q j (fun a' w' => ∃ a0, a' = a0.put d v ∧ K a0 w') (a.put d v) w := by
  unfold wpOp at *
  simp only [hj] at *
  rw [wanted_put oj a d v h1]
  split
  · rename_i hw
    simp only [hw, if_true] at h
    rcases h with h | ⟨hasks, hlets⟩
    case inr => exact .inr ⟨by unfold Oper.asks at *; rw [execOp_put oj hsj a d v h1]; exact hasks, hlets⟩
    refine .inl ?_
    unfold Oper.wp at *
    rw [execOp_put oj hsj a d v h1]
    generalize (execOp a.eval oj).run P w = r at *
    cases r with
    | ok n w' =>
      cases n <;> simp only [Oper.upon] at h ⊢
      case value u => exact ⟨a.put oj.dst u, Act.put_comm a v u h2, h⟩
      case skip => exact ⟨a.put oj.dst undef, Act.put_comm a v undef h2, h⟩
      case defer x =>
        refine ⟨({ a with defers := x :: a.defers } : Act).put oj.dst undef, ?_, h⟩
        rw [Act.put_defers]
        exact Act.put_comm _ v undef h2
      case enter f args =>
        refine Calls.mono h fun e w'' he => ?_
        cases e with
        | returned u => exact ⟨a.put oj.dst u, Act.put_comm a v u h2, he⟩
        | panicked c => exact hQ _ _ _ he
        | outgrown => exact he
      case row row args => exact Rows.mono h fun u w'' he => ⟨a.put oj.dst u, Act.put_comm a v u h2, he⟩
    | halt x w' =>
      cases x <;> simp only [Oper.upon] at h ⊢
      case panic u => exact hQ _ _ _ h
      all_goals exact h
  · rename_i hw
    simp only [hw] at h
    exact ⟨a.put oj.dst undef, Act.put_comm a v undef h2, h⟩

theorem wpOp_inv {I : Act → Prop} {j : Nat} {oj : Oper} (hj : ops[j]? = some oj) {K : Act → World → Prop} {a : Act} {w : World} (hI : ∀ u, I (a.put oj.dst u)) (hId : ∀ x, I (({ a with defers := x :: a.defers } : Act).put oj.dst undef))
    (h : wpOp P ops Q j K a w) : wpOp P ops Q j (fun a' w' => I a' ∧ K a' w') a w := by
  unfold wpOp at *
  simp only [hj] at *
  split
  · rename_i hw
    simp only [hw, if_true] at h
    rcases h with h | h
    case inr => exact .inr h
    refine .inl ?_
    unfold Oper.wp at *
    generalize (execOp a.eval oj).run P w = r at *
    cases r with
    | ok n w' =>
      cases n <;> simp only [Oper.upon] at h ⊢
      case value u => exact ⟨hI u, h⟩
      case skip => exact ⟨hI _, h⟩
      case defer x => exact ⟨hId x, h⟩
      case enter f args =>
        refine Calls.mono h fun e w'' he => ?_
        cases e with
        | returned u => exact ⟨hI u, he⟩
        | panicked c => exact he
        | outgrown => exact he
      case row row args => exact Rows.mono h fun u w'' he => ⟨hI u, he⟩
    | halt x w' =>
      cases x <;> simp only [Oper.upon] at h ⊢
      all_goals exact h
  · rename_i hw
    simp only [hw] at h
    exact ⟨hI _, h⟩

/-- An operation that floats: its number, itself, what is known of its value once it has come up. -/
structure Fl where
  i : Nat
  o : Oper
  V : Value → World → Prop

structure FloatK (P : Program) (ops : Array Oper) (w : World) (x : Fl) (a : Act) : Prop where
  at_ : ops[x.i]? = some x.o
  wanted : Region.wanted x.o (yielded ops a.tmps) = true
  run : ∀ w1 : World, w.heap.size ≤ w1.heap.size → ∃ v w2, (execOp a.eval x.o).run P w1 = .ok (.value v) w2 ∧ Below w1.heap.size w1 w2 ∧ x.V v w2
  stay : ∀ v w1 w2, x.V v w1 → Below w1.heap.size w1 w2 → x.V v w2
theorem FloatK.same {w : World} {x : Fl} {a a' : Act} (h : FloatK P ops w x a) (he : execOp a'.eval x.o = execOp a.eval x.o) (hw : Region.wanted x.o (yielded ops a'.tmps) = Region.wanted x.o (yielded ops a.tmps)) : FloatK P ops w x a' :=
  ⟨h.at_, by rw [hw]; exact h.wanted, by rw [he]; exact h.run, h.stay⟩
theorem FloatK.put {w : World} {x : Fl} {a : Act} (h : FloatK P ops w x a) (hs : ∀ cs b, x.o.op ≠ .select cs b) {d : Option Nat} (hd : ∀ y, d = some y → y ∉ x.o.looksAt ops) (v : Value) : FloatK P ops w x (a.put d v) :=
  h.same (execOp_put x.o hs a d v hd) (wanted_put x.o a d v hd)
theorem FloatK.to {w w1 : World} {x : Fl} {a : Act} (h : FloatK P ops w x a) (hb : w.heap.size ≤ w1.heap.size) : FloatK P ops w1 x a :=
  ⟨h.at_, h.wanted, fun w2 h2 => h.run w2 (Nat.le_trans hb h2), h.stay⟩

def fMask : List Fl → (Nat → Option Value) → Array Bool → Array Bool
  | [], _, l => l
  | x :: F, m, l => if (m x.i).isSome then (fMask F m l).setIfInBounds x.i true else fMask F m l
def fAct : List Fl → (Nat → Option Value) → Act → Act
  | [], _, a => a
  | x :: F, m, a => match m x.i with | none => fAct F m a | some v => (fAct F m a).put x.o.dst v
def fLeft : List Fl → (Nat → Option Value) → Nat
  | [], _ => 0
  | x :: F, m => if (m x.i).isSome then fLeft F m else fLeft F m + 1
def masks : List Fl → Array Bool → List (Array Bool)
  | [], l => [l]
  | x :: F, l => masks F l ++ (masks F l).map (·.setIfInBounds x.i true)
theorem fMask_mem (m : Nat → Option Value) (l : Array Bool) : ∀ F : List Fl, fMask F m l ∈ masks F l
  | [] => by simp [fMask, masks]
  | x :: F => by
    have ih := fMask_mem m l F
    simp only [fMask, masks, List.mem_append, List.mem_map]
    split
    · exact .inr ⟨_, ih, rfl⟩
    · exact .inl ih
theorem fMask_set (m : Nat → Option Value) (l : Array Bool) (j : Nat) : ∀ F : List Fl, fMask F m (l.setIfInBounds j true) = (fMask F m l).setIfInBounds j true
  | [] => rfl
  | x :: F => by
    simp only [fMask]
    rw [fMask_set m l j F]
    split
    · by_cases h : x.i = j
      · rw [h]
      · rw [Array.setIfInBounds_comm _ _ h]
    · rfl
theorem fMask_some {m : Nat → Option Value} {l : Array Bool} {x : Fl} : ∀ {F : List Fl}, x ∈ F → (m x.i).isSome = true → ∀ y : Nat, y = x.i → (fMask F m l).getD y false = true ∨ l.size ≤ y
  | [], h, _, _, _ => absurd h List.not_mem_nil
  | z :: F, h, hm, y, hy => by
    have hsz : ∀ F : List Fl, (fMask F m l).size = l.size := by
      intro F
      induction F with
      | nil => rfl
      | cons q F ih => simp only [fMask]; split <;> simp [ih]
    simp only [fMask]
    rcases List.mem_cons.1 h with rfl | h
    · rw [if_pos hm, hy]
      rcases Nat.lt_or_ge x.i l.size with h' | h'
      · left; simp [hsz, h']
      · right; exact h'
    · rcases fMask_some h hm y hy with h1 | h1
      · left
        split
        · exact getD_set_true h1
        · exact h1
      · exact .inr h1

/-- The floats part from one another: numbers and temporaries. -/
def partB (ops : Array Oper) : List Fl → Bool
  | [] => true
  | x :: F => F.all (fun y => x.i != y.i && x.o.apart ops y.o && y.o.apart ops x.o) && partB ops F
theorem fAct_put {d : Option Nat} {v : Value} (m : Nat → Option Value) (a : Act) : ∀ {F : List Fl}, (∀ x ∈ F, ∀ y, d = some y → x.o.dst ≠ some y) → fAct F m (a.put d v) = (fAct F m a).put d v
  | [], _ => rfl
  | x :: F, h => by
    have ih := fAct_put (v := v) m a (F := F) (fun z hz => h z (List.mem_cons_of_mem _ hz))
    simp only [fAct]
    split
    · exact ih
    · rw [ih]
      exact Act.put_comm _ _ _ (h x List.mem_cons_self)
def upd (m : Nat → Option Value) (i : Nat) (v : Value) : Nat → Option Value := fun j => if j = i then some v else m j
theorem upd_self (m : Nat → Option Value) (i : Nat) (v : Value) : upd m i v i = some v := by simp [upd]
theorem upd_other {m : Nat → Option Value} {i j : Nat} (v : Value) (h : j ≠ i) : upd m i v j = m j := by simp [upd, h]
theorem upd_out {m : Nat → Option Value} {i : Nat} {v : Value} {l : Array Bool} {a : Act} : ∀ {F : List Fl}, (∀ x ∈ F, x.i ≠ i) → fMask F (upd m i v) l = fMask F m l ∧ fAct F (upd m i v) a = fAct F m a ∧ fLeft F (upd m i v) = fLeft F m
  | [], _ => ⟨rfl, rfl, rfl⟩
  | x :: F, h => by
    obtain ⟨h1, h2, h3⟩ := upd_out (m := m) (i := i) (v := v) (l := l) (a := a) (F := F) (fun z hz => h z (List.mem_cons_of_mem _ hz))
    simp only [fMask, fAct, fLeft, upd_other v (h x List.mem_cons_self), h1, h2, h3]
    exact ⟨trivial, trivial, trivial⟩
theorem upd_in {m : Nat → Option Value} {v : Value} {l : Array Bool} {a : Act} {x : Fl} : ∀ {F : List Fl}, partB ops F = true → x ∈ F → m x.i = none → fMask F (upd m x.i v) l = (fMask F m l).setIfInBounds x.i true ∧ fAct F (upd m x.i v) a = (fAct F m a).put x.o.dst v ∧ fLeft F m = fLeft F (upd m x.i v) + 1
  | [], _, h, _ => absurd h List.not_mem_nil
  | z :: F, hp, h, hm => by
    simp only [partB, Bool.and_eq_true, List.all_eq_true, bne_iff_ne] at hp
    rcases List.mem_cons.1 h with rfl | h
    · obtain ⟨h1, h2, h3⟩ := upd_out (m := m) (i := x.i) (v := v) (l := l) (a := a) (F := F) (fun q hq e => (hp.1 q hq).1.1 e.symm)
      simp only [fMask, fAct, fLeft, upd_self, hm, h1, h2, h3]
      exact ⟨by simp, trivial, by simp⟩
    · obtain ⟨h1, h2, h3⟩ := upd_in (v := v) (l := l) (a := a) hp.2 h hm
      have hne := (hp.1 x h).1
      have hu := upd_other (m := m) v hne.1
      simp only [fMask, fAct, fLeft, hu, h1, h2, h3]
      refine ⟨?_, ?_, ?_⟩
      · split
        · rw [Array.setIfInBounds_comm _ _ (Ne.symm hne.1)]
        · rfl
      · cases m z.i with
        | none => rfl
        | some u => exact (Act.put_comm _ _ _ (fun y hy => (Oper.apart_spec hne.2).2.1 y hy)).symm
      · split <;> omega

/-- What is left to do, whichever of the floats have come up. -/
def kF (P : Program) (ops : Array Oper) (Q : Exit → Act → World → Prop) (S : World → Prop) (F : List Fl) (f : Nat) (listed : Array Bool) (a : Act) (w : World) : Prop :=
  (∀ x ∈ F, FloatK P ops w x a) → ∀ m w1, (w1 = w ∨ (F ≠ [] ∧ Below w.heap.size w w1)) → S w1 → (∀ x ∈ F, ∀ v, m x.i = some v → x.V v w1) →
    wpAnyH P .any ops Q S (f + fLeft F m) (fMask F m listed) (fAct F m a) w1

theorem ext_of {F : List Fl} {w w1 : World} (h : w1 = w ∨ (F ≠ [] ∧ Below w.heap.size w w1)) : Below w.heap.size w w1 := by
  rcases h with rfl | h
  · exact Below.refl _ _
  · exact h.2

variable {F : List Fl} {f : Nat} {listed : Array Bool} {a : Act} {w : World}

/-- One more float. -/
theorem kF.float {x : Fl} (hi : (F.map (·.i)).contains x.i = false) (hx : FloatK P ops w x a) (h : kF P ops Q S (x :: F) f listed a w) : kF P ops Q S F (f + 1) listed a w := by
  intro hF m w1 hw hS hg
  have hne : ∀ z ∈ F, z.i ≠ x.i := fun z hz e => by
    have : (F.map (·.i)).contains x.i = true := List.contains_iff_mem.2 (List.mem_map.2 ⟨z, hz, e⟩)
    rw [this] at hi
    cases hi
  have key : ∀ (F : List Fl), (∀ z ∈ F, z.i ≠ x.i) → fMask F (fun j => if j = x.i then none else m j) listed = fMask F m listed ∧ fAct F (fun j => if j = x.i then none else m j) a = fAct F m a ∧ fLeft F (fun j => if j = x.i then none else m j) = fLeft F m := by
    intro F
    induction F with
    | nil => intro _; exact ⟨rfl, rfl, rfl⟩
    | cons z F ih =>
      intro hz
      obtain ⟨h1, h2, h3⟩ := ih fun q hq => hz q (List.mem_cons_of_mem _ hq)
      have hzx : (if z.i = x.i then none else m z.i) = m z.i := if_neg (hz z List.mem_cons_self)
      simp only [fMask, fAct, fLeft, hzx, h1, h2, h3]
      exact ⟨trivial, trivial, trivial⟩
  obtain ⟨k1, k2, k3⟩ := key F hne
  have := h (fun z hz => by rcases List.mem_cons.1 hz with rfl | hz; exact hx; exact hF z hz) (fun j => if j = x.i then none else m j) w1 (hw.imp id fun q => ⟨by simp, q.2⟩) hS (fun z hz v hv => by
    rcases List.mem_cons.1 hz with rfl | hz
    · simp at hv
    · rw [if_neg (hne z hz)] at hv
      exact hg z hz v hv)
  simp only [fMask, fAct, fLeft, k1, k2, k3] at this
  simp at this
  rw [show f + 1 + fLeft F m = f + (fLeft F m + 1) by omega]
  exact this

/-- An operation that yields its value in every world that meets S is taken. -/
theorem kF.take {j : Nat} {oj : Oper} {v : Value} (hj : ops[j]? = some oj) (hB : (Region.noSelect ops && (F.map (·.i)).contains j == false && F.all (fun x => x.o.apart ops oj) && (masks F listed).all (fun M => Region.free .any ops M j && (Region.ready .any ops M).contains j)) = true)
    (hQ : ∀ c a w, Q (.panic c) (a.put oj.dst v) w → Q (.panic c) a w) (hy : YieldsIf P ops S oj v a) (h : kF P ops Q S F f (listed.setIfInBounds j true) (a.put oj.dst v) w) : kF P ops Q S F (f + 1) listed a w := by
  intro hF m w1 hw hS hg
  simp only [Bool.and_eq_true, List.all_eq_true, beq_iff_eq] at hB
  obtain ⟨⟨⟨h1, h2⟩, h3⟩, h4⟩ := hB
  have hsel := Region.noSelect_spec h1
  obtain ⟨h5, h6⟩ := h4 _ (fMask_mem m listed F)
  have hsF : ∀ x ∈ F, FloatK P ops w x (a.put oj.dst v) := fun x hx => by
    have ha := Oper.apart_spec (h3 x hx)
    exact (hF x hx).put (fun cs b => hsel _ _ cs b (hF x hx).at_) ha.2.2 v
  have hh := h hsF m w1 hw hS hg
  rw [fMask_set, fAct_put m a (fun x hx y hy' => fun e => (Oper.apart_spec (h3 x hx)).2.1 y e hy')] at hh
  have hy' : YieldsIf P ops S oj v (fAct F m a) := by
    have : ∀ F : List Fl, (∀ x ∈ F, x.o.apart ops oj = true) → YieldsIf P ops S oj v (fAct F m a) := by
      intro F
      induction F with
      | nil => intro _; exact hy
      | cons z F ih =>
        intro hz
        have ih' := ih fun q hq => hz q (List.mem_cons_of_mem _ hq)
        have ha := Oper.apart_spec (hz z List.mem_cons_self)
        simp only [fAct]
        split
        · exact ih'
        · exact ih'.of_same (execOp_put oj (fun cs b => hsel j oj cs b hj) _ _ _ ha.1) (wanted_put oj _ _ _ ha.1)
    exact this F h3
  rw [show f + 1 + fLeft F m = (f + fLeft F m) + 1 by omega]
  exact wpAnyH_first hj hsel hQ _ _ _ _ (Region.free_spec hj h5) (by simpa using h6) hy' hS hh

theorem part_of {x z : Fl} : ∀ {G : List Fl}, partB ops G = true → z ∈ G → x ∈ G → z = x ∨ z.o.apart ops x.o = true
  | [], _, h, _ => absurd h List.not_mem_nil
  | q :: G, hq, hz, hx => by
    simp only [partB, Bool.and_eq_true, List.all_eq_true, bne_iff_ne] at hq
    rcases List.mem_cons.1 hz with e1 | hz
    · rcases List.mem_cons.1 hx with e2 | hx
      · exact .inl (e1.trans e2.symm)
      · exact .inr (by rw [e1]; exact (hq.1 x hx).1.2)
    · rcases List.mem_cons.1 hx with e2 | hx
      · exact .inr (by rw [e2]; exact (hq.1 z hz).2)
      · exact part_of hq.2 hz hx
theorem part_ne {x z : Fl} : ∀ {G : List Fl}, partB ops G = true → z ∈ G → x ∈ G → z.i = x.i → z = x
  | [], _, h, _, _ => absurd h List.not_mem_nil
  | q :: G, hq, hz, hx, e => by
    simp only [partB, Bool.and_eq_true, List.all_eq_true, bne_iff_ne] at hq
    rcases List.mem_cons.1 hz with e1 | hz
    · rcases List.mem_cons.1 hx with e2 | hx
      · exact e1.trans e2.symm
      · exact absurd (by rw [← e1]; exact e) (hq.1 x hx).1.1
    · rcases List.mem_cons.1 hx with e2 | hx
      · exact absurd (by rw [← e2]; exact e.symm) (hq.1 z hz).1.1
      · exact part_ne hq.2 hz hx e

/-- A float comes up. -/
theorem kF_up {m : Nat → Option Value} {w1 : World} {x : Fl} (hp : partB ops F = true) (hsel : ∀ (j : Nat) (o : Oper) cs b, ops[j]? = some o → o.op ≠ .select cs b) (hF : ∀ x ∈ F, FloatK P ops w1 x a) (hx : x ∈ F) (hm : m x.i = none)
    {K : Act → World → Prop} (h : ∀ v w2, Below w1.heap.size w1 w2 → x.V v w2 → fAct F (upd m x.i v) a = (fAct F m a).put x.o.dst v → K ((fAct F m a).put x.o.dst v) w2) : wpOp P ops Q x.i K (fAct F m a) w1 := by
  have hf : FloatK P ops w1 x (fAct F m a) := by
    have : ∀ (G : List Fl), (∀ z ∈ G, m z.i = none ∨ z.o.apart ops x.o = true) → FloatK P ops w1 x (fAct G m a) := by
      intro G
      induction G with
      | nil => intro _; exact hF x hx
      | cons z G ih =>
        intro hz
        have ih' := ih fun q hq => hz q (List.mem_cons_of_mem _ hq)
        simp only [fAct]
        rcases hz z List.mem_cons_self with h0 | h0
        · rw [h0]; exact ih'
        · cases m z.i with
          | none => exact ih'
          | some u => exact ih'.put (fun cs b => hsel _ _ cs b ih'.at_) (Oper.apart_spec h0).1 u
    refine this F fun z hz => ?_
    rcases part_of hp hz hx with e | e
    · exact .inl (by rw [e]; exact hm)
    · exact .inr e
  obtain ⟨v, w2, hr, hb, hv⟩ := hf.run w1 (Nat.le_refl _)
  unfold wpOp
  simp only [hf.at_, hf.wanted, if_true]
  refine .inl ?_
  unfold Oper.wp
  rw [hr]
  simp only [Oper.upon]
  exact h v w2 hb hv (upd_in (l := #[]) hp hx hm).2.1

theorem fl_act {m : Nat → Option Value} {x : Fl} {w : World} (hsel : ∀ (j : Nat) (o : Oper) cs b, ops[j]? = some o → o.op ≠ .select cs b) : ∀ (G : List Fl), (∀ z ∈ G, z.o.apart ops x.o = true) → FloatK P ops w x a → FloatK P ops w x (fAct G m a)
  | [], _, h => h
  | z :: G, hz, h => by
    have ih := fl_act (m := m) hsel G (fun q hq => hz q (List.mem_cons_of_mem _ hq)) h
    simp only [fAct]
    cases m z.i with
    | none => exact ih
    | some u => exact ih.put (fun cs b => hsel _ _ cs b ih.at_) (Oper.apart_spec (hz z List.mem_cons_self)).1 u
theorem none_of {m : Nat → Option Value} {x : Fl} (hi : x.i ∈ Region.ready .any ops (fMask F m listed)) (hx : x ∈ F) : m x.i = none := by
  have h0 := (mem_ready.1 hi).1
  cases hm : m x.i with
  | none => rfl
  | some v =>
    exfalso
    have hsz : ∀ F : List Fl, (fMask F m listed).size = listed.size := by
      intro F
      induction F with
      | nil => rfl
      | cons q F ih => simp only [fMask]; split <;> simp [ih]
    rcases fMask_some (m := m) (l := listed) hx (by rw [hm]; rfl) x.i rfl with h1 | h1
    · rw [getD_both h0] at h1
      cases h1
    · rw [← hsz F] at h1
      simp [Array.getElem?_eq_none h1] at h0
theorem good_upd {m : Nat → Option Value} {x : Fl} {v : Value} {w2 : World} (hp : partB ops F = true) (hx : x ∈ F) (hv : x.V v w2) (hg : ∀ z ∈ F, ∀ u, m z.i = some u → z.V u w2) : ∀ z ∈ F, ∀ u, upd m x.i v z.i = some u → z.V u w2 := by
  intro z hz u hu
  by_cases e : z.i = x.i
  · obtain rfl := part_ne hp hz hx e
    rw [upd_self] at hu
    cases hu
    exact hv
  · rw [upd_other v e] at hu
    exact hg z hz u hu

/-- What a step does to the floats that have come up. -/
def Keeps (F : List Fl) (w w' : World) : Prop := F = [] ∨ Below w.heap.size w w' ∨ (w.heap.size ≤ w'.heap.size ∧ ∀ x ∈ F, ∀ v, x.V v w → x.V v w')

/-- Of what may come up only one operation is no float: it is carried out, in whatever world lies above. -/
theorem kF.only {j : Nat} {oj : Oper} (hj : ops[j]? = some oj) (hB : (Region.noSelect ops && partB ops F && F.all (fun x => x.i != j && x.o.apart ops oj) && (masks F listed).all (fun M => (Region.ready .any ops M).contains j && (Region.ready .any ops M).all fun i => i == j || (F.map (·.i)).contains i)) = true)
    (hQ : ∀ c (d : Nat) v a w, Q (.panic c) a w → Q (.panic c) (a.put (some d) v) w) (hSt : ∀ w1 w2, S w1 → Below w1.heap.size w1 w2 → S w2)
    (h : ∀ w1, Below w.heap.size w w1 → (F = [] → w1 = w) → S w1 → wpOp P ops Q j (fun a' w' => S w' ∧ Keeps F w1 w' ∧ kF P ops Q S F f (listed.setIfInBounds j true) a' w') a w1) : kF P ops Q S F (f + 1) listed a w := by
  intro hF
  simp only [Bool.and_eq_true, List.all_eq_true, bne_iff_ne] at hB
  obtain ⟨⟨⟨h1, hp⟩, h3⟩, h4⟩ := hB
  have hsel := Region.noSelect_spec h1
  have step : ∀ k, (∀ k', k = k' + 1 → ∀ m w1, fLeft F m = k' → Below w.heap.size w w1 → (F = [] → w1 = w) → S w1 → (∀ x ∈ F, ∀ v, m x.i = some v → x.V v w1) → wpAnyH P .any ops Q S (f + 1 + k') (fMask F m listed) (fAct F m a) w1) →
      ∀ m w1, fLeft F m = k → Below w.heap.size w w1 → (F = [] → w1 = w) → S w1 → (∀ x ∈ F, ∀ v, m x.i = some v → x.V v w1) → wpAnyH P .any ops Q S (f + 1 + k) (fMask F m listed) (fAct F m a) w1 := by
    intro k ih m w1 hk hb he hS hg
    rw [show f + 1 + k = (f + k) + 1 by omega]
    obtain ⟨hr1, hr2⟩ := h4 _ (fMask_mem m listed F)
    refine ⟨fun h0 => ?_, fun i hi => ?_⟩
    · rw [h0] at hr1
      simp at hr1
    · have hi2 := hr2 i hi
      by_cases hij : i = j
      · subst hij
        have h6 := wpOp_inv (I := fun a' => ∀ x ∈ F, FloatK P ops w1 x a') hj (fun u x hx => ((hF x hx).to hb.size).put (fun cs b => hsel _ _ cs b (hF x hx).at_) (Oper.apart_spec (h3 x hx).2).2.2 u)
          (fun d x hx => FloatK.put (a := { a with defers := d :: a.defers }) (FloatK.same (a' := { a with defers := d :: a.defers }) ((hF x hx).to hb.size) rfl rfl) (fun cs b => hsel _ _ cs b (hF x hx).at_) (Oper.apart_spec (h3 x hx).2).2.2 _) (h w1 hb he hS)
        have h7 : ∀ (G : List Fl), (∀ x ∈ G, x.o.apart ops oj = true) → ∀ {K : Act → World → Prop}, wpOp P ops Q i K a w1 → wpOp P ops Q i (fun a' w' => ∃ a0, a' = fAct G m a0 ∧ K a0 w') (fAct G m a) w1 := by
          intro G
          induction G with
          | nil => intro _ K hK; exact wpOp_mono (fun a' w' h => ⟨a', rfl, h⟩) hK
          | cons z G ihG =>
            intro hz K hK
            have ihG' := ihG (fun q hq => hz q (List.mem_cons_of_mem _ hq)) hK
            have ha := Oper.apart_spec (hz z List.mem_cons_self)
            simp only [fAct]
            cases m z.i with
            | none => exact ihG'
            | some u =>
              refine wpOp_mono (fun a' w' h => ?_) (wpOp_fwd hj ha.1 ha.2.1 (fun cs b => hsel i oj cs b hj) (fun c a w hq => by
                cases z.o.dst with
                | none => exact hq
                | some d => exact hQ c d _ a w hq) ihG')
              obtain ⟨a1, e1, a0, e0, hK0⟩ := h
              exact ⟨a0, by rw [e1, e0], hK0⟩
        refine wpOp_mono (fun a' w' h8 => ?_) (h7 F (fun x hx => (h3 x hx).2) h6)
        obtain ⟨a0, e, hI, hS', hbw, hk'⟩ := h8
        subst e
        refine ⟨hS', ?_⟩
        have h9 := hk' (fun x hx => by
          rcases hbw with e | hbw | hbw
          · subst e; cases hx
          · exact (hI x hx).to hbw.size
          · exact (hI x hx).to hbw.1) m w' (.inl rfl) hS' (fun x hx v hv => by
          rcases hbw with e | hbw | hbw
          · subst e; cases hx
          · exact (hI x hx).stay v _ _ (hg x hx v hv) hbw
          · exact hbw.2 x hx v (hg x hx v hv))
        rw [fMask_set, hk] at h9
        exact h9
      · have hc : (F.map (·.i)).contains i = true := by
          simp only [Bool.or_eq_true, beq_iff_eq] at hi2
          exact hi2.resolve_left hij
        obtain ⟨x, hx, rfl⟩ := List.mem_map.1 (List.contains_iff_mem.1 hc)
        have hmn := none_of hi hx
        refine kF_up hp hsel (fun z hz => (hF z hz).to hb.size) hx hmn (fun v w2 hb2 hv e => ⟨hSt _ _ hS hb2, ?_⟩)
        obtain ⟨e1, e2, e3⟩ := upd_in (v := v) (l := listed) (a := a) hp hx hmn
        rw [← e1, ← e2]
        rw [show f + k = f + 1 + fLeft F (upd m x.i v) by omega]
        exact ih _ (by omega) (upd m x.i v) w2 rfl (hb.trans (hb2.mono hb.size)) (fun e => by subst e; cases hx) (hSt _ _ hS hb2) (good_upd hp hx hv fun z hz u hu => (hF z hz).stay u _ _ (hg z hz u hu) hb2)
  have key : ∀ k m w1, fLeft F m = k → Below w.heap.size w w1 → (F = [] → w1 = w) → S w1 → (∀ x ∈ F, ∀ v, m x.i = some v → x.V v w1) → wpAnyH P .any ops Q S (f + 1 + k) (fMask F m listed) (fAct F m a) w1 := by
    intro k
    induction k with
    | zero => exact step 0 (fun k' h => absurd h (by omega))
    | succ k ih => exact step (k + 1) (fun k' h => by obtain rfl : k' = k := (by omega); exact ih)
  intro m w1 hw hS hg
  exact key _ m w1 rfl (ext_of hw) (fun e => hw.elim id fun q => absurd e q.1) hS hg

/-- A float comes up, for nothing else may. -/
theorem kF.settle {x : Fl} (hB : (Region.noSelect ops && partB ops (x :: F) && (masks F listed).all (fun M => (Region.ready .any ops M).contains x.i && (Region.ready .any ops M).all fun i => i == x.i || (F.map (·.i)).contains i)) = true)
    (hSt : ∀ w1 w2, S w1 → Below w1.heap.size w1 w2 → S w2)
    (h : ∀ w1, Below w.heap.size w w1 → S w1 → ∀ v, x.V v w1 → kF P ops Q S F f (listed.setIfInBounds x.i true) (a.put x.o.dst v) w1) : kF P ops Q S (x :: F) f listed a w := by
  intro hF
  simp only [Bool.and_eq_true, List.all_eq_true] at hB
  obtain ⟨⟨h1, hp⟩, h4⟩ := hB
  have hsel := Region.noSelect_spec h1
  have hp' : partB ops F = true := by
    simp only [partB, Bool.and_eq_true] at hp
    exact hp.2
  have hxF : ∀ z ∈ F, x.i ≠ z.i ∧ x.o.apart ops z.o = true ∧ z.o.apart ops x.o = true := fun z hz => by
    simp only [partB, Bool.and_eq_true, List.all_eq_true, bne_iff_ne] at hp
    have := hp.1 z hz
    exact ⟨this.1.1, this.1.2, this.2⟩
  have hFx := hF x List.mem_cons_self
  have hFF : ∀ z ∈ F, FloatK P ops w z a := fun z hz => hF z (List.mem_cons_of_mem _ hz)
  have yes : ∀ m w1 v, Below w.heap.size w w1 → S w1 → x.V v w1 → (∀ z ∈ F, ∀ v, m z.i = some v → z.V v w1) → wpAnyH P .any ops Q S (f + fLeft F m) ((fMask F m listed).setIfInBounds x.i true) ((fAct F m a).put x.o.dst v) w1 := by
    intro m w1 v hb hS hv hg
    have hh := h w1 hb hS v hv (fun z hz => ((hFF z hz).to hb.size).put (fun cs b => hsel _ _ cs b (hFF z hz).at_) (Oper.apart_spec (hxF z hz).2.1).1 v) m w1 (.inl rfl) hS hg
    rwa [fMask_set, fAct_put m a (fun z hz y hy e => (Oper.apart_spec (hxF z hz).2.1).2.1 y hy e)] at hh
  have step : ∀ k, (∀ k', k = k' + 1 → ∀ m w1, fLeft F m = k' → Below w.heap.size w w1 → S w1 → (∀ z ∈ F, ∀ v, m z.i = some v → z.V v w1) → wpAnyH P .any ops Q S (f + (k' + 1)) (fMask F m listed) (fAct F m a) w1) →
      ∀ m w1, fLeft F m = k → Below w.heap.size w w1 → S w1 → (∀ z ∈ F, ∀ v, m z.i = some v → z.V v w1) → wpAnyH P .any ops Q S (f + (k + 1)) (fMask F m listed) (fAct F m a) w1 := by
    intro k ih m w1 hk hb hS hg
    rw [show f + (k + 1) = (f + k) + 1 by omega]
    obtain ⟨hr1, hr2⟩ := h4 _ (fMask_mem m listed F)
    refine ⟨fun h0 => ?_, fun i hi => ?_⟩
    · rw [h0] at hr1
      simp at hr1
    · have hi2 := hr2 i hi
      by_cases hij : i = x.i
      · subst hij
        obtain ⟨v, w2, hr, hb2, hv⟩ := (((fl_act (m := m) hsel F (fun z hz => (hxF z hz).2.2) hFx).to hb.size).run w1 (Nat.le_refl _))
        have hf := (fl_act (m := m) hsel F (fun z hz => (hxF z hz).2.2) hFx).to hb.size
        unfold wpOp
        simp only [hf.at_, hf.wanted, if_true]
        refine .inl ?_
        unfold Oper.wp
        rw [hr]
        simp only [Oper.upon]
        refine ⟨hSt _ _ hS hb2, ?_⟩
        rw [← hk]
        exact yes m w2 v (hb.trans (hb2.mono hb.size)) (hSt _ _ hS hb2) hv fun z hz u hu => (hFF z hz).stay u _ _ (hg z hz u hu) hb2
      · have hc : (F.map (·.i)).contains i = true := by
          simp only [Bool.or_eq_true, beq_iff_eq] at hi2
          exact hi2.resolve_left hij
        obtain ⟨z, hz, rfl⟩ := List.mem_map.1 (List.contains_iff_mem.1 hc)
        have hmn := none_of hi hz
        refine kF_up hp' hsel (fun z hz => (hFF z hz).to hb.size) hz hmn (fun v w2 hb2 hv e => ⟨hSt _ _ hS hb2, ?_⟩)
        obtain ⟨e1, e2, e3⟩ := upd_in (v := v) (l := listed) (a := a) hp' hz hmn
        rw [← e1, ← e2]
        rw [show f + k = f + (fLeft F (upd m z.i v) + 1) by omega]
        exact ih _ (by omega) (upd m z.i v) w2 rfl (hb.trans (hb2.mono hb.size)) (hSt _ _ hS hb2) (good_upd hp' hz hv fun q hq u hu => (hFF q hq).stay u _ _ (hg q hq u hu) hb2)
  have key : ∀ k m w1, fLeft F m = k → Below w.heap.size w w1 → S w1 → (∀ z ∈ F, ∀ v, m z.i = some v → z.V v w1) → wpAnyH P .any ops Q S (f + (k + 1)) (fMask F m listed) (fAct F m a) w1 := by
    intro k
    induction k with
    | zero => exact step 0 (fun k' h => absurd h (by omega))
    | succ k ih => exact step (k + 1) (fun k' h => by obtain rfl : k' = k := (by omega); exact ih)
  intro m w1 hw hS hg
  have hb := ext_of hw
  have hgF : ∀ z ∈ F, ∀ v, m z.i = some v → z.V v w1 := fun z hz => hg z (List.mem_cons_of_mem _ hz)
  cases hm : m x.i with
  | none =>
    simp only [fMask, fAct, fLeft, hm, Option.isSome_none, Bool.false_eq_true, if_false]
    exact key _ m w1 rfl hb hS hgF
  | some v =>
    simp only [fMask, fAct, fLeft, hm, Option.isSome_some, if_true]
    exact yes m w1 v hb hS (hg x List.mem_cons_self v hm) hgF

/-- A float that yields one value in every world needs no turn of its own. -/
theorem kF.pure {x : Fl} {v : Value} (hV : ∀ u w, x.V u w → u = v) (hB : (Region.noSelect ops && partB ops (x :: F) && (masks F listed).all (fun M => Region.free .any ops M x.i && (Region.ready .any ops M).contains x.i)) = true)
    (hQ : ∀ c a w, Q (.panic c) (a.put x.o.dst v) w → Q (.panic c) a w) (hy : YieldsIf P ops S x.o v a)
    (h : ∀ w1, Below w.heap.size w w1 → S w1 → kF P ops Q S F f (listed.setIfInBounds x.i true) (a.put x.o.dst v) w1) : kF P ops Q S (x :: F) f listed a w := by
  intro hF m w1 hw hS hg
  simp only [Bool.and_eq_true, List.all_eq_true] at hB
  obtain ⟨⟨h1, hp⟩, h4⟩ := hB
  have hsel := Region.noSelect_spec h1
  have hxF : ∀ z ∈ F, x.i ≠ z.i ∧ x.o.apart ops z.o = true ∧ z.o.apart ops x.o = true := fun z hz => by
    simp only [partB, Bool.and_eq_true, List.all_eq_true, bne_iff_ne] at hp
    have := hp.1 z hz
    exact ⟨this.1.1, this.1.2, this.2⟩
  have hb := ext_of hw
  have hFx := hF x List.mem_cons_self
  have hFF : ∀ z ∈ F, FloatK P ops w z a := fun z hz => hF z (List.mem_cons_of_mem _ hz)
  have hgF : ∀ z ∈ F, ∀ v, m z.i = some v → z.V v w1 := fun z hz => hg z (List.mem_cons_of_mem _ hz)
  have hh := h w1 hb hS (fun z hz => ((hFF z hz).to hb.size).put (fun cs b => hsel _ _ cs b (hFF z hz).at_) (Oper.apart_spec (hxF z hz).2.1).1 v) m w1 (.inl rfl) hS hgF
  rw [fMask_set, fAct_put m a (fun z hz y hy e => (Oper.apart_spec (hxF z hz).2.1).2.1 y hy e)] at hh
  cases hm : m x.i with
  | some u =>
    obtain rfl := hV u w1 (hg x List.mem_cons_self u hm)
    simp only [fMask, fAct, fLeft, hm, Option.isSome_some, if_true]
    exact hh
  | none =>
    simp only [fMask, fAct, fLeft, hm, Option.isSome_none, Bool.false_eq_true, if_false]
    obtain ⟨h5, h6⟩ := h4 _ (fMask_mem m listed F)
    have hy' : YieldsIf P ops S x.o v (fAct F m a) := by
      have : ∀ G : List Fl, (∀ z ∈ G, z.o.apart ops x.o = true) → YieldsIf P ops S x.o v (fAct G m a) := by
        intro G
        induction G with
        | nil => intro _; exact hy
        | cons z G ih =>
          intro hz
          have ih' := ih fun q hq => hz q (List.mem_cons_of_mem _ hq)
          have ha := Oper.apart_spec (hz z List.mem_cons_self)
          simp only [fAct]
          split
          · exact ih'
          · exact ih'.of_same (execOp_put x.o (fun cs b => hsel _ _ cs b hFx.at_) _ _ _ ha.1) (wanted_put x.o _ _ _ ha.1)
      exact this F fun z hz => (hxF z hz).2.2
    rw [show f + (fLeft F m + 1) = (f + fLeft F m) + 1 by omega]
    exact wpAnyH_first hFx.at_ hsel hQ _ _ _ _ (Region.free_spec hFx.at_ h5) (by simpa using h6) hy' hS hh

/-- All have come up. -/
theorem kF.done (hr : (Region.ready .any ops listed == []) = true) (h : Q .normal a w) : kF P ops Q S [] f listed a w := by
  intro _ m w1 hw _ _
  have hr : Region.ready .any ops listed = [] := by simpa using hr
  rcases hw with rfl | h'
  · show wpAnyH P .any ops Q S (f + 0) listed a w1
    cases f with
    | zero => exact ⟨hr, h⟩
    | succ f => exact ⟨fun _ => h, fun i hi => by rw [hr] at hi; cases hi⟩
  · exact absurd rfl h'.1
theorem region_krip {id : Nat} {l : List Oper} (S : World → Prop) (hm : P.follows .mixedOrders = true) (hS : S w.drew) (h : kF P l.toArray Q S [] l.length (Array.replicate l.length false) a w.drew) : (Code.region id l.toArray true).wp P Q a w := by
  refine wp_region_held_drew (S := S) hm hS fun _ => ?_
  have := h (fun x hx => absurd hx List.not_mem_nil) (fun _ => none) w.drew (.inl rfl) hS (fun x hx => absurd hx List.not_mem_nil)
  simpa [fMask, fAct, fLeft] using this
end

section
variable {P : Program} {Q : Exit → Act → World → Prop} {S : World → Prop} {F : List Fl} {f : Nat} {l : List Oper} {listed : Array Bool} {a : Act} {w : World}
theorem below_S {B : Nat} {w0 w1 w2 : World} (hB : B ≤ w0.heap.size) (h : Below B w0 w1) (hb : Below w1.heap.size w1 w2) : Below B w0 w2 := h.trans (hb.mono (Nat.le_trans hB h.size))
theorem kF.takeL {i : Nat} {oi : Oper} {v : Value} (hi : l[i]? = some oi) (hB : (Region.noSelect l.toArray && (F.map (·.i)).contains i == false && F.all (fun x => x.o.apart l.toArray oi) && (masks F listed).all (fun M => Region.free .any l.toArray M i && (Region.ready .any l.toArray M).contains i)) = true)
    (hQ : ∀ c a w, Q (.panic c) (a.put oi.dst v) w → Q (.panic c) a w) (hy : YieldsIf P l.toArray S oi v a) (h : kF P l.toArray Q S F f (listed.setIfInBounds i true) (a.put oi.dst v) w) : kF P l.toArray Q S F (f + 1) listed a w :=
  kF.take (by simpa using hi) hB hQ hy h
theorem kF.onlyL {j : Nat} {oj : Oper} (hj : l[j]? = some oj) (hB : (Region.noSelect l.toArray && partB l.toArray F && F.all (fun x => x.i != j && x.o.apart l.toArray oj) && (masks F listed).all (fun M => (Region.ready .any l.toArray M).contains j && (Region.ready .any l.toArray M).all fun i => i == j || (F.map (·.i)).contains i)) = true)
    (hQ : ∀ c (d : Nat) v a w, Q (.panic c) a w → Q (.panic c) (a.put (some d) v) w) (hSt : ∀ w1 w2, S w1 → Below w1.heap.size w1 w2 → S w2)
    (h : ∀ w1, Below w.heap.size w w1 → (F = [] → w1 = w) → S w1 → ∀ K : Act → World → Prop, Shut (∀ a' w', S w' → Keeps F w1 w' → kF P l.toArray Q S F f (listed.setIfInBounds j true) a' w' → K a' w') →
      if Region.wanted oj (yielded l.toArray a.tmps) = true then oj.wp P a w1 K Q else K (a.put oj.dst undef) w1) : kF P l.toArray Q S F (f + 1) listed a w := by
  refine kF.only (oj := oj) (by simpa using hj) hB hQ hSt fun w1 hb he hS => ?_
  have hh := h w1 hb he hS (fun a' w' => S w' ∧ Keeps F w1 w' ∧ kF P l.toArray Q S F f (listed.setIfInBounds j true) a' w') (fun a' w' h1 h2 h3 => ⟨h1, h2, h3⟩)
  unfold wpOp
  simp only [show l.toArray[j]? = some oj by simpa using hj]
  split
  · rename_i hw
    rw [if_pos hw] at hh
    exact .inl hh
  · rename_i hw
    rw [if_neg hw] at hh
    exact hh

theorem kF.lastL {j : Nat} {oj : Oper} (hj : l[j]? = some oj) (hB : (Region.noSelect l.toArray && (Region.ready .any l.toArray listed == [j])) = true)
    (hQ : ∀ c (d : Nat) v a w, Q (.panic c) a w → Q (.panic c) (a.put (some d) v) w) (hSt : ∀ w1 w2, S w1 → Below w1.heap.size w1 w2 → S w2)
    (h : S w → ∀ K : Act → World → Prop, Shut (∀ a' w', S w' → kF P l.toArray Q S [] f (listed.setIfInBounds j true) a' w' → K a' w') →
      if Region.wanted oj (yielded l.toArray a.tmps) = true then oj.wp P a w K Q else K (a.put oj.dst undef) w) : kF P l.toArray Q S [] (f + 1) listed a w := by
  simp only [Bool.and_eq_true, beq_iff_eq] at hB
  refine kF.onlyL (F := []) hj (by simp [hB.1, hB.2, masks, partB]) hQ hSt fun w1 _ he hS K hK => ?_
  obtain rfl := he rfl
  exact h hS K fun a' w' h1 h2 => hK.out a' w' h1 (.inl rfl) h2

/-- What is known of a new block, whose value is val of its number. -/
def newV (val : Nat → Value) (ob : Obj) (B : Nat) (v : Value) (w : World) : Prop := ∃ b, B ≤ b ∧ v = val b ∧ w.heap[b]? = some ob
theorem newV.stay {val : Nat → Value} {ob : Obj} {B : Nat} {v : Value} {w1 w2 : World} (h : newV val ob B v w1) (hb : Below w1.heap.size w1 w2) : newV val ob B v w2 := by
  obtain ⟨b, h1, h2, h3⟩ := h
  exact ⟨b, h1, h2, (hb.block b (Array.getElem?_eq_some_iff.1 h3).1).trans h3⟩
theorem newV.grown {val : Nat → Value} {cs : Array Value} {T T' : TypeId} {fz fz' : Nat × Nat} {cs' : Array Value} {B g : Nat} {v : Value} {w1 w2 : World} (h : newV val (.cells cs T fz) B v w1) (hg : w1.grownBy w2 (some g)) (hr : w1.heap[g]? = some (.cells cs' T' fz')) (hT : T ≠ T') : newV val (.cells cs T fz) B v w2 := by
  obtain ⟨b, h1, h2, h3⟩ := h
  refine ⟨b, h1, h2, (hg.block b (Array.getElem?_eq_some_iff.1 h3).1 (fun e => ?_)).trans h3⟩
  injection e with e
  rw [e, hr] at h3
  simp at h3
  exact hT h3.2.1.symm
theorem kF.newL {i : Nat} {oi : Oper} (val : Nat → Value) (ob : Obj) (hi : l[i]? = some oi) (hF : (F.map (·.i)).contains i = false) (hw : Region.wanted oi (yielded l.toArray a.tmps) = true)
    (hr : ∀ w1 : World, (execOp a.eval oi).run P w1 = .ok (.value (val w1.heap.size)) (w1.alloc ob)) (h : kF P l.toArray Q S (⟨i, oi, newV val ob w.heap.size⟩ :: F) f listed a w) : kF P l.toArray Q S F (f + 1) listed a w :=
  kF.float (x := ⟨i, oi, newV val ob w.heap.size⟩) hF ⟨by simpa using hi, hw, fun w1 hb => ⟨_, _, hr w1, (Below.refl _ _).alloc (Nat.le_refl _) _, ⟨w1.heap.size, hb, rfl, heap_alloc_new w1 ob⟩⟩, fun v w1 w2 h hb => h.stay hb⟩ h
theorem kF.settleL {i : Nat} {oi : Oper} {V : Value → World → Prop} (hB : (Region.noSelect l.toArray && partB l.toArray (⟨i, oi, V⟩ :: F) && (masks F listed).all (fun M => (Region.ready .any l.toArray M).contains i && (Region.ready .any l.toArray M).all fun j => j == i || (F.map (·.i)).contains j)) = true)
    (hSt : ∀ w1 w2, S w1 → Below w1.heap.size w1 w2 → S w2)
    (h : ∀ w1, Below w.heap.size w w1 → S w1 → ∀ v, V v w1 → kF P l.toArray Q S F f (listed.setIfInBounds i true) (a.put oi.dst v) w1) : kF P l.toArray Q S (⟨i, oi, V⟩ :: F) f listed a w :=
  kF.settle (x := ⟨i, oi, V⟩) hB hSt h
end

section
variable {α β : Type} {k k' : Nat} {enc : α → List Value} {enc' : β → List Value} {T T' : TypeId} {w w' : World} {base base' : Nat} {v u : Value} {l : List α} {l' : List β}
theorem Owns.at_type (h : Owns k enc T w base v l) {i : Nat} (hi : v.ownBlock = some i) : ∃ cs fz, w.heap[i]? = some (.cells cs T fz) := by
  rcases h.2 with ⟨e, _⟩ | ⟨g, cap, cur, e, _, hh, _⟩
  · rw [e] at hi
    cases hi
  · rw [e] at hi
    cases hi
    exact ⟨_, _, hh⟩
theorem Owns.grownT (h : Owns k enc T w base v l) (ho : Owns k' enc' T' w base' u l') (hg : w.grownBy w' u.ownBlock) (hT : T ≠ T') : Owns k enc T w' base v l := by
  refine h.grown hg ?_
  cases hv : v.ownBlock with
  | none => exact .inl rfl
  | some i =>
    refine .inr fun e => ?_
    obtain ⟨cs, fz, h1⟩ := h.at_type hv
    obtain ⟨cs', fz', h2⟩ := ho.at_type e.symm
    rw [h1] at h2
    simp at h2
    exact hT h2.2.1
theorem newV.grownOwn {val : Nat → Value} {cs : Array Value} {fz : Nat × Nat} {B : Nat} (h : newV val (.cells cs T fz) B v w) (ho : Owns k' enc' T' w base' u l') (hg : w.grownBy w' u.ownBlock) (hT : T ≠ T') : newV val (.cells cs T fz) B v w' := by
  obtain ⟨b, h1, h2, h3⟩ := h
  refine ⟨b, h1, h2, (hg.block b (Array.getElem?_eq_some_iff.1 h3).1 (fun e => ?_)).trans h3⟩
  obtain ⟨cs', fz', h4⟩ := ho.at_type e.symm
  rw [h3] at h4
  simp at h4
  exact hT h4.2.1
theorem own_empty {b : Nat} (h : w.heap[b]? = some (.cells #[] T)) (hb : base ≤ b) : Owns k enc T w base (.slice (some ⟨b, 0, none⟩) 0 0) [] :=
  ⟨by simp, .inr ⟨b, 0, #[], rfl, hb, h, Nat.le_refl _, by simp [maxLen], by simp, by simp⟩⟩
end
end Go.Proofs.Ytbfephekkfieaaa
