/-
  The contracts of slices.IndexFunc, slices.ContainsFunc at snapshots, and of keep.Choose.
-/
import Derived.Test.YtgopkjgkjjllfaaKeepB
import Derived.Test.YtgopkjgkjjllfaaSnapOwn
namespace Go.Proofs.Ytgopkjgkjjllfaa
open Go.RowKit

/-- v is a function value that answers p of any snapshot, now and later. -/
def PredFn (w : World) (v : Value) (p : Snap → Bool) : Prop :=
  ∃ f caps, v = .func (.func f) #[] caps ∧ IsFn f ∧ ∀ w1, Below w.heap.size w w1 → ∀ s : Snap,
    Calls Try.prog f (#[s.agg] ++ caps) w1 fun e w2 => e = .returned (.bool (p s)) ∧ Below w1.heap.size w1 w2

set_option maxHeartbeats 400000 in
theorem choose_one (s : Snap) (r : Rule) (b : Nat) (w : World) (h : w.cell? ⟨b, 0, none⟩ = some (.int .i64 r.id)) (hb : b < w.heap.size) :
    Calls Try.prog 29 #[s.agg, .pointer (some ⟨b, 0, none⟩)] w fun e w' => e = .returned (.bool (decide (s.id = r.id))) ∧ Below w.heap.size w w' := by
  unfold Snap.agg
  go_enter Try.func29, Try.ntmps29
  go_wp2
  go_ret
  exact ⟨ret_bool (by first | rfl | simp), (by repeat (first | exact Below.refl _ _ | assumption | refine Below.drew ?_ | refine below_drewN ?_ _ | refine Below.alloc ?_ (by first | omega | (simp; try omega)) _ | refine Below.setCell ?_ (by first | omega | (simp; try omega)) _ | (refine Below.trans ?_ (Below.mono (by assumption) (by first | omega | (simp; try omega))))))⟩

theorem isFn_choose1 : IsFn 29 := fun args w => by go_simp
theorem predFn_one (r : Rule) (b : Nat) (w : World) (h : w.cell? ⟨b, 0, none⟩ = some (.int .i64 r.id)) (hb : b < w.heap.size) :
    PredFn w (.func (.func 29) #[] #[.pointer (some ⟨b, 0, none⟩)]) (fun s => decide (s.id = r.id)) :=
  ⟨_, _, rfl, isFn_choose1, fun w1 hb1 s => choose_one s r b w1 ((hb1.cell (p := ⟨b, 0, none⟩) hb).trans h) (Nat.lt_of_lt_of_le hb hb1.size)⟩

set_option maxHeartbeats 400000 in
theorem indexFunc_snap (A : Option Addr) (n c : Nat) (l : List Snap) (w : World) (h : SnapsAt w w.heap.size A n l) (v : Value) (p : Snap → Bool) (hp : PredFn w v p) :
    Calls Try.prog 37 #[.slice A n c, v] w fun e w' => ∃ z : Int, e = .returned (.int .i64 z) ∧ decide (0 ≤ z) = l.any p ∧ Below w.heap.size w w' := by
  have hn := h.2.1
  obtain ⟨f, caps, rfl, hf, hp⟩ := hp
  unfold IsFn at hf
  replace hp := Lib.hid hp
  go_enter Try.func37, Try.ntmps37
  go_wp2
  go_loopw [8] (fun i wr => ∃ k : Nat, k ≤ n ∧ i = .int .i64 k ∧ Hid (l.any p = (l.drop k).any p) ∧ Below w.heap.size w wr) (fun i _ => n - (intOf i).toNat)
  case atStart => exact ⟨0, Nat.zero_le _, rfl, rfl, Below.refl _ _⟩
  case round =>
    obtain ⟨k, hk, rfl, hr, hbw⟩ := hrel
    by_cases hlt : k < n
    · obtain ⟨b, off, s, rfl, hb1, hx, q0, q1, q2⟩ := (h.below hbw).snap hlt
      have hd := Lib.hid (drop_cons hx)
      clear hx
      have hs := hbw.size
      cases hq : p s
      · go_wp2_with fail
        go_simp
        refine (hp.out wr hbw s).mono ?_
        rintro e w1 ⟨rfl, hbw1⟩
        have hzw1 := hbw1.size
        go_wp2
        go_roundw
        case rel => exact ⟨k + 1, by omega, by go_num, hr.out.trans (by rw [hd.out, List.any_cons, hq]; rfl), (by repeat (first | exact Below.refl _ _ | assumption | refine Below.drew ?_ | refine below_drewN ?_ _ | refine Below.alloc ?_ (by first | omega | (simp; try omega)) _ | refine Below.setCell ?_ (by first | omega | (simp; try omega)) _ | (refine Below.trans ?_ (Below.mono (by assumption) (by first | omega | (simp; try omega))))))⟩
        case measure => simp [intOf]; omega
      · go_wp2_with fail
        go_simp
        refine (hp.out wr hbw s).mono ?_
        rintro e w1 ⟨rfl, hbw1⟩
        have hzw1 := hbw1.size
        go_wp2
        go_ret
        exact ⟨k, rfl, by rw [hr.out, hd.out, List.any_cons, hq]; simp, (by repeat (first | exact Below.refl _ _ | assumption | refine Below.drew ?_ | refine below_drewN ?_ _ | refine Below.alloc ?_ (by first | omega | (simp; try omega)) _ | refine Below.setCell ?_ (by first | omega | (simp; try omega)) _ | (refine Below.trans ?_ (Below.mono (by assumption) (by first | omega | (simp; try omega))))))⟩
    · go_wp2
      go_ret
      exact ⟨-1, rfl, by rw [hr.out, List.drop_eq_nil_of_le (by have := h.1; omega)]; rfl, hbw⟩

theorem containsFunc_snap (A : Option Addr) (n c : Nat) (l : List Snap) (w : World) (h : SnapsAt w w.heap.size A n l) (v : Value) (p : Snap → Bool) (hp : PredFn w v p) :
    Calls Try.prog 28 #[.slice A n c, v] w fun e w' => e = .returned (.bool (l.any p)) ∧ Below w.heap.size w w' := by
  obtain ⟨f, caps, rfl, hp⟩ := hp
  replace hp := Lib.hid hp
  go_enter Try.func28, Try.ntmps28
  go_wp2_with fail
  refine (indexFunc_snap A n c l _ h _ p ⟨f, caps, rfl, hp.out⟩).mono ?_
  rintro e w1 ⟨z, rfl, hz, hb⟩
  replace hz := Lib.hid hz
  go_wp2
  go_ret
  exact ⟨ret_bool (by rw [← hz.out]), hb⟩

/-- Which stay, and which go, from the k-th on. -/
def keptFrom (g : Nat → Bool) : Nat → List Snap → List Snap
  | _, [] => []
  | k, s :: l => if g k then keptFrom g (k + 1) l else s :: keptFrom g (k + 1) l
def goneFrom (g : Nat → Bool) : Nat → List Snap → List Snap
  | _, [] => []
  | k, s :: l => if g k then s :: goneFrom g (k + 1) l else goneFrom g (k + 1) l
theorem kept_yes {g : Nat → Bool} {k : Nat} {s : Snap} {r l : List Snap} (hd : r = s :: l) (h : g k = true) (X : List Snap) : X ++ keptFrom g k r = X ++ keptFrom g (k + 1) l := by subst hd; simp [keptFrom, h]
theorem kept_no {g : Nat → Bool} {k : Nat} {s : Snap} {r l : List Snap} (hd : r = s :: l) (h : g k = false) (X : List Snap) : X ++ keptFrom g k r = (X ++ [s]) ++ keptFrom g (k + 1) l := by subst hd; simp [keptFrom, h]
theorem gone_yes {g : Nat → Bool} {k : Nat} {s : Snap} {r l : List Snap} (hd : r = s :: l) (h : g k = true) (X : List Snap) : X ++ goneFrom g k r = (X ++ [s]) ++ goneFrom g (k + 1) l := by subst hd; simp [goneFrom, h]
theorem gone_no {g : Nat → Bool} {k : Nat} {s : Snap} {r l : List Snap} (hd : r = s :: l) (h : g k = false) (X : List Snap) : X ++ goneFrom g k r = X ++ goneFrom g (k + 1) l := by subst hd; simp [goneFrom, h]

/-- What Choose answers: who stays, who goes, the error. -/
def choose (l : List Snap) (r : Rule) : List Snap × List Snap × Int :=
  if mayL l then
    if mayRule r then
      if decide (0 < r.id) && !(l.any fun s => decide (s.id = r.id)) then ([], [], 5)
      else (keptFrom (goesB l r) 0 l, goneFrom (goesB l r) 0 l, 0)
    else ([], [], 1)
  else ([], [], 4)

/-- Two slices of the call's own, in blocks of their own. -/
def Two (w : World) (B : Nat) (a b : Value) (x y : List Snap) : Prop := SnapsOwn w B a x ∧ SnapsOwn w B b y ∧ (a.ownBlock = none ∨ a.ownBlock ≠ b.ownBlock)

theorem Two.nils {w : World} {B : Nat} : Two w B (.slice none 0 0) (.slice none 0 0) [] [] := ⟨Owns.nil_, Owns.nil_, .inl rfl⟩
theorem Two.below {w w' : World} {B : Nat} {a b : Value} {x y : List Snap} (h : Two w B a b x y) (hb : Below w.heap.size w w') : Two w' B a b x y := ⟨h.1.below hb, h.2.1.below hb, h.2.2⟩
theorem Two.alloc {w : World} {B : Nat} {a b : Value} {x y : List Snap} (h : Two w B a b x y) (o : Obj) : Two (w.alloc o) B a b x y := ⟨h.1.alloc o, h.2.1.alloc o, h.2.2⟩
theorem Two.base {w : World} {B B' : Nat} {a b : Value} {x y : List Snap} (h : Two w B a b x y) (hB : B' ≤ B) : Two w B' a b x y := ⟨h.1.base hB, h.2.1.base hB, h.2.2⟩
theorem Two.left {w w' : World} {B : Nat} {a a' b : Value} {x x' y : List Snap} (h : Two w B a b x y) (ho : SnapsOwn w' B a' x') (hg : w.grownBy w' a.ownBlock) (hat : a'.ownBlock = a.ownBlock ∨ a'.ownBlock = some w.heap.size) : Two w' B a' b x' y := by
  obtain ⟨h1, h2, h3⟩ := h
  refine ⟨ho, h2.grown hg (h3.elim (fun h3 => by rw [h3]; cases b.ownBlock <;> simp) fun h3 => .inr (Ne.symm h3)), ?_⟩
  rcases hat with e | e
  · rw [e]; exact h3
  · rw [e]
    refine .inr fun e2 => ?_
    have := (h2.lt e2.symm).2
    omega
theorem Two.right {w w' : World} {B : Nat} {a b b' : Value} {x y y' : List Snap} (h : Two w B a b x y) (ho : SnapsOwn w' B b' y') (hg : w.grownBy w' b.ownBlock) (hat : b'.ownBlock = b.ownBlock ∨ b'.ownBlock = some w.heap.size) : Two w' B a b' x y' := by
  obtain ⟨h1, h2, h3⟩ := h
  refine ⟨h1.grown hg h3, ho, ?_⟩
  rcases hat with e | e
  · rw [e]; exact h3
  · rw [e]
    refine (Option.eq_none_or_eq_some a.ownBlock).imp id fun ⟨i, hi⟩ e2 => ?_
    rw [hi] at e2
    injection e2 with e2
    have := (h1.lt hi).2
    omega
end Go.Proofs.Ytgopkjgkjjllfaa
