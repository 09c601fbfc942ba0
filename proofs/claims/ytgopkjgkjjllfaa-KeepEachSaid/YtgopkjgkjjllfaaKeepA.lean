/-
  The contracts of keep.May, keep.goes and its three closures, and of the reference's May and goes.
-/
import Derived.Test.YtgopkjgkjjllfaaSnapB
import Derived.Test.YtgopkjgkjjllfaaMem
import Derived.Test.YtgopkjgkjjllfaaFn
namespace Go.Proofs.Ytgopkjgkjjllfaa
open Go.RowKit

structure Rule where
  id : Int
  last : Int
  within : Int
def Rule.agg (r : Rule) : Value := .agg #[.int .i64 r.id, .int .i64 r.last, .int .i64 r.within]
def mayRule (r : Rule) : Bool := decide ((0 < r.id ∧ r.last = 0 ∧ r.within = 0) ∨ (r.id = 0 ∧ 0 < r.last ∧ r.within = 0) ∨ (r.id = 0 ∧ r.last = 0 ∧ 0 < r.within))

def trip (a b c a' b' c' : Int) : Bool := a == a' && b == b' && c == c'
theorem trip_yes {a b c a' b' c' : Int} (h : a = a' ∧ b = b' ∧ c = c') : trip a b c a' b' c' = true := by obtain ⟨rfl, rfl, rfl⟩ := h; simp [trip]
theorem trip_no {a b c a' b' c' : Int} (h : ¬ (a = a' ∧ b = b' ∧ c = c')) : trip a b c a' b' c' = false := by
  cases h' : trip a b c a' b' c'
  · rfl
  · simp [trip] at h'; exact absurd ⟨h'.1.1, h'.1.2, h'.2⟩ h

theorem eqRule (a b c a' b' c' : Int) (w : World) : (binOp .eql 25 (.agg #[.int .i64 a, .int .i64 b, .int .i64 c]) (.agg #[.int .i64 a', .int .i64 b', .int .i64 c'])).run Try.prog w
    = .ok (.bool (trip a b c a' b' c')) w := by
  have u3 := Try.underlying3
  have u2 := Try.underlying2
  have hS : Try.prog.underlying 25 = some (.struct (Try.prog.fieldsOf 25)) := by kernel_rfl
  have hp : Try.prog.stoodInHeld 25 = false := by kernel_rfl
  rw [run_eql_struct, show (10000 : Nat) = 9999 + 1 from rfl, run_equalIn_agg w 9999 _ _ _ hS hp]
  simp only [Program.fieldsOf, Try.underlying25]
  go_simp
  unfold trip
  by_cases h1 : a = a' <;> by_cases h2 : b = b' <;> by_cases h3 : c = c' <;> simp [h1, h2, h3]

set_option maxHeartbeats 400000 in
theorem keep_May (r : Rule) (w : World) :
    Calls Try.prog 18 #[r.agg] w fun e w' => e = .returned (.bool (mayRule r)) ∧ Below w.heap.size w w' := by
  obtain ⟨a, b, c⟩ := r
  unfold Rule.agg
  have he := eqRule
  by_cases h1 : b = 0 ∧ c = 0
  · have e1 := trip_yes (a := a) (b := b) (c := c) (a' := a) (b' := 0) (c' := 0) ⟨rfl, h1.1, h1.2⟩
    have H1 := Lib.hid h1; clear h1
    go_enter Try.func18, Try.ntmps18
    go_wp2
    go_ret
    exact ⟨ret_bool (by have h1 := H1.out; rw [Bool.eq_iff_iff]; simp only [mayRule, decide_eq_true_eq]; omega), (by repeat (first | exact Below.refl _ _ | assumption | refine Below.drew ?_ | refine below_drewN ?_ _ | refine Below.alloc ?_ (by first | omega | (simp; try omega)) _ | refine Below.setCell ?_ (by first | omega | (simp; try omega)) _ | (refine Below.trans ?_ (Below.mono (by assumption) (by first | omega | (simp; try omega))))))⟩
  · have e1 := trip_no (a := a) (b := b) (c := c) (a' := a) (b' := 0) (c' := 0) (by omega)
    have H1 := Lib.hid h1
    by_cases h2 : a = 0 ∧ c = 0
    · have e2 := trip_yes (a := a) (b := b) (c := c) (a' := 0) (b' := b) (c' := 0) ⟨h2.1, rfl, h2.2⟩
      have H2 := Lib.hid h2; clear h1 h2
      go_enter Try.func18, Try.ntmps18
      go_wp2
      go_ret
      exact ⟨ret_bool (by have h1 := H1.out; have h2 := H2.out; rw [Bool.eq_iff_iff]; simp only [mayRule, decide_eq_true_eq]; omega), (by repeat (first | exact Below.refl _ _ | assumption | refine Below.drew ?_ | refine below_drewN ?_ _ | refine Below.alloc ?_ (by first | omega | (simp; try omega)) _ | refine Below.setCell ?_ (by first | omega | (simp; try omega)) _ | (refine Below.trans ?_ (Below.mono (by assumption) (by first | omega | (simp; try omega))))))⟩
    · have e2 := trip_no (a := a) (b := b) (c := c) (a' := 0) (b' := b) (c' := 0) (by omega)
      have H2 := Lib.hid h2
      by_cases h3 : a = 0 ∧ b = 0
      · have e3 := trip_yes (a := a) (b := b) (c := c) (a' := 0) (b' := 0) (c' := c) ⟨h3.1, h3.2, rfl⟩
        have H3 := Lib.hid h3; clear h1 h2 h3
        go_enter Try.func18, Try.ntmps18
        go_wp2
        go_ret
        exact ⟨ret_bool (by have h1 := H1.out; have h2 := H2.out; have h3 := H3.out; rw [Bool.eq_iff_iff]; simp only [mayRule, decide_eq_true_eq]; omega), (by repeat (first | exact Below.refl _ _ | assumption | refine Below.drew ?_ | refine below_drewN ?_ _ | refine Below.alloc ?_ (by first | omega | (simp; try omega)) _ | refine Below.setCell ?_ (by first | omega | (simp; try omega)) _ | (refine Below.trans ?_ (Below.mono (by assumption) (by first | omega | (simp; try omega))))))⟩
      · have e3 := trip_no (a := a) (b := b) (c := c) (a' := 0) (b' := 0) (c' := c) (by omega)
        have H3 := Lib.hid h3; clear h1 h2 h3
        go_enter Try.func18, Try.ntmps18
        go_wp2
        go_ret
        exact ⟨ret_bool (by have h1 := H1.out; have h2 := H2.out; have h3 := H3.out; rw [Bool.eq_iff_iff]; simp only [mayRule, decide_eq_true_eq, Bool.false_eq_true, false_iff]; omega), (by repeat (first | exact Below.refl _ _ | assumption | refine Below.drew ?_ | refine below_drewN ?_ _ | refine Below.alloc ?_ (by first | omega | (simp; try omega)) _ | refine Below.setCell ?_ (by first | omega | (simp; try omega)) _ | (refine Below.trans ?_ (Below.mono (by assumption) (by first | omega | (simp; try omega))))))⟩

set_option maxHeartbeats 400000 in
theorem ref22_May (r : Rule) (w : World) :
    Calls Try.prog 19 #[r.agg] w fun e w' => e = .returned (.bool (mayRule r)) ∧ Below w.heap.size w w' := by
  obtain ⟨a, b, c⟩ := r
  unfold Rule.agg
  go_enter Try.func19, Try.ntmps19
  go_wp2
  all_goals
    go_ret
    exact ⟨ret_bool (by rw [Bool.eq_iff_iff]; simp only [mayRule, decide_eq_true_eq]; simp; try omega), (by repeat (first | exact Below.refl _ _ | assumption | refine Below.drew ?_ | refine below_drewN ?_ _ | refine Below.alloc ?_ (by first | omega | (simp; try omega)) _ | refine Below.setCell ?_ (by first | omega | (simp; try omega)) _ | (refine Below.trans ?_ (Below.mono (by assumption) (by first | omega | (simp; try omega))))))⟩

/-- A snapshot's place, said by its number. -/
def idAt (l : List Snap) (i : Nat) : Int := match l[i]? with | some s => s.id | none => 0
def timeAt (l : List Snap) (i : Nat) : Int := match l[i]? with | some s => s.time | none => 0
def newestOf (l : List Snap) : Int := l.foldl (fun m s => max m s.time) 0
/-- Does the i-th of l go by a rule? -/
def goesB (l : List Snap) (r : Rule) (i : Nat) : Bool :=
  if 0 < r.id then decide (idAt l i = r.id) else if 0 < r.last then decide ((i : Int) < (l.length : Int) - r.last) else decide (timeAt l i < newestOf l - r.within)

set_option maxHeartbeats 400000 in
theorem goes_one (A : Option Addr) (n c : Nat) (l : List Snap) (w : World) (h : SnapsAt w w.heap.size A n l) (r : Rule) (b1 b2 i : Nat) (hi : i < n)
    (h1 : w.cell? ⟨b1, 0, none⟩ = some (.slice A n c)) (h2 : w.cell? ⟨b2, 0, none⟩ = some (.int .i64 r.id)) :
    Calls Try.prog 38 #[.int .i64 i, .pointer (some ⟨b1, 0, none⟩), .pointer (some ⟨b2, 0, none⟩)] w fun e w' => e = .returned (.bool (decide (idAt l i = r.id))) ∧ Below w.heap.size w w' := by
  have hn := h.2.1
  obtain ⟨b, off, s, rfl, hb1, hx, q0, q1, q2⟩ := h.snap hi
  have e : Hid (idAt l i = s.id) := by unfold idAt; rw [hx]; rfl
  clear hx
  go_enter Try.func38, Try.ntmps38
  go_wp2
  go_quiet (fail)
  go_wp2
  go_ret
  exact ⟨ret_bool (by rw [e.out]; first | rfl | simp), (by repeat (first | exact Below.refl _ _ | assumption | refine Below.drew ?_ | refine below_drewN ?_ _ | refine Below.alloc ?_ (by first | omega | (simp; try omega)) _ | refine Below.setCell ?_ (by first | omega | (simp; try omega)) _ | (refine Below.trans ?_ (Below.mono (by assumption) (by first | omega | (simp; try omega))))))⟩

set_option maxHeartbeats 400000 in
theorem goes_two (A : Option Addr) (n c : Nat) (l : List Snap) (w : World) (h : SnapsAt w w.heap.size A n l) (r : Rule) (b1 b2 i : Nat) (hi : i < n) (hr : 0 < r.last) (hr' : r.last ≤ 9223372036854775807)
    (h1 : w.cell? ⟨b1, 0, none⟩ = some (.slice A n c)) (h2 : w.cell? ⟨b2, 1, none⟩ = some (.int .i64 r.last)) :
    Calls Try.prog 39 #[.int .i64 i, .pointer (some ⟨b1, 0, none⟩), .pointer (some ⟨b2, 0, none⟩)] w fun e w' => e = .returned (.bool (decide ((i : Int) < (l.length : Int) - r.last))) ∧ Below w.heap.size w w' := by
  have hn := h.2.1
  have hl := Lib.hid h.1
  go_enter Try.func39, Try.ntmps39
  go_wp2
  go_ret
  exact ⟨ret_bool (by rw [hl.out]), (by repeat (first | exact Below.refl _ _ | assumption | refine Below.drew ?_ | refine below_drewN ?_ _ | refine Below.alloc ?_ (by first | omega | (simp; try omega)) _ | refine Below.setCell ?_ (by first | omega | (simp; try omega)) _ | (refine Below.trans ?_ (Below.mono (by assumption) (by first | omega | (simp; try omega))))))⟩

set_option maxHeartbeats 400000 in
theorem goes_three (A : Option Addr) (n c : Nat) (l : List Snap) (w : World) (h : SnapsAt w w.heap.size A n l) (r : Rule) (b1 b2 b3 i : Nat) (hi : i < n) (hr : 0 < r.within) (hr' : r.within ≤ 9223372036854775807)
    (y : Int) (hy : 0 ≤ y) (hy' : y ≤ 9223372036854775807)
    (h1 : w.cell? ⟨b1, 0, none⟩ = some (.slice A n c)) (h2 : w.cell? ⟨b2, 0, none⟩ = some (.int .i64 y)) (h3 : w.cell? ⟨b3, 2, none⟩ = some (.int .i64 r.within)) :
    Calls Try.prog 40 #[.int .i64 i, .pointer (some ⟨b1, 0, none⟩), .pointer (some ⟨b2, 0, none⟩), .pointer (some ⟨b3, 0, none⟩)] w fun e w' => e = .returned (.bool (decide (timeAt l i < y - r.within))) ∧ Below w.heap.size w w' := by
  have hn := h.2.1
  obtain ⟨b, off, s, rfl, hb1, hx, q0, q1, q2⟩ := h.snap hi
  have e : Hid (timeAt l i = s.time) := by unfold timeAt; rw [hx]; rfl
  clear hx
  go_enter Try.func40, Try.ntmps40
  go_wp2
  go_quiet (fail)
  go_wp2
  go_ret
  exact ⟨ret_bool (by rw [e.out]), (by repeat (first | exact Below.refl _ _ | assumption | refine Below.drew ?_ | refine below_drewN ?_ _ | refine Below.alloc ?_ (by first | omega | (simp; try omega)) _ | refine Below.setCell ?_ (by first | omega | (simp; try omega)) _ | (refine Below.trans ?_ (Below.mono (by assumption) (by first | omega | (simp; try omega))))))⟩
end Go.Proofs.Ytgopkjgkjjllfaa
