/-
  The reference's drop and put.
-/
import Derived.Test.YtfkonpmnclknaaaButA
import Derived.Test.YtfkonpmnclknaaaHeld
namespace Go.Proofs.Ytfkonpmnclknaaa
open Go.RowKit
attribute [local go_sem ↓] Go.wp_at_zero Go.wp_at_succ

theorem delO_take {l : List Ob} {n : ByteArray} {j : Nat} {p : Ob} (hp : l[j]? = some p) : delO (l.take (j + 1)) n = delO (l.take j) n ++ (if p.1 = n then [] else [p]) := by
  rw [List.take_add_one, hp]
  unfold delO
  rw [List.filter_append]
  by_cases e : p.1 = n <;> simp [e]

set_option maxHeartbeats 4000000 in
theorem ref07_drop (A : Option Addr) (n c : Nat) (l : List Ob) (x : ByteArray) (w : World) (h : ObsAt w w.heap.size A n l) (hn : n ≤ 1000000) :
    Calls Try.prog 83 #[.slice A n c, .string x] w fun e w' => ∃ v, e = .returned v ∧ objE.Own w' w.heap.size v (delO l x) ∧ Below w.heap.size w w' := by
  have hl := Lib.hid h.1
  go_enter Try.func83, Try.ntmps83
  go_wp2_with fail
  go_loopw [5, 6] (fun v ti wr => ∃ j : Nat, j ≤ n ∧ ti = .int .i64 j ∧ objE.Own wr w.heap.size v (delO (l.take j) x) ∧ Below w.heap.size w wr) (fun _ ti _ => n - (intOf ti).toNat)
  case atStart => exact ⟨0, Nat.zero_le _, rfl, Owns.nil_, Below.refl _ _⟩
  case round =>
    obtain ⟨j, hj, rfl, hown, hbr⟩ := hrel
    obtain ⟨wp, rfl⟩ : ∃ x : World, x = wr := ⟨_, rfl⟩
    have hzr := hbr.size
    by_cases hlt : j < n
    · obtain ⟨b0, off, p, rfl, hb0, hp, q0, q1⟩ := (h.to hbr).ob hlt
      have ht := delO_take (n := x) hp
      have hle : (delO (l.take j) x).length ≤ 1000000000 := Nat.le_trans (delO_len _ _) (by simp; omega)
      replace hp := Lib.hid hp
      by_cases e1 : p.1 = x
      · have i1 := str_eq e1
        rw [if_pos e1, List.append_nil] at ht
        replace ht := Lib.hid ht
        replace e1 := Lib.hid e1
        go_wp2_with fail
        go_roundw
        case rel => exact ⟨j + 1, by omega, by go_num, by rw [ht.out]; exact hown, hbr⟩
        case measure => simp [intOf]; omega
      · have i1 := str_ne e1
        rw [if_neg e1] at ht
        replace ht := Lib.hid ht
        replace e1 := Lib.hid e1
        go_wp2_with (at_builtin; go_must (refine Elem.wpList_one objE rfl (.tmp 20) (.tmp 25) rfl (w.heap.size) _ (delO (l.take j) x) rfl _ _ p rfl (hown.alloc _) (fun j u hu => by rcases j with _ | _ | _ | j <;> simp [objE, obCells] at hu <;> subst hu <;> go_simp) (by first | omega | (simp; omega)) (by first | omega | (simp; try omega)) ?_); intro v4 w4 hown4 hg4 hat4)
        go_roundw
        case rel => exact ⟨j + 1, by omega, by go_num, by rw [ht.out]; exact hown4, Below.grownOwn (hbr.alloc hzr _) (hown.alloc _) (Nat.le_refl _) (by simp; omega) hg4⟩
        case measure => simp [intOf]; omega
    · obtain rfl : j = n := by omega
      have ht : l.take j = l := List.take_of_length_le (by have := hl.out; omega)
      rw [ht] at hown
      replace ht := Lib.hid ht
      obtain ⟨A9, m9, c9, rfl⟩ : ∃ A m c, u5 = .slice A m c := by obtain ⟨A, c, e⟩ := Owns.form hown; exact ⟨A, _, c, e⟩
      go_wp2_with fail
      go_ret
      exact ⟨_, rfl, hown, hbr⟩

/-- How many are ahead of it. -/
def atO : List Ob → ByteArray → Nat
  | [], _ => 0
  | p :: l, x => if sLt p.1 x = true then atO l x + 1 else 0
theorem atO_le : ∀ (l : List Ob) (x : ByteArray), atO l x ≤ l.length
  | [], _ => Nat.le_refl _
  | p :: l, x => by
    have := atO_le l x
    unfold atO
    split
    · simp; omega
    · omega
theorem insO_at (o : Ob) : ∀ l : List Ob, insO l o = l.take (atO l o.1) ++ [o] ++ l.drop (atO l o.1)
  | [] => rfl
  | p :: l => by
    unfold insO atO
    split
    · rw [insO_at o l]; simp
    · rfl
theorem atO_step : ∀ {l : List Ob} {x : ByteArray} {j : Nat} {p : Ob}, (∀ q ∈ l.take j, sLt q.1 x = true) → l[j]? = some p → sLt p.1 x = false → atO l x = j
  | q :: l, x, 0, p, _, h, hs => by
    simp at h
    subst h
    unfold atO
    rw [hs]
    rfl
  | q :: l, x, j + 1, p, hq, h, hs => by
    unfold atO
    rw [if_pos (hq q (by simp))]
    have := atO_step (l := l) (j := j) (fun y hy => hq y (by simp [hy])) (by simpa using h) hs
    omega
theorem atO_all : ∀ {l : List Ob} {x : ByteArray}, (∀ q ∈ l, sLt q.1 x = true) → atO l x = l.length
  | [], _, _ => rfl
  | q :: l, x, h => by
    unfold atO
    rw [if_pos (h q (by simp)), atO_all fun y hy => h y (by simp [hy])]
    rfl
end Go.Proofs.Ytfkonpmnclknaaa
