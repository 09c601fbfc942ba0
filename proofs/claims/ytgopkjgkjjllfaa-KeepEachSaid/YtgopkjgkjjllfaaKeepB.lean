/-
  The contract of keep.goes: what it hands back tells which snapshot goes.
-/
import Derived.Test.YtgopkjgkjjllfaaKeepA
namespace Go.Proofs.Ytgopkjgkjjllfaa
open Go.RowKit

theorem isFn_goes1 : IsFn 38 := fun args w => by go_simp
theorem goesFn_one (A : Option Addr) (n c : Nat) (l : List Snap) (w : World) (h : SnapsAt w w.heap.size A n l) (r : Rule) (b1 b2 : Nat)
    (h1 : w.cell? ⟨b1, 0, none⟩ = some (.slice A n c)) (h2 : w.cell? ⟨b2, 0, none⟩ = some (.int .i64 r.id)) (hb1 : b1 < w.heap.size) (hb2 : b2 < w.heap.size) (hr : 0 < r.id) :
    GoesFn w (.func (.func 38) #[] #[.pointer (some ⟨b1, 0, none⟩), .pointer (some ⟨b2, 0, none⟩)]) n (goesB l r) :=
  ⟨_, _, rfl, isFn_goes1, fun w1 hb i hi => (goes_one A n c l w1 ((h.below hb).more hb.size) r b1 b2 i hi ((hb.cell (p := ⟨b1, 0, none⟩) hb1).trans h1) ((hb.cell (p := ⟨b2, 0, none⟩) hb2).trans h2)).mono
    fun e w2 ⟨he, h'⟩ => ⟨by rw [he, goesB, if_pos hr], h'⟩⟩

theorem isFn_goes2 : IsFn 39 := fun args w => by go_simp
theorem goesFn_two (A : Option Addr) (n c : Nat) (l : List Snap) (w : World) (h : SnapsAt w w.heap.size A n l) (r : Rule) (b1 b2 : Nat)
    (h1 : w.cell? ⟨b1, 0, none⟩ = some (.slice A n c)) (h2 : w.cell? ⟨b2, 1, none⟩ = some (.int .i64 r.last)) (hb1 : b1 < w.heap.size) (hb2 : b2 < w.heap.size) (hr : ¬ 0 < r.id) (hr' : 0 < r.last) (hr2 : r.last ≤ 9223372036854775807) :
    GoesFn w (.func (.func 39) #[] #[.pointer (some ⟨b1, 0, none⟩), .pointer (some ⟨b2, 0, none⟩)]) n (goesB l r) :=
  ⟨_, _, rfl, isFn_goes2, fun w1 hb i hi => (goes_two A n c l w1 ((h.below hb).more hb.size) r b1 b2 i hi hr' hr2 ((hb.cell (p := ⟨b1, 0, none⟩) hb1).trans h1) ((hb.cell (p := ⟨b2, 1, none⟩) hb2).trans h2)).mono
    fun e w2 ⟨he, h'⟩ => ⟨by rw [he, goesB, if_neg hr, if_pos hr'], h'⟩⟩

theorem isFn_goes3 : IsFn 40 := fun args w => by go_simp
theorem goesFn_three (A : Option Addr) (n c : Nat) (l : List Snap) (w : World) (h : SnapsAt w w.heap.size A n l) (r : Rule) (b1 b2 b3 : Nat) (hy : 0 ≤ newestOf l) (hy' : newestOf l ≤ 9223372036854775807)
    (h1 : w.cell? ⟨b1, 0, none⟩ = some (.slice A n c)) (h2 : w.cell? ⟨b2, 0, none⟩ = some (.int .i64 (newestOf l))) (h3 : w.cell? ⟨b3, 2, none⟩ = some (.int .i64 r.within))
    (hb1 : b1 < w.heap.size) (hb2 : b2 < w.heap.size) (hb3 : b3 < w.heap.size) (hr : ¬ 0 < r.id) (hr' : ¬ 0 < r.last) (hr1 : 0 < r.within) (hr2 : r.within ≤ 9223372036854775807) :
    GoesFn w (.func (.func 40) #[] #[.pointer (some ⟨b1, 0, none⟩), .pointer (some ⟨b2, 0, none⟩), .pointer (some ⟨b3, 0, none⟩)]) n (goesB l r) :=
  ⟨_, _, rfl, isFn_goes3, fun w1 hb i hi => (goes_three A n c l w1 ((h.below hb).more hb.size) r b1 b2 b3 i hi hr1 hr2 (newestOf l) hy hy' ((hb.cell (p := ⟨b1, 0, none⟩) hb1).trans h1) ((hb.cell (p := ⟨b2, 0, none⟩) hb2).trans h2) ((hb.cell (p := ⟨b3, 2, none⟩) hb3).trans h3)).mono
    fun e w2 ⟨he, h'⟩ => ⟨by rw [he, goesB, if_neg hr, if_neg hr'], h'⟩⟩

theorem newest_le {l : List Snap} (h : ∀ s ∈ l, s.time ≤ 9223372036854775807) : ∀ y : Int, y ≤ 9223372036854775807 → l.foldl (fun m s => max m s.time) y ≤ 9223372036854775807 := by
  induction l with
  | nil => intro y hy; exact hy
  | cons s l ih => intro y hy; exact ih (fun s hs => h s (by simp [hs])) _ (by have := h s (by simp); show max y s.time ≤ _; omega)
theorem newest_ge (l : List Snap) : ∀ y : Int, y ≤ l.foldl (fun m s => max m s.time) y := by
  induction l with
  | nil => intro y; exact Int.le_refl _
  | cons s l ih => intro y; exact Int.le_trans (by omega) (ih (max y s.time))

set_option maxHeartbeats 400000 in
theorem keep_goes (A : Option Addr) (n c : Nat) (l : List Snap) (w : World) (h : SnapsAt w w.heap.size A n l) (ht : ∀ s ∈ l, s.time ≤ 9223372036854775807) (r : Rule) (hr : mayRule r = true) (h2 : r.last ≤ 9223372036854775807) (h3 : r.within ≤ 9223372036854775807) :
    Calls Try.prog 30 #[.slice A n c, r.agg] w fun e w' => ∃ v, e = .returned v ∧ GoesFn w' v n (goesB l r) ∧ Below w.heap.size w w' := by
  have hn := h.2.1
  have hy := newest_le ht 0 (by omega)
  have hy0 := newest_ge l 0
  change newestOf l ≤ _ at hy
  change 0 ≤ newestOf l at hy0
  obtain ⟨a, b, d⟩ := r
  simp only at h2 h3
  replace hr := Lib.hid hr
  unfold Rule.agg
  by_cases ha : 0 < a
  · go_enter Try.func30, Try.ntmps30
    go_wp2
    go_ret
    exact ⟨_, rfl, goesFn_one A n c l _ (h.to (by repeat (first | exact Below.refl _ _ | assumption | refine Below.drew ?_ | refine below_drewN ?_ _ | refine Below.alloc ?_ (by first | omega | (simp; try omega)) _ | refine Below.setCell ?_ (by first | omega | (simp; try omega)) _ | (refine Below.trans ?_ (Below.mono (by assumption) (by first | omega | (simp; try omega))))))) _ _ _ (by go_simp) (by go_simp) (by first | omega | (simp; try omega)) (by first | omega | (simp; try omega)) ha, (by repeat (first | exact Below.refl _ _ | assumption | refine Below.drew ?_ | refine below_drewN ?_ _ | refine Below.alloc ?_ (by first | omega | (simp; try omega)) _ | refine Below.setCell ?_ (by first | omega | (simp; try omega)) _ | (refine Below.trans ?_ (Below.mono (by assumption) (by first | omega | (simp; try omega))))))⟩
  · by_cases hb : 0 < b
    · go_enter Try.func30, Try.ntmps30
      go_wp2
      go_ret
      exact ⟨_, rfl, goesFn_two A n c l _ (h.to (by repeat (first | exact Below.refl _ _ | assumption | refine Below.drew ?_ | refine below_drewN ?_ _ | refine Below.alloc ?_ (by first | omega | (simp; try omega)) _ | refine Below.setCell ?_ (by first | omega | (simp; try omega)) _ | (refine Below.trans ?_ (Below.mono (by assumption) (by first | omega | (simp; try omega))))))) _ _ _ (by go_simp) (by go_simp) (by first | omega | (simp; try omega)) (by first | omega | (simp; try omega)) (by simp; omega) hb h2, (by repeat (first | exact Below.refl _ _ | assumption | refine Below.drew ?_ | refine below_drewN ?_ _ | refine Below.alloc ?_ (by first | omega | (simp; try omega)) _ | refine Below.setCell ?_ (by first | omega | (simp; try omega)) _ | (refine Below.trans ?_ (Below.mono (by assumption) (by first | omega | (simp; try omega))))))⟩
    · go_enter Try.func30, Try.ntmps30
      go_wp2
      go_loopw [20] (fun i wr => ∃ k : Nat, ∃ y : Int, k ≤ n ∧ i = .int .i64 k ∧ 0 ≤ y ∧ Hid (newestOf l = (l.drop k).foldl (fun m s => max m s.time) y) ∧ Below w.heap.size w wr ∧ w.heap.size < wr.heap.size ∧ w.heap.size + 1 < wr.heap.size ∧ w.heap.size + 1 + 1 < wr.heap.size ∧
        wr.cell? ⟨w.heap.size, 0, none⟩ = some (.slice A n c) ∧ wr.cell? ⟨w.heap.size + 1, 2, none⟩ = some (.int .i64 d) ∧ wr.cell? ⟨w.heap.size + 1 + 1, 0, none⟩ = some (.int .i64 y) ∧ wr.frozen? ⟨w.heap.size + 1 + 1, 0, none⟩ = false) (fun i _ => n - (intOf i).toNat)
      case atStart => exact ⟨0, 0, Nat.zero_le _, rfl, by omega, rfl, (by repeat (first | exact Below.refl _ _ | assumption | refine Below.drew ?_ | refine below_drewN ?_ _ | refine Below.alloc ?_ (by first | omega | (simp; try omega)) _ | refine Below.setCell ?_ (by first | omega | (simp; try omega)) _ | (refine Below.trans ?_ (Below.mono (by assumption) (by first | omega | (simp; try omega)))))), (by first | omega | (simp; try omega)), (by first | omega | (simp; try omega)), (by first | omega | (simp; try omega)), by go_simp, by go_simp, by go_simp, by go_simp⟩
      case round =>
        obtain ⟨k, y, hk, rfl, hy1, hr1, hbw, hs0, hs1, hs2, c0, c1, c2, f2⟩ := hrel
        by_cases hlt : k < n
        · obtain ⟨b, off, s, rfl, hb1, hx, q0, q1, q2⟩ := (h.below hbw).snap hlt
          have hd := Lib.hid (drop_cons hx)
          clear hx
          have e1 : Hid ((l.drop k).foldl (fun m s => max m s.time) y = (l.drop (k + 1)).foldl (fun m s => max m s.time) (max y s.time)) := by rw [Hid, hd.out]; rfl
          go_wp2
          have e2 : (if y < s.time then s.time else y) = max y s.time := by rw [Int.max_def]; split <;> split <;> omega
          go_roundw
          case rel => exact ⟨k + 1, (if y < s.time then s.time else y), by omega, by go_num, by (split <;> omega), (hr1.out.trans e1.out).trans (by rw [e2]), (by repeat (first | exact Below.refl _ _ | assumption | refine Below.drew ?_ | refine below_drewN ?_ _ | refine Below.alloc ?_ (by first | omega | (simp; try omega)) _ | refine Below.setCell ?_ (by first | omega | (simp; try omega)) _ | (refine Below.trans ?_ (Below.mono (by assumption) (by first | omega | (simp; try omega)))))), (by first | omega | (simp; try omega)), (by first | omega | (simp; try omega)), (by first | omega | (simp; try omega)), by go_simp, by go_simp, by go_simp, by go_simp⟩
          case measure => simp [intOf]; omega
        · go_wp2
          go_ret
          have e1 : newestOf l = y := by rw [hr1.out, List.drop_eq_nil_of_le (by have := h.1; omega)]; rfl
          exact ⟨_, rfl, goesFn_three A n c l _ (h.to hbw) _ _ _ _ hy0 hy c0 (by rw [e1]; exact c2) c1 (by omega) (by omega) (by omega) (by simp; omega) (by simp; omega) (by have := hr.out; simp [mayRule] at this; simp; omega) h3, hbw⟩
end Go.Proofs.Ytgopkjgkjjllfaa
