/-
  The contract of large of chapter 7.
-/
import Derived.Test.YtfkonpmnclknaaaActs
import Derived.Test.YtfkonpmnclknaaaObsL
namespace Go.Proofs.Ytfkonpmnclknaaa
open Go.RowKit
attribute [local go_sem ↓] Go.wp_at_zero Go.wp_at_succ

abbrev ActsAt := RowAt 9 Actx.cells
theorem RowAt.act {w : World} {B n : Nat} {A : Option Addr} {l : List Actx} (h : ActsAt w B A n l) {i : Nat} (hi : i < n) : ∃ b off x, A = some ⟨b, off, none⟩ ∧ b < B ∧ l[i]? = some x ∧
    w.cell? ⟨b, off + i * 9, none⟩ = some (.int .u8 x.kind) ∧ w.cell? ⟨b, off + i * 9 + 1, none⟩ = some (.string x.name) ∧ w.cell? ⟨b, off + i * 9 + 2, none⟩ = some (.string x.data) ∧ w.cell? ⟨b, off + i * 9 + 3, none⟩ = some (.slice x.kA x.kn x.kc) ∧
    w.cell? ⟨b, off + i * 9 + 4, none⟩ = some (.int .u8 x.f.kind) ∧ w.cell? ⟨b, off + i * 9 + 5, none⟩ = some (.int .i64 x.f.store) ∧ w.cell? ⟨b, off + i * 9 + 6, none⟩ = some (.int .i64 x.f.n) ∧ w.cell? ⟨b, off + i * 9 + 7, none⟩ = some (.int .i64 x.f.at_) ∧ w.cell? ⟨b, off + i * 9 + 8, none⟩ = some (.int .i64 x.f.c) := by
  obtain ⟨hl, _, hc⟩ := h
  obtain ⟨b, off, e, hb, hc⟩ := hc (by omega)
  have hx : l[i]? = some (l[i]'(by omega)) := List.getElem?_eq_getElem (by omega)
  exact ⟨b, off, _, e, hb, hx, hc i _ hx 0 _ rfl, hc i _ hx 1 _ rfl, hc i _ hx 2 _ rfl, hc i _ hx 3 _ rfl, hc i _ hx 4 _ rfl, hc i _ hx 5 _ rfl, hc i _ hx 6 _ rfl, hc i _ hx 7 _ rfl, hc i _ hx 8 _ rfl⟩

/-- Few acts, and small ones. -/
def Small (l : List Actx) : Prop := l.length ≤ 1000 ∧ ∀ a ∈ l, a.name.size ≤ 20000 ∧ a.data.size ≤ 20000 ∧ a.kn ≤ 20000

set_option maxHeartbeats 4000000 in
set_option maxRecDepth 100000 in
theorem law07_large (A : Option Addr) (n c : Nat) (l : List Actx) (w : World) (h : ActsAt w w.heap.size A n l) (hn : n ≤ reachBytes) (hf : ∀ a ∈ l, ActFit a) :
    Calls Try.prog 7 #[.slice A n c] w fun e w' => ((e = .returned (.bool false) ∧ Small l) ∨ e = .returned (.bool true)) ∧ Below w.heap.size w w' := by
  have hl := Lib.hid h.1
  have hn9 : n ≤ 140737488351232 := by simpa [reachBytes] using hn
  replace hf := Lib.hid hf
  clear hn
  go_enter Try.func7, Try.ntmps7
  go_wp2_with fail
  go_loopw [3, 4] (fun s i wr => ∃ j u : Nat, j ≤ n ∧ i = .int .i64 j ∧ s = .int .i64 u ∧ u ≤ 900000000000000 ∧ 20 * j ≤ u ∧ Hid (∀ a ∈ l.take j, a.name.size ≤ u ∧ a.data.size ≤ u ∧ a.kn ≤ u) ∧ Below w.heap.size w wr) (fun _ i _ => n - (intOf i).toNat)
  case atStart => exact ⟨0, 0, Nat.zero_le _, rfl, rfl, by omega, by omega, by unfold Hid; simp, Below.refl _ _⟩
  case round =>
    obtain ⟨j, u, hj, rfl, rfl, hu, hju, hall, hbr⟩ := hrel
    obtain ⟨wp, rfl⟩ : ∃ x : World, x = wr := ⟨_, rfl⟩
    by_cases hlt : j < n
    · by_cases hbig : u < 20000
      · obtain ⟨b0, off, x, rfl, hb0, hx, q0, q1, q2, q3, q4, q5, q6, q7, q8⟩ := (h.to hbr).act hlt
        have hfx := hf.out x (List.mem_of_getElem? hx)
        have g1 : x.name.size ≤ 140737488351232 := by simpa [reachBytes] using hfx.1
        have g2 : x.data.size ≤ 140737488351232 := by simpa [reachBytes] using hfx.2.1
        have g3 : x.kn ≤ 140737488351232 := by simpa [reachBytes] using hfx.2.2
        have hall2 : Hid (∀ a ∈ l.take (j + 1), a.name.size ≤ u + 20 + x.data.size + x.name.size + x.kn ∧ a.data.size ≤ u + 20 + x.data.size + x.name.size + x.kn ∧ a.kn ≤ u + 20 + x.data.size + x.name.size + x.kn) := by
          unfold Hid
          intro a ha
          rw [List.take_add_one, hx] at ha
          rcases List.mem_append.1 ha with ha | ha
          · have := hall.out a ha; omega
          · simp at ha; subst ha; omega
        replace hx := Lib.hid hx
        replace hfx := Lib.hid hfx
        clear hall
        go_wp2_with fail
        go_quiet (fail)
        go_wp2_with fail
        go_roundw
        case rel => exact ⟨j + 1, u + 20 + x.data.size + x.name.size + x.kn, by omega, by go_num, by go_num, by omega, by omega, hall2, (by repeat (first | exact Below.refl _ _ | assumption | refine Below.drew ?_ | refine below_drewN ?_ _ | refine Below.alloc ?_ (by first | omega | (simp; try omega)) _ | refine Below.setCell ?_ (by first | omega | (simp; try omega)) _ | (refine Below.trans ?_ (Below.mono (by assumption) (by first | omega | (simp; try omega))))))⟩
        case measure => simp [intOf]; omega
      · have hbig2 : ¬ ((u : Int) < 20000) := by omega
        have hbig3 : (20000 : Int) ≤ (u : Int) := by omega
        go_wp2_with fail
        go_ret
        exact ⟨.inr rfl, hbr⟩
    · obtain rfl : j = n := by omega
      have hle : l.take j = l := List.take_of_length_le (by have := hl.out; omega)
      by_cases hbig : u < 20000
      · have hsm : Hid (Small l) := by
          refine ⟨by have := hl.out; omega, fun a ha => ?_⟩
          have := hall.out a (by rw [hle]; exact ha)
          omega
        have hbig3 : ¬ (20000 : Int) ≤ (u : Int) := by omega
        replace hle := Lib.hid hle
        clear hall
        go_wp2_with fail
        go_ret
        exact ⟨.inl ⟨rfl, hsm.out⟩, hbr⟩
      · have hbig3 : (20000 : Int) ≤ (u : Int) := by omega
        replace hle := Lib.hid hle
        clear hall
        go_wp2_with fail
        go_ret
        exact ⟨.inr rfl, hbr⟩

set_option maxHeartbeats 4000000 in
theorem ref07_SameObjects (A : Option Addr) (n c : Nat) (A' : Option Addr) (n' c' : Nat) (l : List Ob) (w : World) (h : ObsAt w w.heap.size A n l) (h' : ObsAt w w.heap.size A' n' l) :
    Calls Try.prog 60 #[.slice A n c, .slice A' n' c'] w fun e w' => e = .returned (.bool true) ∧ Below w.heap.size w w' := by
  obtain rfl : n = n' := by rw [← h.1, ← h'.1]
  have hn9 := h.2.1
  go_enter Try.func60, Try.ntmps60
  go_wp2_with fail
  go_loopw [5] (fun i wr => ∃ j : Nat, j ≤ n ∧ i = .int .i64 j ∧ Below w.heap.size w wr) (fun i _ => n - (intOf i).toNat)
  case atStart => exact ⟨0, Nat.zero_le _, rfl, Below.refl _ _⟩
  case round =>
    obtain ⟨j, hj, rfl, hbr⟩ := hrel
    obtain ⟨wp, rfl⟩ : ∃ x : World, x = wr := ⟨_, rfl⟩
    by_cases hlt : j < n
    · obtain ⟨b0, off, p, rfl, hb0, hx, q0, q1⟩ := (h.to hbr).ob hlt
      obtain ⟨b1, off1, p1, rfl, hb1, hx1, r0, r1⟩ := (h'.to hbr).ob hlt
      obtain rfl : p = p1 := by rw [hx] at hx1; exact Option.some.inj hx1
      have e0 : (p.1.toList == p.1.toList) = true := by simp
      have e1 : (p.2.toList == p.2.toList) = true := by simp
      replace hx := Lib.hid hx
      replace hx1 := Lib.hid hx1
      go_wp2_with fail
      go_quiet (fail)
      go_wp2_with fail
      go_roundw
      case rel => exact ⟨j + 1, by omega, by go_num, (by repeat (first | exact Below.refl _ _ | assumption | refine Below.drew ?_ | refine below_drewN ?_ _ | refine Below.alloc ?_ (by first | omega | (simp; try omega)) _ | refine Below.setCell ?_ (by first | omega | (simp; try omega)) _ | (refine Below.trans ?_ (Below.mono (by assumption) (by first | omega | (simp; try omega))))))⟩
      case measure => simp [intOf]; omega
    · obtain rfl : j = n := by omega
      go_wp2_with fail
      go_ret
      exact ⟨rfl, hbr⟩
end Go.Proofs.Ytfkonpmnclknaaa
