/-
  The contract of from; arguments that are slices of objects.
-/
import Derived.Test.YtcepdigeimedoaaLastsL
namespace Go.Proofs.Ytcepdigeimedoaa
open Go.ChangeShapes Go.WideShapes Go.ChangeAt Go.RowKit Go.Deep
attribute [local go_sem ↓] Go.wp_at_zero Go.wp_at_succ

set_option maxHeartbeats 8000000 in
set_option maxRecDepth 100000 in
theorem law07_from (p : Ob) (A : Option Addr) (n c : Nat) (was : List Ob) (A' : Option Addr) (n' c' : Nat) (l : List Actx) (w : World) (h : ObsAt w w.heap.size A n was) (h' : ActsAt w w.heap.size A' n' l) (hk : ∀ a ∈ l, 0 ≤ a.kind) (hp : FromOk p was l) :
    Calls Try.prog 24 #[.agg #[.string p.1, .string p.2], .slice A n c, .slice A' n' c'] w fun e w' => e = .returned (.bool true) ∧ Below w.heap.size w w' := by
  have hA : Below w.heap.size w (w.alloc (.cells #[.string p.1, .string p.2] 30)) := (Below.refl _ w).alloc (Nat.le_refl _) _
  have x0 : (w.alloc (.cells #[.string p.1, .string p.2] 30)).cell? ⟨w.heap.size, 0, none⟩ = some (.string p.1) := newCell _ _ _ _ _
  have x1 : (w.alloc (.cells #[.string p.1, .string p.2] 30)).cell? ⟨w.heap.size, 1, none⟩ = some (.string p.2) := newCell _ _ _ _ _
  have hz0 : (w.alloc (.cells #[.string p.1, .string p.2] 30)).heap.size = w.heap.size + 1 := by simp
  have r0 := h.to hA
  have r1 := h'.to hA
  have hl := Lib.hid h.1
  have hl' := Lib.hid h'.1
  have n9 := h.2.1
  have n9' := h'.2.1
  replace hk := Lib.hid hk
  replace hp := Lib.hid hp
  clear h h'
  go_enter Try.func24, Try.ntmps24
  go_upto_region 1 with fail
  generalize (w.alloc (.cells #[.string p.1, .string p.2] 30)) = w0 at hA x0 x1 hz0 r0 r1 ⊢
  go_wp2_with fail
  go_loopw [7] (fun ti wr => ∃ j : Nat, j ≤ n ∧ ti = .int .i64 j ∧ Hid (∀ q ∈ was.take j, q ≠ p) ∧ Below w0.heap.size w0 wr) (fun ti _ => n - (intOf ti).toNat)
  case atStart => exact ⟨0, Nat.zero_le _, rfl, by unfold Hid; simp, Below.refl _ _⟩
  case round =>
    obtain ⟨j, hj, rfl, hno, hbr⟩ := hrel
    obtain ⟨wp, rfl⟩ : ∃ x : World, x = wr := ⟨_, rfl⟩
    have hzp := hbr.size
    have y0 := (hbr.cell (p := ⟨w.heap.size, 0, none⟩) (by simp; omega)).trans x0
    have y1 := (hbr.cell (p := ⟨w.heap.size, 1, none⟩) (by simp; omega)).trans x1
    by_cases hlt : j < n
    · obtain ⟨b0, off, q, rfl, hb0, hq, q0, q1⟩ := (r0.to hbr).ob hlt
      by_cases e1 : q.1 = p.1
      · have i1 := str_eq e1
        by_cases e2 : q.2 = p.2
        · have i2 := str_eq e2
          replace e1 := Lib.hid e1
          replace e2 := Lib.hid e2
          replace hq := Lib.hid hq
          go_upto_region 4 with fail
          go_quiet (fail)
          have hbn : Below w0.heap.size w0 (wp.drewN nq) := below_drewN hbr nq
          go_wp2_with fail
          go_ret
          exact ⟨rfl, hA.trans (hbn.mono (by omega))⟩
        · have i2 := str_ne e2
          have hno2 : Hid (∀ y ∈ was.take (j + 1), y ≠ p) := fun y hy => by
            rw [List.take_add_one, hq] at hy
            rcases List.mem_append.1 hy with hy | hy
            · exact hno.out y hy
            · simp at hy; subst hy; exact fun e => e2 (by rw [e])
          replace e1 := Lib.hid e1
          replace e2 := Lib.hid e2
          replace hq := Lib.hid hq
          go_upto_region 4 with fail
          go_quiet (fail)
          have hbn : Below w0.heap.size w0 (wp.drewN nq) := below_drewN hbr nq
          go_wp2_with fail
          go_roundw
          case rel => exact ⟨j + 1, by omega, by go_num, hno2, hbn⟩
          case measure => simp [intOf]; omega
      · have i1 := str_ne e1
        have hno2 : Hid (∀ y ∈ was.take (j + 1), y ≠ p) := fun y hy => by
          rw [List.take_add_one, hq] at hy
          rcases List.mem_append.1 hy with hy | hy
          · exact hno.out y hy
          · simp at hy; subst hy; exact fun e => e1 (by rw [e])
        replace e1 := Lib.hid e1
        replace hq := Lib.hid hq
        go_upto_region 4 with fail
        go_quiet (fail)
        have hbn : Below w0.heap.size w0 (wp.drewN nq) := below_drewN hbr nq
        go_wp2_with fail
        go_roundw
        case rel => exact ⟨j + 1, by omega, by go_num, hno2, hbn⟩
        case measure => simp [intOf]; omega
    · obtain rfl : j = n := by omega
      have hex : Hid (∃ a ∈ l, a.kind % 2 = 0 ∧ a.name = p.1 ∧ p.2.size ≤ a.data.size ∧ a.data.extract 0 p.2.size = p.2) := by
        rcases hp.out with h1 | h1
        · exact absurd rfl (hno.out p (by rw [List.take_of_length_le (by have := hl.out; omega)]; exact h1))
        · exact h1
      have r1p := r1.to hbr
      have hbw : Below w.heap.size w wp := hA.trans (hbr.mono (by omega))
      clear hno hp
      go_wp2_with fail
      go_loopw [8, 9] (fun ti _ wr => ∃ k : Nat, k ≤ n' ∧ ti = .int .i64 k ∧ Hid (∀ a ∈ l.take k, ¬ (a.kind % 2 = 0 ∧ a.name = p.1 ∧ p.2.size ≤ a.data.size ∧ a.data.extract 0 p.2.size = p.2)) ∧ Below wp.heap.size wp wr) (fun ti _ _ => n' - (intOf ti).toNat)
      case atStart => exact ⟨0, Nat.zero_le _, rfl, by unfold Hid; simp, Below.refl _ _⟩
      case round =>
        obtain ⟨k, hkn, rfl, hno, hbq⟩ := hrel
        obtain ⟨wq, rfl⟩ : ∃ x : World, x = wr := ⟨_, rfl⟩
        have hzq := hbq.size
        by_cases hlt2 : k < n'
        · obtain ⟨b1, off1, a, rfl, hb1, ha, q0, q1, q2, _⟩ := (r1p.to hbq).act hlt2
          have ha0 := hk.out a (List.mem_of_getElem? ha)
          have hnext : ¬ (a.kind % 2 = 0 ∧ a.name = p.1 ∧ p.2.size ≤ a.data.size ∧ a.data.extract 0 p.2.size = p.2) → Hid (∀ y ∈ l.take (k + 1), ¬ (y.kind % 2 = 0 ∧ y.name = p.1 ∧ p.2.size ≤ y.data.size ∧ y.data.extract 0 p.2.size = p.2)) := fun hn y hy => by
            rw [List.take_add_one, ha] at hy
            rcases List.mem_append.1 hy with hy | hy
            · exact hno.out y hy
            · simp at hy; subst hy; exact hn
          replace ha := Lib.hid ha
          replace hnext := Lib.hid hnext
          have z0 := (hbq.cell (p := ⟨w.heap.size, 0, none⟩) (by simp; omega)).trans y0
          have z1 := (hbq.cell (p := ⟨w.heap.size, 1, none⟩) (by simp; omega)).trans y1
          go_upto_region 10 with fail
          have bA : Below wq.heap.size wq (wq.alloc (.cells #[.string a.name, .string a.data] 30)) := (Below.refl _ _).alloc (Nat.le_refl _) _
          have c0 : (wq.alloc (.cells #[.string a.name, .string a.data] 30)).cell? ⟨wq.heap.size, 0, none⟩ = some (.string a.name) := newCell _ _ _ _ _
          have c1 : (wq.alloc (.cells #[.string a.name, .string a.data] 30)).cell? ⟨wq.heap.size, 1, none⟩ = some (.string a.data) := newCell _ _ _ _ _
          have g0 := (bA.cell (p := ⟨w.heap.size, 0, none⟩) (by simp; omega)).trans z0
          have g1 := (bA.cell (p := ⟨w.heap.size, 1, none⟩) (by simp; omega)).trans z1
          have gk := (bA.cell (p := ⟨b1, off1 + k * 9, none⟩) hb1).trans q0
          have zA : (wq.alloc (.cells #[.string a.name, .string a.data] 30)).heap.size = wq.heap.size + 1 := by simp
          generalize (wq.alloc (.cells #[.string a.name, .string a.data] 30)) = wA at bA c0 c1 g0 g1 gk zA ⊢
          clear q0 q1 q2 z0 z1
          by_cases hkd : a.kind % 2 = 0
          · have hkv : Value.int .u8 (a.kind.tmod 2) = .int .u8 0 := by rw [Int.tmod_eq_emod_of_nonneg ha0, hkd]
            by_cases e1 : a.name = p.1
            · have i1 := str_eq e1
              by_cases e2 : p.2.size ≤ a.data.size
              · have i2 : (p.2.size : Int) ≤ (a.data.size : Int) := by omega
                by_cases e3 : a.data.extract 0 p.2.size = p.2
                · have i3 := str_eq e3
                  replace e1 := Lib.hid e1
                  replace e3 := Lib.hid e3
                  replace hkd := Lib.hid hkd
                  go_quiet (fail)
                  have hbn : Below wp.heap.size wp (wA.drewN nq) := below_drewN (hbq.trans (bA.mono hzq)) nq
                  go_wp2_with fail
                  go_ret
                  exact ⟨rfl, hbw.trans (hbn.mono hbw.size)⟩
                · have i3 := str_ne e3
                  have hn2 := hnext.out fun h => e3 h.2.2.2
                  replace e1 := Lib.hid e1
                  replace e3 := Lib.hid e3
                  replace hkd := Lib.hid hkd
                  go_quiet (fail)
                  have hbn : Below wp.heap.size wp (wA.drewN nq) := below_drewN (hbq.trans (bA.mono hzq)) nq
                  go_wp2_with fail
                  go_roundw
                  case rel => exact ⟨k + 1, by omega, by go_num, hn2, hbn⟩
                  case measure => simp [intOf]; omega
              · have i2 : ¬ (p.2.size : Int) ≤ (a.data.size : Int) := by omega
                have hn2 := hnext.out fun h => e2 h.2.2.1
                replace e1 := Lib.hid e1
                replace e2 := Lib.hid e2
                replace hkd := Lib.hid hkd
                go_quiet (fail)
                have hbn : Below wp.heap.size wp (wA.drewN nq) := below_drewN (hbq.trans (bA.mono hzq)) nq
                go_wp2_with fail
                go_roundw
                case rel => exact ⟨k + 1, by omega, by go_num, hn2, hbn⟩
                case measure => simp [intOf]; omega
            · have i1 := str_ne e1
              have hn2 := hnext.out fun h => e1 h.2.1
              replace e1 := Lib.hid e1
              replace hkd := Lib.hid hkd
              go_quiet (fail)
              have hbn : Below wp.heap.size wp (wA.drewN nq) := below_drewN (hbq.trans (bA.mono hzq)) nq
              go_wp2_with fail
              go_roundw
              case rel => exact ⟨k + 1, by omega, by go_num, hn2, hbn⟩
              case measure => simp [intOf]; omega
          · have hk1 : a.kind % 2 = 1 := by omega
            have hkv : Value.int .u8 (a.kind.tmod 2) = .int .u8 1 := by rw [Int.tmod_eq_emod_of_nonneg ha0, hk1]
            have hn2 := hnext.out fun h => hkd h.1
            replace hkd := Lib.hid hkd
            replace hk1 := Lib.hid hk1
            go_quiet (fail)
            have hbn : Below wp.heap.size wp (wA.drewN nq) := below_drewN (hbq.trans (bA.mono hzq)) nq
            go_wp2_with fail
            go_roundw
            case rel => exact ⟨k + 1, by omega, by go_num, hn2, hbn⟩
            case measure => simp [intOf]; omega
        · obtain rfl : k = n' := by omega
          exfalso
          obtain ⟨a, ha, hh⟩ := hex.out
          exact hno.out a (by rw [List.take_of_length_le (by have := hl'.out; omega)]; exact ha) hh
end Go.Proofs.Ytcepdigeimedoaa
