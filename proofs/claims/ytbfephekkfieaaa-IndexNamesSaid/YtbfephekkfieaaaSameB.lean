/-
  Which states are the same: the contracts of root.Same and of the reference's Same.
-/
import Derived.Test.YtbfephekkfieaaaSameA
namespace Go.Proofs.Ytbfephekkfieaaa
open Go.RowKit
attribute [local go_sem ↓] Go.wp_at_zero Go.wp_at_succ

instance : DecidableEq St := fun a b => decidable_of_iff (a.k = b.k ∧ a.n = b.n ∧ a.next = b.next ∧ a.sn = b.sn ∧ a.cs = b.cs ∧ a.ps = b.ps) (by cases a; cases b; simp)
def sameSt (s t : St) : Bool := decide (s = t)
theorem sameSt_self (s : St) : sameSt s s = true := by simp [sameSt]

theorem eqCode (a b a' b' : Int) (w : World) : (binOp .eql 24 (.agg #[.int .i64 a, .int .i64 b]) (.agg #[.int .i64 a', .int .i64 b'])).run Try.prog w = .ok (.bool (decide (a = a' ∧ b = b'))) w := by
  have u2 := Try.underlying3
  have hS : Try.prog.underlying 24 = some (.struct (Try.prog.fieldsOf 24)) := by kernel_rfl
  have hp : Try.prog.stoodInHeld 24 = false := by kernel_rfl
  rw [run_eql_struct, show (10000 : Nat) = 9999 + 1 from rfl, run_equalIn_agg w 9999 _ _ _ hS hp]
  simp only [Program.fieldsOf, Try.underlying24]
  go_simp
  by_cases h1 : a = a' <;> by_cases h2 : b = b' <;> simp [h1, h2]
theorem neqCode (a b a' b' : Int) (w : World) : (binOp .neq 24 (.agg #[.int .i64 a, .int .i64 b]) (.agg #[.int .i64 a', .int .i64 b'])).run Try.prog w = .ok (.bool (!decide (a = a' ∧ b = b'))) w := by
  have u2 := Try.underlying3
  have hS : Try.prog.underlying 24 = some (.struct (Try.prog.fieldsOf 24)) := by kernel_rfl
  have hp : Try.prog.stoodInHeld 24 = false := by kernel_rfl
  rw [run_neq_struct, show (10000 : Nat) = 9999 + 1 from rfl, run_equalIn_agg w 9999 _ _ _ hS hp]
  simp only [Program.fieldsOf, Try.underlying24]
  go_simp
  by_cases h1 : a = a' <;> by_cases h2 : b = b' <;> simp [h1, h2]

abbrev twoBox (w : World) (k n next : Int) (A1 : Option Addr) (n1 c1 : Nat) (A2 : Option Addr) (n2 c2 : Nat) (A3 : Option Addr) (n3 c3 : Nat) (k' n' next' : Int) (A1' : Option Addr) (n1' c1' : Nat) (A2' : Option Addr) (n2' c2' : Nat) (A3' : Option Addr) (n3' c3' : Nat) : World :=
  (w.alloc (stBox k n next A1 n1 c1 A2 n2 c2 A3 n3 c3)).alloc (stBox k' n' next' A1' n1' c1' A2' n2' c2' A3' n3' c3')
theorem two_cells {w wr : World} {k n next : Int} {A1 : Option Addr} {n1 c1 : Nat} {A2 : Option Addr} {n2 c2 : Nat} {A3 : Option Addr} {n3 c3 : Nat} {k' n' next' : Int} {A1' : Option Addr} {n1' c1' : Nat} {A2' : Option Addr} {n2' c2' : Nat} {A3' : Option Addr} {n3' c3' : Nat}
    (h : Below (w.heap.size + 2) (twoBox w k n next A1 n1 c1 A2 n2 c2 A3 n3 c3 k' n' next' A1' n1' c1' A2' n2' c2' A3' n3' c3') wr) :
    (wr.cell? ⟨w.heap.size, 0, none⟩ = some (.int .i64 k) ∧ wr.cell? ⟨w.heap.size, 1, none⟩ = some (.int .i64 n) ∧ wr.cell? ⟨w.heap.size, 2, none⟩ = some (.int .i64 next) ∧
    wr.cell? ⟨w.heap.size, 3, none⟩ = some (.slice A1 n1 c1) ∧ wr.cell? ⟨w.heap.size, 4, none⟩ = some (.slice A2 n2 c2) ∧ wr.cell? ⟨w.heap.size, 5, none⟩ = some (.slice A3 n3 c3)) ∧
    (wr.cell? ⟨w.heap.size + 1, 0, none⟩ = some (.int .i64 k') ∧ wr.cell? ⟨w.heap.size + 1, 1, none⟩ = some (.int .i64 n') ∧ wr.cell? ⟨w.heap.size + 1, 2, none⟩ = some (.int .i64 next') ∧
    wr.cell? ⟨w.heap.size + 1, 3, none⟩ = some (.slice A1' n1' c1') ∧ wr.cell? ⟨w.heap.size + 1, 4, none⟩ = some (.slice A2' n2' c2') ∧ wr.cell? ⟨w.heap.size + 1, 5, none⟩ = some (.slice A3' n3' c3')) ∧
    Below w.heap.size w wr ∧ w.heap.size + 2 ≤ wr.heap.size := by
  have h0 := h.size
  simp only [twoBox, World.size_alloc] at h0
  have h1 : Below (w.heap.size + 1) (w.alloc (stBox k n next A1 n1 c1 A2 n2 c2 A3 n3 c3)) wr := ((Below.refl _ _).alloc (by simp) _).trans (h.mono (by omega))
  have h2 := stBox_cells (w := w.alloc (stBox k n next A1 n1 c1 A2 n2 c2 A3 n3 c3)) (wr := wr) (k := k') (n := n') (next := next') (A1 := A1') (n1 := n1') (c1 := c1') (A2 := A2') (n2 := n2') (c2 := c2') (A3 := A3') (n3 := n3') (c3 := c3') (h.mono (by simp))
  simp only [World.size_alloc] at h2
  exact ⟨stBox_cells h1, h2, ((Below.refl _ _).alloc (Nat.le_refl _) _).trans (h1.mono (by omega)), h0⟩

set_option maxHeartbeats 4000000 in
theorem root_Same (v v' : Rws) (s s' : St) (w : World) (h : StAt w w.heap.size v s) (h' : StAt w w.heap.size v' s') :
    Calls Try.prog 11 #[v.val s, v'.val s'] w fun e w' => e = .returned (.bool (sameSt s s')) ∧ Below w.heap.size w w' := by
  have hsn : Hid (∀ W : World, Below w.heap.size w W → Calls Try.prog 31 #[.slice v.A1 v.n1 v.c1, .slice v'.A1 v'.n1 v'.c1] W fun e w' => e = .returned (.bool (sameL s.sn s'.sn)) ∧ Below W.heap.size W w') := fun W hb => snap_Same _ _ _ _ _ _ _ _ W (h.sn.to hb) (h'.sn.to hb)
  have hcs : Hid (∀ W : World, Below w.heap.size w W → Calls Try.prog 32 #[.slice v.A2 v.n2 v.c2, .slice v'.A2 v'.n2 v'.c2] W fun e w' => e = .returned (.bool (eqL s.cs s'.cs)) ∧ Below W.heap.size W w') := fun W hb => equal_strs _ _ _ _ _ _ _ _ W (h.cs.to hb) (h'.cs.to hb)
  have hps : Hid (∀ W : World, Below w.heap.size w W → Calls Try.prog 33 #[.slice v.A3 v.n3 v.c3, .slice v'.A3 v'.n3 v'.c3] W fun e w' => e = .returned (.bool (eqL s.ps s'.ps)) ∧ Below W.heap.size W w') := fun W hb => equal_places _ _ _ _ _ _ _ _ W (h.ps.to hb) (h'.ps.to hb)
  clear h h'
  obtain ⟨k, n, next, sn, cs, ps⟩ := s
  obtain ⟨A1, n1, c1, A2, n2, c2, A3, n3, c3⟩ := v
  obtain ⟨k', n', next', sn', cs', ps'⟩ := s'
  obtain ⟨A1', n1', c1', A2', n2', c2', A3', n3', c3'⟩ := v'
  dsimp only at hsn hcs hps
  unfold Rws.val stv
  dsimp only
  have ec := eqCode k n k' n'
  obtain ⟨r, hr⟩ : ∃ r, r = sameSt ⟨k, n, next, sn, cs, ps⟩ ⟨k', n', next', sn', cs', ps'⟩ := ⟨_, rfl⟩
  rw [← hr]
  by_cases g1 : k = k' ∧ n = n'
  · rw [decide_eq_true g1] at ec
    by_cases g2 : next = next'
    · have e2 : decide (next = next') = true := by simpa using g2
      have e2' : (next == next') = true := by simpa using g2
      replace hr : Hid (r = (decide (sn = sn') && decide (cs = cs') && decide (ps = ps'))) := by
        unfold Hid
        rw [hr, Bool.eq_iff_iff]
        simp [sameSt, g1, g2, and_assoc]
      replace g1 := Lib.hid g1
      replace g2 := Lib.hid g2
      go_enter Try.func11, Try.ntmps11
      go_wp2_with fail
      refine (hsn.out _ (by repeat (first | exact Below.refl _ _ | assumption | refine Below.drew ?_ | refine below_drewN ?_ _ | refine Below.alloc ?_ (by first | omega | (simp; try omega)) _ | refine Below.setCell ?_ (by first | omega | (simp; try omega)) _ | (refine Below.trans ?_ (Below.mono (by assumption) (by first | omega | (simp; try omega))))))).mono ?_
      by_cases g3 : sn = sn'
      · rw [show sameL sn sn' = true by simpa [sameL] using g3]
        replace hr : Hid (r = (decide (cs = cs') && decide (ps = ps'))) := by
          unfold Hid
          rw [hr.out]
          simp [g3]
        replace g3 := Lib.hid g3
        rintro e w1 ⟨rfl, hb1⟩
        have hz1 := hb1.size
        simp at hz1
        have e1 : Below (w.heap.size + 2) (twoBox w k n next A1 n1 c1 A2 n2 c2 A3 n3 c3 k' n' next' A1' n1' c1' A2' n2' c2' A3' n3' c3') w1 := hb1.mono (by simp)
        obtain ⟨⟨x0, x1, x2, x3, x4, x5⟩, ⟨y0, y1, y2, y3, y4, y5⟩, f1, -⟩ := two_cells e1
        go_wp2_with fail
        refine (hcs.out _ f1).mono ?_
        by_cases g4 : cs = cs'
        · rw [show eqL cs cs' = true by simpa [eqL] using g4]
          replace hr : Hid (r = eqL ps ps') := by
            unfold Hid
            rw [hr.out]
            simp [g4, eqL]
          replace g4 := Lib.hid g4
          rintro e w2 ⟨rfl, hb2⟩
          have hz2 := hb2.size
          have e2 := e1.trans (hb2.mono (by omega))
          clear x0 x1 x2 x3 x4 x5 y0 y1 y2 y3 y4 y5
          obtain ⟨⟨x0, x1, x2, x3, x4, x5⟩, ⟨y0, y1, y2, y3, y4, y5⟩, f2, -⟩ := two_cells e2
          go_wp2_with fail
          refine (hps.out _ f2).mono ?_
          rw [← hr.out]
          rintro e w3 ⟨rfl, hb3⟩
          go_wp2_with fail
          go_ret
          exact ⟨rfl, f2.trans (hb3.mono (by omega))⟩
        · rw [show eqL cs cs' = false by simpa [eqL] using g4]
          rintro e w2 ⟨rfl, hb2⟩
          go_wp2_with fail
          go_ret
          exact ⟨ret_bool (by rw [hr.out]; simp [g4]), f1.trans (hb2.mono (by omega))⟩
      · rw [show sameL sn sn' = false by simpa [sameL] using g3]
        rintro e w1 ⟨rfl, hb1⟩
        go_wp2_with fail
        go_ret
        exact ⟨ret_bool (by rw [hr.out]; simp [g3]), (by repeat (first | exact Below.refl _ _ | assumption | refine Below.drew ?_ | refine below_drewN ?_ _ | refine Below.alloc ?_ (by first | omega | (simp; try omega)) _ | refine Below.setCell ?_ (by first | omega | (simp; try omega)) _ | (refine Below.trans ?_ (Below.mono (by assumption) (by first | omega | (simp; try omega))))))⟩
    · have e2 : decide (next = next') = false := by simpa using g2
      have e2' : (next == next') = false := by simpa using g2
      have hrr : Hid (false = r) := by unfold Hid; rw [hr]; simp [sameSt, g2]
      replace g2 := Lib.hid g2
      clear hr
      go_enter Try.func11, Try.ntmps11
      go_wp2_with fail
      go_ret
      exact ⟨ret_bool hrr.out, (by repeat (first | exact Below.refl _ _ | assumption | refine Below.drew ?_ | refine below_drewN ?_ _ | refine Below.alloc ?_ (by first | omega | (simp; try omega)) _ | refine Below.setCell ?_ (by first | omega | (simp; try omega)) _ | (refine Below.trans ?_ (Below.mono (by assumption) (by first | omega | (simp; try omega))))))⟩
  · rw [decide_eq_false g1] at ec
    have hrr : Hid (false = r) := by
      unfold Hid
      rw [hr]
      simp only [sameSt, St.mk.injEq]
      symm
      rw [decide_eq_false_iff_not]
      exact fun h => g1 ⟨h.1, h.2.1⟩
    replace g1 := Lib.hid g1
    clear hr
    go_enter Try.func11, Try.ntmps11
    go_wp2_with fail
    go_ret
    exact ⟨ret_bool hrr.out, (by repeat (first | exact Below.refl _ _ | assumption | refine Below.drew ?_ | refine below_drewN ?_ _ | refine Below.alloc ?_ (by first | omega | (simp; try omega)) _ | refine Below.setCell ?_ (by first | omega | (simp; try omega)) _ | (refine Below.trans ?_ (Below.mono (by assumption) (by first | omega | (simp; try omega))))))⟩

set_option maxHeartbeats 8000000 in
theorem ref17_Same (v v' : Rws) (s s' : St) (w : World) (h : StAt w w.heap.size v s) (h' : StAt w w.heap.size v' s') :
    Calls Try.prog 10 #[v.val s, v'.val s'] w fun e w' => e = .returned (.bool (sameSt s s')) ∧ Below w.heap.size w w' := by
  obtain ⟨k, n, next, sn, cs, ps⟩ := s
  obtain ⟨A1, n1, c1, A2, n2, c2, A3, n3, c3⟩ := v
  obtain ⟨k', n', next', sn', cs', ps'⟩ := s'
  obtain ⟨A1', n1', c1', A2', n2', c2', A3', n3', c3'⟩ := v'
  obtain ⟨h1, h2, h3, -⟩ := h
  obtain ⟨h1', h2', h3', -⟩ := h'
  dsimp only at h1 h2 h3 h1' h2' h3'
  have l1 := Lib.hid h1.1
  have l2 := Lib.hid h2.1
  have l3 := Lib.hid h3.1
  have l1' := Lib.hid h1'.1
  have l2' := Lib.hid h2'.1
  have l3' := Lib.hid h3'.1
  have m1 := h1.2.1
  have m2 := h2.2.1
  have m3 := h3.2.1
  unfold Rws.val stv
  dsimp only
  have ec := neqCode k n k' n'
  obtain ⟨r, hr⟩ : ∃ r, r = sameSt ⟨k, n, next, sn, cs, ps⟩ ⟨k', n', next', sn', cs', ps'⟩ := ⟨_, rfl⟩
  rw [← hr]
  by_cases hall : (k = k' ∧ n = n') ∧ next = next' ∧ n1 = n1' ∧ n2 = n2' ∧ n3 = n3'
  · obtain ⟨g1, g2, g3, g4, g5⟩ := hall
    subst g3 g4 g5
    rw [decide_eq_true g1] at ec
    have e2 : (next != next') = false := by simpa using g2
    have b1 : ((n1 : Int) != (n1 : Int)) = false := by simp
    have b2 : ((n2 : Int) != (n2 : Int)) = false := by simp
    have b3 : ((n3 : Int) != (n3 : Int)) = false := by simp
    replace hr : Hid (r = (decide (sn = sn') && decide (cs = cs') && decide (ps = ps'))) := by
      unfold Hid
      rw [hr, Bool.eq_iff_iff]
      simp [sameSt, g1, g2, and_assoc]
    replace g1 := Lib.hid g1
    replace g2 := Lib.hid g2
    go_enter Try.func10, Try.ntmps10
    go_wp2_with fail
    go_loopw [5] (fun i wr => ∃ j : Nat, j ≤ n2 ∧ i = .int .i64 j ∧ Hid (cs.take j = cs'.take j) ∧ Below (w.heap.size + 2) (twoBox w k n next A1 n1 c1 A2 n2 c2 A3 n3 c3 k' n' next' A1' n1 c1' A2' n2 c2' A3' n3 c3') wr) (fun i _ => n2 - (intOf i).toNat)
    case atStart => exact ⟨0, Nat.zero_le _, rfl, rfl, Below.refl _ _⟩
    case round =>
      obtain ⟨j, hj, rfl, heq, hb⟩ := hrel
      obtain ⟨⟨x0, x1, x2, x3, x4, x5⟩, ⟨y0, y1, y2, y3, y4, y5⟩, f1, hz⟩ := two_cells hb
      have hl1 : w.heap.size < wr.heap.size := by omega
      have hl2 : w.heap.size + 1 < wr.heap.size := by omega
      by_cases hlt : j < n2
      · obtain ⟨b, off, c, rfl, hbb, hc, z0⟩ := (h2.to f1).str hlt
        obtain ⟨b', off', c', rfl, hbb', hc', z0'⟩ := (h2'.to f1).str hlt
        replace hc := Lib.hid hc
        replace hc' := Lib.hid hc'
        have hi1 : (j : Int) < (n2 : Int) := by omega
        by_cases hq : c = c'
        · have hs := str_eq hq
          have hnew := Lib.hid (take_step heq.out hc.out (hq ▸ hc'.out))
          replace hq := Lib.hid hq
          go_wp2_with fail
          go_quiet (fail)
          go_wp2_with fail
          go_roundw
          case rel => exact ⟨j + 1, by omega, by go_num, hnew, below_drewN hb _⟩
          case measure => simp [intOf]; omega
        · have hs := str_ne hq
          have hrr : Hid (false = r) := by
            unfold Hid
            rw [hr.out]
            have := eqL_no hc.out hc'.out hq
            simp only [eqL] at this
            rw [← this]
            simp
          replace hq := Lib.hid hq
          go_wp2_with fail
          go_quiet (fail)
          go_wp2_with fail
          go_ret
          exact ⟨ret_bool hrr.out, (by repeat (first | exact Below.refl _ _ | assumption | refine Below.drew ?_ | refine below_drewN ?_ _ | refine Below.alloc ?_ (by first | omega | (simp; try omega)) _ | refine Below.setCell ?_ (by first | omega | (simp; try omega)) _ | (refine Below.trans ?_ (Below.mono (by assumption) (by first | omega | (simp; try omega))))))⟩
      · obtain rfl : j = n2 := by omega
        have ecs : cs = cs' := by
          have := heq.out
          rwa [List.take_of_length_le (by rw [l2.out]; omega), List.take_of_length_le (by rw [l2'.out]; omega)] at this
        replace hr : Hid (r = (decide (sn = sn') && decide (ps = ps'))) := by
          unfold Hid
          rw [hr.out]
          simp [ecs]
        replace ecs := Lib.hid ecs
        go_wp2_with fail
        go_loopw [6] (fun i wr => ∃ q : Nat, q ≤ n3 ∧ i = .int .i64 q ∧ Hid (ps.take q = ps'.take q) ∧ Below (w.heap.size + 2) (twoBox w k n next A1 n1 c1 A2 j c2 A3 n3 c3 k' n' next' A1' n1 c1' A2' j c2' A3' n3 c3') wr) (fun i _ => n3 - (intOf i).toNat)
        case atStart => exact ⟨0, Nat.zero_le _, rfl, rfl, hb⟩
        case round =>
          clear x0 x1 x2 x3 x4 x5 y0 y1 y2 y3 y4 y5 heq hl1 hl2 f1 hb hz hlt
          obtain ⟨q, hq, rfl, heq, hb⟩ := hrel
          obtain ⟨⟨x0, x1, x2, x3, x4, x5⟩, ⟨y0, y1, y2, y3, y4, y5⟩, f1, hz⟩ := two_cells hb
          have hl1 : w.heap.size < wr.heap.size := by omega
          have hl2 : w.heap.size + 1 < wr.heap.size := by omega
          by_cases hlt : q < n3
          · obtain ⟨b, off, c, rfl, hbb, hc, z0, z1, z2⟩ := (h3.to f1).place hlt
            obtain ⟨b', off', c', rfl, hbb', hc', z0', z1', z2'⟩ := (h3'.to f1).place hlt
            have e := eqPlace c c'
            replace hc := Lib.hid hc
            replace hc' := Lib.hid hc'
            have hi1 : (q : Int) < (n3 : Int) := by omega
            by_cases hqq : c = c'
            · rw [decide_eq_false (by simpa using hqq)] at e
              have hnew := Lib.hid (take_step heq.out hc.out (hqq ▸ hc'.out))
              replace hqq := Lib.hid hqq
              go_wp2_with fail
              go_quiet (fail)
              go_wp2_with fail
              go_roundw
              case rel => exact ⟨q + 1, by omega, by go_num, hnew, below_drewN hb _⟩
              case measure => simp [intOf]; omega
            · rw [decide_eq_true (by simpa using hqq)] at e
              have hrr : Hid (false = r) := by
                unfold Hid
                rw [hr.out]
                have := eqL_no hc.out hc'.out hqq
                simp only [eqL] at this
                rw [← this]
                simp
              replace hqq := Lib.hid hqq
              go_wp2_with fail
              go_quiet (fail)
              go_wp2_with fail
              go_ret
              exact ⟨ret_bool hrr.out, (by repeat (first | exact Below.refl _ _ | assumption | refine Below.drew ?_ | refine below_drewN ?_ _ | refine Below.alloc ?_ (by first | omega | (simp; try omega)) _ | refine Below.setCell ?_ (by first | omega | (simp; try omega)) _ | (refine Below.trans ?_ (Below.mono (by assumption) (by first | omega | (simp; try omega))))))⟩
          · obtain rfl : q = n3 := by omega
            have eps : ps = ps' := by
              have := heq.out
              rwa [List.take_of_length_le (by rw [l3.out]; omega), List.take_of_length_le (by rw [l3'.out]; omega)] at this
            replace hr : Hid (r = decide (sn = sn')) := by
              unfold Hid
              rw [hr.out]
              simp [eps]
            replace eps := Lib.hid eps
            go_wp2_with fail
            go_loopw [7] (fun i wr => ∃ p : Nat, p ≤ n1 ∧ i = .int .i64 p ∧ Hid (sn.take p = sn'.take p) ∧ Below (w.heap.size + 2) (twoBox w k n next A1 n1 c1 A2 j c2 A3 q c3 k' n' next' A1' n1 c1' A2' j c2' A3' q c3') wr) (fun i _ => n1 - (intOf i).toNat)
            case atStart => exact ⟨0, Nat.zero_le _, rfl, rfl, hb⟩
            case round =>
              clear x0 x1 x2 x3 x4 x5 y0 y1 y2 y3 y4 y5 heq hl1 hl2 f1 hb hz hlt
              obtain ⟨p, hp, rfl, heq, hb⟩ := hrel
              obtain ⟨⟨x0, x1, x2, x3, x4, x5⟩, ⟨y0, y1, y2, y3, y4, y5⟩, f1, hz⟩ := two_cells hb
              have hl1 : w.heap.size < wr.heap.size := by omega
              have hl2 : w.heap.size + 1 < wr.heap.size := by omega
              by_cases hlt : p < n1
              · obtain ⟨b, off, c, rfl, hbb, hc, z0, z1, z2⟩ := (h1.to f1).snap hlt
                obtain ⟨b', off', c', rfl, hbb', hc', z0', z1', z2'⟩ := (h1'.to f1).snap hlt
                have e := eqSnap c c'
                replace hc := Lib.hid hc
                replace hc' := Lib.hid hc'
                have hi1 : (p : Int) < (n1 : Int) := by omega
                cases hqq : c.same c'
                · rw [hqq] at e
                  have hrr : Hid (false = r) := by
                    unfold Hid
                    rw [hr.out]
                    exact sameL_no hc.out hc'.out hqq
                  replace hqq := Lib.hid hqq
                  go_wp2_with fail
                  go_quiet (fail)
                  go_wp2_with fail
                  go_ret
                  exact ⟨ret_bool hrr.out, (by repeat (first | exact Below.refl _ _ | assumption | refine Below.drew ?_ | refine below_drewN ?_ _ | refine Below.alloc ?_ (by first | omega | (simp; try omega)) _ | refine Below.setCell ?_ (by first | omega | (simp; try omega)) _ | (refine Below.trans ?_ (Below.mono (by assumption) (by first | omega | (simp; try omega))))))⟩
                · rw [hqq] at e
                  have hnew := Lib.hid (take_step heq.out hc.out (Snap.same_iff.1 hqq ▸ hc'.out))
                  replace hqq := Lib.hid hqq
                  go_wp2_with fail
                  go_quiet (fail)
                  go_wp2_with fail
                  go_roundw
                  case rel => exact ⟨p + 1, by omega, by go_num, hnew, below_drewN hb _⟩
                  case measure => simp [intOf]; omega
              · obtain rfl : p = n1 := by omega
                have hrr : Hid (true = r) := by
                  unfold Hid
                  rw [hr.out]
                  exact sameL_yes l1.out l1'.out heq.out
                go_wp2_with fail
                go_ret
                exact ⟨ret_bool hrr.out, (by repeat (first | exact Below.refl _ _ | assumption | refine Below.drew ?_ | refine below_drewN ?_ _ | refine Below.alloc ?_ (by first | omega | (simp; try omega)) _ | refine Below.setCell ?_ (by first | omega | (simp; try omega)) _ | (refine Below.trans ?_ (Below.mono (by assumption) (by first | omega | (simp; try omega))))))⟩
  · have hrr : Hid (false = r) := by
      unfold Hid
      rw [hr]
      simp only [sameSt, St.mk.injEq]
      symm
      rw [decide_eq_false_iff_not]
      intro h
      exact hall ⟨⟨h.1, h.2.1⟩, h.2.2.1, by rw [← l1.out, ← l1'.out, h.2.2.2.1], by rw [← l2.out, ← l2'.out, h.2.2.2.2.1], by rw [← l3.out, ← l3'.out, h.2.2.2.2.2]⟩
    clear hr
    by_cases g1 : k = k' ∧ n = n'
    · rw [decide_eq_true g1] at ec
      by_cases g2 : next = next'
      · have e2 : (next != next') = false := by simpa using g2
        by_cases g3 : n1 = n1'
        · have b1 : ((n1 : Int) != (n1' : Int)) = false := by simp; omega
          by_cases g4 : n2 = n2'
          · have b2 : ((n2 : Int) != (n2' : Int)) = false := by simp; omega
            have b3 : ((n3 : Int) != (n3' : Int)) = true := by
              simp
              intro g5
              exact hall ⟨g1, g2, g3, g4, by omega⟩
            clear hall g1 g2 g3 g4
            go_enter Try.func10, Try.ntmps10
            go_wp2_with fail
            go_ret
            exact ⟨ret_bool hrr.out, (by repeat (first | exact Below.refl _ _ | assumption | refine Below.drew ?_ | refine below_drewN ?_ _ | refine Below.alloc ?_ (by first | omega | (simp; try omega)) _ | refine Below.setCell ?_ (by first | omega | (simp; try omega)) _ | (refine Below.trans ?_ (Below.mono (by assumption) (by first | omega | (simp; try omega))))))⟩
          · have b2 : ((n2 : Int) != (n2' : Int)) = true := by simp; omega
            clear hall g1 g2 g3 g4
            go_enter Try.func10, Try.ntmps10
            go_wp2_with fail
            go_ret
            exact ⟨ret_bool hrr.out, (by repeat (first | exact Below.refl _ _ | assumption | refine Below.drew ?_ | refine below_drewN ?_ _ | refine Below.alloc ?_ (by first | omega | (simp; try omega)) _ | refine Below.setCell ?_ (by first | omega | (simp; try omega)) _ | (refine Below.trans ?_ (Below.mono (by assumption) (by first | omega | (simp; try omega))))))⟩
        · have b1 : ((n1 : Int) != (n1' : Int)) = true := by simp; omega
          clear hall g1 g2 g3
          go_enter Try.func10, Try.ntmps10
          go_wp2_with fail
          go_ret
          exact ⟨ret_bool hrr.out, (by repeat (first | exact Below.refl _ _ | assumption | refine Below.drew ?_ | refine below_drewN ?_ _ | refine Below.alloc ?_ (by first | omega | (simp; try omega)) _ | refine Below.setCell ?_ (by first | omega | (simp; try omega)) _ | (refine Below.trans ?_ (Below.mono (by assumption) (by first | omega | (simp; try omega))))))⟩
      · have e2 : (next != next') = true := by simpa using g2
        clear hall g1 g2
        go_enter Try.func10, Try.ntmps10
        go_wp2_with fail
        go_ret
        exact ⟨ret_bool hrr.out, (by repeat (first | exact Below.refl _ _ | assumption | refine Below.drew ?_ | refine below_drewN ?_ _ | refine Below.alloc ?_ (by first | omega | (simp; try omega)) _ | refine Below.setCell ?_ (by first | omega | (simp; try omega)) _ | (refine Below.trans ?_ (Below.mono (by assumption) (by first | omega | (simp; try omega))))))⟩
    · rw [decide_eq_false g1] at ec
      clear hall g1
      go_enter Try.func10, Try.ntmps10
      go_wp2_with fail
      go_ret
      exact ⟨ret_bool hrr.out, (by repeat (first | exact Below.refl _ _ | assumption | refine Below.drew ?_ | refine below_drewN ?_ _ | refine Below.alloc ?_ (by first | omega | (simp; try omega)) _ | refine Below.setCell ?_ (by first | omega | (simp; try omega)) _ | (refine Below.trans ?_ (Below.mono (by assumption) (by first | omega | (simp; try omega))))))⟩
end Go.Proofs.Ytbfephekkfieaaa
