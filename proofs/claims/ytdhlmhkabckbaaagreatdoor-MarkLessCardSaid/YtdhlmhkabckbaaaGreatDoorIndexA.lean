/-
  Which states may be, as index sees it: the contracts of the reference's common, of index.May and of the reference's May.
-/
import Derived.Test.YtdhlmhkabckbaaaGreatDoorPlaceE
namespace Go.Proofs.YtdhlmhkabckbaaaGreatDoor
open Go.RowKit
attribute [local go_sem ↓] Go.wp_at_zero Go.wp_at_succ

def PlaceOk (p : Place) : Prop := -9223372036854775808 ≤ p.at_ ∧ p.at_ ≤ 9223372036854775807 ∧ -9223372036854775808 ≤ p.len ∧ p.len ≤ 9223372036854775807

theorem clash_free_step {l : List Place} {k : Nat} {p : Place} (h : ∀ i j a b, i < j → j < k → l[i]? = some a → l[j]? = some b → clash b a = false) (hp : l[k]? = some p) (hn : ∀ i a, i < k → l[i]? = some a → clash p a = false) :
    ∀ i j a b, i < j → j < k + 1 → l[i]? = some a → l[j]? = some b → clash b a = false := by
  intro i j a b hij hj ha hb
  rcases Nat.lt_or_ge j k with h1 | h1
  · exact h i j a b hij h1 ha hb
  · have : j = k := by omega
    subst this
    rw [hb] at hp
    injection hp with hp
    subst hp
    exact hn i a hij ha
theorem clash_free_all {l : List Place} (h : ∀ i j a b, i < j → j < l.length → l[i]? = some a → l[j]? = some b → clash b a = false) : apartB l = true := by
  rw [apartB_iff, List.pairwise_iff_getElem]
  intro i j hi hj hij
  rw [clash_symm]
  exact h i j _ _ hij hj (List.getElem?_eq_getElem hi) (List.getElem?_eq_getElem hj)

def prevOk : Option ByteArray → ByteArray → Bool
  | none, _ => true
  | some b, c => sLt b c
/-- Chunks and places from one on. -/
def chk : Option ByteArray → List ByteArray → List Place → Bool
  | _, [], _ => true
  | _, _ :: _, [] => false
  | prev, c :: cs, p :: ps => decide (c.size = 32) && prevOk prev c && mayPlace p && chk (some c) cs ps
def mayIdx (cs : List ByteArray) (ps : List Place) : Bool := decide (cs.length = ps.length) && decide (cs.length ≤ 400) && chk none cs ps && apartB ps
def prevOf (cs : List ByteArray) (k : Nat) : Option ByteArray := if k = 0 then none else cs[k - 1]?
theorem chk_places : ∀ {cs : List ByteArray} {ps : List Place} {prev : Option ByteArray}, chk prev cs ps = true → cs.length = ps.length → ∀ p ∈ ps, mayPlace p = true
  | [], [], _, _, _ => by simp
  | [], p :: ps, _, _, h => by simp at h
  | c :: cs, [], _, h, _ => by simp [chk] at h
  | c :: cs, p :: ps, prev, h, hl => by
    simp [chk] at h hl
    intro q hq
    simp at hq
    rcases hq with rfl | hq
    · exact h.1.2
    · exact chk_places h.2 hl q hq

theorem chk_no {cs : List ByteArray} {ps : List Place} {k : Nat} {c : ByteArray} {p : Place} (hc : cs[k]? = some c) (hp : ps[k]? = some p) (h : c.size ≠ 32 ∨ (0 < k ∧ ∃ b, cs[k - 1]? = some b ∧ sLt b c = false) ∨ mayPlace p = false) :
    chk (prevOf cs k) (cs.drop k) (ps.drop k) = false := by
  obtain ⟨h1, rfl⟩ := List.getElem?_eq_some_iff.1 hc
  obtain ⟨h2, rfl⟩ := List.getElem?_eq_some_iff.1 hp
  rw [List.drop_eq_getElem_cons h1, List.drop_eq_getElem_cons h2, chk]
  rcases h with h | ⟨h0, b, hb, h⟩ | h
  · simp [h]
  · simp [prevOf, prevOk, Nat.ne_of_gt h0, hb, h]
  · simp [h]
theorem chk_yes {cs : List ByteArray} {ps : List Place} {k : Nat} {c : ByteArray} {p : Place} (hc : cs[k]? = some c) (hp : ps[k]? = some p) (h1 : c.size = 32) (h2 : 0 < k → ∃ b, cs[k - 1]? = some b ∧ sLt b c = true) (h3 : mayPlace p = true) :
    chk (prevOf cs k) (cs.drop k) (ps.drop k) = chk (prevOf cs (k + 1)) (cs.drop (k + 1)) (ps.drop (k + 1)) := by
  have hn : prevOf cs (k + 1) = some c := by simp [prevOf, hc]
  obtain ⟨g1, rfl⟩ := List.getElem?_eq_some_iff.1 hc
  obtain ⟨g2, rfl⟩ := List.getElem?_eq_some_iff.1 hp
  rw [hn, List.drop_eq_getElem_cons g1, List.drop_eq_getElem_cons g2, chk]
  by_cases h0 : k = 0
  · subst h0
    simp [prevOf, prevOk, h1, h3]
  · obtain ⟨b, hb, hl⟩ := h2 (by omega)
    simp [prevOf, prevOk, h0, hb, h1, h3, hl]
theorem chk_end {cs : List ByteArray} {ps : List Place} {k : Nat} (h : k = cs.length) : chk (prevOf cs k) (cs.drop k) (ps.drop k) = true := by
  subst h
  simp [chk]

abbrev stv (k n next : Int) (A1 : Option Addr) (n1 c1 : Nat) (A2 : Option Addr) (n2 c2 : Nat) (A3 : Option Addr) (n3 c3 : Nat) : Value :=
  .agg #[.int .i64 k, .int .i64 n, .int .i64 next, .slice A1 n1 c1, .slice A2 n2 c2, .slice A3 n3 c3]

abbrev stBox (k n next : Int) (A1 : Option Addr) (n1 c1 : Nat) (A2 : Option Addr) (n2 c2 : Nat) (A3 : Option Addr) (n3 c3 : Nat) : Obj :=
  .cells #[.int .i64 k, .int .i64 n, .int .i64 next, .slice A1 n1 c1, .slice A2 n2 c2, .slice A3 n3 c3] 57
theorem stBox_cells {k n next : Int} {A1 : Option Addr} {n1 c1 : Nat} {A2 : Option Addr} {n2 c2 : Nat} {A3 : Option Addr} {n3 c3 : Nat} {w wr : World} (h : Below (w.heap.size + 1) (w.alloc (stBox k n next A1 n1 c1 A2 n2 c2 A3 n3 c3)) wr) :
    wr.cell? ⟨w.heap.size, 0, none⟩ = some (.int .i64 k) ∧ wr.cell? ⟨w.heap.size, 1, none⟩ = some (.int .i64 n) ∧ wr.cell? ⟨w.heap.size, 2, none⟩ = some (.int .i64 next) ∧
    wr.cell? ⟨w.heap.size, 3, none⟩ = some (.slice A1 n1 c1) ∧ wr.cell? ⟨w.heap.size, 4, none⟩ = some (.slice A2 n2 c2) ∧ wr.cell? ⟨w.heap.size, 5, none⟩ = some (.slice A3 n3 c3) := by
  refine ⟨?_, ?_, ?_, ?_, ?_, ?_⟩ <;> (rw [h.cell (by simp)]; go_simp)

set_option maxHeartbeats 4000000 in
theorem index_May (k n next : Int) (A1 : Option Addr) (n1 c1 : Nat) (A2 : Option Addr) (n2 c2 : Nat) (A3 : Option Addr) (n3 c3 : Nat) (cs : List ByteArray) (ps : List Place) (w : World)
    (h2 : StrsAt w w.heap.size A2 n2 cs) (h3 : PlacesAt w w.heap.size A3 n3 ps) (hok : ∀ p ∈ ps, PlaceOk p) :
    Calls Tryz.prog 99 #[stv k n next A1 n1 c1 A2 n2 c2 A3 n3 c3] w fun e w' => e = .returned (.bool (mayIdx cs ps)) ∧ Below w.heap.size w w' := by
  have b2 := h2.2.1
  have b3 := h3.2.1
  have l2 := Lib.hid h2.1
  have l3 := Lib.hid h3.1
  unfold stv
  by_cases hlen : n2 = n3
  · by_cases h400 : n2 ≤ 400
    · subst hlen
      have hg1 : ((n2 : Int) != (n2 : Int)) = false := by simp
      have hg2 : decide (400 < n2) = false := by simp; omega
      have hmi : Hid (mayIdx cs ps = (chk none cs ps && apartB ps)) := by
        unfold Hid mayIdx
        rw [l2.out, l3.out]
        simp [h400]
      replace hok := Lib.hid hok
      go_enter Tryz.func99, Tryz.ntmps99
      go_wp2_with fail
      go_loopw [3, 4, 21] (fun _ _ i wr => ∃ j : Nat, j ≤ n2 ∧ i = .int .i64 j ∧ Hid (chk none cs ps = chk (prevOf cs j) (cs.drop j) (ps.drop j)) ∧ Below (w.heap.size + 1) (w.alloc (stBox k n next A1 n1 c1 A2 n2 c2 A3 n2 c3)) wr) (fun _ _ i _ => n2 - (intOf i).toNat)
      case atStart => exact ⟨0, Nat.zero_le _, rfl, rfl, Below.refl _ _⟩
      case round =>
        obtain ⟨j, hk, rfl, hres, hbb⟩ := hrel
        obtain ⟨x0, x1, x2, x3, x4, x5⟩ := stBox_cells hbb
        have hbr : Below w.heap.size w wr := (Below.alloc (Below.refl _ _) (by omega) _).trans (hbb.mono (by omega))
        have hzr := hbr.size
        have hzs : w.heap.size + 1 ≤ wr.heap.size := by simpa using hbb.size
        by_cases hlt : j < n2
        · obtain ⟨b, off, p, rfl, hb, hp, p0, p1, p2⟩ := (h3.to hbr).place hlt
          obtain ⟨b', off', c, rfl, hb', hc, y0⟩ := (h2.to hbr).str hlt
          have hpok := hok.out p (List.mem_of_getElem? hp)
          replace hc := Lib.hid hc
          replace hp := Lib.hid hp
          by_cases hsz : c.size = 32
          · have hgs : ((c.size : Int) != 32) = false := by simp; omega
            by_cases h0 : j = 0
            · have g0 : decide (0 < j) = false := by simp; omega
              have g0' : decide ((0 : Int) < (j : Int)) = false := by simp; omega
              have hprev : Hid (0 < j → ∃ b, cs[j - 1]? = some b ∧ sLt b c = true) := fun h => absurd h (by omega)
              replace h0 := Lib.hid h0
              go_wp2_with fail
              refine (index_mayPlace p _ hpok).mono ?_
              rintro e w1 ⟨rfl, hb1⟩
              have hz1 := hb1.size
              by_cases hm : mayPlace p = true
              · rw [hm]
                have hyes : Hid (chk none cs ps = chk (prevOf cs (j + 1)) (cs.drop (j + 1)) (ps.drop (j + 1))) := by
                  unfold Hid
                  rw [hres.out, chk_yes hc.out hp.out hsz hprev.out hm]
                replace hm := Lib.hid hm
                go_wp2_with fail
                go_roundw
                case rel => exact ⟨j + 1, by omega, by go_num, hyes, (by repeat (first | exact Below.refl _ _ | assumption | refine Below.drew ?_ | refine below_drewN ?_ _ | refine Below.alloc ?_ (by first | omega | (simp; try omega)) _ | refine Below.setCell ?_ (by first | omega | (simp; try omega)) _ | (refine Below.trans ?_ (Below.mono (by assumption) (by first | omega | (simp; try omega))))))⟩
                case measure => simp [intOf]; omega
              · replace hm : mayPlace p = false := by simpa using hm
                have hno : Hid (mayIdx cs ps = false) := by
                  unfold Hid
                  rw [hmi.out, hres.out, chk_no hc.out hp.out (.inr (.inr hm)), Bool.false_and]
                rw [hm]
                replace hm := Lib.hid hm
                go_wp2_with fail
                go_ret
                exact ⟨ret_bool hno.out.symm, (by repeat (first | exact Below.refl _ _ | assumption | refine Below.drew ?_ | refine below_drewN ?_ _ | refine Below.alloc ?_ (by first | omega | (simp; try omega)) _ | refine Below.setCell ?_ (by first | omega | (simp; try omega)) _ | (refine Below.trans ?_ (Below.mono (by assumption) (by first | omega | (simp; try omega))))))⟩
            · have g0 : decide (0 < j) = true := by simp; omega
              have g0' : decide ((0 : Int) < (j : Int)) = true := by simp; omega
              have hi0 : (0 : Int) ≤ (j : Int) - 1 := by omega
              have hi1 : (j : Int) - 1 < (n2 : Int) := by omega
              obtain ⟨q, hq⟩ := getElem_some (l := cs) (i := j - 1) (by have := l2.out; omega)
              have y1 := (h2.to hbr).strAt hq
              replace hq := Lib.hid hq
              by_cases hcmp : sLt q c = true
              · have hprev : Hid (0 < j → ∃ b, cs[j - 1]? = some b ∧ sLt b c = true) := fun h => ⟨q, hq.out, hcmp⟩
                have hcmp' : Op.bytesLess q.toList c.toList = true := hcmp
                go_wp2_with fail
                refine (index_mayPlace p _ hpok).mono ?_
                rintro e w1 ⟨rfl, hb1⟩
                have hz1 := hb1.size
                by_cases hm : mayPlace p = true
                · rw [hm]
                  have hyes : Hid (chk none cs ps = chk (prevOf cs (j + 1)) (cs.drop (j + 1)) (ps.drop (j + 1))) := by
                    unfold Hid
                    rw [hres.out, chk_yes hc.out hp.out hsz hprev.out hm]
                  replace hm := Lib.hid hm
                  go_wp2_with fail
                  go_roundw
                  case rel => exact ⟨j + 1, by omega, by go_num, hyes, (by repeat (first | exact Below.refl _ _ | assumption | refine Below.drew ?_ | refine below_drewN ?_ _ | refine Below.alloc ?_ (by first | omega | (simp; try omega)) _ | refine Below.setCell ?_ (by first | omega | (simp; try omega)) _ | (refine Below.trans ?_ (Below.mono (by assumption) (by first | omega | (simp; try omega))))))⟩
                  case measure => simp [intOf]; omega
                · replace hm : mayPlace p = false := by simpa using hm
                  have hno : Hid (mayIdx cs ps = false) := by
                    unfold Hid
                    rw [hmi.out, hres.out, chk_no hc.out hp.out (.inr (.inr hm)), Bool.false_and]
                  rw [hm]
                  replace hm := Lib.hid hm
                  go_wp2_with fail
                  go_ret
                  exact ⟨ret_bool hno.out.symm, (by repeat (first | exact Below.refl _ _ | assumption | refine Below.drew ?_ | refine below_drewN ?_ _ | refine Below.alloc ?_ (by first | omega | (simp; try omega)) _ | refine Below.setCell ?_ (by first | omega | (simp; try omega)) _ | (refine Below.trans ?_ (Below.mono (by assumption) (by first | omega | (simp; try omega))))))⟩
              · replace hcmp : sLt q c = false := by simpa using hcmp
                have hno : Hid (mayIdx cs ps = false) := by
                  unfold Hid
                  rw [hmi.out, hres.out, chk_no hc.out hp.out (.inr (.inl ⟨by omega, q, hq.out, hcmp⟩)), Bool.false_and]
                have hcmp' : Op.bytesLess q.toList c.toList = false := hcmp
                go_wp2_with fail
                go_ret
                exact ⟨ret_bool hno.out.symm, (by repeat (first | exact Below.refl _ _ | assumption | refine Below.drew ?_ | refine below_drewN ?_ _ | refine Below.alloc ?_ (by first | omega | (simp; try omega)) _ | refine Below.setCell ?_ (by first | omega | (simp; try omega)) _ | (refine Below.trans ?_ (Below.mono (by assumption) (by first | omega | (simp; try omega))))))⟩
          · have hgs : ((c.size : Int) != 32) = true := by simp; omega
            have hno : Hid (mayIdx cs ps = false) := by
              unfold Hid
              rw [hmi.out, hres.out, chk_no hc.out hp.out (.inl hsz), Bool.false_and]
            go_wp2_with fail
            go_ret
            exact ⟨ret_bool hno.out.symm, (by repeat (first | exact Below.refl _ _ | assumption | refine Below.drew ?_ | refine below_drewN ?_ _ | refine Below.alloc ?_ (by first | omega | (simp; try omega)) _ | refine Below.setCell ?_ (by first | omega | (simp; try omega)) _ | (refine Below.trans ?_ (Below.mono (by assumption) (by first | omega | (simp; try omega))))))⟩
        · obtain rfl : j = n2 := by omega
          have hyes : Hid (chk none cs ps = true) := by
            unfold Hid
            rw [hres.out]
            exact chk_end l2.out.symm
          go_wp2_with fail
          refine (index_apart A3 _ c3 ps wr (h3.to hbr) (by omega) (chk_places hyes.out (by rw [l2.out, l3.out]))).mono ?_
          rintro e w1 ⟨rfl, hb1⟩
          go_wp2_with fail
          go_ret
          exact ⟨ret_bool (by rw [hmi.out, hyes.out, Bool.true_and]), (by repeat (first | exact Below.refl _ _ | assumption | refine Below.drew ?_ | refine below_drewN ?_ _ | refine Below.alloc ?_ (by first | omega | (simp; try omega)) _ | refine Below.setCell ?_ (by first | omega | (simp; try omega)) _ | (refine Below.trans ?_ (Below.mono (by assumption) (by first | omega | (simp; try omega))))))⟩
    · have hno : Hid (mayIdx cs ps = false) := by
        unfold Hid mayIdx
        rw [l2.out]
        simp [h400]
      subst hlen
      have hg1 : ((n2 : Int) != (n2 : Int)) = false := by simp
      have hg2 : decide (400 < n2) = true := by simp; omega
      go_enter Tryz.func99, Tryz.ntmps99
      go_wp2_with fail
      go_ret
      exact ⟨ret_bool hno.out.symm, (by repeat (first | exact Below.refl _ _ | assumption | refine Below.drew ?_ | refine below_drewN ?_ _ | refine Below.alloc ?_ (by first | omega | (simp; try omega)) _ | refine Below.setCell ?_ (by first | omega | (simp; try omega)) _ | (refine Below.trans ?_ (Below.mono (by assumption) (by first | omega | (simp; try omega))))))⟩
  · have hno : Hid (mayIdx cs ps = false) := by
      unfold Hid mayIdx
      rw [l2.out, l3.out]
      simp [hlen]
    have hg1 : ((n2 : Int) != (n3 : Int)) = true := by simp; omega
    go_enter Tryz.func99, Tryz.ntmps99
    go_wp2_with fail
    go_ret
    exact ⟨ret_bool hno.out.symm, (by repeat (first | exact Below.refl _ _ | assumption | refine Below.drew ?_ | refine below_drewN ?_ _ | refine Below.alloc ?_ (by first | omega | (simp; try omega)) _ | refine Below.setCell ?_ (by first | omega | (simp; try omega)) _ | (refine Below.trans ?_ (Below.mono (by assumption) (by first | omega | (simp; try omega))))))⟩
end Go.Proofs.YtdhlmhkabckbaaaGreatDoor
/-
  Which states may be: the contract of the reference's May.
-/
namespace Go.Proofs.YtdhlmhkabckbaaaGreatDoor
open Go.RowKit
attribute [local go_sem ↓] Go.wp_at_zero Go.wp_at_succ

end Go.Proofs.YtdhlmhkabckbaaaGreatDoor
