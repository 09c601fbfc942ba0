/-
  Which places are apart: the plain law, the contracts of index.apart and of the reference's common.
-/
import Derived.Test.YtbfephekkfieaaaPlaceE
import Derived.Deep.DrawnRows
namespace Go.Proofs.Ytbfephekkfieaaa
open Go.RowKit
attribute [local go_sem ↓] Go.wp_at_zero Go.wp_at_succ

/-- Two places have a byte in common. -/
def clash (p q : Place) : Bool := decide (p.pack = q.pack) && decide (p.at_ < q.at_ + q.len) && decide (q.at_ < p.at_ + p.len)
theorem clash_symm (p q : Place) : clash p q = clash q p := by
  unfold clash
  rw [Bool.eq_iff_iff]
  simp
  constructor
  · rintro ⟨⟨a, b⟩, c⟩; exact ⟨⟨a.symm, c⟩, b⟩
  · rintro ⟨⟨a, b⟩, c⟩; exact ⟨⟨a.symm, c⟩, b⟩
def apartB : List Place → Bool
  | [] => true
  | p :: l => l.all (fun q => !clash p q) && apartB l
theorem apartB_iff : ∀ l : List Place, apartB l = true ↔ l.Pairwise fun a b => clash a b = false
  | [] => by simp [apartB]
  | p :: l => by
    rw [apartB, List.pairwise_cons, Bool.and_eq_true, apartB_iff l]
    simp
theorem apart_perm {l l' : List Place} (h : l'.Perm l) : apartB l' = apartB l := by
  rw [Bool.eq_iff_iff, apartB_iff, apartB_iff]
  exact h.pairwise_iff (fun {a b} h => by rw [clash_symm]; exact h)
theorem apart_false {l : List Place} {i j : Nat} {p q : Place} (hp : l[i]? = some p) (hq : l[j]? = some q) (hij : i < j) (hc : clash p q = true) : apartB l = false := by
  cases h : apartB l
  · rfl
  · rw [apartB_iff] at h
    obtain ⟨hi, rfl⟩ := List.getElem?_eq_some_iff.1 hp
    obtain ⟨hj, rfl⟩ := List.getElem?_eq_some_iff.1 hq
    have := (List.pairwise_iff_getElem.1 h) i j hi hj hij
    rw [hc] at this
    cases this

/-- Of two neighbours of one pack the later one begins where the earlier one ends, or behind it. -/
def Steps (l : List Place) (k : Nat) : Prop := ∀ i p q, i + 1 < k → l[i]? = some p → l[i + 1]? = some q → p.pack = q.pack → p.at_ + p.len ≤ q.at_
theorem steps_apart {l : List Place} (hs : l.Pairwise fun a b => ahead b a = false) (_ : ∀ p ∈ l, mayPlace p = true) (h : Steps l l.length) : apartB l = true := by
  rw [apartB_iff, List.pairwise_iff_getElem]
  intro i j hi hj hij
  have hsorted := List.pairwise_iff_getElem.1 hs
  have hnot : ∀ a b (ha : a < l.length) (hb : b < l.length), a < b → l[b].pack = l[a].pack → l[a].at_ ≤ l[b].at_ := by
    intro a b ha hb hab e
    have := hsorted a b ha hb hab
    simp [ahead, e, sLt_irrefl] at this
    omega
  by_cases hp : l[i].pack = l[j].pack
  · -- the one behind i is of the same pack
    have hmid : l[i + 1].pack = l[i].pack := by
      rcases Nat.lt_or_ge (i + 1) j with h1 | h1
      · have a1 := hsorted i (i + 1) hi (by omega) (by omega)
        have a2 := hsorted (i + 1) j (by omega) hj h1
        simp [ahead] at a1 a2
        rcases sLt_tri l[i + 1].pack l[i].pack with c | c | c
        · rw [c] at a1; simp at a1
        · exact c
        · rw [hp] at c
          rw [c] at a2; simp at a2
      · have : i + 1 = j := by omega
        subst this
        exact hp.symm
    have hst := h i l[i] l[i + 1] (by omega) (List.getElem?_eq_getElem hi) (List.getElem?_eq_getElem (by omega)) hmid.symm
    have hle : l[i + 1].at_ ≤ l[j].at_ := by
      rcases Nat.lt_or_ge (i + 1) j with h1 | h1
      · exact hnot (i + 1) j (by omega) hj h1 (by rw [hmid, hp])
      · have : i + 1 = j := by omega
        subst this
        exact Int.le_refl _
    simp [clash]
    intro _ _
    omega
  · simp [clash, hp]
theorem not_apart {l : List Place} (hs : l.Pairwise fun a b => ahead b a = false) (hv : ∀ p ∈ l, mayPlace p = true) {k : Nat} {p q : Place} (hp : l[k]? = some p) (hq : l[k + 1]? = some q) (he : p.pack = q.pack) (hlt : q.at_ < p.at_ + p.len) : apartB l = false := by
  refine apart_false hp hq (by omega) ?_
  obtain ⟨h1, e1⟩ := List.getElem?_eq_some_iff.1 hp
  obtain ⟨h2, e2⟩ := List.getElem?_eq_some_iff.1 hq
  have := (List.pairwise_iff_getElem.1 hs) k (k + 1) h1 h2 (by omega)
  rw [e1, e2] at this
  simp [ahead, he, sLt_irrefl] at this
  have hm := hv q (List.mem_of_getElem? hq)
  simp [mayPlace] at hm
  simp [clash, he]
  omega

theorem mayPlace_bounds {p : Place} (h : mayPlace p = true) : 0 ≤ p.at_ ∧ p.at_ ≤ 32768 ∧ 1 ≤ p.len ∧ p.len ≤ 16384 ∧ p.at_ + p.len ≤ 32768 := by
  simp [mayPlace] at h
  omega

set_option maxHeartbeats 2000000 in
theorem index_apart (A : Option Addr) (m c : Nat) (pl : List Place) (w : World) (h : PlacesAt w w.heap.size A m pl) (hm : m ≤ 1000000000) (hv : ∀ p ∈ pl, mayPlace p = true) :
    Calls Try.prog 40 #[.slice A m c] w fun e w' => e = .returned (.bool (apartB pl)) ∧ Below w.heap.size w w' := by
  have hl := Lib.hid h.1
  replace hv := Lib.hid hv
  go_enter Try.func40, Try.ntmps40
  go_wp2_with fail
  refine (values_place A m c w).mono ?_
  rintro e w1 ⟨rfl, rfl⟩
  go_wp2_with fail
  refine (sortedFunc_places A m c w.heap.size pl _ (h.to (w' := w.alloc (.cells #[.slice A m c] 27)) (by repeat (first | exact Below.refl _ _ | assumption | refine Below.drew ?_ | refine below_drewN ?_ _ | refine Below.alloc ?_ (by first | omega | (simp; try omega)) _ | refine Below.setCell ?_ (by first | omega | (simp; try omega)) _ | (refine Below.trans ?_ (Below.mono (by assumption) (by first | omega | (simp; try omega))))))) (by simp) (by go_simp) hm).mono ?_
  rintro e w2 ⟨A', c', l', rfl, hp, hso, hr, hb2⟩
  have hz2 := hb2.size
  simp at hz2
  have hw2 : Below w.heap.size w w2 := (by repeat (first | exact Below.refl _ _ | assumption | refine Below.drew ?_ | refine below_drewN ?_ _ | refine Below.alloc ?_ (by first | omega | (simp; try omega)) _ | refine Below.setCell ?_ (by first | omega | (simp; try omega)) _ | (refine Below.trans ?_ (Below.mono (by assumption) (by first | omega | (simp; try omega))))))
  have hl' : l'.length = m := hr.1
  have hv' : ∀ p ∈ l', mayPlace p = true := fun p hq => hv.out p (hp.mem_iff.1 hq)
  have hperm := Lib.hid (apart_perm hp)
  replace hv' := Lib.hid hv'
  replace hso := Lib.hid hso
  replace hl' := Lib.hid hl'
  go_wp2_with fail
  go_loopw [3] (fun i wr => ∃ k : Nat, 1 ≤ k ∧ (k ≤ m ∨ k = 1) ∧ i = .int .i64 k ∧ Hid (Steps l' k) ∧ Below w2.heap.size w2 wr) (fun i _ => m - (intOf i).toNat)
  case atStart => exact ⟨1, Nat.le_refl _, .inr rfl, rfl, fun i p q hi => absurd hi (by omega), Below.refl _ _⟩
  case round =>
    obtain ⟨k, hk1, hkm, rfl, hst, hbr⟩ := hrel
    have hzr := hbr.size
    by_cases hlt : k < m
    · obtain ⟨b, off, q, rfl, hb, hq, q0, q1, q2⟩ := (hr.to hbr).place hlt
      obtain ⟨p, hp'⟩ := getElem_some (l := l') (i := k - 1) (by have := hl'.out; omega)
      obtain ⟨p0, p1, p2⟩ := (hr.to hbr).placeAt hp'
      obtain ⟨bp1, bp2, bp3, bp4, bp5⟩ := mayPlace_bounds (hv'.out p (List.mem_of_getElem? hp'))
      obtain ⟨bq1, bq2, bq3, bq4, bq5⟩ := mayPlace_bounds (hv'.out q (List.mem_of_getElem? hq))
      have hi0 : (0 : Int) ≤ (k : Int) - 1 := by omega
      have hi1 : (k : Int) - 1 < (m : Int) := by omega
      have hi2 : (k : Int) < (m : Int) := by omega
      have hi3 : (0 : Int) ≤ (k : Int) := by omega
      replace hq := Lib.hid hq
      replace hp' := Lib.hid hp'
      have hq' : Hid (l'[k - 1 + 1]? = some q) := by unfold Hid; rw [Nat.sub_add_cancel hk1]; exact hq.out
      by_cases he : p.pack = q.pack
      · have hs := str_eq he
        by_cases hgt : q.at_ < p.at_ + p.len
        · have hres : Hid (apartB pl = false) := by
            unfold Hid
            rw [← hperm.out]
            exact not_apart hso.out hv'.out hp'.out hq'.out he hgt
          have hg : decide (q.at_ < p.at_ + p.len) = true := by simpa using hgt
          replace he := Lib.hid he
          go_wp2_with fail
          go_quiet (fail)
          go_wp2_with fail
          go_ret
          exact ⟨ret_bool hres.out.symm, (by repeat (first | exact Below.refl _ _ | assumption | refine Below.drew ?_ | refine below_drewN ?_ _ | refine Below.alloc ?_ (by first | omega | (simp; try omega)) _ | refine Below.setCell ?_ (by first | omega | (simp; try omega)) _ | (refine Below.trans ?_ (Below.mono (by assumption) (by first | omega | (simp; try omega))))))⟩
        · have hg : decide (q.at_ < p.at_ + p.len) = false := by simpa using hgt
          replace he := Lib.hid he
          go_wp2_with fail
          go_quiet (fail)
          go_wp2_with fail
          go_roundw
          case rel => exact ⟨k + 1, by omega, by omega, by go_num, (fun i a b' hi ha hb' e => by
                      rcases Nat.lt_or_ge (i + 1) k with h1 | h1
                      · exact hst.out i a b' h1 ha hb' e
                      · have : i = k - 1 := by omega
                        subst this
                        have h3 := hp'.out
                        have h4 := hq'.out
                        rw [ha] at h3
                        rw [hb'] at h4
                        injection h3 with h3
                        injection h4 with h4
                        subst h3 h4
                        omega), (by repeat (first | exact Below.refl _ _ | assumption | refine Below.drew ?_ | refine below_drewN ?_ _ | refine Below.alloc ?_ (by first | omega | (simp; try omega)) _ | refine Below.setCell ?_ (by first | omega | (simp; try omega)) _ | (refine Below.trans ?_ (Below.mono (by assumption) (by first | omega | (simp; try omega))))))⟩
          case measure => simp [intOf]; omega
      · have hs := str_ne he
        replace he := Lib.hid he
        go_wp2_with fail
        go_quiet (fail)
        go_wp2_with fail
        go_roundw
        case rel => exact ⟨k + 1, by omega, by omega, by go_num, (fun i a b' hi ha hb' e => by
                  rcases Nat.lt_or_ge (i + 1) k with h1 | h1
                  · exact hst.out i a b' h1 ha hb' e
                  · have : i = k - 1 := by omega
                    subst this
                    have h3 := hp'.out
                    have h4 := hq'.out
                    rw [ha] at h3
                    rw [hb'] at h4
                    injection h3 with h3
                    injection h4 with h4
                    subst h3 h4
                    exact absurd e he.out), (by repeat (first | exact Below.refl _ _ | assumption | refine Below.drew ?_ | refine below_drewN ?_ _ | refine Below.alloc ?_ (by first | omega | (simp; try omega)) _ | refine Below.setCell ?_ (by first | omega | (simp; try omega)) _ | (refine Below.trans ?_ (Below.mono (by assumption) (by first | omega | (simp; try omega))))))⟩
        case measure => simp [intOf]; omega
    · have hres : Hid (apartB pl = true) := by
        unfold Hid
        rw [← hperm.out]
        refine steps_apart hso.out hv'.out (fun i a b' hi ha hb' e => ?_)
        rw [hl'.out] at hi
        rcases hkm with hkm | hkm
        · exact hst.out i a b' (by omega) ha hb' e
        · omega
      go_wp2_with fail
      go_ret
      exact ⟨ret_bool hres.out.symm, (by repeat (first | exact Below.refl _ _ | assumption | refine Below.drew ?_ | refine below_drewN ?_ _ | refine Below.alloc ?_ (by first | omega | (simp; try omega)) _ | refine Below.setCell ?_ (by first | omega | (simp; try omega)) _ | (refine Below.trans ?_ (Below.mono (by assumption) (by first | omega | (simp; try omega))))))⟩
end Go.Proofs.Ytbfephekkfieaaa
