/-
  The reference's Objects.
-/
import Derived.Test.YtfkonpmnclknaaaRefS
namespace Go.Proofs.Ytfkonpmnclknaaa
open Go.RowKit
attribute [local go_sem ↓] Go.wp_at_zero Go.wp_at_succ

theorem fullGo_take {ws : List Wr} {g : List Ob} {j : Nat} {x : Wr} (h : ws[j]? = some x) : fullGo (ws.take (j + 1)) g = fullO (fullGo (ws.take j) g) x := by
  rw [List.take_add_one, h]
  exact fullGo_snoc _ _ _

set_option maxHeartbeats 4000000 in
theorem ref07_Objects (b : Nat) (F : List Nat) (N : Nat) (s : Sto) (hs : StoOk N s) (w : World) (h : RefAt w b F s) :
    Calls Try.prog 68 #[.pointer (some ⟨b, 0, none⟩)] w fun e w' => ∃ v, e = .returned v ∧ objE.Own w' w.heap.size v s.seen ∧ Below w.heap.size w w' := by
  obtain ⟨G, V, rfl, h⟩ := h
  obtain ⟨A, m, c, rfl⟩ : ∃ A m c, G = .slice A m c := by obtain ⟨A, c, e⟩ := Owns.form h.good; exact ⟨A, _, c, e⟩
  obtain ⟨A2, m2, c2, rfl⟩ : ∃ A m c, V = .slice A m c := by obtain ⟨A, c, e⟩ := Owns.form h.own; exact ⟨A, _, c, e⟩
  have rg := Owns.row (k := 2) (fun x => objE.len x) h.good
  have rv := Owns.row (k := 3) (fun x => wrE.len x) h.own
  have hm : m ≤ 1000000 := by have := rg.1; have := hs.len; have := hs.cap; omega
  have hm2 : m2 ≤ 1000000 := by have := rv.1; have := hs.len; have := hs.cap; omega
  have hfl : ∀ j, (fullGo (s.writes.take j) s.good).length ≤ 1000000 := fun j => by
    have h1 := fullGo_len (s.writes.take j) s.good
    have h2 := hs.len
    have h3 := hs.cap
    have h4 : (s.writes.take j).length ≤ s.writes.length := by simp; omega
    omega
  have hbx : ∀ W, Below w.heap.size w W → W.cell? ⟨b, 0, none⟩ = some (.slice A m c) ∧ W.cell? ⟨b, 1, none⟩ = some (.slice A2 m2 c2) := fun W hW => by
    obtain ⟨d0, d1, _, _, _⟩ := (h.box.below h.box.lt hW).cells
    exact ⟨d0, d1⟩
  obtain ⟨c0, c1⟩ := hbx w (Below.refl _ _)
  have hlb := h.box.lt
  have hcoh := Lib.hid hs.coh
  have hl2 := Lib.hid rv.1
  have rvh := Lib.hid rv
  replace hfl := Lib.hid hfl
  replace hbx := Lib.hid hbx
  clear h hs rv
  go_enter Try.func68, Try.ntmps68
  go_wp2_with (at_builtin; go_must (refine Elem.wpList_row objE rfl (.tmp 5) (.tmp 9) rfl w.heap.size (.slice (some ⟨w.heap.size, 0, none⟩) 0 0) [] rfl A m c s.good rfl (Owns.emptyAt w rfl (Nat.le_refl _)) w.heap.size (rg.below (by repeat (first | exact Below.refl _ _ | assumption | refine Below.drew ?_ | refine below_drewN ?_ _ | refine Below.alloc ?_ (by first | omega | (simp; try omega)) _ | refine Below.setCell ?_ (by first | omega | (simp; try omega)) _ | (refine Below.trans ?_ (Below.mono (by assumption) (by first | omega | (simp; try omega))))))) (by simp; omega) (by first | omega | (simp; try omega)) ?_; intro vo w1 hown hg hat))
  rw [List.nil_append] at hown
  have hb1 : Below w.heap.size w w1 := Below.grownOwn (by repeat (first | exact Below.refl _ _ | assumption | refine Below.drew ?_ | refine below_drewN ?_ _ | refine Below.alloc ?_ (by first | omega | (simp; try omega)) _ | refine Below.setCell ?_ (by first | omega | (simp; try omega)) _ | (refine Below.trans ?_ (Below.mono (by assumption) (by first | omega | (simp; try omega)))))) (Owns.emptyAt (k := objE.k) (enc := objE.enc) (T := objE.T) w rfl (Nat.le_refl _)) (Nat.le_refl _) (by first | omega | (simp; try omega)) hg
  clear hat hg rg c0 c1
  go_loopw [3, 4] (fun v ti wr => ∃ j : Nat, j ≤ m2 ∧ ti = .int .i64 j ∧ objE.Own wr w.heap.size v (fullGo (s.writes.take j) s.good) ∧ Below w.heap.size w wr) (fun _ ti _ => m2 - (intOf ti).toNat)
  case atStart => exact ⟨0, Nat.zero_le _, rfl, hown, hb1⟩
  case round =>
    clear hb1
    obtain ⟨j, hj, rfl, hown, hbr⟩ := hrel
    obtain ⟨wp, rfl⟩ : ∃ x : World, x = wr := ⟨_, rfl⟩
    have hzr := hbr.size
    have hlen := hfl.out j
    obtain ⟨A3, m3, c3, rfl⟩ : ∃ A m c, u3 = .slice A m c := by obtain ⟨A, c, e⟩ := Owns.form hown; exact ⟨A, _, c, e⟩
    have ro := Owns.row (k := 2) (fun x => objE.len x) hown
    have hm3 : m3 ≤ 1000000 := by have := ro.1; omega
    obtain ⟨c0, c1⟩ := hbx.out wp hbr
    by_cases hlt : j < m2
    · obtain ⟨b0, off, x, rfl, hb0, hx, q0, q1, q2⟩ := (rvh.out.to hbr).wr hlt
      have ht := Lib.hid (fullGo_take (g := s.good) hx)
      replace hx := Lib.hid hx
      cases hd : x.del
      · have ht2 : Hid (fullGo (s.writes.take (j + 1)) s.good = putO (fullGo (s.writes.take j) s.good) (x.name, x.data)) := by unfold Hid; rw [ht.out]; unfold fullO; rw [hd]; rfl
        rw [hd] at q2
        replace hd := Lib.hid hd
        clear hown
        go_wp2_with fail
        refine (ref07_put A3 m3 c3 _ (x.name, x.data) wp ro hm3).mono ?_
        rintro e w2 ⟨v2, rfl, o2, b2⟩
        have b3 := hbr.trans (b2.mono hzr)
        obtain ⟨A9, m9, c9, rfl⟩ : ∃ A m c, v2 = .slice A m c := by obtain ⟨A, c, e⟩ := Owns.form o2; exact ⟨A, _, c, e⟩
        go_wp2_with fail
        go_roundw
        case rel => exact ⟨j + 1, by omega, by go_num, by rw [ht2.out]; exact Owns.from o2 hzr, b3⟩
        case measure => simp [intOf]; omega
      · have ht2 : Hid (fullGo (s.writes.take (j + 1)) s.good = delO (fullGo (s.writes.take j) s.good) x.name) := by unfold Hid; rw [ht.out]; unfold fullO; rw [hd]; rfl
        rw [hd] at q2
        replace hd := Lib.hid hd
        clear hown
        go_wp2_with fail
        refine (ref07_drop A3 m3 c3 _ x.name wp ro hm3).mono ?_
        rintro e w2 ⟨v2, rfl, o2, b2⟩
        have b3 := hbr.trans (b2.mono hzr)
        obtain ⟨A9, m9, c9, rfl⟩ : ∃ A m c, v2 = .slice A m c := by obtain ⟨A, c, e⟩ := Owns.form o2; exact ⟨A, _, c, e⟩
        go_wp2_with fail
        go_roundw
        case rel => exact ⟨j + 1, by omega, by go_num, by rw [ht2.out]; exact Owns.from o2 hzr, b3⟩
        case measure => simp [intOf]; omega
    · obtain rfl : j = m2 := by omega
      have ht : Hid (fullGo (s.writes.take j) s.good = s.seen) := by unfold Hid; rw [hcoh.out, List.take_of_length_le (by have := hl2.out; omega)]
      go_wp2_with fail
      go_ret
      exact ⟨_, rfl, by rw [← ht.out]; exact hown, hbr⟩
end Go.Proofs.Ytfkonpmnclknaaa
