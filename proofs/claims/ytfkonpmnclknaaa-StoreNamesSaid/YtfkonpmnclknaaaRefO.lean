/-
  The reference's Objects.
-/
import Derived.Test.YtfkonpmnclknaaaRefS
namespace Go.Proofs.Ytfkonpmnclknaaa
open Go.RowKit
attribute [local go_sem ↓] Go.wp_at_zero Go.wp_at_succ

theorem fullGo_take {ws : List Wr} {g : List Ob} {j : Nat} {x : Wr} (h : ws[j]? = some x) : fullGo (ws.take (j + 1)) g = fullO (fullGo (ws.take j) g) x := by
  rw [List.take_add_one, h]
  exact fullGo_snoc _ _ _

set_option maxHeartbeats 4000000 in
theorem ref07_Objects (b : Nat) (F : List Nat) (N : Nat) (s : Sto) (hs : StoOk N s) (w : World) (h : RefAt w b F s) :
    Calls Try.prog 68 #[.pointer (some ⟨b, 0, none⟩)] w fun e w' => ∃ v, e = .returned v ∧ objE.Own w' w.heap.size v s.seen ∧ Below w.heap.size w w' := by
  obtain ⟨G, V, rfl, h⟩ := h
  obtain ⟨A, m, c, rfl⟩ : ∃ A m c, G = .slice A m c := by obtain ⟨A, c, e⟩ := Owns.form h.good; exact ⟨A, _, c, e⟩
  obtain ⟨A2, m2, c2, rfl⟩ : ∃ A m c, V = .slice A m c := by obtain ⟨A, c, e⟩ := Owns.form h.own; exact ⟨A, _, c, e⟩
  have rg := Owns.row (k := 2) (fun x => objE.len x) h.good
  have rv := Owns.row (k := 3) (fun x => wrE.len x) h.own
  have hm : m ≤ 1000000 := by have := rg.1; have := hs.len; have := hs.cap; omega
  have hm2 : m2 ≤ 1000000 := by have := rv.1; have := hs.len; have := hs.cap; omega
  have hfl : ∀ j, (fullGo (s.writes.take j) s.good).length ≤ 1000000 := fun j => by
    have h1 := fullGo_len (s.writes.take j) s.good
    have h2 := hs.len
    have h3 := hs.cap
    have h4 : (s.writes.take j).length ≤ s.writes.length := by simp; omega
    omega
  have hbx : ∀ W, Below w.heap.size w W → W.cell? ⟨b, 0, none⟩ = some (.slice A m c) ∧ W.cell? ⟨b, 1, none⟩ = some (.slice A2 m2 c2) := fun W hW => by
    obtain ⟨d0, d1, _, _, _⟩ := (h.box.below h.box.lt hW).cells
    exact ⟨d0, d1⟩
  obtain ⟨c0, c1⟩ := hbx w (Below.refl _ _)
  have hlb := h.box.lt
  have hcoh := Lib.hid hs.coh
  have hl2 := Lib.hid rv.1
  have rvh := Lib.hid rv
  replace hfl := Lib.hid hfl
  replace hbx := Lib.hid hbx
  clear h hs rv
  go_enter Try.func68, Try.ntmps68
  go_wp2_with (at_builtin; go_must (refine Elem.wpList_row objE rfl (.tmp 5) (.tmp 9) rfl w.heap.size (.slice (some ⟨w.heap.size, 0, none⟩) 0 0) [] rfl A m c s.good rfl (Owns.emptyAt w rfl (Nat.le_refl _)) w.heap.size (rg.below (by repeat (first | exact Below.refl _ _ | assumption | refine Below.drew ?_ | refine below_drewN ?_ _ | refine Below.alloc ?_ (by first | omega | (simp; try omega)) _ | refine Below.setCell ?_ (by first | omega | (simp; try omega)) _ | (refine Below.trans ?_ (Below.mono (by assumption) (by first | omega | (simp; try omega))))))) (by simp; omega) (by first | omega | (simp; try omega)) ?_; intro vo w1 hown hg hat))
  rw [List.nil_append] at hown
  have hb1 : Below w.heap.size w w1 := Below.grownOwn (by repeat (first | exact Below.refl _ _ | assumption | refine Below.drew ?_ | refine below_drewN ?_ _ | refine Below.alloc ?_ (by first | omega | (simp; try omega)) _ | refine Below.setCell ?_ (by first | omega | (simp; try omega)) _ | (refine Below.trans ?_ (Below.mono (by assumption) (by first | omega | (simp; try omega)))))) (Owns.emptyAt (k := objE.k) (enc := objE.enc) (T := objE.T) w rfl (Nat.le_refl _)) (Nat.le_refl _) (by first | omega | (simp; try omega)) hg
  clear hat hg rg c0 c1
  go_loopw [3, 4] (fun v ti wr => ∃ j : Nat, j ≤ m2 ∧ ti = .int .i64 j ∧ objE.Own wr w.heap.size v (fullGo (s.writes.take j) s.good) ∧ Below w.heap.size w wr) (fun _ ti _ => m2 - (intOf ti).toNat)
  case atStart => exact ⟨0, Nat.zero_le _, rfl, hown, hb1⟩
  case round =>
    clear hb1
    obtain ⟨j, hj, rfl, hown, hbr⟩ := hrel
    obtain ⟨wp, rfl⟩ : ∃ x : World, x = wr := ⟨_, rfl⟩
    have hzr := hbr.size
    have hlen := hfl.out j
    obtain ⟨A3, m3, c3, rfl⟩ : ∃ A m c, u3 = .slice A m c := by obtain ⟨A, c, e⟩ := Owns.form hown; exact ⟨A, _, c, e⟩
    have ro := Owns.row (k := 2) (fun x => objE.len x) hown
    have hm3 : m3 ≤ 1000000 := by have := ro.1; omega
    obtain ⟨c0, c1⟩ := hbx.out wp hbr
    by_cases hlt : j < m2
    · obtain ⟨b0, off, x, rfl, hb0, hx, q0, q1, q2⟩ := (rvh.out.to hbr).wr hlt
      have ht := Lib.hid (fullGo_take (g := s.good) hx)
      replace hx := Lib.hid hx
      cases hd : x.del
      · have ht2 : Hid (fullGo (s.writes.take (j + 1)) s.good = putO (fullGo (s.writes.take j) s.good) (x.name, x.data)) := by unfold Hid; rw [ht.out]; unfold fullO; rw [hd]; rfl
        rw [hd] at q2
        replace hd := Lib.hid hd
        clear hown
        go_wp2_with fail
        refine (ref07_put A3 m3 c3 _ (x.name, x.data) wp ro hm3).mono ?_
        rintro e w2 ⟨v2, rfl, o2, b2⟩
        have b3 := hbr.trans (b2.mono hzr)
        obtain ⟨A9, m9, c9, rfl⟩ : ∃ A m c, v2 = .slice A m c := by obtain ⟨A, c, e⟩ := Owns.form o2; exact ⟨A, _, c, e⟩
        go_wp2_with fail
        go_roundw
        case rel => exact ⟨j + 1, by omega, by go_num, by rw [ht2.out]; exact Owns.from o2 hzr, b3⟩
        case measure => simp [intOf]; omega
      · have ht2 : Hid (fullGo (s.writes.take (j + 1)) s.good = delO (fullGo (s.writes.take j) s.good) x.name) := by unfold Hid; rw [ht.out]; unfold fullO; rw [hd]; rfl
        rw [hd] at q2
        replace hd := Lib.hid hd
        clear hown
        go_wp2_with fail
        refine (ref07_drop A3 m3 c3 _ x.name wp ro hm3).mono ?_
        rintro e w2 ⟨v2, rfl, o2, b2⟩
        have b3 := hbr.trans (b2.mono hzr)
        obtain ⟨A9, m9, c9, rfl⟩ : ∃ A m c, v2 = .slice A m c := by obtain ⟨A, c, e⟩ := Owns.form o2; exact ⟨A, _, c, e⟩
        go_wp2_with fail
        go_roundw
        case rel => exact ⟨j + 1, by omega, by go_num, by rw [ht2.out]; exact Owns.from o2 hzr, b3⟩
        case measure => simp [intOf]; omega
    · obtain rfl : j = m2 := by omega
      have ht : Hid (fullGo (s.writes.take j) s.good = s.seen) := by unfold Hid; rw [hcoh.out, List.take_of_length_le (by have := hl2.out; omega)]
      go_wp2_with fail
      go_ret
      exact ⟨_, rfl, by rw [← ht.out]; exact hown, hbr⟩
end Go.Proofs.Ytfkonpmnclknaaa
/-
  The reference's Get, List, Up, Sound.
-/
namespace Go.Proofs.Ytfkonpmnclknaaa
open Go.RowKit
attribute [local go_sem ↓] Go.wp_at_zero Go.wp_at_succ

theorem lookO_at {l : List Ob} {n : ByteArray} {j : Nat} {p : Ob} (h : lookO (l.drop j) n = lookO l n) (hp : l[j]? = some p) : (p.1 = n → lookO l n = some p.2) ∧ (p.1 ≠ n → lookO (l.drop (j + 1)) n = lookO l n) := by
  have e : l.drop j = p :: l.drop (j + 1) := by
    obtain ⟨hj, rfl⟩ := List.getElem?_eq_some_iff.1 hp
    exact List.drop_eq_getElem_cons hj
  rw [e, show lookO (p :: l.drop (j + 1)) n = if p.1 = n then some p.2 else lookO (l.drop (j + 1)) n from rfl] at h
  constructor
  · intro hn
    rw [if_pos hn] at h
    rw [← h]
  · intro hn
    rw [if_neg hn] at h
    exact h

set_option maxHeartbeats 4000000 in
theorem ref07_Get (b : Nat) (F : List Nat) (N : Nat) (s : Sto) (hs : StoOk N s) (n : ByteArray) (w : World) (h : RefAt w b F s) :
    Calls Try.prog 47 #[.pointer (some ⟨b, 0, none⟩), .string n] w fun e w' => e = .returned (.tuple #[.string (s.get n).1, .int .i64 (s.get n).2]) ∧ Below w.heap.size w w' := by
  have hO := ref07_Objects b F N s hs w h
  have hsl := hs.seenLen
  have hsc := hs.cap
  obtain ⟨G, V, rfl, h⟩ := h
  obtain ⟨c0, c1, c2, c3, c4⟩ := h.box.cells
  clear h hs
  cases hd : s.down
  · have hr : Hid (s.get n = match lookO s.seen n with
      | none => (⟨#[]⟩, 5)
      | some d => (d, 0)) := by unfold Hid Sto.get; rw [hd]; rfl
    rw [hd] at c2
    replace hd := Lib.hid hd
    go_enter Try.func47, Try.ntmps47
    go_wp2_with fail
    refine hO.mono ?_
    rintro e w1 ⟨v, rfl, o1, b1⟩
    obtain ⟨A, m, c, rfl⟩ : ∃ A m c, v = .slice A m c := by obtain ⟨A, c, e⟩ := Owns.form o1; exact ⟨A, _, c, e⟩
    have r1 := Owns.row (k := 2) (fun x => objE.len x) o1
    have hm : m ≤ 1000000 := by have := r1.1; omega
    clear o1 hO
    go_wp2_with fail
    go_loopw [7] (fun ti wr => ∃ j : Nat, j ≤ m ∧ ti = .int .i64 j ∧ Hid (lookO (s.seen.drop j) n = lookO s.seen n) ∧ Below w1.heap.size w1 wr) (fun ti _ => m - (intOf ti).toNat)
    case atStart => exact ⟨0, Nat.zero_le _, rfl, rfl, Below.refl _ _⟩
    case round =>
      obtain ⟨j, hj, rfl, hlk, hbr⟩ := hrel
      obtain ⟨wp, rfl⟩ : ∃ x : World, x = wr := ⟨_, rfl⟩
      by_cases hlt : j < m
      · obtain ⟨b0, off, p, rfl, hb0, hp, q0, q1⟩ := (r1.to hbr).ob hlt
        have hat := lookO_at hlk.out hp
        replace hp := Lib.hid hp
        by_cases e1 : p.1 = n
        · have i1 := str_eq e1
          have hr2 : Hid (s.get n = (p.2, 0)) := by unfold Hid; rw [hr.out, hat.1 e1]
          replace e1 := Lib.hid e1
          clear hat
          go_wp2_with fail
          go_ret2
          exact ⟨by rw [hr2.out]; rfl, b1.trans (hbr.mono b1.size)⟩
        · have i1 := str_ne e1
          have hl2 := Lib.hid (hat.2 e1)
          replace e1 := Lib.hid e1
          clear hat hlk
          go_wp2_with fail
          go_roundw
          case rel => exact ⟨j + 1, by omega, by go_num, hl2, hbr⟩
          case measure => simp [intOf]; omega
      · obtain rfl : j = m := by omega
        have hr2 : Hid (s.get n = (⟨#[]⟩, 5)) := by
          unfold Hid
          rw [hr.out, ← hlk.out, List.drop_eq_nil_of_le (by have := r1.1; omega)]
          rfl
        go_wp2_with fail
        go_ret2
        exact ⟨by rw [hr2.out]; rfl, b1.trans (hbr.mono b1.size)⟩
  · have hr : Hid (s.get n = (⟨#[]⟩, 51)) := by unfold Hid Sto.get; rw [hd]; rfl
    rw [hd] at c2
    replace hd := Lib.hid hd
    clear hO
    go_enter Try.func47, Try.ntmps47
    go_wp2_with fail
    go_ret2
    exact ⟨by rw [hr.out]; rfl, Below.refl _ _⟩

set_option maxHeartbeats 4000000 in
theorem ref07_List (b : Nat) (F : List Nat) (N : Nat) (s : Sto) (hs : StoOk N s) (w : World) (h : RefAt w b F s) :
    Calls Try.prog 51 #[.pointer (some ⟨b, 0, none⟩)] w fun e w' => ∃ v, e = .returned (.tuple #[v, .int .i64 s.list.2]) ∧ strE.Own w' w.heap.size v s.list.1 ∧ Below w.heap.size w w' := by
  have hO := ref07_Objects b F N s hs w h
  have hsl := hs.seenLen
  have hsc := hs.cap
  obtain ⟨G, V, rfl, h⟩ := h
  obtain ⟨c0, c1, c2, c3, c4⟩ := h.box.cells
  clear h hs
  cases hd : s.down
  · have hr : Hid (s.list = (s.seen.map Prod.fst, 0)) := by unfold Hid Sto.list; rw [hd]; rfl
    rw [hd] at c2
    replace hd := Lib.hid hd
    go_enter Try.func51, Try.ntmps51
    go_wp2_with fail
    refine hO.mono ?_
    rintro e w1 ⟨v, rfl, o1, b1⟩
    obtain ⟨A, m, c, rfl⟩ : ∃ A m c, v = .slice A m c := by obtain ⟨A, c, e⟩ := Owns.form o1; exact ⟨A, _, c, e⟩
    have r1 := Owns.row (k := 2) (fun x => objE.len x) o1
    have hm : m ≤ 1000000 := by have := r1.1; omega
    have hz1 := b1.size
    clear o1 hO
    go_wp2_with fail
    go_loopw [4, 6] (fun v ti wr => ∃ j : Nat, j ≤ m ∧ ti = .int .i64 j ∧ strE.Own wr w1.heap.size v ((s.seen.take j).map Prod.fst) ∧ Below w1.heap.size w1 wr) (fun _ ti _ => m - (intOf ti).toNat)
    case atStart => exact ⟨0, Nat.zero_le _, rfl, Owns.nil_, Below.refl _ _⟩
    case round =>
      obtain ⟨j, hj, rfl, hown, hbr⟩ := hrel
      obtain ⟨wp, rfl⟩ : ∃ x : World, x = wr := ⟨_, rfl⟩
      have hzr := hbr.size
      by_cases hlt : j < m
      · obtain ⟨b0, off, p, rfl, hb0, hp, q0, q1⟩ := (r1.to hbr).ob hlt
        have ht : Hid ((s.seen.take (j + 1)).map Prod.fst = (s.seen.take j).map Prod.fst ++ [p.1]) := by unfold Hid; rw [List.take_add_one, hp]; simp
        have hl : ((s.seen.take j).map Prod.fst).length ≤ 1000000000 := by simp; omega
        replace hp := Lib.hid hp
        go_wp2_with (at_builtin; go_must (refine Elem.wpList_one strE rfl (.tmp 19) (.tmp 25) rfl (w1.heap.size) _ ((s.seen.take j).map Prod.fst) rfl _ _ p.1 rfl (hown.alloc _) (fun j u hu => by rcases j with _ | _ | _ | j <;> simp [strE, strCell] at hu <;> subst hu <;> go_simp) (by first | omega | (simp; omega)) (by first | omega | (simp; try omega)) ?_); intro v4 w4 hown4 hg4 hat4)
        go_roundw
        case rel => exact ⟨j + 1, by omega, by go_num, by rw [ht.out]; exact hown4, Below.grownOwn (hbr.alloc hzr _) (hown.alloc _) (Nat.le_refl _) (by simp; omega) hg4⟩
        case measure => simp [intOf]; omega
      · obtain rfl : j = m := by omega
        have ht : Hid ((s.seen.take j).map Prod.fst = s.seen.map Prod.fst) := by unfold Hid; rw [List.take_of_length_le (by have := r1.1; omega)]
        obtain ⟨A9, m9, c9, rfl⟩ : ∃ A m c, u4 = .slice A m c := by obtain ⟨A, c, e⟩ := Owns.form hown; exact ⟨A, _, c, e⟩
        go_wp2_with fail
        go_ret2
        exact ⟨_, by rw [hr.out]; rfl, by rw [hr.out]; dsimp only; rw [← ht.out]; exact Owns.from hown hz1, b1.trans (hbr.mono hz1)⟩
  · have hr : Hid (s.list = ([], 51)) := by unfold Hid Sto.list; rw [hd]; rfl
    rw [hd] at c2
    replace hd := Lib.hid hd
    clear hO
    go_enter Try.func51, Try.ntmps51
    go_wp2_with fail
    go_ret2
    exact ⟨_, by rw [hr.out]; rfl, by rw [hr.out]; exact Owns.nil_, Below.refl _ _⟩

set_option maxHeartbeats 1000000 in
theorem ref07_Up (b : Nat) (F : List Nat) (s : Sto) (w : World) (h : RefAt w b F s) :
    Calls Try.prog 69 #[.pointer (some ⟨b, 0, none⟩)] w fun e w' => e = .returned (.bool !s.down) ∧ w' = w := by
  obtain ⟨G, V, rfl, h⟩ := h
  obtain ⟨c0, c1, c2, c3, c4⟩ := h.box.cells
  clear h
  go_enter Try.func69, Try.ntmps69
  go_wp2_with fail
  go_ret
  exact ⟨rfl, rfl⟩
set_option maxHeartbeats 1000000 in
theorem ref07_Sound (b : Nat) (F : List Nat) (s : Sto) (w : World) (h : RefAt w b F s) :
    Calls Try.prog 70 #[.pointer (some ⟨b, 0, none⟩)] w fun e w' => e = .returned (.bool s.sound) ∧ w' = w := by
  obtain ⟨G, V, rfl, h⟩ := h
  obtain ⟨c0, c1, c2, c3, c4⟩ := h.box.cells
  clear h
  cases hd : s.down
  · rw [hd] at c2
    have hr : Hid (s.sound = decide (s.refuse < 0)) := by unfold Hid Sto.sound; rw [hd]; rfl
    replace hd := Lib.hid hd
    go_enter Try.func70, Try.ntmps70
    go_wp2_with fail
    go_ret
    exact ⟨by rw [hr.out]; rfl, rfl⟩
  · rw [hd] at c2
    have hr : Hid (s.sound = false) := by unfold Hid Sto.sound; rw [hd]; rfl
    replace hd := Lib.hid hd
    go_enter Try.func70, Try.ntmps70
    go_wp2_with fail
    go_ret
    exact ⟨by rw [hr.out]; rfl, rfl⟩
end Go.Proofs.Ytfkonpmnclknaaa
