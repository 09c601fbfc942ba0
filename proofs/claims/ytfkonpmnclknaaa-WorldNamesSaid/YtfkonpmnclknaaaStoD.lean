/-
  The methods of a store that only look, and New, Sync.
-/
import Derived.Test.YtfkonpmnclknaaaStoB
namespace Go.Proofs.Ytfkonpmnclknaaa
open Go.RowKit Go.Maps
attribute [local go_sem ↓] Go.wp_at_zero Go.wp_at_succ

set_option maxHeartbeats 1000000 in
theorem store_names (b : Nat) (F : List Nat) (N : Nat) (s : Sto) (w : World) (h : StoAt w b F N s) :
    Calls Try.prog 71 #[.pointer (some ⟨b, 0, none⟩)] w fun e w' => ∃ v, e = .returned v ∧ strE.Own w' w.heap.size v (s.seen.map Prod.fst) ∧ Below w.heap.size w w' := by
  obtain ⟨gm, sm, V, rfl, h⟩ := h
  obtain ⟨c0, c1, c2, c3, c4, c5⟩ := h.box.cells
  have hk := maps_KeysS (some sm) w
  have hs := sorted_names sm N s.seen w h.seen
  have hb0 : Below w.heap.size w (w.alloc (.cells #[.map (some sm)] 66)) := (Below.refl _ w).alloc (Nat.le_refl _) _
  clear h
  go_enter Try.func71, Try.ntmps71
  go_wp2_with fail
  refine hk.mono ?_
  rintro e w1 ⟨rfl, rfl⟩
  go_wp2_with fail
  refine hs.mono ?_
  rintro e w2 ⟨v, rfl, ho, hb⟩
  go_wp2_with fail
  go_ret
  exact ⟨v, rfl, Owns.from ho (Nat.le_succ _), hb0.trans (hb.mono (Nat.le_succ _))⟩

def Sto.new : Sto := ⟨[], [], [], false, -1, -1⟩
set_option maxHeartbeats 1000000 in
theorem store_New (w : World) :
    Calls Try.prog 8 #[] w fun e w' => e = .returned (.pointer (some ⟨w.heap.size + 2, 0, none⟩)) ∧ StoAt w' (w.heap.size + 2) [w.heap.size + 2, w.heap.size, w.heap.size + 1] 0 Sto.new ∧ Below w.heap.size w w' := by
  have hmm := @run_makeMap Try.prog
  have hm0 := MapAt.made w 0 (by omega)
  have hm1 := MapAt.made (w.alloc (.map #[] 0)) 0 (by omega)
  have hbx := SB.new ((w.alloc (.map #[] 0)).alloc (.map #[] 0)) (.map (some w.heap.size)) (.slice none 0 0) (.map (some (w.heap.size + 1))) (.bool false) (.int .i64 (-1)) (.int .i64 (-1))
  simp only [World.size_alloc] at hm1 hbx
  replace hm0 := Lib.hid hm0
  replace hm1 := Lib.hid hm1
  replace hbx := Lib.hid hbx
  go_enter Try.func8, Try.ntmps8
  go_wp2_with fail
  go_ret
  refine ⟨rfl, ⟨w.heap.size, w.heap.size + 1, .slice none 0 0, rfl, ?_⟩, (((Below.refl _ w).alloc (Nat.le_refl _) _).alloc (by simp) _).alloc (by simp; omega) _⟩
  exact
  { box := hbx.out
    good := (hm0.out.alloc _).alloc _
    seen := hm1.out.alloc _
    own := Owns.nil_
    ap := by simp [Value.ownBlock]
    ng := by simp [Sto.new], ns := by simp [Sto.new], nw := by simp [Sto.new], len := by simp [Sto.new], cap := by omega, rf := by simp [Sto.new], rf9 := by simp [Sto.new], rm9 := by simp [Sto.new], rm := by simp [Sto.new] }

def Sto.get (s : Sto) (n : ByteArray) : ByteArray × Int := if s.down = true then (⟨#[]⟩, 51) else match lookO s.seen n with
  | none => (⟨#[]⟩, 5)
  | some d => (d, 0)
set_option maxHeartbeats 1000000 in
theorem store_Get (b : Nat) (F : List Nat) (N : Nat) (s : Sto) (n : ByteArray) (hn : n.size ≤ maxLen) (w : World) (h : StoAt w b F N s) :
    Calls Try.prog 46 #[.pointer (some ⟨b, 0, none⟩), .string n] w fun e w' => e = .returned (.tuple #[.string (s.get n).1, .int .i64 (s.get n).2]) ∧ w' = w := by
  obtain ⟨gm, sm, V, rfl, h⟩ := h
  obtain ⟨c0, c1, c2, c3, c4, c5⟩ := h.box.cells
  have hl : (Instr.lookup 66 (.map (some sm)) (.string n) true).run Try.prog w = _ := h.seen.look_ok n hn 0
  clear h
  cases hd : s.down
  · cases hx : lookO s.seen n with
    | none =>
      have hr : Hid (s.get n = (⟨#[]⟩, 5)) := by unfold Hid Sto.get; rw [hd, hx]; rfl
      rw [hx] at hl
      simp only [Option.getD_none, Option.isSome_none] at hl
      rw [hd] at c3
      replace hd := Lib.hid hd
      replace hx := Lib.hid hx
      go_enter Try.func46, Try.ntmps46
      go_wp2_with fail
      go_ret2
      exact ⟨by rw [hr.out]; rfl, rfl⟩
    | some d =>
      have hr : Hid (s.get n = (d, 0)) := by unfold Hid Sto.get; rw [hd, hx]; rfl
      rw [hx] at hl
      simp only [Option.getD_some, Option.isSome_some] at hl
      rw [hd] at c3
      replace hd := Lib.hid hd
      replace hx := Lib.hid hx
      go_enter Try.func46, Try.ntmps46
      go_wp2_with fail
      go_ret2
      exact ⟨by rw [hr.out]; rfl, rfl⟩
  · have hr : Hid (s.get n = (⟨#[]⟩, 51)) := by unfold Hid Sto.get; rw [hd]; rfl
    rw [hd] at c3
    replace hd := Lib.hid hd
    clear hl
    go_enter Try.func46, Try.ntmps46
    go_wp2_with fail
    go_ret2
    exact ⟨by rw [hr.out]; rfl, rfl⟩

def Sto.list (s : Sto) : List ByteArray × Int := if s.down = true then ([], 51) else (s.seen.map Prod.fst, 0)
set_option maxHeartbeats 1000000 in
theorem store_List (b : Nat) (F : List Nat) (N : Nat) (s : Sto) (w : World) (h : StoAt w b F N s) :
    Calls Try.prog 50 #[.pointer (some ⟨b, 0, none⟩)] w fun e w' => ∃ v, e = .returned (.tuple #[v, .int .i64 s.list.2]) ∧ strE.Own w' w.heap.size v s.list.1 ∧ Below w.heap.size w w' := by
  have hk := store_names b F N s w h
  obtain ⟨gm, sm, V, rfl, h⟩ := h
  obtain ⟨c0, c1, c2, c3, c4, c5⟩ := h.box.cells
  clear h
  cases hd : s.down
  · have hr : Hid (s.list = (s.seen.map Prod.fst, 0)) := by unfold Hid Sto.list; rw [hd]; rfl
    rw [hd] at c3
    replace hd := Lib.hid hd
    go_enter Try.func50, Try.ntmps50
    go_wp2_with fail
    refine hk.mono ?_
    rintro e w2 ⟨v, rfl, ho, hb⟩
    go_wp2_with fail
    go_ret2
    exact ⟨v, by rw [hr.out]; rfl, by rw [hr.out]; exact ho, hb⟩
  · have hr : Hid (s.list = ([], 51)) := by unfold Hid Sto.list; rw [hd]; rfl
    rw [hd] at c3
    replace hd := Lib.hid hd
    clear hk
    go_enter Try.func50, Try.ntmps50
    go_wp2_with fail
    go_ret2
    exact ⟨.slice none 0 0, by rw [hr.out]; rfl, by rw [hr.out]; exact Owns.nil_, Below.refl _ _⟩

def Sto.sync (s : Sto) : Sto × Int := if s.down = true then (s, 51) else (s.settled, 0)
set_option maxHeartbeats 1000000 in
theorem store_Sync (b : Nat) (F : List Nat) (N : Nat) (s : Sto) (w : World) (h : StoAt w b F N s) :
    Calls Try.prog 53 #[.pointer (some ⟨b, 0, none⟩)] w fun e w' => e = .returned (.int .i64 s.sync.2) ∧ StoTo b F N s.sync.1 w w' := by
  have hk := store_settle b F N s w h
  have h9 := Lib.hid h
  obtain ⟨gm, sm, V, rfl, h⟩ := h
  obtain ⟨c0, c1, c2, c3, c4, c5⟩ := h.box.cells
  clear h
  cases hd : s.down
  · have hr : Hid (s.sync = (s.settled, 0)) := by unfold Hid Sto.sync; rw [hd]; rfl
    rw [hd] at c3
    replace hd := Lib.hid hd
    go_enter Try.func53, Try.ntmps53
    go_wp2_with fail
    refine hk.mono ?_
    rintro e w2 ⟨rfl, hto⟩
    go_wp2_with fail
    go_ret
    exact ⟨by rw [hr.out]; rfl, by rw [hr.out]; exact hto⟩
  · have hr : Hid (s.sync = (s, 51)) := by unfold Hid Sto.sync; rw [hd]; rfl
    rw [hd] at c3
    replace hd := Lib.hid hd
    clear hk
    go_enter Try.func53, Try.ntmps53
    go_wp2_with fail
    go_ret
    exact ⟨by rw [hr.out]; rfl, by rw [hr.out]; exact ⟨_, h9.out, But.refl _ _, fun i hi => .inl hi⟩⟩

set_option maxHeartbeats 1000000 in
theorem store_Up (b : Nat) (F : List Nat) (N : Nat) (s : Sto) (w : World) (h : StoAt w b F N s) :
    Calls Try.prog 18 #[.pointer (some ⟨b, 0, none⟩)] w fun e w' => e = .returned (.bool !s.down) ∧ w' = w := by
  obtain ⟨gm, sm, V, rfl, h⟩ := h
  obtain ⟨c0, c1, c2, c3, c4, c5⟩ := h.box.cells
  clear h
  go_enter Try.func18, Try.ntmps18
  go_wp2_with fail
  go_ret
  exact ⟨rfl, rfl⟩
def Sto.sound (s : Sto) : Bool := !s.down && decide (s.refuse < 0)
set_option maxHeartbeats 1000000 in
theorem store_Sound (b : Nat) (F : List Nat) (N : Nat) (s : Sto) (w : World) (h : StoAt w b F N s) :
    Calls Try.prog 19 #[.pointer (some ⟨b, 0, none⟩)] w fun e w' => e = .returned (.bool s.sound) ∧ w' = w := by
  have hu := store_Up b F N s w h
  obtain ⟨gm, sm, V, rfl, h⟩ := h
  obtain ⟨c0, c1, c2, c3, c4, c5⟩ := h.box.cells
  clear h
  cases hd : s.down
  · have hr : Hid (s.sound = decide (s.refuse < 0)) := by unfold Hid Sto.sound; rw [hd]; rfl
    rw [hd] at c3 hu
    replace hd := Lib.hid hd
    go_enter Try.func19, Try.ntmps19
    go_wp2_with fail
    refine hu.mono ?_
    rintro e w1 ⟨rfl, rfl⟩
    simp only [Bool.not_false]
    go_wp2_with fail
    go_ret
    exact ⟨by rw [hr.out]; rfl, rfl⟩
  · have hr : Hid (s.sound = false) := by unfold Hid Sto.sound; rw [hd]; rfl
    rw [hd] at c3 hu
    replace hd := Lib.hid hd
    go_enter Try.func19, Try.ntmps19
    go_wp2_with fail
    refine hu.mono ?_
    rintro e w1 ⟨rfl, rfl⟩
    simp only [Bool.not_true]
    go_wp2_with fail
    go_ret
    exact ⟨by rw [hr.out]; rfl, rfl⟩
end Go.Proofs.Ytfkonpmnclknaaa
