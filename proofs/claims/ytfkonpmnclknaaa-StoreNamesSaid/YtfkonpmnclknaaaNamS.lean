/-
  The walk of StoreNames.
-/
import Derived.Test.YtfkonpmnclknaaaNamB
import Derived.Test.YtfkonpmnclknaaaNilS
namespace Go.Proofs.Ytfkonpmnclknaaa
open Go.RowKit Go.Maps
attribute [local go_sem ↓] Go.wp_at_zero Go.wp_at_succ

def snM : Sto := ⟨[], [⟨manyB 80, manyB 65536, false⟩], [(manyB 80, manyB 65536)], false, -1, -1⟩
theorem snM_r : Sto.new.put (manyB 80, manyB 65536) = (snM, 0) := put_many (by rw [manyB_size]; decide) (by rw [manyB_size]; decide) (by rw [manyB_size]; decide)
theorem sn0_r : Sto.new.put (⟨#[]⟩, ⟨#[]⟩) = (Sto.new, 1) := by kernel_rfl
theorem sn81_r : Sto.new.put (manyB 81, ⟨#[]⟩) = (Sto.new, 1) := put_long (.inl (by rw [manyB_size]; decide))
theorem sn65537_r : Sto.new.put (⟨#[97]⟩, manyB 65537) = (Sto.new, 1) := put_long (.inr (by rw [manyB_size]; decide))
theorem snM_up : (!snM.down) = true := rfl
theorem snM_sound : snM.sound = true := rfl
theorem manyB_le (n : Nat) (h : n ≤ maxLen) : (manyB n).size ≤ maxLen := by rw [manyB_size]; exact h

set_option maxHeartbeats 16000000 in
set_option maxRecDepth 100000 in
theorem storeNames_walk (w : World) : Calls Try.prog 4 #[] w fun e w' => e = .returned (.bool true) ∧ Below w.heap.size w w' := by
  go_enter Try.func4, Try.ntmps4
  go_wp2_with fail
  refine (law07_works w).mono ?_
  rintro e wx ⟨rfl, hb⟩
  have hS : Stos w.heap.size w wx 0 [] [] := Stos.none_ hb
  clear hb
  go_wp2_with fail
  (refine (hS.new (Nat.le_refl _) (by decide)).mono ?_
   rintro e wx ⟨b0, rfl, hT⟩
   clear hS
   have hS : Stos w.heap.size w wx 0 [(b0, Sto.new)] _ := hT
   clear hT
   go_wp2_with fail)
  (refine (hS.o (Nat.le_refl _)).mono ?_
   rintro e wx ⟨rfl, hT⟩
   clear hS
   have hS := hT
   clear hT
   go_wp2_with fail)
  (refine (hS.put (k := 0) (Nat.le_refl _) rfl sn0_r (by decide) (by decide) (by decide)).mono ?_
   rintro e wx ⟨rfl, hT⟩
   clear hS
   have hS : Stos w.heap.size w wx 1 [(b0, Sto.new)] _ := hT
   clear hT
   go_wp2_with fail)
  (refine (hS.many 81 (by decide) (Nat.le_refl _)).mono ?_
   rintro e wx ⟨rfl, hT⟩
   clear hS
   have hS := hT
   clear hT
   go_wp2_with fail)
  (refine (hS.o (Nat.le_refl _)).mono ?_
   rintro e wx ⟨rfl, hT⟩
   clear hS
   have hS := hT
   clear hT
   go_wp2_with fail)
  (refine (hS.put (k := 0) (Nat.le_refl _) rfl sn81_r (manyB_le 81 (by decide)) (by decide) (by decide)).mono ?_
   rintro e wx ⟨rfl, hT⟩
   clear hS
   have hS : Stos w.heap.size w wx 2 [(b0, Sto.new)] _ := hT
   clear hT
   go_wp2_with fail)
  (refine (hS.many 65537 (by decide) (Nat.le_refl _)).mono ?_
   rintro e wx ⟨rfl, hT⟩
   clear hS
   have hS := hT
   clear hT
   go_wp2_with fail)
  (refine (hS.o (Nat.le_refl _)).mono ?_
   rintro e wx ⟨rfl, hT⟩
   clear hS
   have hS := hT
   clear hT
   go_wp2_with fail)
  (refine (hS.put (k := 0) (Nat.le_refl _) rfl sn65537_r (by decide) (manyB_le 65537 (by decide)) (by decide)).mono ?_
   rintro e wx ⟨rfl, hT⟩
   clear hS
   have hS : Stos w.heap.size w wx 3 [(b0, Sto.new)] _ := hT
   clear hT
   go_wp2_with fail)
  (refine (hS.many 80 (by decide) (Nat.le_refl _)).mono ?_
   rintro e wx ⟨rfl, hT⟩
   clear hS
   have hS := hT
   clear hT
   go_wp2_with fail)
  (refine (hS.many 65536 (by decide) (Nat.le_refl _)).mono ?_
   rintro e wx ⟨rfl, hT⟩
   clear hS
   have hS := hT
   clear hT
   go_wp2_with fail)
  (refine (hS.o (Nat.le_refl _)).mono ?_
   rintro e wx ⟨rfl, hT⟩
   clear hS
   have hS := hT
   clear hT
   go_wp2_with fail)
  (refine (hS.put (k := 0) (Nat.le_refl _) rfl snM_r (manyB_le 80 (by decide)) (manyB_le 65536 (by decide)) (by decide)).mono ?_
   rintro e wx ⟨rfl, hT⟩
   clear hS
   have hS : Stos w.heap.size w wx 4 [(b0, snM)] _ := hT
   clear hT
   go_wp2_with fail)
  (refine (hS.up (k := 0) rfl snM_up).mono ?_
   rintro e wz ⟨rfl, hw⟩
   obtain rfl := hw.symm
   clear hw
   go_wp2_with fail)
  (refine (hS.sound (k := 0) rfl snM_sound).mono ?_
   rintro e wz ⟨rfl, hw⟩
   obtain rfl := hw.symm
   clear hw
   go_wp2_with fail)
  have hT := hS.alloc (Nat.le_refl _) (.cells (badF.flatMap Flt.cells).toArray 33)
  clear hS
  go_loopw [3, 68] (fun _ ti wr => ∃ k : Nat, k ≤ 7 ∧ ti = .int .i64 k ∧ Stos w.heap.size w wr (4 + k) [(b0, snM)] [(wx.heap.size, .cells (badF.flatMap Flt.cells).toArray 33)]) (fun _ ti _ => 7 - (intOf ti).toNat)
  case atStart => exact ⟨0, Nat.zero_le _, rfl, hT⟩
  clear hT
  obtain ⟨k, hk, rfl, hS⟩ := hrel
  obtain ⟨wp, rfl⟩ : ∃ x : World, x = wr := ⟨_, rfl⟩
  rcases Nat.lt_or_ge k 7 with hlt | hge
  case inl =>
    have hrow : RowAt 5 Flt.cells wp (wx.heap.size + 1) (some ⟨wx.heap.size, 0, none⟩) 7 badF := rowHeap (k := 5) (enc := Flt.cells) (fun _ => rfl) hS.row (by decide)
    obtain ⟨f, hx, c0, c1, c2, c3, c4⟩ := hrow.flt hlt
    obtain ⟨hp1, hp2⟩ := badF_strike (List.mem_of_getElem? hx) snM
    replace hx := Lib.hid hx
    replace hp1 := Lib.hid hp1
    replace hS := Lib.hid hS
    clear hrow
    obtain ⟨fk, fs, fn, fa, fc⟩ := f
    dsimp only at c0 c1 c2 c3 c4
    simp only [Nat.zero_add] at c0 c1 c2 c3 c4
    go_wp2_with fail
    refine ((hS.out.below (Nat.le_refl _) ((by repeat (first | exact Below.refl _ _ | assumption | refine Below.drew ?_ | refine below_drewN ?_ _ | refine Below.alloc ?_ (by first | omega | (simp; try omega)) _ | refine Below.setCell ?_ (by first | omega | (simp; try omega)) _ | (refine Below.trans ?_ (Below.mono (by assumption) (by first | omega | (simp; try omega)))))))).strike (k := 0) (Nat.le_refl _) rfl hp1.out hp2 (by omega)).mono ?_
    rintro e wy ⟨rfl, hT⟩
    go_wp2_with fail
    go_roundw
    case rel => exact ⟨k + 1, by omega, by go_num, hT⟩
    case measure => simp [intOf]; omega
  obtain rfl : k = 7 := by omega
  have hT : Stos w.heap.size w wp 11 [(b0, snM)] _ := hS
  clear hS hk hge
  have hS := hT
  clear hT
  go_wp2_with fail
  (refine (law07_faults _).mono ?_
   rintro e wx ⟨rfl, hb⟩
   have hT := hS.below (Nat.le_refl _) hb
   clear hS hb
   have hS := hT
   clear hT
   go_wp2_with fail)
  (refine (law07_rooms _).mono ?_
   rintro e wx ⟨rfl, hb⟩
   have hT := hS.below (Nat.le_refl _) hb
   clear hS hb
   have hS := hT
   clear hT
   go_wp2_with fail)
  (refine (law07_refuses _).mono ?_
   rintro e wx ⟨rfl, hb⟩
   have hT := hS.below (Nat.le_refl _) hb
   clear hS hb
   have hS := hT
   clear hT
   go_wp2_with fail)
  (refine (law07_nothing _).mono ?_
   rintro e wx ⟨rfl, hb⟩
   have hT := hS.below (Nat.le_refl _) hb
   clear hS hb
   have hS := hT
   clear hT
   go_wp2_with fail)
  go_ret
  exact ⟨rfl, hS.bel⟩
end Go.Proofs.Ytfkonpmnclknaaa
