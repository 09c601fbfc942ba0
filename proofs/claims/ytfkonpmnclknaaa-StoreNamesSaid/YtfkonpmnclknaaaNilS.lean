/-
  Nothing is there of no store.
-/
import Derived.Test.YtfkonpmnclknaaaNamC
namespace Go.Proofs.Ytfkonpmnclknaaa
open Go.RowKit Go.Maps
attribute [local go_sem ↓] Go.wp_at_zero Go.wp_at_succ

theorem nil_Get (n : ByteArray) (w : World) : Calls Try.prog 46 #[.pointer none, .string n] w fun e w' => e = .returned (.tuple #[.string ⟨#[]⟩, .int .i64 2]) ∧ Below w.heap.size w w' := by
  go_enter Try.func46, Try.ntmps46
  go_wp2_with fail
  go_ret2
  exact ⟨rfl, (by repeat (first | exact Below.refl _ _ | assumption | refine Below.drew ?_ | refine below_drewN ?_ _ | refine Below.alloc ?_ (by first | omega | (simp; try omega)) _ | refine Below.setCell ?_ (by first | omega | (simp; try omega)) _ | (refine Below.trans ?_ (Below.mono (by assumption) (by first | omega | (simp; try omega))))))⟩
theorem nil_List (w : World) : Calls Try.prog 50 #[.pointer none] w fun e w' => e = .returned (.tuple #[.slice none 0 0, .int .i64 2]) ∧ Below w.heap.size w w' := by
  go_enter Try.func50, Try.ntmps50
  go_wp2_with fail
  go_ret2
  exact ⟨rfl, (by repeat (first | exact Below.refl _ _ | assumption | refine Below.drew ?_ | refine below_drewN ?_ _ | refine Below.alloc ?_ (by first | omega | (simp; try omega)) _ | refine Below.setCell ?_ (by first | omega | (simp; try omega)) _ | (refine Below.trans ?_ (Below.mono (by assumption) (by first | omega | (simp; try omega))))))⟩
theorem nil_Put (n d : ByteArray) (w : World) : Calls Try.prog 15 #[.pointer none, .agg #[.string n, .string d]] w fun e w' => e = .returned (.int .i64 2) ∧ Below w.heap.size w w' := by
  go_enter Try.func15, Try.ntmps15
  go_wp2_with fail
  go_ret
  exact ⟨rfl, (by repeat (first | exact Below.refl _ _ | assumption | refine Below.drew ?_ | refine below_drewN ?_ _ | refine Below.alloc ?_ (by first | omega | (simp; try omega)) _ | refine Below.setCell ?_ (by first | omega | (simp; try omega)) _ | (refine Below.trans ?_ (Below.mono (by assumption) (by first | omega | (simp; try omega))))))⟩
theorem nil_Del (n : ByteArray) (w : World) : Calls Try.prog 48 #[.pointer none, .string n] w fun e w' => e = .returned (.int .i64 2) ∧ Below w.heap.size w w' := by
  go_enter Try.func48, Try.ntmps48
  go_wp2_with fail
  refine (nil_Get n w).mono ?_
  rintro e w1 ⟨rfl, hb⟩
  go_wp2_with fail
  go_ret
  exact ⟨rfl, hb⟩
theorem nil_Sync (w : World) : Calls Try.prog 53 #[.pointer none] w fun e w' => e = .returned (.int .i64 2) ∧ Below w.heap.size w w' := by
  go_enter Try.func53, Try.ntmps53
  go_wp2_with fail
  go_ret
  exact ⟨rfl, (by repeat (first | exact Below.refl _ _ | assumption | refine Below.drew ?_ | refine below_drewN ?_ _ | refine Below.alloc ?_ (by first | omega | (simp; try omega)) _ | refine Below.setCell ?_ (by first | omega | (simp; try omega)) _ | (refine Below.trans ?_ (Below.mono (by assumption) (by first | omega | (simp; try omega))))))⟩
theorem nil_Crash (A : Option Addr) (n c : Nat) (w : World) : Calls Try.prog 56 #[.pointer none, .slice A n c] w fun e w' => e = .returned (.int .i64 2) ∧ Below w.heap.size w w' := by
  go_enter Try.func56, Try.ntmps56
  go_wp2_with fail
  go_ret
  exact ⟨rfl, (by repeat (first | exact Below.refl _ _ | assumption | refine Below.drew ?_ | refine below_drewN ?_ _ | refine Below.alloc ?_ (by first | omega | (simp; try omega)) _ | refine Below.setCell ?_ (by first | omega | (simp; try omega)) _ | (refine Below.trans ?_ (Below.mono (by assumption) (by first | omega | (simp; try omega))))))⟩
theorem nil_Strike (f : Flt) (w : World) : Calls Try.prog 20 #[.pointer none, .agg #[.int .u8 f.kind, .int .i64 f.store, .int .i64 f.n, .int .i64 f.at_, .int .i64 f.c]] w fun e w' => e = .returned (.int .i64 2) ∧ Below w.heap.size w w' := by
  go_enter Try.func20, Try.ntmps20
  go_wp2_with fail
  go_ret
  exact ⟨rfl, (by repeat (first | exact Below.refl _ _ | assumption | refine Below.drew ?_ | refine below_drewN ?_ _ | refine Below.alloc ?_ (by first | omega | (simp; try omega)) _ | refine Below.setCell ?_ (by first | omega | (simp; try omega)) _ | (refine Below.trans ?_ (Below.mono (by assumption) (by first | omega | (simp; try omega))))))⟩
theorem nil_Up (w : World) : Calls Try.prog 18 #[.pointer none] w fun e w' => e = .returned (.bool false) ∧ Below w.heap.size w w' := by
  go_enter Try.func18, Try.ntmps18
  go_wp2_with fail
  go_ret
  exact ⟨rfl, (by repeat (first | exact Below.refl _ _ | assumption | refine Below.drew ?_ | refine below_drewN ?_ _ | refine Below.alloc ?_ (by first | omega | (simp; try omega)) _ | refine Below.setCell ?_ (by first | omega | (simp; try omega)) _ | (refine Below.trans ?_ (Below.mono (by assumption) (by first | omega | (simp; try omega))))))⟩
theorem nil_Sound (w : World) : Calls Try.prog 19 #[.pointer none] w fun e w' => e = .returned (.bool false) ∧ Below w.heap.size w w' := by
  go_enter Try.func19, Try.ntmps19
  go_wp2_with fail
  refine (nil_Up w).mono ?_
  rintro e w1 ⟨rfl, hb⟩
  go_wp2_with fail
  go_ret
  exact ⟨rfl, hb⟩
theorem nil_Objects (w : World) : Calls Try.prog 26 #[.pointer none] w fun e w' => e = .returned (.slice none 0 0) ∧ Below w.heap.size w w' := by
  go_enter Try.func26, Try.ntmps26
  go_wp2_with fail
  go_ret
  exact ⟨rfl, (by repeat (first | exact Below.refl _ _ | assumption | refine Below.drew ?_ | refine below_drewN ?_ _ | refine Below.alloc ?_ (by first | omega | (simp; try omega)) _ | refine Below.setCell ?_ (by first | omega | (simp; try omega)) _ | (refine Below.trans ?_ (Below.mono (by assumption) (by first | omega | (simp; try omega))))))⟩
theorem nil_Copy (w : World) : Calls Try.prog 13 #[.pointer none] w fun e w' => e = .returned (.pointer none) ∧ Below w.heap.size w w' := by
  go_enter Try.func13, Try.ntmps13
  go_wp2_with fail
  go_ret
  exact ⟨rfl, (by repeat (first | exact Below.refl _ _ | assumption | refine Below.drew ?_ | refine below_drewN ?_ _ | refine Below.alloc ?_ (by first | omega | (simp; try omega)) _ | refine Below.setCell ?_ (by first | omega | (simp; try omega)) _ | (refine Below.trans ?_ (Below.mono (by assumption) (by first | omega | (simp; try omega))))))⟩
set_option maxHeartbeats 1000000 in
set_option maxRecDepth 100000 in
theorem nil_Same (p : Option Addr) (v : Bool) (hv : (p = none ∧ v = true) ∨ (∃ b, p = some ⟨b, 0, none⟩) ∧ v = false) (w : World) : Calls Try.prog 11 #[.pointer none, .pointer p] w fun e w' => e = .returned (.bool v) ∧ Below w.heap.size w w' := by
  rcases hv with ⟨rfl, rfl⟩ | ⟨⟨b, rfl⟩, rfl⟩
  · go_enter Try.func11, Try.ntmps11
    go_wp2_with fail
    go_ret
    exact ⟨rfl, (by repeat (first | exact Below.refl _ _ | assumption | refine Below.drew ?_ | refine below_drewN ?_ _ | refine Below.alloc ?_ (by first | omega | (simp; try omega)) _ | refine Below.setCell ?_ (by first | omega | (simp; try omega)) _ | (refine Below.trans ?_ (Below.mono (by assumption) (by first | omega | (simp; try omega))))))⟩
  · have hq : (binOp .eql 24 (.pointer none) (.pointer (some ⟨b, 0, none⟩))).run Try.prog w = .ok (.bool false) w := by kernel_rfl
    go_enter Try.func11, Try.ntmps11
    go_wp2_with fail
    go_ret
    exact ⟨rfl, (by repeat (first | exact Below.refl _ _ | assumption | refine Below.drew ?_ | refine below_drewN ?_ _ | refine Below.alloc ?_ (by first | omega | (simp; try omega)) _ | refine Below.setCell ?_ (by first | omega | (simp; try omega)) _ | (refine Below.trans ?_ (Below.mono (by assumption) (by first | omega | (simp; try omega))))))⟩

set_option maxHeartbeats 16000000 in
set_option maxRecDepth 100000 in
theorem law07_nothing (w : World) : Calls Try.prog 24 #[] w fun e w' => e = .returned (.bool true) ∧ Below w.heap.size w w' := by
  go_enter Try.func24, Try.ntmps24
  have hS : Stos w.heap.size w w 0 [] [] := Stos.none_ (Below.refl _ _)
  go_wp2_with fail
  (refine (nil_Get _ _).mono ?_
   rintro e wx ⟨rfl, hb⟩
   have hT := hS.below (Nat.le_refl _) hb
   clear hS hb
   have hS := hT
   clear hT
   go_wp2_with fail)
  (refine (nil_List _).mono ?_
   rintro e wx ⟨rfl, hb⟩
   have hT := hS.below (Nat.le_refl _) hb
   clear hS hb
   have hS := hT
   clear hT
   go_wp2_with fail)
  (refine (hS.o (Nat.le_refl _)).mono ?_
   rintro e wx ⟨rfl, hT⟩
   clear hS
   have hS := hT
   clear hT
   go_wp2_with fail)
  (refine (nil_Put _ _ _).mono ?_
   rintro e wx ⟨rfl, hb⟩
   have hT := hS.below (Nat.le_refl _) hb
   clear hS hb
   have hS := hT
   clear hT
   go_wp2_with fail)
  (refine (nil_Del _ _).mono ?_
   rintro e wx ⟨rfl, hb⟩
   have hT := hS.below (Nat.le_refl _) hb
   clear hS hb
   have hS := hT
   clear hT
   go_wp2_with fail)
  (refine (nil_Sync _).mono ?_
   rintro e wx ⟨rfl, hb⟩
   have hT := hS.below (Nat.le_refl _) hb
   clear hS hb
   have hS := hT
   clear hT
   go_wp2_with fail)
  (refine (nil_Crash none 0 0 _).mono ?_
   rintro e wx ⟨rfl, hb⟩
   have hT := hS.below (Nat.le_refl _) hb
   clear hS hb
   have hS := hT
   clear hT
   go_wp2_with fail)
  (refine (nil_Strike ⟨0, 0, 0, 0, 0⟩ _).mono ?_
   rintro e wx ⟨rfl, hb⟩
   have hT := hS.below (Nat.le_refl _) hb
   clear hS hb
   have hS := hT
   clear hT
   go_wp2_with fail)
  (refine (nil_Up _).mono ?_
   rintro e wx ⟨rfl, hb⟩
   have hT := hS.below (Nat.le_refl _) hb
   clear hS hb
   have hS := hT
   clear hT
   go_wp2_with fail)
  (refine (nil_Sound _).mono ?_
   rintro e wx ⟨rfl, hb⟩
   have hT := hS.below (Nat.le_refl _) hb
   clear hS hb
   have hS := hT
   clear hT
   go_wp2_with fail)
  (refine (nil_Objects _).mono ?_
   rintro e wx ⟨rfl, hb⟩
   have hT := hS.below (Nat.le_refl _) hb
   clear hS hb
   have hS := hT
   clear hT
   go_wp2_with fail)
  (refine (nil_Copy _).mono ?_
   rintro e wx ⟨rfl, hb⟩
   have hT := hS.below (Nat.le_refl _) hb
   clear hS hb
   have hS := hT
   clear hT
   go_wp2_with fail)
  (refine (nil_Same none true (.inl ⟨rfl, rfl⟩) _).mono ?_
   rintro e wx ⟨rfl, hb⟩
   have hT := hS.below (Nat.le_refl _) hb
   clear hS hb
   have hS := hT
   clear hT
   go_wp2_with fail)
  (refine (hS.new (Nat.le_refl _) (by decide)).mono ?_
   rintro e wx ⟨b0, rfl, hT⟩
   clear hS
   have hS : Stos w.heap.size w wx 0 [(b0, Sto.new)] _ := hT
   clear hT
   go_wp2_with fail)
  (refine (nil_Same (some ⟨b0, 0, none⟩) false (.inr ⟨⟨b0, rfl⟩, rfl⟩) _).mono ?_
   rintro e wx ⟨rfl, hb⟩
   have hT := hS.below (Nat.le_refl _) hb
   clear hS hb
   have hS := hT
   clear hT
   go_wp2_with fail)
  (refine (hS.new (Nat.le_refl _) (by decide)).mono ?_
   rintro e wx ⟨b1, rfl, hT⟩
   clear hS
   have hS : Stos w.heap.size w wx 0 [(b0, Sto.new), (b1, Sto.new)] _ := hT
   clear hT
   go_wp2_with fail)
  (refine (hS.new (Nat.le_refl _) (by decide)).mono ?_
   rintro e wx ⟨b2, rfl, hT⟩
   clear hS
   have hS : Stos w.heap.size w wx 0 [(b0, Sto.new), (b1, Sto.new), (b2, Sto.new)] _ := hT
   clear hT
   go_wp2_with fail)
  (refine (hS.same (k := 1) (j := 2) (v := true) (Nat.le_refl _) rfl rfl (by (first | rfl | kernel_rfl)) (by (first | rfl | kernel_rfl)) (by (first | rfl | kernel_rfl))).mono ?_
   rintro e wx ⟨rfl, hT⟩
   clear hS
   have hS : Stos w.heap.size w wx 0 [(b0, Sto.new), (b1, Sto.new), (b2, Sto.new)] _ := hT
   clear hT
   go_wp2_with fail)
  go_ret
  exact ⟨rfl, hS.bel⟩

def badF : List Flt := [⟨0, 0, 0, 0, 0⟩, ⟨8, 0, 0, 0, 0⟩, ⟨2, 0, -1, 0, 0⟩, ⟨3, 0, 0, -1, 0⟩, ⟨3, 0, 0, 0, 256⟩, ⟨1, 0, 0, 0, -1⟩, ⟨4, 0, -1, 0, 0⟩]
def Flt.cells (f : Flt) : List Value := [.int .u8 f.kind, .int .i64 f.store, .int .i64 f.n, .int .i64 f.at_, .int .i64 f.c]
theorem badF_strike {f : Flt} (h : f ∈ badF) (s : Sto) : s.strike f = (s, 1) ∧ f.fit := by
  have hb : f.bad = true ∧ f.fit := by
    unfold badF at h
    simp only [List.mem_cons, List.not_mem_nil, or_false] at h
    rcases h with rfl | rfl | rfl | rfl | rfl | rfl | rfl <;> exact ⟨by decide, by decide, by decide, by decide⟩
  unfold Sto.strike
  rw [if_pos hb.1]
  exact ⟨rfl, hb.2⟩
theorem RowAt.flt {w : World} {B n b off : Nat} {l : List Flt} (h : RowAt 5 Flt.cells w B (some ⟨b, off, none⟩) n l) {i : Nat} (hi : i < n) :
    ∃ f, l[i]? = some f ∧ w.cell? ⟨b, off + i * 5, none⟩ = some (.int .u8 f.kind) ∧ w.cell? ⟨b, off + i * 5 + 1, none⟩ = some (.int .i64 f.store) ∧ w.cell? ⟨b, off + i * 5 + 2, none⟩ = some (.int .i64 f.n) ∧ w.cell? ⟨b, off + i * 5 + 3, none⟩ = some (.int .i64 f.at_) ∧ w.cell? ⟨b, off + i * 5 + 4, none⟩ = some (.int .i64 f.c) := by
  obtain ⟨hl, _, hc⟩ := h
  obtain ⟨b', off', e, hb, hc⟩ := hc (by omega)
  simp only [Option.some.injEq, Addr.mk.injEq] at e
  obtain ⟨rfl, rfl, _⟩ := e
  have hx : l[i]? = some (l[i]'(by omega)) := List.getElem?_eq_getElem (by omega)
  exact ⟨_, hx, hc i _ hx 0 _ rfl, hc i _ hx 1 _ rfl, hc i _ hx 2 _ rfl, hc i _ hx 3 _ rfl, hc i _ hx 4 _ rfl⟩
end Go.Proofs.Ytfkonpmnclknaaa
