/-
  The first example of chapter 8.
-/
import Derived.Test.YtfkonpmnclknaaaWldH
namespace Go.Proofs.Ytfkonpmnclknaaa
open Go.RowKit
attribute [local go_sem ↓] Go.wp_at_zero Go.wp_at_succ

theorem WldTo.next {B b N : Nat} {X : List Nat} {m : Wld} {w w' : World} (h : WldTo b X N m w w') (hlo : ∀ i ∈ X, B ≤ i) (hB : B ≤ w.heap.size) : ∃ X', WldAt w' b X' N m ∧ (∀ i ∈ X', B ≤ i) ∧ Below B w w' := by
  obtain ⟨X', h1, h2, h3⟩ := h
  refine ⟨X', h1, fun i hi => ?_, h2.below hB hlo⟩
  rcases h3 i hi with e | e
  · exact hlo i e
  · omega

abbrev tA : ByteArray := ⟨#[97]⟩
abbrev tB : ByteArray := ⟨#[98]⟩
abbrev tX : ByteArray := ⟨#[120]⟩
abbrev t0 : ByteArray := ⟨#[]⟩
def aw1 : Wld := ((Wld.new 2).cut 1).1
def aw2 : Wld := aw1.go 0 fun s => (s.put (tA, tX)).1
def aw3 : Wld := aw2.go 0 fun s => s.sync.1
def aw4 : Wld := aw3.crash (List.map Surv.keep [])
def aw5 : Wld := aw4.go 0 id
def aw6 : Wld := aw5.go 1 fun s => (s.put (tB, t0)).1
def aw7 : Wld := aw6.go 1 fun s => s.sync.1
theorem aw1_r : ((Wld.new 2).cut 1).2 = 0 := by kernel_rfl
theorem aw2_r : (aw1.err 0 fun s => (s.put (tA, tX)).2) = 0 := by kernel_rfl
theorem aw2_d : aw2.dark = false := by kernel_rfl
theorem aw3_r : (aw2.err 0 fun s => s.sync.2) = 56 := by kernel_rfl
theorem aw3_d : aw3.dark = true := by kernel_rfl
theorem aw3_c : aw3.calls = 2 := by kernel_rfl
theorem aw4_d : aw4.dark = false := by kernel_rfl
theorem aw5_r : aw4.get 0 tA = (t0, 5) := by kernel_rfl
theorem aw6_r : (aw5.err 1 fun s => (s.put (tB, t0)).2) = 0 := by kernel_rfl
theorem aw7_r : (aw6.err 1 fun s => s.sync.2) = 0 := by kernel_rfl
theorem aw7_o : (aw7.objs 1).length = 1 := by kernel_rfl
theorem aw7_s : aw7.suspects.length = 0 := by kernel_rfl
theorem aw_calls : aw1.calls = 0 ∧ aw2.calls = 1 ∧ aw4.calls = 2 ∧ aw5.calls = 3 ∧ aw6.calls = 4 := by decide

set_option maxHeartbeats 4000000 in
set_option maxRecDepth 100000 in
theorem law08_awake (w : World) : Calls Try.prog 44 #[] w fun e w' => e = .returned (.bool true) ∧ Below w.heap.size w w' := by
  obtain ⟨l1, l2, l4, l5, l6⟩ := aw_calls
  go_enter Try.func44, Try.ntmps44
  go_wp2_with fail
  refine (world_New 2 (by decide) (by decide) w).mono ?_
  rintro e w1 ⟨rfl, X1, h1, k1, y1⟩
  have hN := world_N w.heap.size 0 X1 (Wld.new 2) w1 h1
  rw [wnew_len] at hN
  go_wp2_with fail
  (refine (hN).mono ?_
   rintro e wz ⟨rfl, rfl⟩
   go_wp2_with fail)
  clear hN
  have hp := world_Cut w.heap.size 0 X1 (Wld.new 2) 1 (by decide) wz h1
  rw [aw1_r] at hp
  (refine (hp).mono ?_
   rintro e w2 ⟨rfl, hto⟩
   obtain ⟨X2, h2, k2, g2⟩ := hto.next k1 y1.size
   have y2 := y1.trans g2
   clear hto h1
   go_wp2_with fail)
  clear hp
  have hp := world_Put w.heap.size 0 X2 aw1 0 (tA, tX) (by decide) (by decide) w2 h2 (by omega) (by omega)
  rw [aw2_r] at hp
  (refine (hp).mono ?_
   rintro e w3 ⟨rfl, hto⟩
   obtain ⟨X3, h3, k3, g3⟩ := hto.next k2 y2.size
   have y3 := y2.trans g3
   clear hto h2
   go_wp2_with fail)
  clear hp
  have hp := world_Dark w.heap.size 1 X3 aw2 w3 h3
  rw [aw2_d] at hp
  (refine (hp).mono ?_
   rintro e wz ⟨rfl, rfl⟩
   go_wp2_with fail)
  clear hp
  have hp := world_Sync w.heap.size 1 X3 aw2 0 wz h3 (by omega) (by omega)
  rw [aw3_r] at hp
  (refine (hp).mono ?_
   rintro e w4 ⟨rfl, hto⟩
   obtain ⟨X4, h4, k4, g4⟩ := hto.next k3 y3.size
   have y4 := y3.trans g4
   clear hto h3
   go_wp2_with fail)
  clear hp
  have hp := world_Dark w.heap.size 1 X4 aw3 w4 h4
  rw [aw3_d] at hp
  (refine (hp).mono ?_
   rintro e wz ⟨rfl, rfl⟩
   go_wp2_with fail)
  clear hp
  have hp := world_Calls w.heap.size 1 X4 aw3 wz h4
  rw [aw3_c] at hp
  (refine (hp).mono ?_
   rintro e wz ⟨rfl, rfl⟩
   go_wp2_with fail)
  clear hp
  have hp := world_Crash w.heap.size 1 X4 aw3 none 0 0 [] w.heap.size wz h4 RowAt.none_ (by simp) y4.size k4 (by decide)
  (refine (hp).mono ?_
   rintro e w5 ⟨rfl, hto⟩
   obtain ⟨X5, h5, k5, g5⟩ := hto.next k4 y4.size
   have y5 := y4.trans g5
   clear hto h4
   go_wp2_with fail)
  clear hp
  have hp := world_Dark w.heap.size 1 X5 aw4 w5 h5
  rw [aw4_d] at hp
  (refine (hp).mono ?_
   rintro e wz ⟨rfl, rfl⟩
   go_wp2_with fail)
  clear hp
  have hp := world_Get w.heap.size 1 X5 aw4 0 tA (by decide) wz h5 (by omega) (by omega)
  rw [aw5_r] at hp
  (refine (hp).mono ?_
   rintro e w6 ⟨rfl, hto⟩
   obtain ⟨X6, h6, k6, g6⟩ := hto.next k5 y5.size
   have y6 := y5.trans g6
   clear hto h5
   go_wp2_with fail)
  clear hp
  have hp := world_Put w.heap.size 1 X6 aw5 1 (tB, t0) (by decide) (by decide) w6 h6 (by omega) (by omega)
  rw [aw6_r] at hp
  (refine (hp).mono ?_
   rintro e w7 ⟨rfl, hto⟩
   obtain ⟨X7, h7, k7, g7⟩ := hto.next k6 y6.size
   have y7 := y6.trans g7
   clear hto h6
   go_wp2_with fail)
  clear hp
  have hp := world_Sync w.heap.size 2 X7 aw6 1 w7 h7 (by omega) (by omega)
  rw [aw7_r] at hp
  (refine (hp).mono ?_
   rintro e w8 ⟨rfl, hto⟩
   obtain ⟨X8, h8, k8, g8⟩ := hto.next k7 y7.size
   have y8 := y7.trans g8
   clear hto h7
   go_wp2_with fail)
  clear hp
  refine (world_Objects w.heap.size 2 X8 aw7 1 w8 h8).mono ?_
  rintro e w9 ⟨v9, rfl, o9, b9⟩
  obtain ⟨A9, c9, rfl⟩ : ∃ A c, v9 = .slice A 1 c := by
    obtain ⟨A, c, e⟩ := Owns.form o9
    rw [aw7_o] at e
    exact ⟨A, c, e⟩
  replace h8 := h8.below b9
  have y9 := y8.trans (b9.mono y8.size)
  replace o9 := Lib.hid o9
  go_wp2_with fail
  refine (world_Suspects w.heap.size 2 X8 aw7 w9 h8).mono ?_
  rintro e w10 ⟨v10, rfl, o10, b10⟩
  obtain ⟨A10, c10, rfl⟩ : ∃ A c, v10 = .slice A 0 c := by
    obtain ⟨A, c, e⟩ := Owns.form o10
    rw [aw7_s] at e
    exact ⟨A, c, e⟩
  have y10 := y9.trans (b10.mono y9.size)
  replace o10 := Lib.hid o10
  go_wp2_with fail
  go_ret
  exact ⟨rfl, y10⟩
end Go.Proofs.Ytfkonpmnclknaaa
