/-
  The examples of chapter 7.
-/
import Derived.Test.YtfkonpmnclknaaaStoI
namespace Go.Proofs.Ytfkonpmnclknaaa
open Go.RowKit Go.Maps
attribute [local go_sem ↓] Go.wp_at_zero Go.wp_at_succ

theorem law_o (n d : ByteArray) (w : World) : Calls Try.prog 16 #[.string n, .string d] w fun e w' => e = .returned (.agg #[.string n, .string d]) ∧ Below w.heap.size w w' := by
  go_enter Try.func16, Try.ntmps16
  go_wp2_with fail
  exact bodyPost_ret (v := .agg #[.string n, .string d]) (results_cell_row Try.results16 _ _ w.heap.size 30 #[.string n, .string d] (0, 0) _ rfl (heap_alloc_new _ _) Try.underlying30 rfl (by kernel_rfl)) rfl ⟨rfl, (Below.refl _ w).alloc (Nat.le_refl _) _⟩

def Sto.has (s : Sto) (n d : ByteArray) : Bool := decide ((s.get n).2 = 0) && decide ((s.get n).1 = d)
set_option maxHeartbeats 1000000 in
theorem law_has (b : Nat) (F : List Nat) (N : Nat) (s : Sto) (n d : ByteArray) (hn : n.size ≤ maxLen) (w : World) (h : StoAt w b F N s) :
    Calls Try.prog 63 #[.pointer (some ⟨b, 0, none⟩), .string n, .string d] w fun e w' => e = .returned (.bool (s.has n d)) ∧ w' = w := by
  have hG := store_Get b F N s n hn w h
  clear h
  obtain ⟨r, hr⟩ : ∃ r, r = s.get n := ⟨_, rfl⟩
  have hv : Hid (s.has n d = (decide (r.2 = 0) && decide (r.1 = d))) := by unfold Hid Sto.has; rw [hr]
  rw [← hr] at hG
  replace hr := Lib.hid hr
  obtain ⟨x, z⟩ := r
  dsimp only at hG hv
  by_cases hz : z = 0
  · subst hz
    by_cases hx : x = d
    · have e0 := str_eq hx
      have hv2 : Hid (s.has n d = true) := by unfold Hid; rw [hv.out]; simp [hx]
      replace hx := Lib.hid hx
      go_enter Try.func63, Try.ntmps63
      go_wp2_with fail
      refine hG.mono ?_
      rintro e w1 ⟨rfl, rfl⟩
      go_wp2_with fail
      go_ret
      exact ⟨by rw [hv2.out]; rfl, rfl⟩
    · have e0 := str_ne hx
      have hv2 : Hid (s.has n d = false) := by unfold Hid; rw [hv.out]; simp [hx]
      replace hx := Lib.hid hx
      go_enter Try.func63, Try.ntmps63
      go_wp2_with fail
      refine hG.mono ?_
      rintro e w1 ⟨rfl, rfl⟩
      go_wp2_with fail
      go_ret
      exact ⟨by rw [hv2.out]; rfl, rfl⟩
  · have e0 : (z == 0) = false := by simpa using hz
    have hv2 : Hid (s.has n d = false) := by unfold Hid; rw [hv.out]; simp [hz]
    replace hz := Lib.hid hz
    go_enter Try.func63, Try.ntmps63
    go_wp2_with fail
    refine hG.mono ?_
    rintro e w1 ⟨rfl, rfl⟩
    go_wp2_with fail
    go_ret
    exact ⟨by rw [hv2.out]; rfl, rfl⟩

def A : ByteArray := ⟨#[97]⟩
def Bb : ByteArray := ⟨#[98]⟩
def wk1 : Sto := (Sto.new.put (⟨#[97]⟩, ⟨#[49]⟩)).1
def wk2 : Sto := wk1.sync.1
def wk3 : Sto := (wk2.put (⟨#[97]⟩, ⟨#[50, 51]⟩)).1
def wk4 : Sto := (wk3.del ⟨#[98]⟩).1
def wk5 : Sto := wk4.crash [1]
def wt1 : Sto := wk4.crash []
def wt2 : Sto := { wt1 with room := 2 }
def wt3 : Sto := (wt2.put (⟨#[98]⟩, ⟨#[49, 50, 51]⟩)).1
def wt4 : Sto := (wt3.put (⟨#[109, 48]⟩, ⟨#[49, 50, 51]⟩)).1
def wk6 : Sto := { wk5 with refuse := 1 }
def wk7 : Sto := (wk6.put (⟨#[99]⟩, ⟨#[]⟩)).1
def wk8 : Sto := (wk7.put (⟨#[100]⟩, ⟨#[]⟩)).1
theorem wk1_r : (Sto.new.put (⟨#[97]⟩, ⟨#[49]⟩)).2 = 0 := by decide
theorem wk2_r : wk1.sync.2 = 0 := by decide
theorem wk3_r : (wk2.put (⟨#[97]⟩, ⟨#[50, 51]⟩)).2 = 0 := by decide
theorem wk4_r : (wk3.del ⟨#[98]⟩).2 = 5 := by decide
theorem wk5_r : wk5.has ⟨#[97]⟩ ⟨#[50]⟩ = true := by decide
theorem wt1_r : wt1.has ⟨#[97]⟩ ⟨#[49]⟩ = true := by decide
theorem wt3_r : (wt2.put (⟨#[98]⟩, ⟨#[49, 50, 51]⟩)).2 = 52 := by kernel_rfl
theorem wt4_r : (wt3.put (⟨#[109, 48]⟩, ⟨#[49, 50, 51]⟩)).2 = 0 := by kernel_rfl
theorem wk7_r : (wk6.put (⟨#[99]⟩, ⟨#[]⟩)).2 = 0 := by kernel_rfl
theorem wk8_r : (wk7.put (⟨#[100]⟩, ⟨#[]⟩)).2 = 53 := by kernel_rfl
theorem wk9_r : (wk8.put (⟨#[100]⟩, ⟨#[]⟩)).2 = 0 := by kernel_rfl

set_option maxHeartbeats 4000000 in
set_option maxRecDepth 100000 in
theorem law07_works (w : World) : Calls Try.prog 14 #[] w fun e w' => e = .returned (.bool true) ∧ Below w.heap.size w w' := by
  go_enter Try.func14, Try.ntmps14
  go_wp2_with fail
  refine (store_New w).mono ?_
  rintro e w1 ⟨rfl, h1, g1⟩
  have k1 : ∀ i ∈ [w.heap.size + 2, w.heap.size, w.heap.size + 1], w.heap.size ≤ i := by simp
  have z1 := g1.size
  generalize [w.heap.size + 2, w.heap.size, w.heap.size + 1] = F1 at h1 k1
  generalize w.heap.size + 2 = b at h1 ⊢
  have y1 := g1
  go_wp2_with fail
  (refine (law_o _ _ w1).mono ?_
   rintro e w2 ⟨rfl, g2⟩
   have h2 := h1.below g2
   have z2 := g2.size
   have k2 := k1
   have y2 := y1.trans (g2.mono (by omega))
   go_wp2_with fail)
  (refine (put_lit wk1_r (by decide) (by decide) (by omega) w2 h2).mono ?_
   rintro e w3 ⟨rfl, hto⟩
   obtain ⟨F3, x3⟩ := hto.next k2 (by omega)
   have h3 := x3.at_
   have k3 := x3.lo
   have z3 := x3.below.size
   have y3 := y2.trans x3.below
   clear hto
   go_wp2_with fail)
  have hsy := store_Sync b _ _ wk1 w3 h3
  rw [wk2_r] at hsy
  (refine (hsy).mono ?_
   rintro e w4 ⟨rfl, hto⟩
   obtain ⟨F4, x4⟩ := hto.next k3 (by omega)
   have h4 := x4.at_
   have k4 := x4.lo
   have z4 := x4.below.size
   have y4 := y3.trans x4.below
   clear hto
   go_wp2_with fail)
  clear hsy
  (refine (law_o _ _ w4).mono ?_
   rintro e w5 ⟨rfl, g5⟩
   have h5 := h4.below g5
   have z5 := g5.size
   have k5 := k4
   have y5 := y4.trans (g5.mono (by omega))
   go_wp2_with fail)
  (refine (put_lit (s := wk2) wk3_r (by decide) (by decide) (by omega) w5 h5).mono ?_
   rintro e w6 ⟨rfl, hto⟩
   obtain ⟨F6, x6⟩ := hto.next k5 (by omega)
   have h6 := x6.at_
   have k6 := x6.lo
   have z6 := x6.below.size
   have y6 := y5.trans x6.below
   clear hto
   go_wp2_with fail)
  have hdl := store_Del b _ _ wk3 ⟨#[98]⟩ (by decide) (by omega) w6 h6
  rw [wk4_r] at hdl
  (refine (hdl).mono ?_
   rintro e w7 ⟨rfl, hto⟩
   obtain ⟨F7, x7⟩ := hto.next k6 (by omega)
   have h7 := x7.at_
   have k7 := x7.lo
   have z7 := x7.below.size
   have y7 := y6.trans x7.below
   clear hto
   go_wp2_with fail)
  clear hdl
  refine (store_Copy b _ _ wk4 w7 h7).mono ?_
  rintro e w8 ⟨rfl, G8, t8, g8, j8⟩
  have h8 := h7.below g8
  have s8 : Sep G8 F7 := fun i hi hf => by have := j8 i hi; have := h7.lt i hf; omega
  have k8 := k7
  have z8 := g8.size
  replace j8 : ∀ i ∈ G8, w.heap.size ≤ i := fun i hi => Nat.le_trans (by omega) (j8 i hi)
  have y8 := y7.trans (g8.mono (by omega))
  generalize w7.heap.size = c at t8 ⊢
  go_wp2_with fail
  have i9 : IntsAt (w8.alloc (.cells #[.int .i64 1] 3)) (w8.alloc (.cells #[.int .i64 1] 3)).heap.size (some ⟨w8.heap.size, 0, none⟩) 1 [1] := ⟨rfl, by omega, fun _ => ⟨w8.heap.size, 0, rfl, by simp, fun i x hx j v hv => by
    obtain rfl : i = 0 := by have := (List.getElem?_eq_some_iff.1 hx).1; simpa using this
    obtain rfl : j = 0 := by have := (List.getElem?_eq_some_iff.1 hv).1; simpa [intCell] using this
    simp at hx
    subst hx
    simp [intCell] at hv
    subst hv
    exact newCell _ _ _ _ _⟩⟩
  have g9 : Below w8.heap.size w8 (w8.alloc (.cells #[.int .i64 1] 3)) := (Below.refl _ _).alloc (Nat.le_refl _) _
  have h9 := h8.below g9
  have t9 := t8.below g9
  have z9 := g9.size
  have k9 := k8
  have j9 := j8
  have s9 := s8
  have y9 := y8.trans (g9.mono (by omega))
  generalize (w8.alloc (.cells #[.int .i64 1] 3)) = w9 at h9 t9 z9 y9 i9 ⊢
  clear g9
  (refine (store_Crash b _ _ wk4 _ 1 1 [1] w9 h9 i9).mono ?_
   rintro e w10 ⟨rfl, hto⟩
   obtain ⟨F10, x10⟩ := hto.next k9 (by omega)
   have h10 := x10.at_
   have k10 := x10.lo
   have z10 := x10.below.size
   have y10 := y9.trans x10.below
   obtain ⟨t10, s10⟩ := x10.beside t9 s9
   have j10 := j9
   clear hto
   go_wp2_with fail)
  have ha := law_has b _ _ wk5 ⟨#[97]⟩ ⟨#[50]⟩ (by decide) w10 h10
  rw [wk5_r] at ha
  refine ha.mono ?_
  rintro e w11 ⟨rfl, rfl⟩
  clear ha
  go_wp2_with fail
  (refine (store_Crash c _ _ wk4 none 0 0 [] w11 t10 (IntsAt.none_ w11)).mono ?_
   rintro e w12 ⟨rfl, hto⟩
   obtain ⟨G12, x12⟩ := hto.next j10 (by omega)
   have t12 := x12.at_
   have j12 := x12.lo
   have z12 := x12.below.size
   have y12 := y10.trans x12.below
   obtain ⟨h12, s12⟩ := x12.beside h10 s10.symm
   replace s12 := Sep.symm s12
   have k12 := k10
   clear hto
   go_wp2_with fail)
  have ha := law_has c _ _ wt1 ⟨#[97]⟩ ⟨#[49]⟩ (by decide) w12 t12
  rw [wt1_r] at ha
  refine ha.mono ?_
  rintro e w13 ⟨rfl, rfl⟩
  clear ha
  go_wp2_with fail
  (refine (strike_room_lit (s := wt1) (n := 2) (by omega) (by omega) w13 t12).mono ?_
   rintro e w14 ⟨rfl, hto⟩
   obtain ⟨G14, x14⟩ := hto.next j12 (by omega)
   have t14 := x14.at_
   have j14 := x14.lo
   have z14 := x14.below.size
   have y14 := y12.trans x14.below
   obtain ⟨h14, s14⟩ := x14.beside h12 s12.symm
   replace s14 := Sep.symm s14
   have k14 := k12
   clear hto
   go_wp2_with fail)
  (refine (law_o _ _ w14).mono ?_
   rintro e w15 ⟨rfl, g15⟩
   have h15 := h14.below g15
   have t15 := t14.below g15
   have z15 := g15.size
   have k15 := k14
   have j15 := j14
   have s15 := s14
   have y15 := y14.trans (g15.mono (by omega))
   go_wp2_with fail)
  (refine (put_lit (s := wt2) wt3_r (by decide) (by decide) (by omega) w15 t15).mono ?_
   rintro e w16 ⟨rfl, hto⟩
   obtain ⟨G16, x16⟩ := hto.next j15 (by omega)
   have t16 := x16.at_
   have j16 := x16.lo
   have z16 := x16.below.size
   have y16 := y15.trans x16.below
   obtain ⟨h16, s16⟩ := x16.beside h15 s15.symm
   replace s16 := Sep.symm s16
   have k16 := k15
   clear hto
   go_wp2_with fail)
  (refine (law_o _ _ w16).mono ?_
   rintro e w17 ⟨rfl, g17⟩
   have h17 := h16.below g17
   have t17 := t16.below g17
   have z17 := g17.size
   have k17 := k16
   have j17 := j16
   have s17 := s16
   have y17 := y16.trans (g17.mono (by omega))
   go_wp2_with fail)
  (refine (put_lit (s := wt3) wt4_r (by decide) (by decide) (by omega) w17 t17).mono ?_
   rintro e w18 ⟨rfl, hto⟩
   obtain ⟨G18, x18⟩ := hto.next j17 (by omega)
   have t18 := x18.at_
   have j18 := x18.lo
   have z18 := x18.below.size
   have y18 := y17.trans x18.below
   obtain ⟨h18, s18⟩ := x18.beside h17 s17.symm
   replace s18 := Sep.symm s18
   have k18 := k17
   clear hto
   go_wp2_with fail)
  (refine (strike_refuse_lit (s := wk5) (n := 1) (by omega) (by omega) w18 h18).mono ?_
   rintro e w19 ⟨rfl, hto⟩
   obtain ⟨F19, x19⟩ := hto.next k18 (by omega)
   have h19 := x19.at_
   have k19 := x19.lo
   have z19 := x19.below.size
   have y19 := y18.trans x19.below
   obtain ⟨t19, s19⟩ := x19.beside t18 s18
   have j19 := j18
   clear hto
   go_wp2_with fail)
  (refine (law_o _ _ w19).mono ?_
   rintro e w20 ⟨rfl, g20⟩
   have h20 := h19.below g20
   have t20 := t19.below g20
   have z20 := g20.size
   have k20 := k19
   have j20 := j19
   have s20 := s19
   have y20 := y19.trans (g20.mono (by omega))
   go_wp2_with fail)
  (refine (put_lit (s := wk6) wk7_r (by decide) (by decide) (by omega) w20 h20).mono ?_
   rintro e w21 ⟨rfl, hto⟩
   obtain ⟨F21, x21⟩ := hto.next k20 (by omega)
   have h21 := x21.at_
   have k21 := x21.lo
   have z21 := x21.below.size
   have y21 := y20.trans x21.below
   obtain ⟨t21, s21⟩ := x21.beside t20 s20
   have j21 := j20
   clear hto
   go_wp2_with fail)
  (refine (law_o _ _ w21).mono ?_
   rintro e w22 ⟨rfl, g22⟩
   have h22 := h21.below g22
   have t22 := t21.below g22
   have z22 := g22.size
   have k22 := k21
   have j22 := j21
   have s22 := s21
   have y22 := y21.trans (g22.mono (by omega))
   go_wp2_with fail)
  (refine (put_lit (s := wk7) wk8_r (by decide) (by decide) (by omega) w22 h22).mono ?_
   rintro e w23 ⟨rfl, hto⟩
   obtain ⟨F23, x23⟩ := hto.next k22 (by omega)
   have h23 := x23.at_
   have k23 := x23.lo
   have z23 := x23.below.size
   have y23 := y22.trans x23.below
   obtain ⟨t23, s23⟩ := x23.beside t22 s22
   have j23 := j22
   clear hto
   go_wp2_with fail)
  (refine (law_o _ _ w23).mono ?_
   rintro e w24 ⟨rfl, g24⟩
   have h24 := h23.below g24
   have t24 := t23.below g24
   have z24 := g24.size
   have k24 := k23
   have j24 := j23
   have s24 := s23
   have y24 := y23.trans (g24.mono (by omega))
   go_wp2_with fail)
  (refine (put_lit (s := wk8) wk9_r (by decide) (by decide) (by omega) w24 h24).mono ?_
   rintro e w25 ⟨rfl, hto⟩
   obtain ⟨F25, x25⟩ := hto.next k24 (by omega)
   have h25 := x25.at_
   have k25 := x25.lo
   have z25 := x25.below.size
   have y25 := y24.trans x25.below
   obtain ⟨t25, s25⟩ := x25.beside t24 s24
   have j25 := j24
   clear hto
   go_wp2_with fail)
  go_ret
  exact ⟨rfl, y25⟩
end Go.Proofs.Ytfkonpmnclknaaa
