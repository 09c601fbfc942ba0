/-
  Strike by any fault.
-/
import Derived.Test.YtfkonpmnclknaaaStoJ
namespace Go.Proofs.Ytfkonpmnclknaaa
open Go.RowKit Go.Maps
attribute [local go_sem ↓] Go.wp_at_zero Go.wp_at_succ

set_option maxHeartbeats 4000000 in
set_option maxRecDepth 100000 in
theorem strike_bend (b : Nat) (F : List Nat) (N : Nat) (s : Sto) (store n at_ c : Int) (hb : (⟨3, store, n, at_, c⟩ : Flt).bad = false) (hf : (⟨3, store, n, at_, c⟩ : Flt).fit) (hN : N + 1 ≤ 1000000) (w : World) (h : StoAt w b F N s) :
    Calls Try.prog 20 #[.pointer (some ⟨b, 0, none⟩), (⟨3, store, n, at_, c⟩ : Flt).agg] w fun e w' => e = .returned (.int .i64 0) ∧ StoTo b F (N + 1) (s.bent n at_ c) w w' := by
  have hcs : ¬ n < 0 ∧ ¬ at_ < 0 ∧ ¬ c < 0 ∧ ¬ 255 < c := by simp [Flt.bad] at hb; omega
  obtain ⟨k3, k4, k5, k6⟩ := hcs
  have hA : Below w.heap.size w (w.alloc (⟨3, store, n, at_, c⟩ : Flt).box) := (Below.refl _ w).alloc (Nat.le_refl _) _
  have h1 := h.below hA
  have x0 := newCell w #[(.int .u8 3), .int .i64 store, .int .i64 n, .int .i64 at_, .int .i64 c] 33 (0, 0) 0
  have x1 := newCell w #[(.int .u8 3), .int .i64 store, .int .i64 n, .int .i64 at_, .int .i64 c] 33 (0, 0) 1
  have x2 := newCell w #[(.int .u8 3), .int .i64 store, .int .i64 n, .int .i64 at_, .int .i64 c] 33 (0, 0) 2
  have x3 := newCell w #[(.int .u8 3), .int .i64 store, .int .i64 n, .int .i64 at_, .int .i64 c] 33 (0, 0) 3
  have x4 := newCell w #[(.int .u8 3), .int .i64 store, .int .i64 n, .int .i64 at_, .int .i64 c] 33 (0, 0) 4
  have hz0 : (w.alloc (.cells #[(.int .u8 3), .int .i64 store, .int .i64 n, .int .i64 at_, .int .i64 c] 33)).heap.size = w.heap.size + 1 := by simp
  have hX := fun W (hW : StoAt W b F N s) => fault_bend b F N s ⟨3, store, n, at_, c⟩ (by simp; omega) (by simp; omega) (by simp; omega) (by simp; omega) hN W hW
  unfold Flt.box at hA h1
  unfold Flt.agg at hX ⊢
  dsimp only at *
  replace hX := Lib.hid hX
  clear h hb
  go_enter Try.func20, Try.ntmps20
  go_upto_region 5 with fail
  generalize (w.alloc (.cells #[(.int .u8 3), .int .i64 store, .int .i64 n, .int .i64 at_, .int .i64 c] 33)) = w0 at hA h1 x0 x1 x2 x3 x4 hz0 ⊢
  have hS : ∀ W, Below w0.heap.size w0 W → W.cell? ⟨w.heap.size, 0, none⟩ = some (.int .u8 3) ∧ W.cell? ⟨w.heap.size, 1, none⟩ = some (.int .i64 store) ∧ W.cell? ⟨w.heap.size, 2, none⟩ = some (.int .i64 n) ∧ W.cell? ⟨w.heap.size, 3, none⟩ = some (.int .i64 at_) ∧ W.cell? ⟨w.heap.size, 4, none⟩ = some (.int .i64 c) := fun W hW =>
    ⟨(hW.cell (p := ⟨w.heap.size, 0, none⟩) (by simp; omega)).trans x0, (hW.cell (p := ⟨w.heap.size, 1, none⟩) (by simp; omega)).trans x1, (hW.cell (p := ⟨w.heap.size, 2, none⟩) (by simp; omega)).trans x2, (hW.cell (p := ⟨w.heap.size, 3, none⟩) (by simp; omega)).trans x3, (hW.cell (p := ⟨w.heap.size, 4, none⟩) (by simp; omega)).trans x4⟩
  have hd : Below w0.heap.size w0 w0.drew := (Below.refl _ _).drew
  refine region_held_tail 6 (fun W : World => W.cell? ⟨w.heap.size, 0, none⟩ = some (.int .u8 3) ∧ W.cell? ⟨w.heap.size, 1, none⟩ = some (.int .i64 store) ∧ W.cell? ⟨w.heap.size, 2, none⟩ = some (.int .i64 n) ∧ W.cell? ⟨w.heap.size, 3, none⟩ = some (.int .i64 at_) ∧ W.cell? ⟨w.heap.size, 4, none⟩ = some (.int .i64 c)) (by kernel_rfl) (by kernel_rfl) ?_
  have hHeld : (fun W : World => W.cell? ⟨w.heap.size, 0, none⟩ = some (.int .u8 3) ∧ W.cell? ⟨w.heap.size, 1, none⟩ = some (.int .i64 store) ∧ W.cell? ⟨w.heap.size, 2, none⟩ = some (.int .i64 n) ∧ W.cell? ⟨w.heap.size, 3, none⟩ = some (.int .i64 at_) ∧ W.cell? ⟨w.heap.size, 4, none⟩ = some (.int .i64 c)) w0.drew := hS _ hd
  clear x0 x1 x2 x3 x4
  have hidx : ∀ W : World, (Instr.index 93 (.agg #[.nilFunc, .func (.func 85) #[] #[], .func (.func 86) #[] #[], .func (.func 87) #[] #[], .func (.func 88) #[] #[], .func (.func 89) #[] #[], .func (.func 90) #[] #[], .func (.func 91) #[] #[]]) (.int .u8 3)).run Try.prog W = .ok (.func (.func 87) #[] #[]) W := fun W => by kernel_rfl
  (refine HT.takeL (i := 1) (v := ?_) rfl (by kernel_rfl) (fun _ _ _ h => h) (Or.inl ⟨by rfl, ?_⟩) (by assumption) ?_
   rotate_left
   · (intro w hSw; (try dsimp only at hSw); go_simp; (try with_reducible rfl))
   try simp only [Act.put, List.setIfInBounds_toArray, List.set_cons_zero, List.set_cons_succ])
  (refine HT.takeL (i := 2) (v := ?_) rfl (by kernel_rfl) (fun _ _ _ h => h) (Or.inl ⟨by rfl, ?_⟩) (by assumption) ?_
   rotate_left
   · (intro w hSw; (try dsimp only at hSw); go_simp; (try with_reducible rfl))
   try simp only [Act.put, List.setIfInBounds_toArray, List.set_cons_zero, List.set_cons_succ])
  (refine HT.takeL (i := 4) (v := ?_) rfl (by kernel_rfl) (fun _ _ _ h => h) (Or.inl ⟨by rfl, ?_⟩) (by assumption) ?_
   rotate_left
   · (intro w hSw; (try dsimp only at hSw); go_simp; (try with_reducible rfl))
   try simp only [Act.put, List.setIfInBounds_toArray, List.set_cons_zero, List.set_cons_succ])
  (refine HT.takeL (i := 5) (v := ?_) rfl (by kernel_rfl) (fun _ _ _ h => h) (Or.inl ⟨by rfl, ?_⟩) (by assumption) ?_
   rotate_left
   · (intro w hSw; (try dsimp only at hSw); go_simp; (try with_reducible rfl))
   try simp only [Act.put, List.setIfInBounds_toArray, List.set_cons_zero, List.set_cons_succ])
  (refine HT.onlyL (i := 0) rfl (by kernel_rfl) (fun K hK => ?_)
   (go_simp; (refine (store_faults w0.drew).mono ?_; rintro e w1 ⟨rfl, b1⟩; have t1 := hd.trans b1; unfold fns))
   refine hK.out _ _ ?_ (fun hHeld => ?_)
   · (exact hS _ t1)
   clear hK K
   try simp only [Act.put, List.setIfInBounds_toArray, List.set_cons_zero, List.set_cons_succ])
  (refine HT.takeL (i := 3) (v := ?_) rfl (by kernel_rfl) (fun _ _ _ h => h) (Or.inl ⟨by rfl, ?_⟩) (by assumption) ?_
   rotate_left
   · (intro w hSw; (try dsimp only at hSw); go_simp; (try with_reducible rfl))
   try simp only [Act.put, List.setIfInBounds_toArray, List.set_cons_zero, List.set_cons_succ])
  refine HT.tail (by kernel_rfl) ?_
  simp only [List.drop_succ_cons, List.drop_zero]
  have h2 := h1.below t1
  clear hS hidx
  go_wp2_with fail
  refine (hX.out w1 h2).mono ?_
  rintro e w2 ⟨rfl, hto⟩
  have hfin := StoTo.ahead (hA.trans (t1.mono (by omega))) hto
  replace hfin := Lib.hid hfin
  go_wp2_with fail
  go_ret
  exact ⟨rfl, hfin.out⟩

def Sto.strike (s : Sto) (f : Flt) : Sto × Int := if f.bad = true then (s, 1) else
  (if f.kind = 1 then ({ s with seen := [] } : Sto).settled else if f.kind = 2 then s.lost f.n else if f.kind = 3 then s.bent f.n f.at_ f.c
    else if f.kind = 4 then { s with down := true } else if f.kind = 5 then { s with down := false } else if f.kind = 6 then { s with refuse := f.n } else { s with room := f.n }, 0)
theorem store_Strike (b : Nat) (F : List Nat) (N : Nat) (s : Sto) (f : Flt) (hf : f.fit) (hN : N + 1 ≤ 1000000) (w : World) (h : StoAt w b F N s) :
    Calls Try.prog 20 #[.pointer (some ⟨b, 0, none⟩), f.agg] w fun e w' => e = .returned (.int .i64 (s.strike f).2) ∧ StoTo b F (N + 1) (s.strike f).1 w w' := by
  cases hb : f.bad
  · have hk : f.kind = 1 ∨ f.kind = 2 ∨ f.kind = 3 ∨ f.kind = 4 ∨ f.kind = 5 ∨ f.kind = 6 ∨ f.kind = 7 := by
      have h1 := hb
      unfold Flt.bad at h1
      simp only [Bool.or_eq_false_iff, decide_eq_false_iff_not] at h1
      omega
    obtain ⟨kind, store, n, at_, c⟩ := f
    dsimp only at hk
    unfold Sto.strike
    rw [if_neg (by rw [hb]; decide)]
    dsimp only
    rcases hk with rfl | rfl | rfl | rfl | rfl | rfl | rfl
    · exact (strike_wipe b F N s store n at_ c hb hf w h).mono fun e w' hw => ⟨hw.1, hw.2.more (Nat.le_succ _) hN⟩
    · exact (strike_lose b F N s store n at_ c hb hf w h).mono fun e w' hw => ⟨hw.1, hw.2.more (Nat.le_succ _) hN⟩
    · exact strike_bend b F N s store n at_ c hb hf hN w h
    · exact (strike_down b F N s store n at_ c hb hf w h).mono fun e w' hw => ⟨hw.1, hw.2.more (Nat.le_succ _) hN⟩
    · exact (strike_up b F N s store n at_ c hb hf w h).mono fun e w' hw => ⟨hw.1, hw.2.more (Nat.le_succ _) hN⟩
    · exact (strike_refuse b F N s store n at_ c hb hf w h).mono fun e w' hw => ⟨hw.1, hw.2.more (Nat.le_succ _) hN⟩
    · exact (strike_room b F N s store n at_ c hb hf w h).mono fun e w' hw => ⟨hw.1, hw.2.more (Nat.le_succ _) hN⟩
  · unfold Sto.strike
    rw [if_pos hb]
    exact (strike_bad b F N s f hb w h).mono fun e w' hw => ⟨hw.1, hw.2.more (Nat.le_succ _) hN⟩
end Go.Proofs.Ytfkonpmnclknaaa
