/-
  Strike by the faults that set a number or say that it does not answer.
-/
import Derived.Test.YtfkonpmnclknaaaStoH
import Derived.Laws.ResultCell
namespace Go.Proofs.Ytfkonpmnclknaaa
open Go.RowKit Go.Maps
attribute [local go_sem ↓] Go.wp_at_zero Go.wp_at_succ

structure Flt where
  kind : Int
  store : Int
  n : Int
  at_ : Int
  c : Int
def Flt.agg (f : Flt) : Value := .agg #[.int .u8 f.kind, .int .i64 f.store, .int .i64 f.n, .int .i64 f.at_, .int .i64 f.c]
def Flt.box (f : Flt) : Obj := .cells #[.int .u8 f.kind, .int .i64 f.store, .int .i64 f.n, .int .i64 f.at_, .int .i64 f.c] 33
def Flt.fit (f : Flt) : Prop := f.n ≤ 9223372036854775807 ∧ f.at_ ≤ 9223372036854775807 ∧ f.c ≤ 9223372036854775807

theorem StoTo.set {w : World} {b gm sm N : Nat} {V : Value} {s s' : Sto} {o : Nat} {u : Value} (h : StoIn (w.setCell ⟨b, o, none⟩ u) b gm sm V N s') : StoTo b (b :: gm :: sm :: V.ownBlock.toList) N s' w (w.setCell ⟨b, o, none⟩ u) :=
  ⟨_, ⟨gm, sm, V, rfl, h⟩, But.of_set _ (by simp), fun i hi => .inl hi⟩

theorem StoTo.then_ {b N : Nat} {F : List Nat} {s : Sto} {w w1 w2 : World} (h : StoTo b F N s w w1) (hb : Below w1.heap.size w1 w2) : StoTo b F N s w w2 := by
  obtain ⟨F1, h1, h2, h3⟩ := h
  exact ⟨F1, h1.below hb, h2.trans (But.of_below (F := []) hb) (by simp), h3⟩

set_option maxHeartbeats 1000000 in
theorem fault_down (b : Nat) (F : List Nat) (N : Nat) (s : Sto) (f : Flt) (w : World) (h : StoAt w b F N s) :
    Calls Try.prog 88 #[.pointer (some ⟨b, 0, none⟩), f.agg] w fun e w' => e = .returned (.tuple #[]) ∧ StoTo b F N { s with down := true } w w' := by
  obtain ⟨gm, sm, V, rfl, h⟩ := h
  have h1 := h.alloc f.box
  have hb := h.box.set3 (.bool true)
  have hfin := (StoTo.set (s := s) (s' := { s with down := true }) (h.set hb rfl rfl rfl h.rf h.rf9 h.rm9 h.rm)).then_ ((Below.refl _ _).alloc (Nat.le_refl _) f.box)
  obtain ⟨c0, c1, c2, c3, c4, c5⟩ := h1.box.cells
  have f3 := h1.box.frozen 3
  have hlt := h.box.lt
  unfold Flt.box at *
  unfold Flt.agg
  replace hfin := Lib.hid hfin
  replace hb := Lib.hid hb
  clear h h1
  go_enter Try.func88, Try.ntmps88
  go_wp2_with fail
  go_end0
  exact ⟨rfl, hfin.out⟩
set_option maxHeartbeats 1000000 in
theorem fault_up (b : Nat) (F : List Nat) (N : Nat) (s : Sto) (f : Flt) (w : World) (h : StoAt w b F N s) :
    Calls Try.prog 89 #[.pointer (some ⟨b, 0, none⟩), f.agg] w fun e w' => e = .returned (.tuple #[]) ∧ StoTo b F N { s with down := false } w w' := by
  obtain ⟨gm, sm, V, rfl, h⟩ := h
  have h1 := h.alloc f.box
  have hb := h.box.set3 (.bool false)
  have hfin := (StoTo.set (s := s) (s' := { s with down := false }) (h.set hb rfl rfl rfl h.rf h.rf9 h.rm9 h.rm)).then_ ((Below.refl _ _).alloc (Nat.le_refl _) f.box)
  obtain ⟨c0, c1, c2, c3, c4, c5⟩ := h1.box.cells
  have f3 := h1.box.frozen 3
  have hlt := h.box.lt
  unfold Flt.box at *
  unfold Flt.agg
  replace hfin := Lib.hid hfin
  replace hb := Lib.hid hb
  clear h h1
  go_enter Try.func89, Try.ntmps89
  go_wp2_with fail
  go_end0
  exact ⟨rfl, hfin.out⟩
set_option maxHeartbeats 1000000 in
theorem fault_refuse (b : Nat) (F : List Nat) (N : Nat) (s : Sto) (f : Flt) (hf : f.fit) (h0 : 0 ≤ f.n) (w : World) (h : StoAt w b F N s) :
    Calls Try.prog 90 #[.pointer (some ⟨b, 0, none⟩), f.agg] w fun e w' => e = .returned (.tuple #[]) ∧ StoTo b F N { s with refuse := f.n } w w' := by
  obtain ⟨gm, sm, V, rfl, h⟩ := h
  have h1 := h.alloc f.box
  have hb := h.box.set4 (.int .i64 f.n)
  have hfin := (StoTo.set (s := s) (s' := { s with refuse := f.n }) (h.set hb rfl rfl rfl (by simp; omega) hf.1 h.rm9 h.rm)).then_ ((Below.refl _ _).alloc (Nat.le_refl _) f.box)
  obtain ⟨c0, c1, c2, c3, c4, c5⟩ := h1.box.cells
  have f3 := h1.box.frozen 4
  have hlt := h.box.lt
  unfold Flt.box at *
  unfold Flt.agg
  replace hfin := Lib.hid hfin
  replace hb := Lib.hid hb
  clear h h1
  go_enter Try.func90, Try.ntmps90
  go_wp2_with fail
  go_end0
  exact ⟨rfl, hfin.out⟩
set_option maxHeartbeats 1000000 in
theorem fault_room (b : Nat) (F : List Nat) (N : Nat) (s : Sto) (f : Flt) (hf : f.fit) (h0 : 0 ≤ f.n) (w : World) (h : StoAt w b F N s) :
    Calls Try.prog 91 #[.pointer (some ⟨b, 0, none⟩), f.agg] w fun e w' => e = .returned (.tuple #[]) ∧ StoTo b F N { s with room := f.n } w w' := by
  obtain ⟨gm, sm, V, rfl, h⟩ := h
  have h1 := h.alloc f.box
  have hb := h.box.set5 (.int .i64 f.n)
  have hfin := (StoTo.set (s := s) (s' := { s with room := f.n }) (h.set hb rfl rfl rfl h.rf h.rf9 hf.1 (by simp; omega))).then_ ((Below.refl _ _).alloc (Nat.le_refl _) f.box)
  obtain ⟨c0, c1, c2, c3, c4, c5⟩ := h1.box.cells
  have f3 := h1.box.frozen 5
  have hlt := h.box.lt
  unfold Flt.box at *
  unfold Flt.agg
  replace hfin := Lib.hid hfin
  replace hb := Lib.hid hb
  clear h h1
  go_enter Try.func91, Try.ntmps91
  go_wp2_with fail
  go_end0
  exact ⟨rfl, hfin.out⟩

def fns : Array Value := #[.nilFunc, .func (.func 85) #[] #[], .func (.func 86) #[] #[], .func (.func 87) #[] #[], .func (.func 88) #[] #[], .func (.func 89) #[] #[], .func (.func 90) #[] #[], .func (.func 91) #[] #[]]
set_option maxHeartbeats 1000000 in
theorem store_faults (w : World) : Calls Try.prog 67 #[] w fun e w' => e = .returned (.agg fns) ∧ Below w.heap.size w w' := by
  go_enter Try.func67, Try.ntmps67
  go_wp2_with fail
  exact bodyPost_ret (v := .agg fns) (results_cell_row Try.results67 _ _ w.heap.size 93 fns (0, 0) _ rfl (heap_alloc_new _ _) Try.underlying93 rfl (by kernel_rfl)) rfl ⟨rfl, (Below.refl _ w).alloc (Nat.le_refl _) _⟩

def Flt.bad (f : Flt) : Bool := decide (f.kind < 1) || decide (7 < f.kind) || decide (f.n < 0) || decide (f.at_ < 0) || decide (f.c < 0) || decide (255 < f.c)

set_option maxHeartbeats 4000000 in
set_option maxRecDepth 100000 in
/-- What is no fault changes nothing. -/
theorem strike_bad (b : Nat) (F : List Nat) (N : Nat) (s : Sto) (f : Flt) (hb : f.bad = true) (w : World) (h : StoAt w b F N s) :
    Calls Try.prog 20 #[.pointer (some ⟨b, 0, none⟩), f.agg] w fun e w' => e = .returned (.int .i64 1) ∧ StoTo b F N s w w' := by
  have hsame := Lib.hid (StoTo.same h ((Below.refl _ w).alloc (Nat.le_refl _) f.box))
  clear h
  unfold Flt.box at hsame
  obtain ⟨kind, store, n, at_, c⟩ := f
  unfold Flt.agg
  dsimp only at hsame ⊢
  by_cases k1 : kind < 1
  · replace hb := Lib.hid hb
    go_enter Try.func20, Try.ntmps20
    go_wp2_with fail
    go_ret
    exact ⟨rfl, hsame.out⟩
  by_cases k2 : 7 < kind
  · replace hb := Lib.hid hb
    go_enter Try.func20, Try.ntmps20
    go_wp2_with fail
    go_ret
    exact ⟨rfl, hsame.out⟩
  by_cases k3 : n < 0
  · replace hb := Lib.hid hb
    go_enter Try.func20, Try.ntmps20
    go_wp2_with fail
    go_ret
    exact ⟨rfl, hsame.out⟩
  by_cases k4 : at_ < 0
  · replace hb := Lib.hid hb
    go_enter Try.func20, Try.ntmps20
    go_wp2_with fail
    go_ret
    exact ⟨rfl, hsame.out⟩
  by_cases k5 : c < 0
  · replace hb := Lib.hid hb
    go_enter Try.func20, Try.ntmps20
    go_wp2_with fail
    go_ret
    exact ⟨rfl, hsame.out⟩
  have k6 : 255 < c := by simp [Flt.bad, k1, k2, k3, k4, k5] at hb; omega
  replace hb := Lib.hid hb
  go_enter Try.func20, Try.ntmps20
  go_wp2_with fail
  go_ret
  exact ⟨rfl, hsame.out⟩

set_option maxHeartbeats 4000000 in
set_option maxRecDepth 100000 in
theorem strike_refuse (b : Nat) (F : List Nat) (N : Nat) (s : Sto) (store n at_ c : Int) (hb : (⟨6, store, n, at_, c⟩ : Flt).bad = false) (hf : (⟨6, store, n, at_, c⟩ : Flt).fit) (w : World) (h : StoAt w b F N s) :
    Calls Try.prog 20 #[.pointer (some ⟨b, 0, none⟩), (⟨6, store, n, at_, c⟩ : Flt).agg] w fun e w' => e = .returned (.int .i64 0) ∧ StoTo b F N { s with refuse := n } w w' := by
  have hcs : ¬ n < 0 ∧ ¬ at_ < 0 ∧ ¬ c < 0 ∧ ¬ 255 < c := by simp [Flt.bad] at hb; omega
  obtain ⟨k3, k4, k5, k6⟩ := hcs
  have hA : Below w.heap.size w (w.alloc (⟨6, store, n, at_, c⟩ : Flt).box) := (Below.refl _ w).alloc (Nat.le_refl _) _
  have h1 := h.below hA
  have x0 := newCell w #[(.int .u8 6), .int .i64 store, .int .i64 n, .int .i64 at_, .int .i64 c] 33 (0, 0) 0
  have x1 := newCell w #[(.int .u8 6), .int .i64 store, .int .i64 n, .int .i64 at_, .int .i64 c] 33 (0, 0) 1
  have x2 := newCell w #[(.int .u8 6), .int .i64 store, .int .i64 n, .int .i64 at_, .int .i64 c] 33 (0, 0) 2
  have x3 := newCell w #[(.int .u8 6), .int .i64 store, .int .i64 n, .int .i64 at_, .int .i64 c] 33 (0, 0) 3
  have x4 := newCell w #[(.int .u8 6), .int .i64 store, .int .i64 n, .int .i64 at_, .int .i64 c] 33 (0, 0) 4
  have hz0 : (w.alloc (.cells #[(.int .u8 6), .int .i64 store, .int .i64 n, .int .i64 at_, .int .i64 c] 33)).heap.size = w.heap.size + 1 := by simp
  have hX := fun W (hW : StoAt W b F N s) => fault_refuse b F N s ⟨6, store, n, at_, c⟩ hf (by simp; omega) W hW
  unfold Flt.box at hA h1
  unfold Flt.agg at hX ⊢
  dsimp only at *
  replace hX := Lib.hid hX
  clear h hb
  go_enter Try.func20, Try.ntmps20
  go_upto_region 5 with fail
  generalize (w.alloc (.cells #[(.int .u8 6), .int .i64 store, .int .i64 n, .int .i64 at_, .int .i64 c] 33)) = w0 at hA h1 x0 x1 x2 x3 x4 hz0 ⊢
  have hS : ∀ W, Below w0.heap.size w0 W → W.cell? ⟨w.heap.size, 0, none⟩ = some (.int .u8 6) ∧ W.cell? ⟨w.heap.size, 1, none⟩ = some (.int .i64 store) ∧ W.cell? ⟨w.heap.size, 2, none⟩ = some (.int .i64 n) ∧ W.cell? ⟨w.heap.size, 3, none⟩ = some (.int .i64 at_) ∧ W.cell? ⟨w.heap.size, 4, none⟩ = some (.int .i64 c) := fun W hW =>
    ⟨(hW.cell (p := ⟨w.heap.size, 0, none⟩) (by simp; omega)).trans x0, (hW.cell (p := ⟨w.heap.size, 1, none⟩) (by simp; omega)).trans x1, (hW.cell (p := ⟨w.heap.size, 2, none⟩) (by simp; omega)).trans x2, (hW.cell (p := ⟨w.heap.size, 3, none⟩) (by simp; omega)).trans x3, (hW.cell (p := ⟨w.heap.size, 4, none⟩) (by simp; omega)).trans x4⟩
  have hd : Below w0.heap.size w0 w0.drew := (Below.refl _ _).drew
  refine region_held_tail 6 (fun W : World => W.cell? ⟨w.heap.size, 0, none⟩ = some (.int .u8 6) ∧ W.cell? ⟨w.heap.size, 1, none⟩ = some (.int .i64 store) ∧ W.cell? ⟨w.heap.size, 2, none⟩ = some (.int .i64 n) ∧ W.cell? ⟨w.heap.size, 3, none⟩ = some (.int .i64 at_) ∧ W.cell? ⟨w.heap.size, 4, none⟩ = some (.int .i64 c)) (by kernel_rfl) (by kernel_rfl) ?_
  have hHeld : (fun W : World => W.cell? ⟨w.heap.size, 0, none⟩ = some (.int .u8 6) ∧ W.cell? ⟨w.heap.size, 1, none⟩ = some (.int .i64 store) ∧ W.cell? ⟨w.heap.size, 2, none⟩ = some (.int .i64 n) ∧ W.cell? ⟨w.heap.size, 3, none⟩ = some (.int .i64 at_) ∧ W.cell? ⟨w.heap.size, 4, none⟩ = some (.int .i64 c)) w0.drew := hS _ hd
  clear x0 x1 x2 x3 x4
  have hidx : ∀ W : World, (Instr.index 93 (.agg #[.nilFunc, .func (.func 85) #[] #[], .func (.func 86) #[] #[], .func (.func 87) #[] #[], .func (.func 88) #[] #[], .func (.func 89) #[] #[], .func (.func 90) #[] #[], .func (.func 91) #[] #[]]) (.int .u8 6)).run Try.prog W = .ok (.func (.func 90) #[] #[]) W := fun W => by kernel_rfl
  (refine HT.takeL (i := 1) (v := ?_) rfl (by kernel_rfl) (fun _ _ _ h => h) (Or.inl ⟨by rfl, ?_⟩) (by assumption) ?_
   rotate_left
   · (intro w hSw; (try dsimp only at hSw); go_simp; (try with_reducible rfl))
   try simp only [Act.put, List.setIfInBounds_toArray, List.set_cons_zero, List.set_cons_succ])
  (refine HT.takeL (i := 2) (v := ?_) rfl (by kernel_rfl) (fun _ _ _ h => h) (Or.inl ⟨by rfl, ?_⟩) (by assumption) ?_
   rotate_left
   · (intro w hSw; (try dsimp only at hSw); go_simp; (try with_reducible rfl))
   try simp only [Act.put, List.setIfInBounds_toArray, List.set_cons_zero, List.set_cons_succ])
  (refine HT.takeL (i := 4) (v := ?_) rfl (by kernel_rfl) (fun _ _ _ h => h) (Or.inl ⟨by rfl, ?_⟩) (by assumption) ?_
   rotate_left
   · (intro w hSw; (try dsimp only at hSw); go_simp; (try with_reducible rfl))
   try simp only [Act.put, List.setIfInBounds_toArray, List.set_cons_zero, List.set_cons_succ])
  (refine HT.takeL (i := 5) (v := ?_) rfl (by kernel_rfl) (fun _ _ _ h => h) (Or.inl ⟨by rfl, ?_⟩) (by assumption) ?_
   rotate_left
   · (intro w hSw; (try dsimp only at hSw); go_simp; (try with_reducible rfl))
   try simp only [Act.put, List.setIfInBounds_toArray, List.set_cons_zero, List.set_cons_succ])
  (refine HT.onlyL (i := 0) rfl (by kernel_rfl) (fun K hK => ?_)
   (go_simp; (refine (store_faults w0.drew).mono ?_; rintro e w1 ⟨rfl, b1⟩; have t1 := hd.trans b1; unfold fns))
   refine hK.out _ _ ?_ (fun hHeld => ?_)
   · (exact hS _ t1)
   clear hK K
   try simp only [Act.put, List.setIfInBounds_toArray, List.set_cons_zero, List.set_cons_succ])
  (refine HT.takeL (i := 3) (v := ?_) rfl (by kernel_rfl) (fun _ _ _ h => h) (Or.inl ⟨by rfl, ?_⟩) (by assumption) ?_
   rotate_left
   · (intro w hSw; (try dsimp only at hSw); go_simp; (try with_reducible rfl))
   try simp only [Act.put, List.setIfInBounds_toArray, List.set_cons_zero, List.set_cons_succ])
  refine HT.tail (by kernel_rfl) ?_
  simp only [List.drop_succ_cons, List.drop_zero]
  have h2 := h1.below t1
  clear hS hidx
  go_wp2_with fail
  refine (hX.out w1 h2).mono ?_
  rintro e w2 ⟨rfl, hto⟩
  have hfin := StoTo.ahead (hA.trans (t1.mono (by omega))) hto
  replace hfin := Lib.hid hfin
  go_wp2_with fail
  go_ret
  exact ⟨rfl, hfin.out⟩
set_option maxHeartbeats 4000000 in
set_option maxRecDepth 100000 in
theorem strike_room (b : Nat) (F : List Nat) (N : Nat) (s : Sto) (store n at_ c : Int) (hb : (⟨7, store, n, at_, c⟩ : Flt).bad = false) (hf : (⟨7, store, n, at_, c⟩ : Flt).fit) (w : World) (h : StoAt w b F N s) :
    Calls Try.prog 20 #[.pointer (some ⟨b, 0, none⟩), (⟨7, store, n, at_, c⟩ : Flt).agg] w fun e w' => e = .returned (.int .i64 0) ∧ StoTo b F N { s with room := n } w w' := by
  have hcs : ¬ n < 0 ∧ ¬ at_ < 0 ∧ ¬ c < 0 ∧ ¬ 255 < c := by simp [Flt.bad] at hb; omega
  obtain ⟨k3, k4, k5, k6⟩ := hcs
  have hA : Below w.heap.size w (w.alloc (⟨7, store, n, at_, c⟩ : Flt).box) := (Below.refl _ w).alloc (Nat.le_refl _) _
  have h1 := h.below hA
  have x0 := newCell w #[(.int .u8 7), .int .i64 store, .int .i64 n, .int .i64 at_, .int .i64 c] 33 (0, 0) 0
  have x1 := newCell w #[(.int .u8 7), .int .i64 store, .int .i64 n, .int .i64 at_, .int .i64 c] 33 (0, 0) 1
  have x2 := newCell w #[(.int .u8 7), .int .i64 store, .int .i64 n, .int .i64 at_, .int .i64 c] 33 (0, 0) 2
  have x3 := newCell w #[(.int .u8 7), .int .i64 store, .int .i64 n, .int .i64 at_, .int .i64 c] 33 (0, 0) 3
  have x4 := newCell w #[(.int .u8 7), .int .i64 store, .int .i64 n, .int .i64 at_, .int .i64 c] 33 (0, 0) 4
  have hz0 : (w.alloc (.cells #[(.int .u8 7), .int .i64 store, .int .i64 n, .int .i64 at_, .int .i64 c] 33)).heap.size = w.heap.size + 1 := by simp
  have hX := fun W (hW : StoAt W b F N s) => fault_room b F N s ⟨7, store, n, at_, c⟩ hf (by simp; omega) W hW
  unfold Flt.box at hA h1
  unfold Flt.agg at hX ⊢
  dsimp only at *
  replace hX := Lib.hid hX
  clear h hb
  go_enter Try.func20, Try.ntmps20
  go_upto_region 5 with fail
  generalize (w.alloc (.cells #[(.int .u8 7), .int .i64 store, .int .i64 n, .int .i64 at_, .int .i64 c] 33)) = w0 at hA h1 x0 x1 x2 x3 x4 hz0 ⊢
  have hS : ∀ W, Below w0.heap.size w0 W → W.cell? ⟨w.heap.size, 0, none⟩ = some (.int .u8 7) ∧ W.cell? ⟨w.heap.size, 1, none⟩ = some (.int .i64 store) ∧ W.cell? ⟨w.heap.size, 2, none⟩ = some (.int .i64 n) ∧ W.cell? ⟨w.heap.size, 3, none⟩ = some (.int .i64 at_) ∧ W.cell? ⟨w.heap.size, 4, none⟩ = some (.int .i64 c) := fun W hW =>
    ⟨(hW.cell (p := ⟨w.heap.size, 0, none⟩) (by simp; omega)).trans x0, (hW.cell (p := ⟨w.heap.size, 1, none⟩) (by simp; omega)).trans x1, (hW.cell (p := ⟨w.heap.size, 2, none⟩) (by simp; omega)).trans x2, (hW.cell (p := ⟨w.heap.size, 3, none⟩) (by simp; omega)).trans x3, (hW.cell (p := ⟨w.heap.size, 4, none⟩) (by simp; omega)).trans x4⟩
  have hd : Below w0.heap.size w0 w0.drew := (Below.refl _ _).drew
  refine region_held_tail 6 (fun W : World => W.cell? ⟨w.heap.size, 0, none⟩ = some (.int .u8 7) ∧ W.cell? ⟨w.heap.size, 1, none⟩ = some (.int .i64 store) ∧ W.cell? ⟨w.heap.size, 2, none⟩ = some (.int .i64 n) ∧ W.cell? ⟨w.heap.size, 3, none⟩ = some (.int .i64 at_) ∧ W.cell? ⟨w.heap.size, 4, none⟩ = some (.int .i64 c)) (by kernel_rfl) (by kernel_rfl) ?_
  have hHeld : (fun W : World => W.cell? ⟨w.heap.size, 0, none⟩ = some (.int .u8 7) ∧ W.cell? ⟨w.heap.size, 1, none⟩ = some (.int .i64 store) ∧ W.cell? ⟨w.heap.size, 2, none⟩ = some (.int .i64 n) ∧ W.cell? ⟨w.heap.size, 3, none⟩ = some (.int .i64 at_) ∧ W.cell? ⟨w.heap.size, 4, none⟩ = some (.int .i64 c)) w0.drew := hS _ hd
  clear x0 x1 x2 x3 x4
  have hidx : ∀ W : World, (Instr.index 93 (.agg #[.nilFunc, .func (.func 85) #[] #[], .func (.func 86) #[] #[], .func (.func 87) #[] #[], .func (.func 88) #[] #[], .func (.func 89) #[] #[], .func (.func 90) #[] #[], .func (.func 91) #[] #[]]) (.int .u8 7)).run Try.prog W = .ok (.func (.func 91) #[] #[]) W := fun W => by kernel_rfl
  (refine HT.takeL (i := 1) (v := ?_) rfl (by kernel_rfl) (fun _ _ _ h => h) (Or.inl ⟨by rfl, ?_⟩) (by assumption) ?_
   rotate_left
   · (intro w hSw; (try dsimp only at hSw); go_simp; (try with_reducible rfl))
   try simp only [Act.put, List.setIfInBounds_toArray, List.set_cons_zero, List.set_cons_succ])
  (refine HT.takeL (i := 2) (v := ?_) rfl (by kernel_rfl) (fun _ _ _ h => h) (Or.inl ⟨by rfl, ?_⟩) (by assumption) ?_
   rotate_left
   · (intro w hSw; (try dsimp only at hSw); go_simp; (try with_reducible rfl))
   try simp only [Act.put, List.setIfInBounds_toArray, List.set_cons_zero, List.set_cons_succ])
  (refine HT.takeL (i := 4) (v := ?_) rfl (by kernel_rfl) (fun _ _ _ h => h) (Or.inl ⟨by rfl, ?_⟩) (by assumption) ?_
   rotate_left
   · (intro w hSw; (try dsimp only at hSw); go_simp; (try with_reducible rfl))
   try simp only [Act.put, List.setIfInBounds_toArray, List.set_cons_zero, List.set_cons_succ])
  (refine HT.takeL (i := 5) (v := ?_) rfl (by kernel_rfl) (fun _ _ _ h => h) (Or.inl ⟨by rfl, ?_⟩) (by assumption) ?_
   rotate_left
   · (intro w hSw; (try dsimp only at hSw); go_simp; (try with_reducible rfl))
   try simp only [Act.put, List.setIfInBounds_toArray, List.set_cons_zero, List.set_cons_succ])
  (refine HT.onlyL (i := 0) rfl (by kernel_rfl) (fun K hK => ?_)
   (go_simp; (refine (store_faults w0.drew).mono ?_; rintro e w1 ⟨rfl, b1⟩; have t1 := hd.trans b1; unfold fns))
   refine hK.out _ _ ?_ (fun hHeld => ?_)
   · (exact hS _ t1)
   clear hK K
   try simp only [Act.put, List.setIfInBounds_toArray, List.set_cons_zero, List.set_cons_succ])
  (refine HT.takeL (i := 3) (v := ?_) rfl (by kernel_rfl) (fun _ _ _ h => h) (Or.inl ⟨by rfl, ?_⟩) (by assumption) ?_
   rotate_left
   · (intro w hSw; (try dsimp only at hSw); go_simp; (try with_reducible rfl))
   try simp only [Act.put, List.setIfInBounds_toArray, List.set_cons_zero, List.set_cons_succ])
  refine HT.tail (by kernel_rfl) ?_
  simp only [List.drop_succ_cons, List.drop_zero]
  have h2 := h1.below t1
  clear hS hidx
  go_wp2_with fail
  refine (hX.out w1 h2).mono ?_
  rintro e w2 ⟨rfl, hto⟩
  have hfin := StoTo.ahead (hA.trans (t1.mono (by omega))) hto
  replace hfin := Lib.hid hfin
  go_wp2_with fail
  go_ret
  exact ⟨rfl, hfin.out⟩
set_option maxHeartbeats 4000000 in
set_option maxRecDepth 100000 in
theorem strike_down (b : Nat) (F : List Nat) (N : Nat) (s : Sto) (store n at_ c : Int) (hb : (⟨4, store, n, at_, c⟩ : Flt).bad = false) (hf : (⟨4, store, n, at_, c⟩ : Flt).fit) (w : World) (h : StoAt w b F N s) :
    Calls Try.prog 20 #[.pointer (some ⟨b, 0, none⟩), (⟨4, store, n, at_, c⟩ : Flt).agg] w fun e w' => e = .returned (.int .i64 0) ∧ StoTo b F N { s with down := true } w w' := by
  have hcs : ¬ n < 0 ∧ ¬ at_ < 0 ∧ ¬ c < 0 ∧ ¬ 255 < c := by simp [Flt.bad] at hb; omega
  obtain ⟨k3, k4, k5, k6⟩ := hcs
  have hA : Below w.heap.size w (w.alloc (⟨4, store, n, at_, c⟩ : Flt).box) := (Below.refl _ w).alloc (Nat.le_refl _) _
  have h1 := h.below hA
  have x0 := newCell w #[(.int .u8 4), .int .i64 store, .int .i64 n, .int .i64 at_, .int .i64 c] 33 (0, 0) 0
  have x1 := newCell w #[(.int .u8 4), .int .i64 store, .int .i64 n, .int .i64 at_, .int .i64 c] 33 (0, 0) 1
  have x2 := newCell w #[(.int .u8 4), .int .i64 store, .int .i64 n, .int .i64 at_, .int .i64 c] 33 (0, 0) 2
  have x3 := newCell w #[(.int .u8 4), .int .i64 store, .int .i64 n, .int .i64 at_, .int .i64 c] 33 (0, 0) 3
  have x4 := newCell w #[(.int .u8 4), .int .i64 store, .int .i64 n, .int .i64 at_, .int .i64 c] 33 (0, 0) 4
  have hz0 : (w.alloc (.cells #[(.int .u8 4), .int .i64 store, .int .i64 n, .int .i64 at_, .int .i64 c] 33)).heap.size = w.heap.size + 1 := by simp
  have hX := fun W (hW : StoAt W b F N s) => fault_down b F N s ⟨4, store, n, at_, c⟩ W hW
  unfold Flt.box at hA h1
  unfold Flt.agg at hX ⊢
  dsimp only at *
  replace hX := Lib.hid hX
  clear h hb
  go_enter Try.func20, Try.ntmps20
  go_upto_region 5 with fail
  generalize (w.alloc (.cells #[(.int .u8 4), .int .i64 store, .int .i64 n, .int .i64 at_, .int .i64 c] 33)) = w0 at hA h1 x0 x1 x2 x3 x4 hz0 ⊢
  have hS : ∀ W, Below w0.heap.size w0 W → W.cell? ⟨w.heap.size, 0, none⟩ = some (.int .u8 4) ∧ W.cell? ⟨w.heap.size, 1, none⟩ = some (.int .i64 store) ∧ W.cell? ⟨w.heap.size, 2, none⟩ = some (.int .i64 n) ∧ W.cell? ⟨w.heap.size, 3, none⟩ = some (.int .i64 at_) ∧ W.cell? ⟨w.heap.size, 4, none⟩ = some (.int .i64 c) := fun W hW =>
    ⟨(hW.cell (p := ⟨w.heap.size, 0, none⟩) (by simp; omega)).trans x0, (hW.cell (p := ⟨w.heap.size, 1, none⟩) (by simp; omega)).trans x1, (hW.cell (p := ⟨w.heap.size, 2, none⟩) (by simp; omega)).trans x2, (hW.cell (p := ⟨w.heap.size, 3, none⟩) (by simp; omega)).trans x3, (hW.cell (p := ⟨w.heap.size, 4, none⟩) (by simp; omega)).trans x4⟩
  have hd : Below w0.heap.size w0 w0.drew := (Below.refl _ _).drew
  refine region_held_tail 6 (fun W : World => W.cell? ⟨w.heap.size, 0, none⟩ = some (.int .u8 4) ∧ W.cell? ⟨w.heap.size, 1, none⟩ = some (.int .i64 store) ∧ W.cell? ⟨w.heap.size, 2, none⟩ = some (.int .i64 n) ∧ W.cell? ⟨w.heap.size, 3, none⟩ = some (.int .i64 at_) ∧ W.cell? ⟨w.heap.size, 4, none⟩ = some (.int .i64 c)) (by kernel_rfl) (by kernel_rfl) ?_
  have hHeld : (fun W : World => W.cell? ⟨w.heap.size, 0, none⟩ = some (.int .u8 4) ∧ W.cell? ⟨w.heap.size, 1, none⟩ = some (.int .i64 store) ∧ W.cell? ⟨w.heap.size, 2, none⟩ = some (.int .i64 n) ∧ W.cell? ⟨w.heap.size, 3, none⟩ = some (.int .i64 at_) ∧ W.cell? ⟨w.heap.size, 4, none⟩ = some (.int .i64 c)) w0.drew := hS _ hd
  clear x0 x1 x2 x3 x4
  have hidx : ∀ W : World, (Instr.index 93 (.agg #[.nilFunc, .func (.func 85) #[] #[], .func (.func 86) #[] #[], .func (.func 87) #[] #[], .func (.func 88) #[] #[], .func (.func 89) #[] #[], .func (.func 90) #[] #[], .func (.func 91) #[] #[]]) (.int .u8 4)).run Try.prog W = .ok (.func (.func 88) #[] #[]) W := fun W => by kernel_rfl
  (refine HT.takeL (i := 1) (v := ?_) rfl (by kernel_rfl) (fun _ _ _ h => h) (Or.inl ⟨by rfl, ?_⟩) (by assumption) ?_
   rotate_left
   · (intro w hSw; (try dsimp only at hSw); go_simp; (try with_reducible rfl))
   try simp only [Act.put, List.setIfInBounds_toArray, List.set_cons_zero, List.set_cons_succ])
  (refine HT.takeL (i := 2) (v := ?_) rfl (by kernel_rfl) (fun _ _ _ h => h) (Or.inl ⟨by rfl, ?_⟩) (by assumption) ?_
   rotate_left
   · (intro w hSw; (try dsimp only at hSw); go_simp; (try with_reducible rfl))
   try simp only [Act.put, List.setIfInBounds_toArray, List.set_cons_zero, List.set_cons_succ])
  (refine HT.takeL (i := 4) (v := ?_) rfl (by kernel_rfl) (fun _ _ _ h => h) (Or.inl ⟨by rfl, ?_⟩) (by assumption) ?_
   rotate_left
   · (intro w hSw; (try dsimp only at hSw); go_simp; (try with_reducible rfl))
   try simp only [Act.put, List.setIfInBounds_toArray, List.set_cons_zero, List.set_cons_succ])
  (refine HT.takeL (i := 5) (v := ?_) rfl (by kernel_rfl) (fun _ _ _ h => h) (Or.inl ⟨by rfl, ?_⟩) (by assumption) ?_
   rotate_left
   · (intro w hSw; (try dsimp only at hSw); go_simp; (try with_reducible rfl))
   try simp only [Act.put, List.setIfInBounds_toArray, List.set_cons_zero, List.set_cons_succ])
  (refine HT.onlyL (i := 0) rfl (by kernel_rfl) (fun K hK => ?_)
   (go_simp; (refine (store_faults w0.drew).mono ?_; rintro e w1 ⟨rfl, b1⟩; have t1 := hd.trans b1; unfold fns))
   refine hK.out _ _ ?_ (fun hHeld => ?_)
   · (exact hS _ t1)
   clear hK K
   try simp only [Act.put, List.setIfInBounds_toArray, List.set_cons_zero, List.set_cons_succ])
  (refine HT.takeL (i := 3) (v := ?_) rfl (by kernel_rfl) (fun _ _ _ h => h) (Or.inl ⟨by rfl, ?_⟩) (by assumption) ?_
   rotate_left
   · (intro w hSw; (try dsimp only at hSw); go_simp; (try with_reducible rfl))
   try simp only [Act.put, List.setIfInBounds_toArray, List.set_cons_zero, List.set_cons_succ])
  refine HT.tail (by kernel_rfl) ?_
  simp only [List.drop_succ_cons, List.drop_zero]
  have h2 := h1.below t1
  clear hS hidx
  go_wp2_with fail
  refine (hX.out w1 h2).mono ?_
  rintro e w2 ⟨rfl, hto⟩
  have hfin := StoTo.ahead (hA.trans (t1.mono (by omega))) hto
  replace hfin := Lib.hid hfin
  go_wp2_with fail
  go_ret
  exact ⟨rfl, hfin.out⟩
set_option maxHeartbeats 4000000 in
set_option maxRecDepth 100000 in
theorem strike_up (b : Nat) (F : List Nat) (N : Nat) (s : Sto) (store n at_ c : Int) (hb : (⟨5, store, n, at_, c⟩ : Flt).bad = false) (hf : (⟨5, store, n, at_, c⟩ : Flt).fit) (w : World) (h : StoAt w b F N s) :
    Calls Try.prog 20 #[.pointer (some ⟨b, 0, none⟩), (⟨5, store, n, at_, c⟩ : Flt).agg] w fun e w' => e = .returned (.int .i64 0) ∧ StoTo b F N { s with down := false } w w' := by
  have hcs : ¬ n < 0 ∧ ¬ at_ < 0 ∧ ¬ c < 0 ∧ ¬ 255 < c := by simp [Flt.bad] at hb; omega
  obtain ⟨k3, k4, k5, k6⟩ := hcs
  have hA : Below w.heap.size w (w.alloc (⟨5, store, n, at_, c⟩ : Flt).box) := (Below.refl _ w).alloc (Nat.le_refl _) _
  have h1 := h.below hA
  have x0 := newCell w #[(.int .u8 5), .int .i64 store, .int .i64 n, .int .i64 at_, .int .i64 c] 33 (0, 0) 0
  have x1 := newCell w #[(.int .u8 5), .int .i64 store, .int .i64 n, .int .i64 at_, .int .i64 c] 33 (0, 0) 1
  have x2 := newCell w #[(.int .u8 5), .int .i64 store, .int .i64 n, .int .i64 at_, .int .i64 c] 33 (0, 0) 2
  have x3 := newCell w #[(.int .u8 5), .int .i64 store, .int .i64 n, .int .i64 at_, .int .i64 c] 33 (0, 0) 3
  have x4 := newCell w #[(.int .u8 5), .int .i64 store, .int .i64 n, .int .i64 at_, .int .i64 c] 33 (0, 0) 4
  have hz0 : (w.alloc (.cells #[(.int .u8 5), .int .i64 store, .int .i64 n, .int .i64 at_, .int .i64 c] 33)).heap.size = w.heap.size + 1 := by simp
  have hX := fun W (hW : StoAt W b F N s) => fault_up b F N s ⟨5, store, n, at_, c⟩ W hW
  unfold Flt.box at hA h1
  unfold Flt.agg at hX ⊢
  dsimp only at *
  replace hX := Lib.hid hX
  clear h hb
  go_enter Try.func20, Try.ntmps20
  go_upto_region 5 with fail
  generalize (w.alloc (.cells #[(.int .u8 5), .int .i64 store, .int .i64 n, .int .i64 at_, .int .i64 c] 33)) = w0 at hA h1 x0 x1 x2 x3 x4 hz0 ⊢
  have hS : ∀ W, Below w0.heap.size w0 W → W.cell? ⟨w.heap.size, 0, none⟩ = some (.int .u8 5) ∧ W.cell? ⟨w.heap.size, 1, none⟩ = some (.int .i64 store) ∧ W.cell? ⟨w.heap.size, 2, none⟩ = some (.int .i64 n) ∧ W.cell? ⟨w.heap.size, 3, none⟩ = some (.int .i64 at_) ∧ W.cell? ⟨w.heap.size, 4, none⟩ = some (.int .i64 c) := fun W hW =>
    ⟨(hW.cell (p := ⟨w.heap.size, 0, none⟩) (by simp; omega)).trans x0, (hW.cell (p := ⟨w.heap.size, 1, none⟩) (by simp; omega)).trans x1, (hW.cell (p := ⟨w.heap.size, 2, none⟩) (by simp; omega)).trans x2, (hW.cell (p := ⟨w.heap.size, 3, none⟩) (by simp; omega)).trans x3, (hW.cell (p := ⟨w.heap.size, 4, none⟩) (by simp; omega)).trans x4⟩
  have hd : Below w0.heap.size w0 w0.drew := (Below.refl _ _).drew
  refine region_held_tail 6 (fun W : World => W.cell? ⟨w.heap.size, 0, none⟩ = some (.int .u8 5) ∧ W.cell? ⟨w.heap.size, 1, none⟩ = some (.int .i64 store) ∧ W.cell? ⟨w.heap.size, 2, none⟩ = some (.int .i64 n) ∧ W.cell? ⟨w.heap.size, 3, none⟩ = some (.int .i64 at_) ∧ W.cell? ⟨w.heap.size, 4, none⟩ = some (.int .i64 c)) (by kernel_rfl) (by kernel_rfl) ?_
  have hHeld : (fun W : World => W.cell? ⟨w.heap.size, 0, none⟩ = some (.int .u8 5) ∧ W.cell? ⟨w.heap.size, 1, none⟩ = some (.int .i64 store) ∧ W.cell? ⟨w.heap.size, 2, none⟩ = some (.int .i64 n) ∧ W.cell? ⟨w.heap.size, 3, none⟩ = some (.int .i64 at_) ∧ W.cell? ⟨w.heap.size, 4, none⟩ = some (.int .i64 c)) w0.drew := hS _ hd
  clear x0 x1 x2 x3 x4
  have hidx : ∀ W : World, (Instr.index 93 (.agg #[.nilFunc, .func (.func 85) #[] #[], .func (.func 86) #[] #[], .func (.func 87) #[] #[], .func (.func 88) #[] #[], .func (.func 89) #[] #[], .func (.func 90) #[] #[], .func (.func 91) #[] #[]]) (.int .u8 5)).run Try.prog W = .ok (.func (.func 89) #[] #[]) W := fun W => by kernel_rfl
  (refine HT.takeL (i := 1) (v := ?_) rfl (by kernel_rfl) (fun _ _ _ h => h) (Or.inl ⟨by rfl, ?_⟩) (by assumption) ?_
   rotate_left
   · (intro w hSw; (try dsimp only at hSw); go_simp; (try with_reducible rfl))
   try simp only [Act.put, List.setIfInBounds_toArray, List.set_cons_zero, List.set_cons_succ])
  (refine HT.takeL (i := 2) (v := ?_) rfl (by kernel_rfl) (fun _ _ _ h => h) (Or.inl ⟨by rfl, ?_⟩) (by assumption) ?_
   rotate_left
   · (intro w hSw; (try dsimp only at hSw); go_simp; (try with_reducible rfl))
   try simp only [Act.put, List.setIfInBounds_toArray, List.set_cons_zero, List.set_cons_succ])
  (refine HT.takeL (i := 4) (v := ?_) rfl (by kernel_rfl) (fun _ _ _ h => h) (Or.inl ⟨by rfl, ?_⟩) (by assumption) ?_
   rotate_left
   · (intro w hSw; (try dsimp only at hSw); go_simp; (try with_reducible rfl))
   try simp only [Act.put, List.setIfInBounds_toArray, List.set_cons_zero, List.set_cons_succ])
  (refine HT.takeL (i := 5) (v := ?_) rfl (by kernel_rfl) (fun _ _ _ h => h) (Or.inl ⟨by rfl, ?_⟩) (by assumption) ?_
   rotate_left
   · (intro w hSw; (try dsimp only at hSw); go_simp; (try with_reducible rfl))
   try simp only [Act.put, List.setIfInBounds_toArray, List.set_cons_zero, List.set_cons_succ])
  (refine HT.onlyL (i := 0) rfl (by kernel_rfl) (fun K hK => ?_)
   (go_simp; (refine (store_faults w0.drew).mono ?_; rintro e w1 ⟨rfl, b1⟩; have t1 := hd.trans b1; unfold fns))
   refine hK.out _ _ ?_ (fun hHeld => ?_)
   · (exact hS _ t1)
   clear hK K
   try simp only [Act.put, List.setIfInBounds_toArray, List.set_cons_zero, List.set_cons_succ])
  (refine HT.takeL (i := 3) (v := ?_) rfl (by kernel_rfl) (fun _ _ _ h => h) (Or.inl ⟨by rfl, ?_⟩) (by assumption) ?_
   rotate_left
   · (intro w hSw; (try dsimp only at hSw); go_simp; (try with_reducible rfl))
   try simp only [Act.put, List.setIfInBounds_toArray, List.set_cons_zero, List.set_cons_succ])
  refine HT.tail (by kernel_rfl) ?_
  simp only [List.drop_succ_cons, List.drop_zero]
  have h2 := h1.below t1
  clear hS hidx
  go_wp2_with fail
  refine (hX.out w1 h2).mono ?_
  rintro e w2 ⟨rfl, hto⟩
  have hfin := StoTo.ahead (hA.trans (t1.mono (by omega))) hto
  replace hfin := Lib.hid hfin
  go_wp2_with fail
  go_ret
  exact ⟨rfl, hfin.out⟩
end Go.Proofs.Ytfkonpmnclknaaa
/-
  What a call of one store leaves, for those that stand beside it.
-/
namespace Go.Proofs.Ytfkonpmnclknaaa
open Go.RowKit Go.Maps

abbrev Sep (F G : List Nat) : Prop := ∀ i ∈ F, i ∉ G
/-- What a call of one store leaves, for those that stand beside it. -/
structure Next (B b : Nat) (F : List Nat) (N : Nat) (s : Sto) (w w' : World) (F' : List Nat) : Prop where
  at_ : StoAt w' b F' N s
  lo : ∀ i ∈ F', B ≤ i
  below : Below B w w'
  but : But F w w'
  sub : ∀ i ∈ F', i ∈ F ∨ w.heap.size ≤ i
theorem StoTo.next {B b N : Nat} {F : List Nat} {s : Sto} {w w' : World} (h : StoTo b F N s w w') (hB : ∀ i ∈ F, B ≤ i) (hs : B ≤ w.heap.size) : ∃ F', Next B b F N s w w' F' := by
  obtain ⟨F', h1, h2, h3⟩ := h
  refine ⟨F', h1, fun i hi => ?_, h2.below hs hB, h2, h3⟩
  rcases h3 i hi with e | e
  · exact hB i e
  · omega
theorem Next.beside {B b N c M : Nat} {F F' G : List Nat} {s t : Sto} {w w' : World} (h : Next B b F N s w w' F') (ht : StoAt w c G M t) (hs : Sep G F) : StoAt w' c G M t ∧ Sep G F' :=
  ⟨ht.but h.but hs, fun i hi hf => by
    rcases h.sub i hf with e | e
    · exact hs i hi e
    · have := ht.lt i hi; omega⟩
theorem Sep.symm {F G : List Nat} (h : Sep F G) : Sep G F := fun i hi hf => h i hf hi
theorem IntsAt.none_ (w : World) : IntsAt w w.heap.size none 0 [] := ⟨rfl, by omega, fun h => absurd h (by omega)⟩

theorem put_lit {b N : Nat} {F : List Nat} {s : Sto} {n d : ByteArray} {r : Int} (hr : (s.put (n, d)).2 = r) (hn : n.size ≤ maxLen) (hd : d.size ≤ maxLen) (hN : N + 1 ≤ 1000000) (w : World) (h : StoAt w b F N s) :
    Calls Try.prog 15 #[.pointer (some ⟨b, 0, none⟩), .agg #[.string n, .string d]] w fun e w' => e = .returned (.int .i64 r) ∧ StoTo b F (N + 1) (s.put (n, d)).1 w w' := by
  have := store_Put b F N s (n, d) hn hd hN w h
  rw [hr] at this
  exact this

theorem strike_refuse_lit {b N : Nat} {F : List Nat} {s : Sto} {n : Int} (h0 : 0 ≤ n) (h9 : n ≤ 9223372036854775807) (w : World) (h : StoAt w b F N s) :
    Calls Try.prog 20 #[.pointer (some ⟨b, 0, none⟩), .agg #[.int .u8 6, .int .i64 0, .int .i64 n, .int .i64 0, .int .i64 0]] w fun e w' => e = .returned (.int .i64 0) ∧ StoTo b F N { s with refuse := n } w w' :=
  strike_refuse b F N s 0 n 0 0 (by simp [Flt.bad]; omega) ⟨h9, by dsimp only; omega, by dsimp only; omega⟩ w h
theorem strike_room_lit {b N : Nat} {F : List Nat} {s : Sto} {n : Int} (h0 : 0 ≤ n) (h9 : n ≤ 9223372036854775807) (w : World) (h : StoAt w b F N s) :
    Calls Try.prog 20 #[.pointer (some ⟨b, 0, none⟩), .agg #[.int .u8 7, .int .i64 0, .int .i64 n, .int .i64 0, .int .i64 0]] w fun e w' => e = .returned (.int .i64 0) ∧ StoTo b F N { s with room := n } w w' :=
  strike_room b F N s 0 n 0 0 (by simp [Flt.bad]; omega) ⟨h9, by dsimp only; omega, by dsimp only; omega⟩ w h

end Go.Proofs.Ytfkonpmnclknaaa
