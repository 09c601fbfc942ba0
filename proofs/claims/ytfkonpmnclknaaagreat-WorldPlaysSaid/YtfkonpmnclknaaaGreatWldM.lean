/-
  do of chapter 8: a step, done by the program's world and by the reference's.
-/
import Derived.Test.YtfkonpmnclknaaaGreatWldK
namespace Go.Proofs.YtfkonpmnclknaaaGreat
open Go.RowKit
attribute [local go_sem ↓] Go.wp_at_zero Go.wp_at_succ

/-- A thing done to a world. -/
structure Stepx where
  kind : Int
  i : Int
  name : ByteArray
  data : ByteArray
  A : Option Addr
  n : Nat
  c : Nat
  f : Flt
  keeps : List Surv
def Stepx.cells (a : Stepx) : List Value := [.int .u8 a.kind, .int .i64 a.i, .string a.name, .string a.data, .slice a.A a.n a.c, .int .u8 a.f.kind, .int .i64 a.f.store, .int .i64 a.f.n, .int .i64 a.f.at_, .int .i64 a.f.c]
def Stepx.agg (a : Stepx) : Value := .agg #[.int .u8 a.kind, .int .i64 a.i, .string a.name, .string a.data, .slice a.A a.n a.c, .int .u8 a.f.kind, .int .i64 a.f.store, .int .i64 a.f.n, .int .i64 a.f.at_, .int .i64 a.f.c]
structure StepOk (W : World) (B : Nat) (a : Stepx) : Prop where
  kind : 0 ≤ a.kind ∧ a.kind ≤ 255
  ib : -9223372036854775808 ≤ a.i ∧ a.i ≤ 9223372036854775807
  row : SurvsAt W B a.A a.n a.keeps
  keep : ∀ x ∈ a.keeps, IntsAt W B x.A x.n x.keep
  fk : 0 ≤ a.f.kind ∧ a.f.kind ≤ 255
  fs : -9223372036854775808 ≤ a.f.store ∧ a.f.store ≤ 9223372036854775807
  fn : -9223372036854775808 ≤ a.f.n ∧ a.f.n ≤ 9223372036854775807
  fa : -9223372036854775808 ≤ a.f.at_ ∧ a.f.at_ ≤ 9223372036854775807
  fc : -9223372036854775808 ≤ a.f.c ∧ a.f.c ≤ 9223372036854775807
  nm : a.name.size ≤ maxLen
  dt : a.data.size ≤ maxLen
theorem StepOk.below {W W' : World} {B : Nat} {a : Stepx} (h : StepOk W B a) (hb : Below B W W') : StepOk W' B a := { h with row := h.row.below hb, keep := fun x hx => (h.keep x hx).below hb }

/-- What a step makes of a world. -/
def Wld.step (m : Wld) (a : Stepx) : Wld :=
  if a.kind = 0 then m.go a.i (fun s => (s.put (a.name, a.data)).1) else if a.kind = 1 then m.go a.i id else if a.kind = 2 then m.go a.i (fun s => (s.del a.name).1) else if a.kind = 3 then m.go a.i id
    else if a.kind = 4 then m.go a.i (fun s => s.sync.1) else if a.kind = 5 then (m.cut a.i).1 else if a.kind = 6 then m.crash (a.keeps.map Surv.keep) else if a.kind = 7 then (m.strike a.f).1 else m.clear
theorem step_len (m : Wld) (a : Stepx) : (m.step a).stores.length = m.stores.length := by
  unfold Wld.step
  repeat' split
  · exact go_len _ _ _
  · exact go_len _ _ _
  · exact go_len _ _ _
  · exact go_len _ _ _
  · exact go_len _ _ _
  · exact cut_len _ _
  · exact crash_len _ _
  · exact strike_len _ _
  · exact clear_len _
theorem step_calls (m : Wld) (a : Stepx) : (m.step a).calls ≤ m.calls + 1 := by
  unfold Wld.step
  repeat' split
  · exact go_calls _ _ _
  · exact go_calls _ _ _
  · exact go_calls _ _ _
  · exact go_calls _ _ _
  · exact go_calls _ _ _
  · rw [cut_calls]; omega
  · exact Nat.le_succ m.calls
  · rw [strike_calls]; omega
  · exact Nat.le_succ m.calls
theorem WOk.step {N : Nat} {m : Wld} {a : Stepx} (h : WOk N m) (hN : N + 1 ≤ 1000000) (hf : a.f.fit) : WOk (N + 1) (m.step a) := by
  unfold Wld.step
  repeat' split
  · exact h.go (fun s hs => hs.put hN _) (Nat.le_succ _) hN
  · exact h.go (fun s hs => hs.next hN) (Nat.le_succ _) hN
  · exact h.go (fun s hs => hs.del hN _) (Nat.le_succ _) hN
  · exact h.go (fun s hs => hs.next hN) (Nat.le_succ _) hN
  · exact h.go (fun s hs => hs.sync.next hN) (Nat.le_succ _) hN
  · exact (h.cut _).more (Nat.le_succ _) hN
  · exact (h.crash _).more (Nat.le_succ _) hN
  · exact h.strike hN _ hf
  · exact h.clear.more (Nat.le_succ _) hN
theorem WldTo.cell {b N : Nat} {F : List Nat} {s : Wld} {w w' : World} (h : WldTo b F N s w w') {q o : Nat} (hq : q < w.heap.size) (hF : q ∉ F) : w'.cell? ⟨q, o, none⟩ = w.cell? ⟨q, o, none⟩ := by
  obtain ⟨F', _, h2, _⟩ := h
  exact World.cell?_of_block (a := ⟨q, o, none⟩) (h2.block q hq hF)
theorem RWTo.cell {b : Nat} {F : List Nat} {s : Wld} {w w' : World} (h : RWTo b F s w w') {q o : Nat} (hq : q < w.heap.size) (hF : q ∉ F) : w'.cell? ⟨q, o, none⟩ = w.cell? ⟨q, o, none⟩ := by
  obtain ⟨F', _, h2, _⟩ := h
  exact World.cell?_of_block (a := ⟨q, o, none⟩) (h2.block q hq hF)
theorem WTo.steps {b c N : Nat} {X Y : List Nat} {m x : Wld} {w w0 w1 w2 : World} {a : Stepx} (h : WTwo w b X N c Y m x) (hN : N + 1 ≤ 1000000) (hf : a.f.fit) (hA : Below w.heap.size w w0) (t1 : WldTo b X (N + 1) (m.step a) w0 w1) (t2 : RWTo c Y (x.step a) w1 w2) : WTo b X (N + 1) c Y (m.step a) (x.step a) w w2 :=
  WTo.done h hA t1 t2 (h.ok.step hN hf) (Nat.le_trans (step_calls m a) (by have := h.cm; omega)) (Nat.le_trans (step_calls x a) (by have := h.cx; omega)) (by rw [step_len]; exact h.nm) (by rw [step_len]; exact h.nx)
theorem WTo.steps' {b c N : Nat} {X Y : List Nat} {m x : Wld} {w w0 w1 w2 : World} {a : Stepx} (h : WTwo w b X N c Y m x) (hN : N + 1 ≤ 1000000) (hf : a.f.fit) (hA : Below w.heap.size w w0) (t1 : RWTo c Y (x.step a) w0 w1) (t2 : WldTo b X (N + 1) (m.step a) w1 w2) : WTo b X (N + 1) c Y (m.step a) (x.step a) w w2 :=
  WTo.done' h hA t1 t2 (h.ok.step hN hf) (Nat.le_trans (step_calls m a) (by have := h.cm; omega)) (Nat.le_trans (step_calls x a) (by have := h.cx; omega)) (by rw [step_len]; exact h.nm) (by rw [step_len]; exact h.nx)

set_option maxHeartbeats 16000000 in
set_option maxRecDepth 100000 in
theorem law08_do (b N c : Nat) (X Y : List Nat) (m x : Wld) (a : Stepx) (B : Nat) (w : World) (hN : N + 1 ≤ 1000000) (h : WTwo w b X N c Y m x) (ha : StepOk w B a) (hB : B ≤ w.heap.size) (hlo : ∀ i ∈ X ++ Y, B ≤ i) :
    Calls Tryz.prog 13 #[a.agg, .pointer (some ⟨b, 0, none⟩), .pointer (some ⟨c, 0, none⟩)] w fun e w' => ∃ R, e = .returned (.bool R) ∧ (m = x → R = true) ∧ WTo b X (N + 1) c Y (m.step a) (x.step a) w w' := by
  have hcm := h.cm
  have hcx := h.cx
  have hfit : a.f.fit := ⟨ha.fn.2, ha.fa.2, ha.fc.2⟩
  have hfin := Lib.hid fun w0 w1 w2 (hA : Below w.heap.size w w0) (t1 : WldTo b X (N + 1) (m.step a) w0 w1) (t2 : RWTo c Y (x.step a) w1 w2) => WTo.steps h hN hfit hA t1 t2
  have hfin' := Lib.hid fun w0 w1 w2 (hA : Below w.heap.size w w0) (t1 : RWTo c Y (x.step a) w0 w1) (t2 : WldTo b X (N + 1) (m.step a) w1 w2) => WTo.steps' h hN hfit hA t1 t2
  have hsame := Lib.hid fun w1 (hw : Below w.heap.size w w1) (e1 : m.step a = m) (e2 : x.step a = x) => show WTo b X (N + 1) c Y (m.step a) (x.step a) w w1 by rw [e1, e2]; exact (WTo.same h hw).more (Nat.le_succ N) hN
  obtain ⟨kind, si, name, data, sA, sn, sc, ⟨fk, fs, fn, fa, fc⟩, keeps⟩ := a
  unfold Stepx.agg
  have hkd := ha.kind
  have hib := ha.ib
  have hrow := ha.row
  have hkeep := ha.keep
  have hfk := ha.fk
  have hnm := ha.nm
  have hdt := ha.dt
  dsimp only at hfit hkd hib hrow hkeep hfk hnm hdt hfin hfin' hsame ⊢
  have hA : Below w.heap.size w (w.alloc (.cells #[.int .u8 kind, .int .i64 si, .string name, .string data, .slice sA sn sc, .int .u8 fk, .int .i64 fs, .int .i64 fn, .int .i64 fa, .int .i64 fc] 41)) := (Below.refl _ w).alloc (Nat.le_refl _) _
  have x0 := newCell w #[.int .u8 kind, .int .i64 si, .string name, .string data, .slice sA sn sc, .int .u8 fk, .int .i64 fs, .int .i64 fn, .int .i64 fa, .int .i64 fc] 41 (0, 0)
  have hz0 : (w.alloc (.cells #[.int .u8 kind, .int .i64 si, .string name, .string data, .slice sA sn sc, .int .u8 fk, .int .i64 fs, .int .i64 fn, .int .i64 fa, .int .i64 fc] 41)).heap.size = w.heap.size + 1 := by simp
  have hqX : w.heap.size ∉ X := fun hi => by have := h.p.lt _ hi; omega
  have hqY : w.heap.size ∉ Y := fun hi => by have := h.r.lt _ hi; omega
  have h0 := h.below hA
  have hok := h.ok
  have hc1 : m.calls + 1 ≤ 1000000 := by omega
  have hc2 : x.calls + 1 ≤ 1000000 := by omega
  have hzz : Hid (∀ z : Int, (z == z) = true) := by unfold Hid; simp
  replace ha := Lib.hid ha
  by_cases e0 : kind = 0
  · subst e0
    have e1 : Hid (m.step ⟨0, si, name, data, sA, sn, sc, ⟨fk, fs, fn, fa, fc⟩, keeps⟩ = m.go si (fun s => (s.put (name, data)).1)) := rfl
    have e2 : Hid (x.step ⟨0, si, name, data, sA, sn, sc, ⟨fk, fs, fn, fa, fc⟩, keeps⟩ = x.go si (fun s => (s.put (name, data)).1)) := rfl
    have hra : ∀ w0 w1, Below w.heap.size w w0 → WldTo b X (N + 1) (m.step ⟨0, si, name, data, sA, sn, sc, ⟨fk, fs, fn, fa, fc⟩, keeps⟩) w0 w1 → RWAt w1 c Y x := fun w0 w1 k1 k2 => h.ref_after k1 k2
    have q0 := x0 0
    have q1 := x0 1
    have q2 := x0 2
    have q3 := x0 3
    replace hra := Lib.hid hra
    clear x0 h
    go_enter Tryz.func13, Tryz.ntmps13
    go_upto_region 3 with fail
    generalize (w.alloc (.cells #[.int .u8 0, .int .i64 si, .string name, .string data, .slice sA sn sc, .int .u8 fk, .int .i64 fs, .int .i64 fn, .int .i64 fa, .int .i64 fc] 41)) = w0 at hA q0 q1 q2 q3 hz0 h0 ⊢
    simp at q0 q1 q2 q3
    have hd0 : Below w0.heap.size w0 w0.drew := (Below.refl _ _).drew
    refine region_held_tail 11 (fun W : World => W.cell? ⟨w.heap.size, 1, none⟩ = some (.int .i64 si) ∧ W.cell? ⟨w.heap.size, 2, none⟩ = some (.string name) ∧ W.cell? ⟨w.heap.size, 3, none⟩ = some (.string data)) (by kernel_rfl) (by kernel_rfl) ?_
    have hHeld : (fun W : World => W.cell? ⟨w.heap.size, 1, none⟩ = some (.int .i64 si) ∧ W.cell? ⟨w.heap.size, 2, none⟩ = some (.string name) ∧ W.cell? ⟨w.heap.size, 3, none⟩ = some (.string data)) w0.drew := ⟨q1, q2, q3⟩
    (refine HT.takeL (i := 0) (v := ?_) rfl (by kernel_rfl) (fun _ _ _ h => h) (Or.inl ⟨by rfl, ?_⟩) (by assumption) ?_
     rotate_left
     · (intro w hSw; (try dsimp only at hSw); go_simp; (try with_reducible rfl))
     try simp only [Act.put, List.setIfInBounds_toArray, List.set_cons_zero, List.set_cons_succ])
    (refine HT.takeL (i := 1) (v := ?_) rfl (by kernel_rfl) (fun _ _ _ h => h) (Or.inl ⟨by rfl, ?_⟩) (by assumption) ?_
     rotate_left
     · (intro w hSw; (try dsimp only at hSw); go_simp; (try with_reducible rfl))
     try simp only [Act.put, List.setIfInBounds_toArray, List.set_cons_zero, List.set_cons_succ])
    (refine HT.takeL (i := 2) (v := ?_) rfl (by kernel_rfl) (fun _ _ _ h => h) (Or.inl ⟨by rfl, ?_⟩) (by assumption) ?_
     rotate_left
     · (intro w hSw; (try dsimp only at hSw); go_simp; (try with_reducible rfl))
     try simp only [Act.put, List.setIfInBounds_toArray, List.set_cons_zero, List.set_cons_succ])
    (refine HT.takeL (i := 3) (v := ?_) rfl (by kernel_rfl) (fun _ _ _ h => h) (Or.inl ⟨by rfl, ?_⟩) (by assumption) ?_
     rotate_left
     · (intro w hSw; (try dsimp only at hSw); go_simp; (try with_reducible rfl))
     try simp only [Act.put, List.setIfInBounds_toArray, List.set_cons_zero, List.set_cons_succ])
    (refine HT.takeL (i := 4) (v := ?_) rfl (by kernel_rfl) (fun _ _ _ h => h) (Or.inl ⟨by rfl, ?_⟩) (by assumption) ?_
     rotate_left
     · (intro w hSw; (try dsimp only at hSw); go_simp; (try with_reducible rfl))
     try simp only [Act.put, List.setIfInBounds_toArray, List.set_cons_zero, List.set_cons_succ])
    (refine HT.takeL (i := 6) (v := ?_) rfl (by kernel_rfl) (fun _ _ _ h => h) (Or.inl ⟨by rfl, ?_⟩) (by assumption) ?_
     rotate_left
     · (intro w hSw; (try dsimp only at hSw); go_simp; (try with_reducible rfl))
     try simp only [Act.put, List.setIfInBounds_toArray, List.set_cons_zero, List.set_cons_succ])
    (refine HT.takeL (i := 7) (v := ?_) rfl (by kernel_rfl) (fun _ _ _ h => h) (Or.inl ⟨by rfl, ?_⟩) (by assumption) ?_
     rotate_left
     · (intro w hSw; (try dsimp only at hSw); go_simp; (try with_reducible rfl))
     try simp only [Act.put, List.setIfInBounds_toArray, List.set_cons_zero, List.set_cons_succ])
    (refine HT.takeL (i := 8) (v := ?_) rfl (by kernel_rfl) (fun _ _ _ h => h) (Or.inl ⟨by rfl, ?_⟩) (by assumption) ?_
     rotate_left
     · (intro w hSw; (try dsimp only at hSw); go_simp; (try with_reducible rfl))
     try simp only [Act.put, List.setIfInBounds_toArray, List.set_cons_zero, List.set_cons_succ])
    (refine HT.takeL (i := 9) (v := ?_) rfl (by kernel_rfl) (fun _ _ _ h => h) (Or.inl ⟨by rfl, ?_⟩) (by assumption) ?_
     rotate_left
     · (intro w hSw; (try dsimp only at hSw); go_simp; (try with_reducible rfl))
     try simp only [Act.put, List.setIfInBounds_toArray, List.set_cons_zero, List.set_cons_succ])
    (refine HT.takeL (i := 10) (v := ?_) rfl (by kernel_rfl) (fun _ _ _ h => h) (Or.inl ⟨by rfl, ?_⟩) (by assumption) ?_
     rotate_left
     · (intro w hSw; (try dsimp only at hSw); go_simp; (try with_reducible rfl))
     try simp only [Act.put, List.setIfInBounds_toArray, List.set_cons_zero, List.set_cons_succ])
    (refine HT.onlyL (i := 5) rfl (by kernel_rfl) (fun K hK => ?_)
     (go_simp; (refine (world_Put b N X m si (name, data) hnm hdt w0.drew (h0.p.below hd0) hN hc1).mono ?_; rintro e w1 ⟨rfl, t1⟩))
     refine hK.out _ _ ?_ (fun hHeld => ?_)
     · (exact ⟨(t1.cell (by simp; omega) hqX).trans q1, (t1.cell (by simp; omega) hqX).trans q2, (t1.cell (by simp; omega) hqX).trans q3⟩)
     clear hK K
     try simp only [Act.put, List.setIfInBounds_toArray, List.set_cons_zero, List.set_cons_succ])
    refine HT.tail (by kernel_rfl) ?_
    simp only [List.drop_succ_cons, List.drop_zero]
    have hA2 := hA.trans (hd0.mono (by omega))
    replace t1 := (show WldTo b X (N + 1) (m.step ⟨0, si, name, data, sA, sn, sc, ⟨fk, fs, fn, fa, fc⟩, keeps⟩) w0.drew w1 by rw [e1.out]; exact t1)
    have hr1 := hra.out _ _ hA2 t1
    clear hHeld q0 q1 q2 q3
    replace t1 := Lib.hid t1
    go_wp2_with fail
    refine (ref08_Put c N Y x si (name, data) w1 hr1 hok hc2).mono ?_
    rintro e w2 ⟨rfl, t2⟩
    have hh := Lib.hid (hfin.out _ _ _ hA2 t1.out (by rw [e2.out]; exact t2))
    have hzz1 : m = x → ((m.err si fun s => (s.put (name, data)).2) == (x.err si fun s => (s.put (name, data)).2)) = true := fun e => by rw [e]; exact hzz.out _
    replace hzz1 := Lib.hid hzz1
    clear t2 hfin hra
    go_wp2_with fail
    go_ret
    exact ⟨_, rfl, hzz1.out, hh.out⟩
  by_cases e1 : kind = 1
  · subst e1
    have e1 : Hid (m.step ⟨1, si, name, data, sA, sn, sc, ⟨fk, fs, fn, fa, fc⟩, keeps⟩ = m.go si id) := rfl
    have e2 : Hid (x.step ⟨1, si, name, data, sA, sn, sc, ⟨fk, fs, fn, fa, fc⟩, keeps⟩ = x.go si id) := rfl
    have hra : ∀ w0 w1, Below w.heap.size w w0 → WldTo b X (N + 1) (m.step ⟨1, si, name, data, sA, sn, sc, ⟨fk, fs, fn, fa, fc⟩, keeps⟩) w0 w1 → RWAt w1 c Y x := fun w0 w1 k1 k2 => h.ref_after k1 k2
    have q0 := x0 0
    have q1 := x0 1
    have q2 := x0 2
    replace hra := Lib.hid hra
    clear x0 h e0
    go_enter Tryz.func13, Tryz.ntmps13
    go_upto_region 5 with fail
    generalize (w.alloc (.cells #[.int .u8 1, .int .i64 si, .string name, .string data, .slice sA sn sc, .int .u8 fk, .int .i64 fs, .int .i64 fn, .int .i64 fa, .int .i64 fc] 41)) = w0 at hA q0 q1 q2 hz0 h0 ⊢
    simp at q0 q1 q2
    go_wp2_with fail
    refine (world_Get b N X m si name hnm w0 h0.p (by omega) hc1).mono ?_
    rintro e w1 ⟨rfl, t1⟩
    have y1 := (t1.cell (o := 1) (by omega) hqX).trans q1
    have y2 := (t1.cell (o := 2) (by omega) hqX).trans q2
    have t1' : WldTo b X (N + 1) (m.step ⟨1, si, name, data, sA, sn, sc, ⟨fk, fs, fn, fa, fc⟩, keeps⟩) w0 w1 := by rw [e1.out]; exact t1.more (Nat.le_succ N) hN
    have hr1 := hra.out _ _ hA t1'
    replace t1' := Lib.hid t1'
    clear t1 q0 q1 q2
    go_wp2_with fail
    refine (ref08_Get c N Y x si name w1 hr1 hok hc2).mono ?_
    rintro e w2 ⟨rfl, t2⟩
    have hh := Lib.hid (hfin.out _ _ _ hA t1'.out (by rw [e2.out]; exact t2))
    have hmx : Hid (m = x → m.get si name = x.get si name) := by unfold Hid; intro e; rw [e]
    clear t2 hfin hra
    generalize m.get si name = g1 at hmx
    generalize x.get si name = g2 at hmx
    obtain ⟨d1, r1⟩ := g1
    obtain ⟨d2, r2⟩ := g2
    dsimp only at *
    by_cases hdd : d1 = d2
    · have i0 := str_eq hdd
      have hR : Hid (m = x → (r1 == r2) = true) := by unfold Hid; intro e; have := hmx.out e; cases this; exact hzz.out _
      replace hdd := Lib.hid hdd
      go_wp2_with fail
      go_ret
      exact ⟨_, rfl, hR.out, hh.out⟩
    · have i0 := str_ne hdd
      have hR : Hid (m = x → False) := by unfold Hid; intro e; have := hmx.out e; cases this; exact hdd rfl
      replace hdd := Lib.hid hdd
      go_wp2_with fail
      go_ret
      exact ⟨false, rfl, fun e => (hR.out e).elim, hh.out⟩
  by_cases e2 : kind = 2
  · subst e2
    have e1' : Hid (m.step ⟨2, si, name, data, sA, sn, sc, ⟨fk, fs, fn, fa, fc⟩, keeps⟩ = m.go si (fun s => (s.del name).1)) := rfl
    have e2 : Hid (x.step ⟨2, si, name, data, sA, sn, sc, ⟨fk, fs, fn, fa, fc⟩, keeps⟩ = x.go si (fun s => (s.del name).1)) := rfl
    have hra : ∀ w0 w1, Below w.heap.size w w0 → WldTo b X (N + 1) (m.step ⟨2, si, name, data, sA, sn, sc, ⟨fk, fs, fn, fa, fc⟩, keeps⟩) w0 w1 → RWAt w1 c Y x := fun w0 w1 k1 k2 => h.ref_after k1 k2
    have q0 := x0 0
    have q1 := x0 1
    have q2 := x0 2
    replace hra := Lib.hid hra
    clear x0 h e0 e1
    go_enter Tryz.func13, Tryz.ntmps13
    go_upto_region 9 with fail
    generalize (w.alloc (.cells #[.int .u8 2, .int .i64 si, .string name, .string data, .slice sA sn sc, .int .u8 fk, .int .i64 fs, .int .i64 fn, .int .i64 fa, .int .i64 fc] 41)) = w0 at hA q0 q1 q2 hz0 h0 ⊢
    simp at q0 q1 q2
    have hd0 : Below w0.heap.size w0 w0.drew := (Below.refl _ _).drew
    refine region_held_tail 13 (fun W : World => W.cell? ⟨w.heap.size, 1, none⟩ = some (.int .i64 si) ∧ W.cell? ⟨w.heap.size, 2, none⟩ = some (.string name)) (by kernel_rfl) (by kernel_rfl) ?_
    have hHeld : (fun W : World => W.cell? ⟨w.heap.size, 1, none⟩ = some (.int .i64 si) ∧ W.cell? ⟨w.heap.size, 2, none⟩ = some (.string name)) w0.drew := ⟨q1, q2⟩
    (refine HT.takeL (i := 0) (v := ?_) rfl (by kernel_rfl) (fun _ _ _ h => h) (Or.inl ⟨by rfl, ?_⟩) (by assumption) ?_
     rotate_left
     · (intro w hSw; (try dsimp only at hSw); go_simp; (try with_reducible rfl))
     try simp only [Act.put, List.setIfInBounds_toArray, List.set_cons_zero, List.set_cons_succ])
    (refine HT.takeL (i := 1) (v := ?_) rfl (by kernel_rfl) (fun _ _ _ h => h) (Or.inl ⟨by rfl, ?_⟩) (by assumption) ?_
     rotate_left
     · (intro w hSw; (try dsimp only at hSw); go_simp; (try with_reducible rfl))
     try simp only [Act.put, List.setIfInBounds_toArray, List.set_cons_zero, List.set_cons_succ])
    (refine HT.takeL (i := 2) (v := ?_) rfl (by kernel_rfl) (fun _ _ _ h => h) (Or.inl ⟨by rfl, ?_⟩) (by assumption) ?_
     rotate_left
     · (intro w hSw; (try dsimp only at hSw); go_simp; (try with_reducible rfl))
     try simp only [Act.put, List.setIfInBounds_toArray, List.set_cons_zero, List.set_cons_succ])
    (refine HT.takeL (i := 3) (v := ?_) rfl (by kernel_rfl) (fun _ _ _ h => h) (Or.inl ⟨by rfl, ?_⟩) (by assumption) ?_
     rotate_left
     · (intro w hSw; (try dsimp only at hSw); go_simp; (try with_reducible rfl))
     try simp only [Act.put, List.setIfInBounds_toArray, List.set_cons_zero, List.set_cons_succ])
    (refine HT.takeL (i := 4) (v := ?_) rfl (by kernel_rfl) (fun _ _ _ h => h) (Or.inl ⟨by rfl, ?_⟩) (by assumption) ?_
     rotate_left
     · (intro w hSw; (try dsimp only at hSw); go_simp; (try with_reducible rfl))
     try simp only [Act.put, List.setIfInBounds_toArray, List.set_cons_zero, List.set_cons_succ])
    (refine HT.takeL (i := 5) (v := ?_) rfl (by kernel_rfl) (fun _ _ _ h => h) (Or.inl ⟨by rfl, ?_⟩) (by assumption) ?_
     rotate_left
     · (intro w hSw; (try dsimp only at hSw); go_simp; (try with_reducible rfl))
     try simp only [Act.put, List.setIfInBounds_toArray, List.set_cons_zero, List.set_cons_succ])
    (refine HT.takeL (i := 7) (v := ?_) rfl (by kernel_rfl) (fun _ _ _ h => h) (Or.inl ⟨by rfl, ?_⟩) (by assumption) ?_
     rotate_left
     · (intro w hSw; (try dsimp only at hSw); go_simp; (try with_reducible rfl))
     try simp only [Act.put, List.setIfInBounds_toArray, List.set_cons_zero, List.set_cons_succ])
    (refine HT.takeL (i := 8) (v := ?_) rfl (by kernel_rfl) (fun _ _ _ h => h) (Or.inl ⟨by rfl, ?_⟩) (by assumption) ?_
     rotate_left
     · (intro w hSw; (try dsimp only at hSw); go_simp; (try with_reducible rfl))
     try simp only [Act.put, List.setIfInBounds_toArray, List.set_cons_zero, List.set_cons_succ])
    (refine HT.takeL (i := 9) (v := ?_) rfl (by kernel_rfl) (fun _ _ _ h => h) (Or.inl ⟨by rfl, ?_⟩) (by assumption) ?_
     rotate_left
     · (intro w hSw; (try dsimp only at hSw); go_simp; (try with_reducible rfl))
     try simp only [Act.put, List.setIfInBounds_toArray, List.set_cons_zero, List.set_cons_succ])
    (refine HT.takeL (i := 10) (v := ?_) rfl (by kernel_rfl) (fun _ _ _ h => h) (Or.inl ⟨by rfl, ?_⟩) (by assumption) ?_
     rotate_left
     · (intro w hSw; (try dsimp only at hSw); go_simp; (try with_reducible rfl))
     try simp only [Act.put, List.setIfInBounds_toArray, List.set_cons_zero, List.set_cons_succ])
    (refine HT.takeL (i := 11) (v := ?_) rfl (by kernel_rfl) (fun _ _ _ h => h) (Or.inl ⟨by rfl, ?_⟩) (by assumption) ?_
     rotate_left
     · (intro w hSw; (try dsimp only at hSw); go_simp; (try with_reducible rfl))
     try simp only [Act.put, List.setIfInBounds_toArray, List.set_cons_zero, List.set_cons_succ])
    (refine HT.takeL (i := 12) (v := ?_) rfl (by kernel_rfl) (fun _ _ _ h => h) (Or.inl ⟨by rfl, ?_⟩) (by assumption) ?_
     rotate_left
     · (intro w hSw; (try dsimp only at hSw); go_simp; (try with_reducible rfl))
     try simp only [Act.put, List.setIfInBounds_toArray, List.set_cons_zero, List.set_cons_succ])
    (refine HT.onlyL (i := 6) rfl (by kernel_rfl) (fun K hK => ?_)
     (go_simp; (refine (world_Del b N X m si name hnm w0.drew (h0.p.below hd0) hN hc1).mono ?_; rintro e w1 ⟨rfl, t1⟩))
     refine hK.out _ _ ?_ (fun hHeld => ?_)
     · (exact ⟨(t1.cell (by simp; omega) hqX).trans q1, (t1.cell (by simp; omega) hqX).trans q2⟩)
     clear hK K
     try simp only [Act.put, List.setIfInBounds_toArray, List.set_cons_zero, List.set_cons_succ])
    refine HT.tail (by kernel_rfl) ?_
    simp only [List.drop_succ_cons, List.drop_zero]
    have hA2 := hA.trans (hd0.mono (by omega))
    replace t1 := (show WldTo b X (N + 1) (m.step ⟨2, si, name, data, sA, sn, sc, ⟨fk, fs, fn, fa, fc⟩, keeps⟩) w0.drew w1 by rw [e1'.out]; exact t1)
    have hr1 := hra.out _ _ hA2 t1
    clear hHeld q0 q1 q2
    replace t1 := Lib.hid t1
    go_wp2_with fail
    refine (ref08_Del c N Y x si name w1 hr1 hok hc2).mono ?_
    rintro e w2 ⟨rfl, t2⟩
    have hh := Lib.hid (hfin.out _ _ _ hA2 t1.out (by rw [e2.out]; exact t2))
    have hzz1 : m = x → ((m.err si fun s => (s.del name).2) == (x.err si fun s => (s.del name).2)) = true := fun e => by rw [e]; exact hzz.out _
    replace hzz1 := Lib.hid hzz1
    clear t2 hfin hra
    go_wp2_with fail
    go_ret
    exact ⟨_, rfl, hzz1.out, hh.out⟩
  by_cases e3 : kind = 3
  · subst e3
    have e1' : Hid (m.step ⟨3, si, name, data, sA, sn, sc, ⟨fk, fs, fn, fa, fc⟩, keeps⟩ = m.go si id) := rfl
    have e2' : Hid (x.step ⟨3, si, name, data, sA, sn, sc, ⟨fk, fs, fn, fa, fc⟩, keeps⟩ = x.go si id) := rfl
    have hra : ∀ w0 w1, Below w.heap.size w w0 → WldTo b X (N + 1) (m.step ⟨3, si, name, data, sA, sn, sc, ⟨fk, fs, fn, fa, fc⟩, keeps⟩) w0 w1 → RWAt w1 c Y x := fun w0 w1 k1 k2 => h.ref_after k1 k2
    have q0 := x0 0
    have q1 := x0 1
    replace hra := Lib.hid hra
    clear x0 e0 e1 e2
    go_enter Tryz.func13, Tryz.ntmps13
    go_upto_region 11 with fail
    generalize (w.alloc (.cells #[.int .u8 3, .int .i64 si, .string name, .string data, .slice sA sn sc, .int .u8 fk, .int .i64 fs, .int .i64 fn, .int .i64 fa, .int .i64 fc] 41)) = w0 at hA q0 q1 hz0 h0 ⊢
    simp at q0 q1
    go_wp2_with fail
    refine (world_List b N X m si w0 h0.p (by omega) hc1).mono ?_
    rintro e w1 ⟨v1, W1, rfl, ⟨X1, u1, u2, u3⟩, o1, bb1⟩
    obtain ⟨A1, n1, c1, rfl⟩ : ∃ A m c, v1 = .slice A m c := by obtain ⟨A, c, e⟩ := Owns.form o1; exact ⟨A, _, c, e⟩
    have y1 := ((bb1.cell (p := ⟨w.heap.size, 1, none⟩) (by show w.heap.size < _; have := u2.size; omega)).trans (World.cell?_of_block (a := ⟨w.heap.size, 1, none⟩) (u2.block _ (by show w.heap.size < _; omega) hqX))).trans q1
    have hX1l := u1.lt
    have u1b : WldAt w1 b X1 (N + 1) (m.step ⟨3, si, name, data, sA, sn, sc, ⟨fk, fs, fn, fa, fc⟩, keeps⟩) := by rw [e1'.out]; exact (u1.below bb1).more (Nat.le_succ N) hN
    have u2b : But X w0 w1 := u2.trans (But.of_below (F := []) bb1) (by simp)
    have hr1 := hra.out _ _ hA ⟨X1, u1b, u2b, u3⟩
    have hz1 : w0.heap.size ≤ W1.heap.size := u2.size
    have hz1b : W1.heap.size ≤ w1.heap.size := bb1.size
    have o1l := fun i e => o1.within (i := i) e
    replace o1l := Lib.hid o1l
    replace u1b := Lib.hid u1b
    replace u2b := Lib.hid u2b
    replace u3 := Lib.hid u3
    replace hX1l := Lib.hid hX1l
    clear q0 q1 u1 u2 bb1
    go_wp2_with fail
    refine (ref08_List c N Y x si w1 hr1 hok hc2).mono ?_
    rintro e w2 ⟨v2, W2, rfl, ⟨Y1, k1, k2, k3⟩, o2, bb2⟩
    obtain ⟨A2, n2, c2, rfl⟩ : ∃ A m c, v2 = .slice A m c := by obtain ⟨A, c, e⟩ := Owns.form o2; exact ⟨A, _, c, e⟩
    have hYw : ∀ i ∈ Y, i < w0.heap.size := h0.r.lt
    have hz2 : w1.heap.size ≤ W2.heap.size := k2.size
    have hz2b : W2.heap.size ≤ w2.heap.size := bb2.size
    have o1b : strE.Own w2 W1.heap.size (.slice A1 n1 c1) (m.list si).1 := o1.blockS fun i e => (bb2.block i (by have := (o1l.out i e).2; omega)).trans (k2.block i (o1l.out i e).2 (fun hi => by have := (o1l.out i e).1; have := hYw i hi; omega))
    have r1 := Owns.row (k := 1) (fun x => strE.len x) o1b
    have r2 := Owns.row (k := 1) (fun x => strE.len x) o2
    have hw1 := Owns.writ o1b
    have o2l := fun i e => o2.within (i := i) e
    have htx := law08_texts A1 n1 c1 A2 n2 c2 (m.list si).1 (x.list si).1 W1.heap.size w2 r1 hw1 r2 (fun a oa bb ob ea eb e => by
      subst ea eb e
      have k1 := (o1l.out a rfl).2
      have k2 := (o2l a rfl).1
      omega) (by omega)
    have hh0 := WTo.doneX (M := N + 1) (m' := m.step ⟨3, si, name, data, sA, sn, sc, ⟨fk, fs, fn, fa, fc⟩, keeps⟩) (x' := x.step ⟨3, si, name, data, sA, sn, sc, ⟨fk, fs, fn, fa, fc⟩, keeps⟩) h hA u1b.out u2b.out u3.out (by rw [e2'.out]; exact k1) k2 k3 (h.ok.step hN hfit) (Nat.le_trans (step_calls m ⟨3, si, name, data, sA, sn, sc, ⟨fk, fs, fn, fa, fc⟩, keeps⟩) (by omega)) (Nat.le_trans (step_calls x ⟨3, si, name, data, sA, sn, sc, ⟨fk, fs, fn, fa, fc⟩, keeps⟩) (by omega)) (by rw [step_len]; exact h.nm) (by rw [step_len]; exact h.nx)
    have hthen := Lib.hid fun w3 (hb : ∃ F : List Nat, But F w2 w3 ∧ ∀ i ∈ F, ∃ o, A1 = some ⟨i, o, none⟩) => show WTo b X (N + 1) c Y (m.step ⟨3, si, name, data, sA, sn, sc, ⟨fk, fs, fn, fa, fc⟩, keeps⟩) (x.step ⟨3, si, name, data, sA, sn, sc, ⟨fk, fs, fn, fa, fc⟩, keeps⟩) w w3 by
      obtain ⟨F, g1, g2⟩ := hb
      obtain ⟨s1, s2, s3⟩ := hh0
      have hFF : ∀ i ∈ F, W1.heap.size ≤ i ∧ i < w1.heap.size := fun i hi => by
        obtain ⟨o, rfl⟩ := g2 i hi
        exact o1l.out i rfl
      refine ⟨X1, Y1, (s1.below bb2).but g1 fun i hi hf => ?_, (s2.trans (But.of_below (F := []) bb2) (by simp)).trans g1 fun i hi => .inr (by have := (hFF i hi).1; have := hA.size; omega), s3⟩
      have hf1 := hFF i hf
      rcases List.mem_append.1 hi with hi | hi
      · have := hX1l.out i hi
        omega
      · rcases k3 i hi with e | e
        · have := hYw i e
          omega
        · omega
    have hmx : Hid (m = x → m.list si = x.list si) := by unfold Hid; intro e; rw [e]
    clear hfin hra o1 o2 o1b hh0 k1 k2 k3 h r1 r2 hw1
    generalize m.list si = g1 at hmx htx ⊢
    generalize x.list si = g2 at hmx htx ⊢
    obtain ⟨d1, z1⟩ := g1
    obtain ⟨d2, z2⟩ := g2
    dsimp only at hmx htx ⊢
    by_cases hdd : d1 = d2
    · have hR : Hid (m = x → (z1 == z2) = true) := by unfold Hid; intro e; have := hmx.out e; cases this; exact hzz.out _
      rw [decide_eq_true hdd] at htx
      replace hdd := Lib.hid hdd
      replace htx := Lib.hid htx
      go_wp2_with fail
      refine htx.out.mono ?_
      rintro e w3 ⟨rfl, _, hb3⟩
      have hfi := Lib.hid (hthen.out _ hb3)
      clear hb3
      go_wp2_with fail
      go_ret
      exact ⟨_, rfl, hR.out, hfi.out⟩
    · have hR : Hid (m = x → False) := by unfold Hid; intro e; have := hmx.out e; cases this; exact hdd rfl
      rw [decide_eq_false hdd] at htx
      replace hdd := Lib.hid hdd
      replace htx := Lib.hid htx
      go_wp2_with fail
      refine htx.out.mono ?_
      rintro e w3 ⟨rfl, _, hb3⟩
      have hfi := Lib.hid (hthen.out _ hb3)
      clear hb3
      go_wp2_with fail
      go_ret
      exact ⟨false, rfl, fun e => (hR.out e).elim, hfi.out⟩
  by_cases e4 : kind = 4
  · subst e4
    have e1' : Hid (m.step ⟨4, si, name, data, sA, sn, sc, ⟨fk, fs, fn, fa, fc⟩, keeps⟩ = m.go si (fun s => s.sync.1)) := rfl
    have e2' : Hid (x.step ⟨4, si, name, data, sA, sn, sc, ⟨fk, fs, fn, fa, fc⟩, keeps⟩ = x.go si (fun s => s.sync.1)) := rfl
    have hra : ∀ w0 w1, Below w.heap.size w w0 → WldTo b X (N + 1) (m.step ⟨4, si, name, data, sA, sn, sc, ⟨fk, fs, fn, fa, fc⟩, keeps⟩) w0 w1 → RWAt w1 c Y x := fun w0 w1 k1 k2 => h.ref_after k1 k2
    have q0 := x0 0
    have q1 := x0 1
    replace hra := Lib.hid hra
    clear x0 h e0 e1 e2 e3
    go_enter Tryz.func13, Tryz.ntmps13
    go_upto_region 15 with fail
    generalize (w.alloc (.cells #[.int .u8 4, .int .i64 si, .string name, .string data, .slice sA sn sc, .int .u8 fk, .int .i64 fs, .int .i64 fn, .int .i64 fa, .int .i64 fc] 41)) = w0 at hA q0 q1 hz0 h0 ⊢
    simp at q0 q1
    have hd0 : Below w0.heap.size w0 w0.drew := (Below.refl _ _).drew
    refine region_held_tail 7 (fun W : World => W.cell? ⟨w.heap.size, 1, none⟩ = some (.int .i64 si)) (by kernel_rfl) (by kernel_rfl) ?_
    have hHeld : (fun W : World => W.cell? ⟨w.heap.size, 1, none⟩ = some (.int .i64 si)) w0.drew := q1
    (refine HT.takeL (i := 0) (v := ?_) rfl (by kernel_rfl) (fun _ _ _ h => h) (Or.inl ⟨by rfl, ?_⟩) (by assumption) ?_
     rotate_left
     · (intro w hSw; (try dsimp only at hSw); go_simp; (try with_reducible rfl))
     try simp only [Act.put, List.setIfInBounds_toArray, List.set_cons_zero, List.set_cons_succ])
    (refine HT.takeL (i := 1) (v := ?_) rfl (by kernel_rfl) (fun _ _ _ h => h) (Or.inl ⟨by rfl, ?_⟩) (by assumption) ?_
     rotate_left
     · (intro w hSw; (try dsimp only at hSw); go_simp; (try with_reducible rfl))
     try simp only [Act.put, List.setIfInBounds_toArray, List.set_cons_zero, List.set_cons_succ])
    (refine HT.takeL (i := 2) (v := ?_) rfl (by kernel_rfl) (fun _ _ _ h => h) (Or.inl ⟨by rfl, ?_⟩) (by assumption) ?_
     rotate_left
     · (intro w hSw; (try dsimp only at hSw); go_simp; (try with_reducible rfl))
     try simp only [Act.put, List.setIfInBounds_toArray, List.set_cons_zero, List.set_cons_succ])
    (refine HT.takeL (i := 4) (v := ?_) rfl (by kernel_rfl) (fun _ _ _ h => h) (Or.inl ⟨by rfl, ?_⟩) (by assumption) ?_
     rotate_left
     · (intro w hSw; (try dsimp only at hSw); go_simp; (try with_reducible rfl))
     try simp only [Act.put, List.setIfInBounds_toArray, List.set_cons_zero, List.set_cons_succ])
    (refine HT.takeL (i := 5) (v := ?_) rfl (by kernel_rfl) (fun _ _ _ h => h) (Or.inl ⟨by rfl, ?_⟩) (by assumption) ?_
     rotate_left
     · (intro w hSw; (try dsimp only at hSw); go_simp; (try with_reducible rfl))
     try simp only [Act.put, List.setIfInBounds_toArray, List.set_cons_zero, List.set_cons_succ])
    (refine HT.takeL (i := 6) (v := ?_) rfl (by kernel_rfl) (fun _ _ _ h => h) (Or.inl ⟨by rfl, ?_⟩) (by assumption) ?_
     rotate_left
     · (intro w hSw; (try dsimp only at hSw); go_simp; (try with_reducible rfl))
     try simp only [Act.put, List.setIfInBounds_toArray, List.set_cons_zero, List.set_cons_succ])
    (refine HT.onlyL (i := 3) rfl (by kernel_rfl) (fun K hK => ?_)
     (go_simp; (refine (world_Sync b N X m si w0.drew (h0.p.below hd0) (by omega) hc1).mono ?_; rintro e w1 ⟨rfl, t1⟩))
     refine hK.out _ _ ?_ (fun hHeld => ?_)
     · (exact (t1.cell (by simp; omega) hqX).trans q1)
     clear hK K
     try simp only [Act.put, List.setIfInBounds_toArray, List.set_cons_zero, List.set_cons_succ])
    refine HT.tail (by kernel_rfl) ?_
    simp only [List.drop_succ_cons, List.drop_zero]
    have hA2 := hA.trans (hd0.mono (by omega))
    replace t1 := (show WldTo b X (N + 1) (m.step ⟨4, si, name, data, sA, sn, sc, ⟨fk, fs, fn, fa, fc⟩, keeps⟩) w0.drew w1 by rw [e1'.out]; exact t1.more (Nat.le_succ N) hN)
    have hr1 := hra.out _ _ hA2 t1
    clear hHeld q0 q1
    replace t1 := Lib.hid t1
    go_wp2_with fail
    refine (ref08_Sync c N Y x si w1 hr1 hok hc2).mono ?_
    rintro e w2 ⟨rfl, t2⟩
    have hh := Lib.hid (hfin.out _ _ _ hA2 t1.out (by rw [e2'.out]; exact t2))
    have hzz1 : m = x → ((m.err si fun s => s.sync.2) == (x.err si fun s => s.sync.2)) = true := fun e => by rw [e]; exact hzz.out _
    replace hzz1 := Lib.hid hzz1
    clear t2 hfin hra
    go_wp2_with fail
    go_ret
    exact ⟨_, rfl, hzz1.out, hh.out⟩
  by_cases e5 : kind = 5
  · subst e5
    have e1' : Hid (m.step ⟨5, si, name, data, sA, sn, sc, ⟨fk, fs, fn, fa, fc⟩, keeps⟩ = (m.cut si).1) := rfl
    have e2' : Hid (x.step ⟨5, si, name, data, sA, sn, sc, ⟨fk, fs, fn, fa, fc⟩, keeps⟩ = (x.cut si).1) := rfl
    have hra : ∀ w0 w1, Below w.heap.size w w0 → WldTo b X (N + 1) (m.step ⟨5, si, name, data, sA, sn, sc, ⟨fk, fs, fn, fa, fc⟩, keeps⟩) w0 w1 → RWAt w1 c Y x := fun w0 w1 k1 k2 => h.ref_after k1 k2
    have q0 := x0 0
    have q1 := x0 1
    replace hra := Lib.hid hra
    clear x0 h e0 e1 e2 e3 e4
    go_enter Tryz.func13, Tryz.ntmps13
    go_upto_region 17 with fail
    generalize (w.alloc (.cells #[.int .u8 5, .int .i64 si, .string name, .string data, .slice sA sn sc, .int .u8 fk, .int .i64 fs, .int .i64 fn, .int .i64 fa, .int .i64 fc] 41)) = w0 at hA q0 q1 hz0 h0 ⊢
    simp at q0 q1
    have hd0 : Below w0.heap.size w0 w0.drew := (Below.refl _ _).drew
    refine region_held_tail 7 (fun W : World => W.cell? ⟨w.heap.size, 1, none⟩ = some (.int .i64 si)) (by kernel_rfl) (by kernel_rfl) ?_
    have hHeld : (fun W : World => W.cell? ⟨w.heap.size, 1, none⟩ = some (.int .i64 si)) w0.drew := q1
    (refine HT.takeL (i := 0) (v := ?_) rfl (by kernel_rfl) (fun _ _ _ h => h) (Or.inl ⟨by rfl, ?_⟩) (by assumption) ?_
     rotate_left
     · (intro w hSw; (try dsimp only at hSw); go_simp; (try with_reducible rfl))
     try simp only [Act.put, List.setIfInBounds_toArray, List.set_cons_zero, List.set_cons_succ])
    (refine HT.takeL (i := 1) (v := ?_) rfl (by kernel_rfl) (fun _ _ _ h => h) (Or.inl ⟨by rfl, ?_⟩) (by assumption) ?_
     rotate_left
     · (intro w hSw; (try dsimp only at hSw); go_simp; (try with_reducible rfl))
     try simp only [Act.put, List.setIfInBounds_toArray, List.set_cons_zero, List.set_cons_succ])
    (refine HT.takeL (i := 2) (v := ?_) rfl (by kernel_rfl) (fun _ _ _ h => h) (Or.inl ⟨by rfl, ?_⟩) (by assumption) ?_
     rotate_left
     · (intro w hSw; (try dsimp only at hSw); go_simp; (try with_reducible rfl))
     try simp only [Act.put, List.setIfInBounds_toArray, List.set_cons_zero, List.set_cons_succ])
    (refine HT.takeL (i := 4) (v := ?_) rfl (by kernel_rfl) (fun _ _ _ h => h) (Or.inl ⟨by rfl, ?_⟩) (by assumption) ?_
     rotate_left
     · (intro w hSw; (try dsimp only at hSw); go_simp; (try with_reducible rfl))
     try simp only [Act.put, List.setIfInBounds_toArray, List.set_cons_zero, List.set_cons_succ])
    (refine HT.takeL (i := 5) (v := ?_) rfl (by kernel_rfl) (fun _ _ _ h => h) (Or.inl ⟨by rfl, ?_⟩) (by assumption) ?_
     rotate_left
     · (intro w hSw; (try dsimp only at hSw); go_simp; (try with_reducible rfl))
     try simp only [Act.put, List.setIfInBounds_toArray, List.set_cons_zero, List.set_cons_succ])
    (refine HT.takeL (i := 6) (v := ?_) rfl (by kernel_rfl) (fun _ _ _ h => h) (Or.inl ⟨by rfl, ?_⟩) (by assumption) ?_
     rotate_left
     · (intro w hSw; (try dsimp only at hSw); go_simp; (try with_reducible rfl))
     try simp only [Act.put, List.setIfInBounds_toArray, List.set_cons_zero, List.set_cons_succ])
    (refine HT.onlyL (i := 3) rfl (by kernel_rfl) (fun K hK => ?_)
     (go_simp; (refine (world_Cut b N X m si hib.2 w0.drew (h0.p.below hd0)).mono ?_; rintro e w1 ⟨rfl, t1⟩))
     refine hK.out _ _ ?_ (fun hHeld => ?_)
     · (exact (t1.cell (by simp; omega) hqX).trans q1)
     clear hK K
     try simp only [Act.put, List.setIfInBounds_toArray, List.set_cons_zero, List.set_cons_succ])
    refine HT.tail (by kernel_rfl) ?_
    simp only [List.drop_succ_cons, List.drop_zero]
    have hA2 := hA.trans (hd0.mono (by omega))
    replace t1 := (show WldTo b X (N + 1) (m.step ⟨5, si, name, data, sA, sn, sc, ⟨fk, fs, fn, fa, fc⟩, keeps⟩) w0.drew w1 by rw [e1'.out]; exact t1.more (Nat.le_succ N) hN)
    have hr1 := hra.out _ _ hA2 t1
    clear hHeld q0 q1
    replace t1 := Lib.hid t1
    go_wp2_with fail
    refine (ref08_Cut c Y x si hib.2 w1 hr1).mono ?_
    rintro e w2 ⟨rfl, t2⟩
    have hh := Lib.hid (hfin.out _ _ _ hA2 t1.out (by rw [e2'.out]; exact t2))
    have hzz1 : m = x → ((m.cut si).2 == (x.cut si).2) = true := fun e => by rw [e]; exact hzz.out _
    replace hzz1 := Lib.hid hzz1
    clear t2 hfin hra
    go_wp2_with fail
    go_ret
    exact ⟨_, rfl, hzz1.out, hh.out⟩
  by_cases e6 : kind = 6
  · subst e6
    have e1' : Hid (m.step ⟨6, si, name, data, sA, sn, sc, ⟨fk, fs, fn, fa, fc⟩, keeps⟩ = m.crash (keeps.map Surv.keep)) := rfl
    have e2' : Hid (x.step ⟨6, si, name, data, sA, sn, sc, ⟨fk, fs, fn, fa, fc⟩, keeps⟩ = x.crash (keeps.map Surv.keep)) := rfl
    have hra : ∀ w0 w1, Below w.heap.size w w0 → RWTo c Y (x.step ⟨6, si, name, data, sA, sn, sc, ⟨fk, fs, fn, fa, fc⟩, keeps⟩) w0 w1 → WldAt w1 b X N m := fun w0 w1 k1 k2 => h.prog_after k1 k2
    have q0 := x0 0
    have q4 := x0 4
    have hnm0 := h.nm
    have hnx0 := h.nx
    replace hra := Lib.hid hra
    clear x0 h e0 e1 e2 e3 e4 e5
    go_enter Tryz.func13, Tryz.ntmps13
    go_upto_region 19 with fail
    generalize (w.alloc (.cells #[.int .u8 6, .int .i64 si, .string name, .string data, .slice sA sn sc, .int .u8 fk, .int .i64 fs, .int .i64 fn, .int .i64 fa, .int .i64 fc] 41)) = w0 at hA q0 q4 hz0 h0 ⊢
    simp at q0 q4
    have hbB : Below B w w0 := hA.mono hB
    go_wp2_with fail
    refine (ref08_Crash c N Y x sA sn sc keeps B w0 h0.r hok (hrow.below hbB) (fun y hy => (hkeep y hy).below hbB) (by omega) (fun i hi => hlo i (List.mem_append.2 (.inr hi))) hnx0).mono ?_
    rintro e w1 ⟨rfl, t1⟩
    have y4 := (t1.cell (o := 4) (by omega) hqY).trans q4
    have t1' : RWTo c Y (x.step ⟨6, si, name, data, sA, sn, sc, ⟨fk, fs, fn, fa, fc⟩, keeps⟩) w0 w1 := by rw [e2'.out]; exact t1
    have hr1 := hra.out _ _ hA t1'
    have hb1 : Below B w0 w1 := by
      obtain ⟨_, _, g2, _⟩ := t1
      exact g2.below (by omega) (fun i hi => hlo i (List.mem_append.2 (.inr hi)))
    have hz1 := hb1.size
    replace t1' := Lib.hid t1'
    clear t1 q0 q4
    go_wp2_with fail
    refine (world_Crash b N X m sA sn sc keeps B w1 hr1 ((hrow.below hbB).below hb1) (fun y hy => ((hkeep y hy).below hbB).below hb1) (by omega) (fun i hi => hlo i (List.mem_append.2 (.inl hi))) hnm0).mono ?_
    rintro e w2 ⟨rfl, t2⟩
    have hh := Lib.hid (hfin'.out _ _ _ hA t1'.out (by rw [e1'.out]; exact t2.more (Nat.le_succ N) hN))
    clear t2 hfin hra
    go_wp2_with fail
    go_ret
    exact ⟨true, rfl, fun _ => rfl, hh.out⟩
  by_cases e7 : kind = 7
  · subst e7
    have e1' : Hid (m.step ⟨7, si, name, data, sA, sn, sc, ⟨fk, fs, fn, fa, fc⟩, keeps⟩ = (m.strike ⟨fk, fs, fn, fa, fc⟩).1) := rfl
    have e2' : Hid (x.step ⟨7, si, name, data, sA, sn, sc, ⟨fk, fs, fn, fa, fc⟩, keeps⟩ = (x.strike ⟨fk, fs, fn, fa, fc⟩).1) := rfl
    have hra : ∀ w0 w1, Below w.heap.size w w0 → WldTo b X (N + 1) (m.step ⟨7, si, name, data, sA, sn, sc, ⟨fk, fs, fn, fa, fc⟩, keeps⟩) w0 w1 → RWAt w1 c Y x := fun w0 w1 k1 k2 => h.ref_after k1 k2
    have q0 := x0 0
    have q5 := x0 5
    have q6 := x0 6
    have q7 := x0 7
    have q8 := x0 8
    have q9 := x0 9
    replace hra := Lib.hid hra
    clear x0 h e0 e1 e2 e3 e4 e5 e6
    go_enter Tryz.func13, Tryz.ntmps13
    go_upto_region 22 with fail
    generalize (w.alloc (.cells #[.int .u8 7, .int .i64 si, .string name, .string data, .slice sA sn sc, .int .u8 fk, .int .i64 fs, .int .i64 fn, .int .i64 fa, .int .i64 fc] 41)) = w0 at hA q0 q5 q6 q7 q8 q9 hz0 h0 ⊢
    simp at q0 q5 q6 q7 q8 q9
    have hd0 : Below w0.heap.size w0 w0.drew := (Below.refl _ _).drew
    refine region_held_tail 7 (fun W : World => W.cell? ⟨w.heap.size, 5, none⟩ = some (.int .u8 fk) ∧ W.cell? ⟨w.heap.size, 6, none⟩ = some (.int .i64 fs) ∧ W.cell? ⟨w.heap.size, 7, none⟩ = some (.int .i64 fn) ∧ W.cell? ⟨w.heap.size, 8, none⟩ = some (.int .i64 fa) ∧ W.cell? ⟨w.heap.size, 9, none⟩ = some (.int .i64 fc)) (by kernel_rfl) (by kernel_rfl) ?_
    have hHeld : (fun W : World => W.cell? ⟨w.heap.size, 5, none⟩ = some (.int .u8 fk) ∧ W.cell? ⟨w.heap.size, 6, none⟩ = some (.int .i64 fs) ∧ W.cell? ⟨w.heap.size, 7, none⟩ = some (.int .i64 fn) ∧ W.cell? ⟨w.heap.size, 8, none⟩ = some (.int .i64 fa) ∧ W.cell? ⟨w.heap.size, 9, none⟩ = some (.int .i64 fc)) w0.drew := ⟨q5, q6, q7, q8, q9⟩
    (refine HT.takeL (i := 0) (v := ?_) rfl (by kernel_rfl) (fun _ _ _ h => h) (Or.inl ⟨by rfl, ?_⟩) (by assumption) ?_
     rotate_left
     · (intro w hSw; (try dsimp only at hSw); go_simp; (try with_reducible rfl))
     try simp only [Act.put, List.setIfInBounds_toArray, List.set_cons_zero, List.set_cons_succ])
    (refine HT.takeL (i := 1) (v := ?_) rfl (by kernel_rfl) (fun _ _ _ h => h) (Or.inl ⟨by rfl, ?_⟩) (by assumption) ?_
     rotate_left
     · (intro w hSw; (try dsimp only at hSw); go_simp; (try with_reducible rfl))
     try simp only [Act.put, List.setIfInBounds_toArray, List.set_cons_zero, List.set_cons_succ])
    (refine HT.takeL (i := 2) (v := ?_) rfl (by kernel_rfl) (fun _ _ _ h => h) (Or.inl ⟨by rfl, ?_⟩) (by assumption) ?_
     rotate_left
     · (intro w hSw; (try dsimp only at hSw); go_simp; (try with_reducible rfl))
     try simp only [Act.put, List.setIfInBounds_toArray, List.set_cons_zero, List.set_cons_succ])
    (refine HT.takeL (i := 4) (v := ?_) rfl (by kernel_rfl) (fun _ _ _ h => h) (Or.inl ⟨by rfl, ?_⟩) (by assumption) ?_
     rotate_left
     · (intro w hSw; (try dsimp only at hSw); go_simp; (try with_reducible rfl))
     try simp only [Act.put, List.setIfInBounds_toArray, List.set_cons_zero, List.set_cons_succ])
    (refine HT.takeL (i := 5) (v := ?_) rfl (by kernel_rfl) (fun _ _ _ h => h) (Or.inl ⟨by rfl, ?_⟩) (by assumption) ?_
     rotate_left
     · (intro w hSw; (try dsimp only at hSw); go_simp; (try with_reducible rfl))
     try simp only [Act.put, List.setIfInBounds_toArray, List.set_cons_zero, List.set_cons_succ])
    (refine HT.takeL (i := 6) (v := ?_) rfl (by kernel_rfl) (fun _ _ _ h => h) (Or.inl ⟨by rfl, ?_⟩) (by assumption) ?_
     rotate_left
     · (intro w hSw; (try dsimp only at hSw); go_simp; (try with_reducible rfl))
     try simp only [Act.put, List.setIfInBounds_toArray, List.set_cons_zero, List.set_cons_succ])
    (refine HT.onlyL (i := 3) rfl (by kernel_rfl) (fun K hK => ?_)
     (go_simp; (refine (world_Strike b N X m ⟨fk, fs, fn, fa, fc⟩ hfit hfk w0.drew (h0.p.below hd0) hN).mono ?_; rintro e w1 ⟨rfl, t1⟩))
     refine hK.out _ _ ?_ (fun hHeld => ?_)
     · (exact ⟨(t1.cell (by simp; omega) hqX).trans q5, (t1.cell (by simp; omega) hqX).trans q6, (t1.cell (by simp; omega) hqX).trans q7, (t1.cell (by simp; omega) hqX).trans q8, (t1.cell (by simp; omega) hqX).trans q9⟩)
     clear hK K
     try simp only [Act.put, List.setIfInBounds_toArray, List.set_cons_zero, List.set_cons_succ])
    refine HT.tail (by kernel_rfl) ?_
    simp only [List.drop_succ_cons, List.drop_zero]
    have hA2 := hA.trans (hd0.mono (by omega))
    replace t1 := (show WldTo b X (N + 1) (m.step ⟨7, si, name, data, sA, sn, sc, ⟨fk, fs, fn, fa, fc⟩, keeps⟩) w0.drew w1 by rw [e1'.out]; exact t1)
    have hr1 := hra.out _ _ hA2 t1
    clear hHeld q0 q5 q6 q7 q8 q9
    replace t1 := Lib.hid t1
    go_wp2_with fail
    refine (ref08_Strike c N Y x ⟨fk, fs, fn, fa, fc⟩ hfk w1 hr1 hok).mono ?_
    rintro e w2 ⟨rfl, t2⟩
    have hh := Lib.hid (hfin.out _ _ _ hA2 t1.out (by rw [e2'.out]; exact t2))
    have hzz1 : m = x → ((m.strike ⟨fk, fs, fn, fa, fc⟩).2 == (x.strike ⟨fk, fs, fn, fa, fc⟩).2) = true := fun e => by rw [e]; exact hzz.out _
    replace hzz1 := Lib.hid hzz1
    clear t2 hfin hra
    go_wp2_with fail
    go_ret
    exact ⟨_, rfl, hzz1.out, hh.out⟩
  have e1' : Hid (m.step ⟨kind, si, name, data, sA, sn, sc, ⟨fk, fs, fn, fa, fc⟩, keeps⟩ = m.clear) := by
    unfold Hid Wld.step
    dsimp only
    rw [if_neg e0, if_neg e1, if_neg e2, if_neg e3, if_neg e4, if_neg e5, if_neg e6, if_neg e7]
  have e2' : Hid (x.step ⟨kind, si, name, data, sA, sn, sc, ⟨fk, fs, fn, fa, fc⟩, keeps⟩ = x.clear) := by
    unfold Hid Wld.step
    dsimp only
    rw [if_neg e0, if_neg e1, if_neg e2, if_neg e3, if_neg e4, if_neg e5, if_neg e6, if_neg e7]
  have i0 : (kind == 0) = false := by simpa using e0
  have i1 : (kind == 1) = false := by simpa using e1
  have i2 : (kind == 2) = false := by simpa using e2
  have i3 : (kind == 3) = false := by simpa using e3
  have i4 : (kind == 4) = false := by simpa using e4
  have i5 : (kind == 5) = false := by simpa using e5
  have i6 : (kind == 6) = false := by simpa using e6
  have i7 : (kind == 7) = false := by simpa using e7
  have hra : ∀ w0 w1, Below w.heap.size w w0 → WldTo b X (N + 1) (m.step ⟨kind, si, name, data, sA, sn, sc, ⟨fk, fs, fn, fa, fc⟩, keeps⟩) w0 w1 → RWAt w1 c Y x := fun w0 w1 k1 k2 => h.ref_after k1 k2
  have q0 := x0 0
  have hnm0 := h.nm
  have hnx0 := h.nx
  replace hra := Lib.hid hra
  clear x0 h e0 e1 e2 e3 e4 e5 e6 e7
  go_enter Tryz.func13, Tryz.ntmps13
  go_upto_region 23 with fail
  generalize (w.alloc (.cells #[.int .u8 kind, .int .i64 si, .string name, .string data, .slice sA sn sc, .int .u8 fk, .int .i64 fs, .int .i64 fn, .int .i64 fa, .int .i64 fc] 41)) = w0 at hA q0 hz0 h0 ⊢
  simp at q0
  go_wp2_with fail
  refine (world_Clear b N X m w0 h0.p hnm0).mono ?_
  rintro e w1 ⟨rfl, t1⟩
  have t1' : WldTo b X (N + 1) (m.step ⟨kind, si, name, data, sA, sn, sc, ⟨fk, fs, fn, fa, fc⟩, keeps⟩) w0 w1 := by rw [e1'.out]; exact t1.more (Nat.le_succ N) hN
  have hr1 := hra.out _ _ hA t1'
  replace t1' := Lib.hid t1'
  clear t1 q0
  go_wp2_with fail
  refine (ref08_Clear c Y x w1 hr1 hnx0).mono ?_
  rintro e w2 ⟨rfl, t2⟩
  have hh := Lib.hid (hfin.out _ _ _ hA t1'.out (by rw [e2'.out]; exact t2))
  clear t2 hfin hra
  go_wp2_with fail
  go_ret
  exact ⟨true, rfl, fun _ => rfl, hh.out⟩
end Go.Proofs.YtfkonpmnclknaaaGreat
