/-
  The walk of WorldNames.
-/
import Derived.Test.YtfkonpmnclknaaaNilW
namespace Go.Proofs.Ytfkonpmnclknaaa
open Go.RowKit Go.Maps
attribute [local go_sem ↓] Go.wp_at_zero Go.wp_at_succ

/-- A world behind a base, apart from some blocks that stay as they are. -/
def Lone (B : Nat) (w wr : World) (b N : Nat) (m : Wld) (G : List (Nat × Obj)) : Prop :=
  Below B w wr ∧ ∃ X, WldAt wr b X N m ∧ (∀ i ∈ X, B ≤ i) ∧ ∀ p ∈ G, wr.heap[p.1]? = some p.2 ∧ p.1 ∉ X
section
variable {B N M b : Nat} {w wr w' w1 : World} {m m' : Wld} {G : List (Nat × Obj)}
theorem heapLt {w : World} {q : Nat} {o : Obj} (h : w.heap[q]? = some o) : q < w.heap.size := (Array.getElem?_eq_some_iff.1 h).1
theorem Lone.bel (h : Lone B w wr b N m G) : Below B w wr := h.1
theorem Lone.row {q : Nat} {o : Obj} (h : Lone B w wr b N m G) (hq : (q, o) ∈ G) : wr.heap[q]? = some o := by
  obtain ⟨h0, X, h1, h2, h3⟩ := h
  exact (h3 (q, o) hq).1
theorem Lone.below (h : Lone B w wr b N m G) (hB : B ≤ w.heap.size) (hb : Below wr.heap.size wr w') : Lone B w w' b N m G := by
  obtain ⟨h0, X, h1, h2, h3⟩ := h
  exact ⟨h0.trans (hb.mono (Nat.le_trans hB h0.size)), X, h1.below hb, h2, fun p hp => ⟨(hb.block _ (heapLt (h3 p hp).1)).trans (h3 p hp).1, (h3 p hp).2⟩⟩
theorem Lone.to (h : Lone B w wr b N m G) (hB : B ≤ w.heap.size) : ∃ X, WldAt wr b X N m ∧ ∀ {w'}, WldTo b X M m' wr w' → Lone B w w' b M m' G := by
  obtain ⟨h0, X, h1, h2, h3⟩ := h
  refine ⟨X, h1, fun {w'} ht => ?_⟩
  obtain ⟨X', k1, k2, k3⟩ := ht
  have hz := h0.size
  refine ⟨h0.trans (k2.below (Nat.le_trans hB h0.size) h2), X', k1, fun i hi => ?_, fun p hp => ⟨(k2.block _ (heapLt (h3 p hp).1) (h3 p hp).2).trans (h3 p hp).1, fun hi => ?_⟩⟩
  · rcases k3 i hi with e | e
    · exact h2 i e
    · omega
  · rcases k3 _ hi with e | e
    · exact (h3 p hp).2 e
    · have := heapLt (h3 p hp).1
      omega
theorem Lone.new (n : Nat) (h1 : 1 ≤ n) (h12 : n ≤ 12) (hb : Below B w wr) (hB : B ≤ w.heap.size) :
    Calls Try.prog 28 #[.int .i64 n] wr fun e w' => ∃ b, e = .returned (.tuple #[.pointer (some ⟨b, 0, none⟩), .int .i64 0]) ∧ Lone B w w' b 0 (Wld.new n) [] := by
  refine (world_New n h1 h12 wr).mono ?_
  rintro e w' ⟨rfl, X, k1, k2, k3⟩
  have hz := hb.size
  exact ⟨_, rfl, hb.trans (k3.mono (Nat.le_trans hB hb.size)), X, k1, fun i hi => by have := k2 i hi; omega, by simp⟩
theorem Lone.put {i z : Int} {n d : ByteArray} (h : Lone B w wr b N m G) (hB : B ≤ w.heap.size) (hr : (m.err i fun s => (s.put (n, d)).2) = z) (hg : (m.go i fun s => (s.put (n, d)).1) = m') (hn : n.size ≤ maxLen) (hd : d.size ≤ maxLen) (hN : N + 1 ≤ 1000000) (hc : m.calls + 1 ≤ 1000000) :
    Calls Try.prog 31 #[.pointer (some ⟨b, 0, none⟩), .int .i64 i, .agg #[.string n, .string d]] wr fun e w' => e = .returned (.int .i64 z) ∧ Lone B w w' b (N + 1) m' G := by
  obtain ⟨X, k1, kt⟩ := h.to hB (M := N + 1) (m' := m')
  have hp := world_Put b N X m i (n, d) hn hd wr k1 hN hc
  rw [hr, hg] at hp
  exact hp.mono fun e w' ⟨j1, j2⟩ => ⟨j1, kt j2⟩
theorem Lone.cut {n z : Int} (h : Lone B w wr b N m G) (hB : B ≤ w.heap.size) (hr : m.cut n = (m', z)) (hn : n ≤ 9223372036854775807) :
    Calls Try.prog 32 #[.pointer (some ⟨b, 0, none⟩), .int .i64 n] wr fun e w' => e = .returned (.int .i64 z) ∧ Lone B w w' b N m' G := by
  obtain ⟨X, k1, kt⟩ := h.to hB (M := N) (m' := m')
  have hp := world_Cut b N X m n hn wr k1
  rw [hr] at hp
  exact hp.mono fun e w' ⟨j1, j2⟩ => ⟨j1, kt j2⟩
theorem Lone.strike {f : Flt} {z : Int} (h : Lone B w wr b N m G) (hB : B ≤ w.heap.size) (hr : m.strike f = (m', z)) (hf : f.fit) (hk : 0 ≤ f.kind ∧ f.kind ≤ 255) (hN : N + 1 ≤ 1000000) :
    Calls Try.prog 33 #[.pointer (some ⟨b, 0, none⟩), .agg #[.int .u8 f.kind, .int .i64 f.store, .int .i64 f.n, .int .i64 f.at_, .int .i64 f.c]] wr fun e w' => e = .returned (.int .i64 z) ∧ Lone B w w' b (N + 1) m' G := by
  obtain ⟨X, k1, kt⟩ := h.to hB (M := N + 1) (m' := m')
  have hp := world_Strike b N X m f hf hk wr k1 hN
  rw [hr] at hp
  exact hp.mono fun e w' ⟨j1, j2⟩ => ⟨j1, kt j2⟩
theorem Lone.clear_ (h : Lone B w wr b N m G) (hB : B ≤ w.heap.size) (hr : m.clear = m') (hn : 0 < m.stores.length) :
    Calls Try.prog 27 #[.pointer (some ⟨b, 0, none⟩)] wr fun e w' => e = .returned (.tuple #[]) ∧ Lone B w w' b N m' G := by
  obtain ⟨X, k1, kt⟩ := h.to hB (M := N) (m' := m')
  have hp := world_Clear b N X m wr k1 hn
  rw [hr] at hp
  exact hp.mono fun e w' ⟨j1, j2⟩ => ⟨j1, kt j2⟩
theorem Lone.calls {z : Nat} (h : Lone B w wr b N m G) (hr : m.calls = z) :
    Calls Try.prog 39 #[.pointer (some ⟨b, 0, none⟩)] wr fun e w' => e = .returned (.int .i64 z) ∧ w' = wr := by
  obtain ⟨h0, X, h1, h2, h3⟩ := h
  rw [← hr]
  exact world_Calls b N X m wr h1
theorem Lone.up {i : Int} {v : Bool} (h : Lone B w wr b N m G) (hr : m.up i = v) :
    Calls Try.prog 41 #[.pointer (some ⟨b, 0, none⟩), .int .i64 i] wr fun e w' => e = .returned (.bool v) ∧ w' = wr := by
  obtain ⟨h0, X, h1, h2, h3⟩ := h
  rw [← hr]
  exact world_Up b N X m i wr h1
theorem Lone.susp {l : List Int} {n : Nat} (h : Lone B w wr b N m G) (hB : B ≤ w.heap.size) (hr : m.suspects = l) (hn : l.length = n) (h0 : 0 < n) :
    Calls Try.prog 34 #[.pointer (some ⟨b, 0, none⟩)] wr fun e w' => ∃ g c cur, e = .returned (.slice (some ⟨g, 0, none⟩) n c) ∧ Lone B w w' b N m ((g, .cells cur 3) :: G) ∧ ∀ (i : Nat) (x : Int), l[i]? = some x → cur[i]? = some (Value.int .i64 x) := by
  have hb' := fun w' => h.below (w' := w') hB
  obtain ⟨k0, X, k1, k2, k3⟩ := h
  refine (world_Suspects b N X m wr k1).mono ?_
  rintro e w' ⟨v, rfl, ho, hb⟩
  rw [hr] at ho
  rcases ho.2 with ⟨rfl, e0⟩ | ⟨g, cap, cur, rfl, hg, hh, hnc, hc, hcs, htk⟩
  · omega
  · rw [hn]
    refine ⟨g, cap, cur, rfl, ?_, fun i x hx => ?_⟩
    · obtain ⟨j0, X', j1, j2, j3⟩ := hb' w' hb
      refine ⟨k0.trans (hb.mono (Nat.le_trans hB k0.size)), X, k1.below hb, k2, fun p hp => ?_⟩
      rcases List.mem_cons.1 hp with rfl | hp
      · exact ⟨hh, fun hi => by have := k1.lt _ hi; dsimp only at this; omega⟩
      · exact ⟨(hb.block _ (heapLt (k3 p hp).1)).trans (k3 p hp).1, (k3 p hp).2⟩
    · have r1 := Owns.row (k := 1) (fun x => intE.len x) ho
      have hi : i < l.length := (List.getElem?_eq_some_iff.1 hx).1
      obtain ⟨a, oa, q, e1, _, hq, c1⟩ := RowAt.int r1 hi
      cases e1
      rw [hx] at hq
      cases hq
      rw [cell_of_row _ _ _ _ _ _ hh, Nat.zero_add] at c1
      exact c1
end
def wn2 : Wld := ((Wld.new 12).strike ⟨5, 3, 0, 0, 0⟩).1
def wn3 : Wld := (wn2.strike ⟨4, 0, 0, 0, 0⟩).1
def wn4 : Wld := (wn3.strike ⟨1, 2, 0, 0, 0⟩).1
def wn5 : Wld := wn4.clear
theorem wn_put12 : ((Wld.new 12).err 12 fun s => (s.put (⟨#[97]⟩, ⟨#[]⟩)).2) = 1 ∧ ((Wld.new 12).go 12 fun s => (s.put (⟨#[97]⟩, ⟨#[]⟩)).1) = Wld.new 12 := ⟨by kernel_rfl, by kernel_rfl⟩
theorem wn_putm : ((Wld.new 12).err (-1) fun s => (s.put (⟨#[97]⟩, ⟨#[]⟩)).2) = 1 ∧ ((Wld.new 12).go (-1) fun s => (s.put (⟨#[97]⟩, ⟨#[]⟩)).1) = Wld.new 12 := ⟨by kernel_rfl, by kernel_rfl⟩
theorem wn_cut : (Wld.new 12).cut (-1) = (Wld.new 12, 1) := by kernel_rfl
theorem wn1_r : (Wld.new 12).strike ⟨1, 12, 0, 0, 0⟩ = (Wld.new 12, 1) := by kernel_rfl
theorem wn2_r : (Wld.new 12).strike ⟨5, 3, 0, 0, 0⟩ = (wn2, 0) := by kernel_rfl
theorem wn3_r : wn2.strike ⟨4, 0, 0, 0, 0⟩ = (wn3, 0) := by kernel_rfl
theorem wn4_r : wn3.strike ⟨1, 2, 0, 0, 0⟩ = (wn4, 0) := by kernel_rfl
theorem wn4_s : wn4.suspects = [0, 2] := by kernel_rfl
theorem wn5_s : wn5.suspects = [0] := by kernel_rfl
theorem wn5_c : wn5.calls = 0 := by kernel_rfl
theorem wn5_u0 : wn5.up 0 = false := by kernel_rfl
theorem wn5_u1 : wn5.up 1 = true := by kernel_rfl

set_option maxHeartbeats 16000000 in
set_option maxRecDepth 100000 in
theorem worldNames_walk (w : World) : Calls Try.prog 6 #[] w fun e w' => e = .returned (.bool true) ∧ Below w.heap.size w w' := by
  go_enter Try.func6, Try.ntmps6
  have hS : Below w.heap.size w w := Below.refl _ _
  go_wp2_with fail
  (refine (nilw_Clear _).mono ?_
   rintro e wx ⟨rfl, hb⟩
   have hT := hS.trans (hb.mono hS.size)
   clear hS hb
   have hS := hT
   clear hT
   go_wp2_with fail)
  (refine (world_New_bad 0 (by decide) _).mono ?_
   rintro e wz ⟨rfl, hw⟩
   obtain rfl := hw.symm
   clear hw
   go_wp2_with fail)
  (refine (world_New_bad 13 (by decide) _).mono ?_
   rintro e wz ⟨rfl, hw⟩
   obtain rfl := hw.symm
   clear hw
   go_wp2_with fail)
  (refine (nilw_Get 0 _ _).mono ?_
   rintro e wx ⟨rfl, hb⟩
   have hT := hS.trans (hb.mono hS.size)
   clear hS hb
   have hS := hT
   clear hT
   go_wp2_with fail)
  (refine (nilw_List 0 _).mono ?_
   rintro e wx ⟨rfl, hb⟩
   have hT := hS.trans (hb.mono hS.size)
   clear hS hb
   have hS := hT
   clear hT
   go_wp2_with fail)
  refine (Lone.new 12 (by decide) (by decide) hS (Nat.le_refl _)).mono ?_
  rintro e wx ⟨b, rfl, hT⟩
  clear hS
  have hS := hT
  clear hT
  go_wp2_with fail
  (refine (hS.put (Nat.le_refl _) wn_put12.1 wn_put12.2 (by decide) (by decide) (by decide) (by decide)).mono ?_
   rintro e wx ⟨rfl, hT⟩
   clear hS
   have hS := hT
   clear hT
   go_wp2_with fail)
  (refine (hS.put (Nat.le_refl _) wn_putm.1 wn_putm.2 (by decide) (by decide) (by decide) (by decide)).mono ?_
   rintro e wx ⟨rfl, hT⟩
   clear hS
   have hS := hT
   clear hT
   go_wp2_with fail)
  (refine (hS.cut (Nat.le_refl _) wn_cut (by decide)).mono ?_
   rintro e wx ⟨rfl, hT⟩
   clear hS
   have hS := hT
   clear hT
   go_wp2_with fail)
  (refine (hS.strike (f := ⟨1, 12, 0, 0, 0⟩) (Nat.le_refl _) wn1_r ⟨by decide, by decide, by decide⟩ (by decide) (by decide)).mono ?_
   rintro e wx ⟨rfl, hT⟩
   clear hS
   have hS := hT
   clear hT
   go_wp2_with fail)
  (refine (hS.strike (f := ⟨5, 3, 0, 0, 0⟩) (Nat.le_refl _) wn2_r ⟨by decide, by decide, by decide⟩ (by decide) (by decide)).mono ?_
   rintro e wx ⟨rfl, hT⟩
   clear hS
   have hS := hT
   clear hT
   go_wp2_with fail)
  (refine (hS.strike (f := ⟨4, 0, 0, 0, 0⟩) (Nat.le_refl _) wn3_r ⟨by decide, by decide, by decide⟩ (by decide) (by decide)).mono ?_
   rintro e wx ⟨rfl, hT⟩
   clear hS
   have hS := hT
   clear hT
   go_wp2_with fail)
  (refine (hS.strike (f := ⟨1, 2, 0, 0, 0⟩) (Nat.le_refl _) wn4_r ⟨by decide, by decide, by decide⟩ (by decide) (by decide)).mono ?_
   rintro e wx ⟨rfl, hT⟩
   clear hS
   have hS := hT
   clear hT
   go_wp2_with fail)
  refine (hS.susp (Nat.le_refl _) wn4_s (n := 2) rfl (by decide)).mono ?_
  rintro e wx ⟨g1, k1, cur1, rfl, hT, hc1⟩
  clear hS
  have hS := hT
  have s0 := hc1 0 _ rfl
  have s1 := hc1 1 _ rfl
  clear hT hc1
  replace s0 := Lib.hid s0
  replace s1 := Lib.hid s1
  go_wp2_with fail
  (refine (hS.clear_ (Nat.le_refl _) (m' := wn5) rfl (by decide)).mono ?_
   rintro e wx ⟨rfl, hT⟩
   clear hS
   have hS := hT
   clear hT
   go_wp2_with fail)
  refine (hS.susp (Nat.le_refl _) wn5_s (n := 1) rfl (by decide)).mono ?_
  rintro e wx ⟨g2, k2, cur2, rfl, hT, hc1⟩
  clear hS
  have hS := hT
  have s2 := hc1 0 _ rfl
  clear hT hc1
  replace s2 := Lib.hid s2
  go_wp2_with fail
  (refine (nilw_Put 0 _ _ _).mono ?_
   rintro e wx ⟨rfl, hb⟩
   have hT := hS.below (Nat.le_refl _) hb
   clear hS hb
   have hS := hT
   clear hT
   go_wp2_with fail)
  (refine (nilw_Del 0 _ _).mono ?_
   rintro e wx ⟨rfl, hb⟩
   have hT := hS.below (Nat.le_refl _) hb
   clear hS hb
   have hS := hT
   clear hT
   go_wp2_with fail)
  (refine (nilw_Sync 0 _).mono ?_
   rintro e wx ⟨rfl, hb⟩
   have hT := hS.below (Nat.le_refl _) hb
   clear hS hb
   have hS := hT
   clear hT
   go_wp2_with fail)
  (refine (nilw_Cut 0 _).mono ?_
   rintro e wx ⟨rfl, hb⟩
   have hT := hS.below (Nat.le_refl _) hb
   clear hS hb
   have hS := hT
   clear hT
   go_wp2_with fail)
  (refine (nilw_Crash none 0 0 _).mono ?_
   rintro e wx ⟨rfl, hb⟩
   have hT := hS.below (Nat.le_refl _) hb
   clear hS hb
   have hS := hT
   clear hT
   go_wp2_with fail)
  (refine (nilw_Strike ⟨0, 0, 0, 0, 0⟩ _).mono ?_
   rintro e wx ⟨rfl, hb⟩
   have hT := hS.below (Nat.le_refl _) hb
   clear hS hb
   have hS := hT
   clear hT
   go_wp2_with fail)
  (refine (nilw_N _).mono ?_
   rintro e wx ⟨rfl, hb⟩
   have hT := hS.below (Nat.le_refl _) hb
   clear hS hb
   have hS := hT
   clear hT
   go_wp2_with fail)
  (refine (nilw_Calls _).mono ?_
   rintro e wx ⟨rfl, hb⟩
   have hT := hS.below (Nat.le_refl _) hb
   clear hS hb
   have hS := hT
   clear hT
   go_wp2_with fail)
  (refine (nilw_Dark _).mono ?_
   rintro e wx ⟨rfl, hb⟩
   have hT := hS.below (Nat.le_refl _) hb
   clear hS hb
   have hS := hT
   clear hT
   go_wp2_with fail)
  (refine (nilw_Suspects _).mono ?_
   rintro e wx ⟨rfl, hb⟩
   have hT := hS.below (Nat.le_refl _) hb
   clear hS hb
   have hS := hT
   clear hT
   go_wp2_with fail)
  (refine (nilw_Up 0 _).mono ?_
   rintro e wx ⟨rfl, hb⟩
   have hT := hS.below (Nat.le_refl _) hb
   clear hS hb
   have hS := hT
   clear hT
   go_wp2_with fail)
  (refine (nilw_Objects 0 _).mono ?_
   rintro e wx ⟨rfl, hb⟩
   have hT := hS.below (Nat.le_refl _) hb
   clear hS hb
   have hS := hT
   clear hT
   go_wp2_with fail)
  (refine (nilw_Copy _).mono ?_
   rintro e wx ⟨rfl, hb⟩
   have hT := hS.below (Nat.le_refl _) hb
   clear hS hb
   have hS := hT
   clear hT
   go_wp2_with fail)
  have q1 := (cell_of_row wx g1 0 _ _ _ (hS.row (q := g1) (o := .cells cur1 3) (by simp))).trans s0.out
  have q2 := (cell_of_row wx g1 1 _ _ _ (hS.row (q := g1) (o := .cells cur1 3) (by simp))).trans s1.out
  have q3 := (cell_of_row wx g2 0 _ _ _ (hS.row (q := g2) (o := .cells cur2 3) (by simp))).trans s2.out
  (refine (hS.calls wn5_c).mono ?_
   rintro e wz ⟨rfl, hw⟩
   obtain rfl := hw.symm
   clear hw
   go_wp2_with fail)
  (refine (hS.up (i := 0) wn5_u0).mono ?_
   rintro e wz ⟨rfl, hw⟩
   obtain rfl := hw.symm
   clear hw
   go_wp2_with fail)
  (refine (hS.up (i := 1) wn5_u1).mono ?_
   rintro e wz ⟨rfl, hw⟩
   obtain rfl := hw.symm
   clear hw
   go_wp2_with fail)
  refine (law08_awake _).mono ?_
  rintro e wy ⟨rfl, hb⟩
  have hT := hS.below (Nat.le_refl _) hb
  clear hS hb q1 q2 q3
  go_wp2_with fail
  go_ret
  exact ⟨rfl, hT.bel⟩
end Go.Proofs.Ytfkonpmnclknaaa
