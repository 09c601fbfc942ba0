/-
  The walk of RootNames.
-/
import Derived.Test.YtbfephekkfieaaaRnL
import Derived.Test.YtbfephekkfieaaaKrip
namespace Go.Proofs.Ytbfephekkfieaaa
open Go.RowKit
attribute [local go_sem ↓] Go.wp_at_zero Go.wp_at_succ

theorem rowHeap {α : Type} {k : Nat} {enc : α → List Value} (hk : ∀ x, (enc x).length = k) {w : World} {q : Nat} {T : TypeId} {l : List α} (h : w.heap[q]? = some (.cells (l.flatMap enc).toArray T)) (hl : l.length ≤ 9223372036854775807) :
    RowAt k enc w w.heap.size (some ⟨q, 0, none⟩) l.length l := by
  have hq : q < w.heap.size := (Array.getElem?_eq_some_iff.1 h).1
  refine ⟨rfl, hl, fun _ => ⟨_, _, rfl, hq, fun i x hx j v hv => ?_⟩⟩
  rw [cell_of_row _ _ _ _ T (0, 0) h]
  have := flat_at hk l i x hx j v hv
  simpa [Nat.add_assoc] using this

/-- Behind a base: some blocks that hold what is told of them. -/
structure Nb (w wr : World) (l : List (Nat × Obj)) : Prop where
  bel : Below w.heap.size w wr
  at_ : ∀ p ∈ l, wr.heap[p.1]? = some p.2 ∧ w.heap.size ≤ p.1
section
variable {w wr w' : World} {l : List (Nat × Obj)} {q : Nat} {o : Obj} {cs : Array Value} {T : TypeId}
theorem Nb.lt (h : Nb w wr l) {p : Nat × Obj} (hp : p ∈ l) : p.1 < wr.heap.size := (Array.getElem?_eq_some_iff.1 (h.at_ p hp).1).1
theorem Nb.below (h : Nb w wr l) (hb : Below wr.heap.size wr w') : Nb w w' l := ⟨h.bel.trans (hb.mono h.bel.size), fun p hp => ⟨(hb.block _ (h.lt hp)).trans (h.at_ p hp).1, (h.at_ p hp).2⟩⟩
theorem Nb.start (h : Below w.heap.size w wr) : Nb w wr [] := ⟨h, by simp⟩
theorem Nb.alloc (h : Nb w wr l) (o : Obj) : Nb w (wr.alloc o) ((wr.heap.size, o) :: l) := by
  have hq := h.below ((Below.refl _ wr).alloc (Nat.le_refl _) o)
  refine ⟨hq.bel, fun p hp => ?_⟩
  rcases List.mem_cons.1 hp with rfl | hp
  · exact ⟨heap_alloc_new _ _, h.bel.size⟩
  · exact hq.at_ p hp
theorem Nb.set (h : Nb w wr ((q, .cells cs T) :: l)) (hne : ∀ p ∈ l, p.1 ≠ q) (k : Nat) (u : Value) : Nb w (wr.setCell ⟨q, k, none⟩ u) ((q, .cells (cs.setIfInBounds k u) T) :: l) := by
  have h0 := h.at_ (q, .cells cs T) (by simp)
  refine ⟨h.bel.setCell (p := ⟨q, k, none⟩) h0.2 _, fun p hp => ?_⟩
  rcases List.mem_cons.1 hp with rfl | hp
  · exact ⟨heap_setCell h0.1 u, h0.2⟩
  · exact ⟨(Go.Deep.blk_setCell_other _ _ _ _ (hne p hp)).trans (h.at_ p (List.mem_cons_of_mem _ hp)).1, (h.at_ p (List.mem_cons_of_mem _ hp)).2⟩
theorem Nb.stored {u : World} {O R : Obj} {r : Nat} (h : Nb w wr ((q, O) :: l)) (hlt : ∀ p ∈ l, p.1 < q) (hb : Below q wr u) (hv : u.heap[q]? = some (.cells cs T)) (hx : u.heap[r]? = some R) (hqr : q < r) (k : Nat) (v : Value) :
    Nb w (u.setCell ⟨q, k, none⟩ v) ((q, .cells (cs.setIfInBounds k v) T) :: (r, R) :: l) := by
  have h0 := h.at_ (q, O) (by simp)
  refine ⟨h.bel.trans ((hb.setCell (p := ⟨q, k, none⟩) (Nat.le_refl _) v).mono h0.2), fun p hp => ?_⟩
  rcases List.mem_cons.1 hp with rfl | hp
  · exact ⟨heap_setCell hv v, h0.2⟩
  rcases List.mem_cons.1 hp with rfl | hp
  · exact ⟨(Go.Deep.blk_setCell_other _ _ _ _ (by show r ≠ q; omega)).trans hx, by have := h0.2; dsimp only at this ⊢; omega⟩
  · have h1 := h.at_ p (List.mem_cons_of_mem _ hp)
    have h2 := hlt p hp
    exact ⟨(Go.Deep.blk_setCell_other _ _ _ _ (by show p.1 ≠ q; omega)).trans ((hb.block _ h2).trans h1.1), h1.2⟩
theorem Nb.swap {x y : Nat × Obj} (h : Nb w wr (x :: y :: l)) : Nb w wr (y :: x :: l) := ⟨h.bel, fun p hp => h.at_ p (by simp at hp ⊢; rcases hp with e | e | e <;> simp [e])⟩
theorem Nb.mem (h : Nb w wr l) {q : Nat} {o : Obj} (hm : (q, o) ∈ l) : wr.heap[q]? = some o := (h.at_ (q, o) hm).1
theorem Nb.head (h : Nb w wr ((q, o) :: l)) : wr.heap[q]? = some o := (h.at_ (q, o) (by simp)).1
end

abbrev rnO1 : Obj := .cells (rnSn.flatMap Snap.cells).toArray 33
abbrev rnO2 : Obj := .cells (rnCs.flatMap strCell).toArray 9
abbrev rnO3 : Obj := .cells (rnPs.flatMap Place.cells).toArray 35
abbrev rnV (g1 g2 g3 : Nat) : Rws := ⟨some ⟨g1, 0, none⟩, 2, 2, some ⟨g2, 0, none⟩, 2, 2, some ⟨g3, 0, none⟩, 2, 2⟩
abbrev rnBox (g1 g2 g3 : Nat) : Obj := .cells #[.int .i64 2, .int .i64 3, .int .i64 3, .slice (some ⟨g1, 0, none⟩) 2 2, .slice (some ⟨g2, 0, none⟩) 2 2, .slice (some ⟨g3, 0, none⟩) 2 2] 29
theorem Nb.st {w wr : World} {l : List (Nat × Obj)} {g1 g2 g3 : Nat} (h : Nb w wr l) (m1 : (g1, rnO1) ∈ l) (m2 : (g2, rnO2) ∈ l) (m3 : (g3, rnO3) ∈ l) (k n x : Int) : StAt wr wr.heap.size (rnV g1 g2 g3) ⟨k, n, x, rnSn, rnCs, rnPs⟩ :=
  ⟨rowHeap (k := 3) (enc := Snap.cells) (l := rnSn) (fun _ => rfl) (h.mem m1) (by decide), rowHeap (k := 1) (enc := strCell) (l := rnCs) (fun _ => rfl) (h.mem m2) (by decide), rowHeap (k := 3) (enc := Place.cells) (l := rnPs) (fun _ => rfl) (h.mem m3) (by decide), by intro p hp; simp [rnPs] at hp; rcases hp with rfl | rfl <;> (unfold PlaceOk; decide)⟩

theorem box_cells {w : World} {q : Nat} {v0 v1 v2 v3 v4 v5 : Value} {T : TypeId} (h : w.heap[q]? = some (.cells #[v0, v1, v2, v3, v4, v5] T)) : q < w.heap.size ∧ w.cell? ⟨q, 0, none⟩ = some v0 ∧ w.cell? ⟨q, 1, none⟩ = some v1 ∧ w.cell? ⟨q, 2, none⟩ = some v2 ∧ w.cell? ⟨q, 3, none⟩ = some v3 ∧ w.cell? ⟨q, 4, none⟩ = some v4 ∧ w.cell? ⟨q, 5, none⟩ = some v5 ∧ ∀ o, w.frozen? ⟨q, o, none⟩ = false :=
  ⟨(Array.getElem?_eq_some_iff.1 h).1, cell_of_row w q 0 _ _ _ h, cell_of_row w q 1 _ _ _ h, cell_of_row w q 2 _ _ _ h, cell_of_row w q 3 _ _ _ h, cell_of_row w q 4 _ _ _ h, cell_of_row w q 5 _ _ _ h, fun o => by unfold World.frozen?; simp [h]⟩

abbrev rnOS : Obj := .cells (([⟨2, 0, letterRoot 113⟩, ⟨1, 1099511627776, letterRoot 114⟩] : List Snap).flatMap Snap.cells).toArray 33
abbrev rnOH : Obj := .cells (([lB, lA] : List ByteArray).flatMap strCell).toArray 9
theorem rn_psok : ∀ p ∈ rnPs, PlaceOk p := by intro p hp; simp [rnPs] at hp; rcases hp with rfl | rfl <;> (unfold PlaceOk; decide)
theorem rnZ_len : (stB rnZ).length ≤ 100000 := by decide +kernel

theorem Owns.nil_len {α : Type} {k : Nat} {enc : α → List Value} {T : TypeId} {w : World} {base n c : Nat} {A : Option Addr} (h : Owns k enc T w base (.slice A n c) []) : n = 0 := by
  obtain ⟨A', c', e⟩ := Owns.form h
  simp only [Value.slice.injEq] at e
  exact e.2.1

theorem rn_row {w : World} {q : Nat} {S : ByteArray} (h : w.heap[q]? = some (.cells #[.string (⟨#[]⟩), .string (⟨#[115, 116, 97, 49]⟩), .string (S ++ ⟨#[120]⟩), .string (S.extract 0 244), .string (⟨#[115, 116, 97, 50]⟩ ++ S.extract 4 245), .string (S.extract 0 4 ++ ⟨#[4]⟩ ++ S.extract 5 245), .string (S.extract 0 6 ++ ⟨#[128, 0, 0, 1]⟩ ++ S.extract 10 245), .string (S.extract 0 10 ++ ⟨#[3]⟩ ++ S.extract 11 245), .string (S.extract 0 10 ++ ⟨#[255]⟩ ++ S.extract 11 245), .string (S.extract 0 15 ++ ⟨#[255]⟩ ++ S.extract 16 245), .string (S.extract 0 99 ++ ⟨#[255, 255]⟩ ++ S.extract 101 245), .string (⟨#[115, 116, 97, 49, 2, 3, 0, 0, 0, 1, 0, 0]⟩)] 9)) : RowAt 1 strCell w w.heap.size (some ⟨q, 0, none⟩) 12 (rnBadS S) := by
  have e : (.cells #[.string (⟨#[]⟩), .string (⟨#[115, 116, 97, 49]⟩), .string (S ++ ⟨#[120]⟩), .string (S.extract 0 244), .string (⟨#[115, 116, 97, 50]⟩ ++ S.extract 4 245), .string (S.extract 0 4 ++ ⟨#[4]⟩ ++ S.extract 5 245), .string (S.extract 0 6 ++ ⟨#[128, 0, 0, 1]⟩ ++ S.extract 10 245), .string (S.extract 0 10 ++ ⟨#[3]⟩ ++ S.extract 11 245), .string (S.extract 0 10 ++ ⟨#[255]⟩ ++ S.extract 11 245), .string (S.extract 0 15 ++ ⟨#[255]⟩ ++ S.extract 16 245), .string (S.extract 0 99 ++ ⟨#[255, 255]⟩ ++ S.extract 101 245), .string (⟨#[115, 116, 97, 49, 2, 3, 0, 0, 0, 1, 0, 0]⟩)] 9 : Obj) = .cells ((rnBadS S).flatMap strCell).toArray 9 := by
    unfold rnBadS
    simp only [List.flatMap_cons, List.flatMap_nil, strCell, List.cons_append, List.nil_append, List.append_nil]
  rw [e] at h
  exact rowHeap (k := 1) (enc := strCell) (l := rnBadS S) (fun _ => rfl) h (by simp [rnBadS])
set_option maxHeartbeats 32000000 in
set_option maxRecDepth 100000 in
theorem rootNames_walk (w : World) : Calls Try.prog 3 #[] w fun e w' => e = .returned (.bool true) ∧ Below w.heap.size w w' := by
  go_enter Try.func3, Try.ntmps3
  go_wp2_with fail
  refine (law23_works w).mono ?_
  rintro e w1 ⟨rfl, b1⟩
  go_wp2_with fail
  refine (law23_bare 3 _).mono ?_
  rintro e w2 ⟨rfl, b2⟩
  have hS := (Nb.start (b1.trans (b2.mono b1.size))).alloc (.cells #[.int .i64 2, .int .i64 3, .int .i64 3, .slice none 0 0, .slice none 0 0, .slice none 0 0] 29)
  clear b1 b2
  go_wp2_with fail
  generalize w2.heap.size = qF at hS ⊢
  ((refine (law23_d 114 _).mono ?_
    rintro e wx ⟨rfl, hb⟩
    have hT := hS.below hb
    clear hS hb
    have hS := hT
    clear hT)
   go_wp2_with fail)
  (refine (law23_d 113 _).mono ?_
   rintro e wx ⟨rfl, hb⟩
   have hT := hS.below hb
   clear hS hb
   have hS := hT
   clear hT)
  (have bx : BoxAt wx qF 2 3 3 (.slice none 0 0) (.slice none 0 0) (.slice none 0 0) := hS.head
   have lF := bx.lt
   obtain ⟨x0, x1, x2, x3, x4, x5⟩ := bx.cells
   have fz := bx.frozen 3
   replace bx := Lib.hid bx
   go_wp2_with fail)
  (have hT := (hS.set (by simp) 3 (.slice (some ⟨wx.heap.size, 0, none⟩) 2 2)).alloc (.cells (rnSn.flatMap Snap.cells).toArray 33)
   rw [show (wx.setCell ⟨qF, 3, none⟩ (.slice (some ⟨wx.heap.size, 0, none⟩) 2 2)).heap.size = wx.heap.size by simp] at hT
   have n1 : wx.heap.size ≠ qF := by omega
   clear hS x0 x1 x2 x3 x4 x5 fz bx lF)
  generalize hg : wx.heap.size = g1 at hT n1 ⊢
  replace hg := Lib.hid hg
  have hS : Nb w _ [(g1, .cells (rnSn.flatMap Snap.cells).toArray 33), (qF, .cells #[.int .i64 2, .int .i64 3, .int .i64 3, .slice (some ⟨g1, 0, none⟩) 2 2, .slice none 0 0, .slice none 0 0] 29)] := hT
  clear hT hg
  ((refine (law23_d 97 _).mono ?_
    rintro e wx ⟨rfl, hb⟩
    have hT := hS.below hb
    clear hS hb
    have hS := hT
    clear hT)
   go_wp2_with fail)
  (refine (law23_d 98 _).mono ?_
   rintro e wx ⟨rfl, hb⟩
   have hT := hS.below hb
   clear hS hb
   have hS := hT
   clear hT)
  replace hS := hS.swap
  (have bx : BoxAt wx qF 2 3 3 (.slice (some ⟨g1, 0, none⟩) 2 2) (.slice none 0 0) (.slice none 0 0) := hS.head
   have lF := bx.lt
   obtain ⟨x0, x1, x2, x3, x4, x5⟩ := bx.cells
   have fz := bx.frozen 4
   replace bx := Lib.hid bx
   go_wp2_with fail)
  (have hT := (hS.set (by simp; exact n1) 4 (.slice (some ⟨wx.heap.size, 0, none⟩) 2 2)).alloc (.cells (rnCs.flatMap strCell).toArray 9)
   rw [show (wx.setCell ⟨qF, 4, none⟩ (.slice (some ⟨wx.heap.size, 0, none⟩) 2 2)).heap.size = wx.heap.size by simp] at hT
   have n2 : wx.heap.size ≠ qF := by omega
   clear hS x0 x1 x2 x3 x4 x5 fz bx lF)
  generalize hg : wx.heap.size = g2 at hT n2 ⊢
  replace hg := Lib.hid hg
  have hS : Nb w _ [(g2, .cells (rnCs.flatMap strCell).toArray 9), (qF, .cells #[.int .i64 2, .int .i64 3, .int .i64 3, .slice (some ⟨g1, 0, none⟩) 2 2, .slice (some ⟨g2, 0, none⟩) 2 2, .slice none 0 0] 29), (g1, .cells (rnSn.flatMap Snap.cells).toArray 33)] := hT
  clear hT hg
  ((refine (law23_d 112 _).mono ?_
    rintro e wx ⟨rfl, hb⟩
    have hT := hS.below hb
    clear hS hb
    have hS := hT
    clear hT)
   go_wp2_with fail)
  (refine (law23_d 112 _).mono ?_
   rintro e wx ⟨rfl, hb⟩
   have hT := hS.below hb
   clear hS hb
   have hS := hT
   clear hT)
  replace hS := hS.swap
  (have bx : BoxAt wx qF 2 3 3 (.slice (some ⟨g1, 0, none⟩) 2 2) (.slice (some ⟨g2, 0, none⟩) 2 2) (.slice none 0 0) := hS.head
   have lF := bx.lt
   obtain ⟨x0, x1, x2, x3, x4, x5⟩ := bx.cells
   have fz := bx.frozen 5
   replace bx := Lib.hid bx
   go_wp2_with fail)
  (have hT := (hS.set (by simp; exact ⟨n2, n1⟩) 5 (.slice (some ⟨wx.heap.size, 0, none⟩) 2 2)).alloc (.cells (rnPs.flatMap Place.cells).toArray 35)
   rw [show (wx.setCell ⟨qF, 5, none⟩ (.slice (some ⟨wx.heap.size, 0, none⟩) 2 2)).heap.size = wx.heap.size by simp] at hT
   have n3 : wx.heap.size ≠ qF := by omega
   clear hS x0 x1 x2 x3 x4 x5 fz bx lF)
  generalize hg : wx.heap.size = g3 at hT n3 ⊢
  replace hg := Lib.hid hg
  have hS : Nb w _ [(g3, rnO3), (qF, rnBox g1 g2 g3), (g2, rnO2), (g1, rnO1)] := hT
  clear hT hg n1 n2 n3
  obtain ⟨S, hSv⟩ : ∃ S, S = str rnWant := ⟨_, rfl⟩
  have hM := root_Make (rnV g1 g2 g3) rnF _ (hS.st (by simp) (by simp) (by simp) 2 3 3)
  rw [rn_make, ← hSv] at hM
  replace hSv := Lib.hid hSv
  unfold Rws.val stv rnF at hM
  dsimp only at hM
  (refine (hM).mono ?_
   rintro e wx ⟨rfl, hb⟩
   have hT := hS.below hb
   clear hS hb
   have hS := hT
   clear hT)
  clear hM
  go_wp2_with fail
  ((refine (law23_d 114 _).mono ?_
    rintro e wx ⟨rfl, hb⟩
    have hT := hS.below hb
    clear hS hb
    have hS := hT
    clear hT)
   go_wp2_with fail)
  ((refine (law23_d 113 _).mono ?_
    rintro e wx ⟨rfl, hb⟩
    have hT := hS.below hb
    clear hS hb
    have hS := hT
    clear hT)
   go_wp2_with fail)
  ((refine (law23_d 97 _).mono ?_
    rintro e wx ⟨rfl, hb⟩
    have hT := hS.below hb
    clear hS hb
    have hS := hT
    clear hT)
   go_wp2_with fail)
  ((refine (law23_d 112 _).mono ?_
    rintro e wx ⟨rfl, hb⟩
    have hT := hS.below hb
    clear hS hb
    have hS := hT
    clear hT)
   go_wp2_with fail)
  ((refine (law23_d 98 _).mono ?_
    rintro e wx ⟨rfl, hb⟩
    have hT := hS.below hb
    clear hS hb
    have hS := hT
    clear hT)
   go_wp2_with fail)
  ((refine (law23_d 112 _).mono ?_
    rintro e wx ⟨rfl, hb⟩
    have hT := hS.below hb
    clear hS hb
    have hS := hT
    clear hT)
   go_wp2_with fail)
  repeat (rename ¬ ((9223372036854775807 : Nat) < _) => hq; clear hq)
  have hw : ((⟨#[115, 116, 97, 49, 2, 3, 0, 0, 0, 3, 2, 0, 0, 0, 1, 0, 0, 1, 0, 0, 0, 0, 0]⟩ : ByteArray) ++ letterRoot 114 ++ ⟨#[0, 0, 0, 2, 0, 0, 0, 0, 0, 0, 0, 0]⟩ ++ letterRoot 113 ++ ⟨#[0, 2]⟩ ++ letterRoot 97 ++ letterRoot 112 ++ ⟨#[0, 0, 0, 70, 0, 0, 1, 0]⟩ ++ letterRoot 98 ++ letterRoot 112 ++ ⟨#[0, 0, 0, 8, 0, 0, 0, 1]⟩) = S := by rw [hSv.out]; kernel_rfl
  rw [hw]
  clear hw
  have hR := root_Read rnWant wx (by rw [rn_len]; decide)
  rw [rn_read, ← hSv.out] at hR
  refine hR.mono ?_
  rintro e w9 ⟨vX, rfl, o1, o2, o3, o4, hb⟩
  clear hR
  have hS9 := Lib.hid (hS.below hb)
  have hX9 : Hid (StAt w9 w9.heap.size vX rnF) := ⟨Owns.row (k := 3) (fun x => snapE.len x) o1, Owns.row (k := 1) (fun x => strE.len x) o2, Owns.row (k := 3) (fun x => placeE.len x) o3, o4⟩
  clear o1 o2 o3 o4 hb hS
  have hN := (Nb.start (Below.refl w9.heap.size w9)).alloc (.cells #[.int .i64 2, .int .i64 3, .int .i64 3, .slice vX.A1 vX.n1 vX.c1, .slice vX.A2 vX.n2 vX.c2, .slice vX.A3 vX.n3 vX.c3] 29)
  obtain ⟨A1, n1, c1, A2, n2, c2, A3, n3, c3⟩ := vX
  unfold Rws.val stv rnF
  dsimp only at hN ⊢
  go_upto_region 10 with fail
  generalize hg : w9.heap.size = qX at hN ⊢
  replace hg := Lib.hid hg
  have hbA := hN.bel
  generalize (w9.alloc (.cells #[.int .i64 2, .int .i64 3, .int .i64 3, .slice A1 n1 c1, .slice A2 n2 c2, .slice A3 n3 c3] 29)) = wA at hN hbA ⊢
  have xA := Lib.hid (hX9.out.to hbA)
  have fA := Lib.hid ((hS9.out.below hbA).st (g1 := g1) (g2 := g2) (g3 := g3) (by simp) (by simp) (by simp) 2 3 3)
  have bX : BoxAt wA qX 2 3 3 (.slice A1 n1 c1) (.slice A2 n2 c2) (.slice A3 n3 c3) := hN.head
  have bF : BoxAt wA qF 2 3 3 (.slice (some ⟨g1, 0, none⟩) 2 2) (.slice (some ⟨g2, 0, none⟩) 2 2) (.slice (some ⟨g3, 0, none⟩) 2 2) := (hS9.out.below hbA).mem (by simp)
  have lX := bX.lt
  have lF := bF.lt
  obtain ⟨x0, x1, x2, x3, x4, x5⟩ := bX.cells
  obtain ⟨y0, y1, y2, y3, y4, y5⟩ := bF.cells
  have eS := str_eq (rfl : S = S)
  have hC1 := Lib.hid fun W (hW : Below wA.heap.size wA W) => ref17_Same ⟨A1, n1, c1, A2, n2, c2, A3, n3, c3⟩ (rnV g1 g2 g3) rnF rnF W (xA.out.to hW) (fA.out.to hW)
  have hC2 := Lib.hid fun W (hW : Below wA.heap.size wA W) => root_Same ⟨A1, n1, c1, A2, n2, c2, A3, n3, c3⟩ (rnV g1 g2 g3) rnF rnF W (xA.out.to hW) (fA.out.to hW)
  have hC3 := Lib.hid fun W (hW : Below wA.heap.size wA W) => root_Same ⟨A1, n1, c1, A2, n2, c2, A3, n3, c3⟩ ⟨none, 0, 0, none, 0, 0, none, 0, 0⟩ rnF ⟨2, 3, 3, [], [], []⟩ W (xA.out.to hW) ⟨RowAt.none_, RowAt.none_, RowAt.none_, by simp⟩
  rw [rn_same] at hC1 hC2
  rw [rn_bare] at hC3
  unfold Rws.val stv rnF at hC1 hC2 hC3
  dsimp only at hC1 hC2 hC3
  replace bX := Lib.hid bX
  replace bF := Lib.hid bF
  refine region_krip (fun W : World => Below wA.heap.size wA W) (by kernel_rfl) ((Below.refl _ _).drew) ?_
  (refine kF.takeL (i := 0) (v := ?_) rfl (by kernel_rfl) (fun _ _ _ h => h) (Or.inl ⟨by rfl, ?_⟩) ?_
   rotate_left
   · (intro wS hSw; (try dsimp only at hSw); have hcS := fun b o (h : b < wA.heap.size) => hSw.cell (p := ⟨b, o, none⟩) h; go_simp; (try with_reducible rfl))
   try simp only [Act.put, List.setIfInBounds_toArray, List.set_cons_zero, List.set_cons_succ])
  (refine kF.takeL (i := 1) (v := ?_) rfl (by kernel_rfl) (fun _ _ _ h => h) (Or.inl ⟨by rfl, ?_⟩) ?_
   rotate_left
   · (intro wS hSw; (try dsimp only at hSw); have hcS := fun b o (h : b < wA.heap.size) => hSw.cell (p := ⟨b, o, none⟩) h; go_simp; (try with_reducible rfl))
   try simp only [Act.put, List.setIfInBounds_toArray, List.set_cons_zero, List.set_cons_succ])
  (refine kF.takeL (i := 2) (v := ?_) rfl (by kernel_rfl) (fun _ _ _ h => h) (Or.inl ⟨by rfl, ?_⟩) ?_
   rotate_left
   · (intro wS hSw; (try dsimp only at hSw); have hcS := fun b o (h : b < wA.heap.size) => hSw.cell (p := ⟨b, o, none⟩) h; go_simp; (try with_reducible rfl))
   try simp only [Act.put, List.setIfInBounds_toArray, List.set_cons_zero, List.set_cons_succ])
  (refine kF.takeL (i := 3) (v := ?_) rfl (by kernel_rfl) (fun _ _ _ h => h) (Or.inl ⟨by rfl, ?_⟩) ?_
   rotate_left
   · (intro wS hSw; (try dsimp only at hSw); have hcS := fun b o (h : b < wA.heap.size) => hSw.cell (p := ⟨b, o, none⟩) h; go_simp; (try with_reducible rfl))
   try simp only [Act.put, List.setIfInBounds_toArray, List.set_cons_zero, List.set_cons_succ])
  (refine kF.takeL (i := 4) (v := ?_) rfl (by kernel_rfl) (fun _ _ _ h => h) (Or.inl ⟨by rfl, ?_⟩) ?_
   rotate_left
   · (intro wS hSw; (try dsimp only at hSw); have hcS := fun b o (h : b < wA.heap.size) => hSw.cell (p := ⟨b, o, none⟩) h; go_simp; (try with_reducible rfl))
   try simp only [Act.put, List.setIfInBounds_toArray, List.set_cons_zero, List.set_cons_succ])
  (refine kF.takeL (i := 5) (v := ?_) rfl (by kernel_rfl) (fun _ _ _ h => h) (Or.inl ⟨by rfl, ?_⟩) ?_
   rotate_left
   · (intro wS hSw; (try dsimp only at hSw); have hcS := fun b o (h : b < wA.heap.size) => hSw.cell (p := ⟨b, o, none⟩) h; go_simp; (try with_reducible rfl))
   try simp only [Act.put, List.setIfInBounds_toArray, List.set_cons_zero, List.set_cons_succ])
  (refine kF.takeL (i := 6) (v := ?_) rfl (by kernel_rfl) (fun _ _ _ h => h) (Or.inl ⟨by rfl, ?_⟩) ?_
   rotate_left
   · (intro wS hSw; (try dsimp only at hSw); have hcS := fun b o (h : b < wA.heap.size) => hSw.cell (p := ⟨b, o, none⟩) h; go_simp; (try with_reducible rfl))
   try simp only [Act.put, List.setIfInBounds_toArray, List.set_cons_zero, List.set_cons_succ])
  (refine kF.takeL (i := 7) (v := ?_) rfl (by kernel_rfl) (fun _ _ _ h => h) (Or.inl ⟨by rfl, ?_⟩) ?_
   rotate_left
   · (intro wS hSw; (try dsimp only at hSw); have hcS := fun b o (h : b < wA.heap.size) => hSw.cell (p := ⟨b, o, none⟩) h; go_simp; (try with_reducible rfl))
   try simp only [Act.put, List.setIfInBounds_toArray, List.set_cons_zero, List.set_cons_succ])
  (refine kF.takeL (i := 8) (v := ?_) rfl (by kernel_rfl) (fun _ _ _ h => h) (Or.inl ⟨by rfl, ?_⟩) ?_
   rotate_left
   · (intro wS hSw; (try dsimp only at hSw); have hcS := fun b o (h : b < wA.heap.size) => hSw.cell (p := ⟨b, o, none⟩) h; go_simp; (try with_reducible rfl))
   try simp only [Act.put, List.setIfInBounds_toArray, List.set_cons_zero, List.set_cons_succ])
  (refine kF.takeL (i := 9) (v := ?_) rfl (by kernel_rfl) (fun _ _ _ h => h) (Or.inl ⟨by rfl, ?_⟩) ?_
   rotate_left
   · (intro wS hSw; (try dsimp only at hSw); have hcS := fun b o (h : b < wA.heap.size) => hSw.cell (p := ⟨b, o, none⟩) h; go_simp; (try with_reducible rfl))
   try simp only [Act.put, List.setIfInBounds_toArray, List.set_cons_zero, List.set_cons_succ])
  (refine kF.takeL (i := 10) (v := ?_) rfl (by kernel_rfl) (fun _ _ _ h => h) (Or.inl ⟨by rfl, ?_⟩) ?_
   rotate_left
   · (intro wS hSw; (try dsimp only at hSw); have hcS := fun b o (h : b < wA.heap.size) => hSw.cell (p := ⟨b, o, none⟩) h; go_simp; (try with_reducible rfl))
   try simp only [Act.put, List.setIfInBounds_toArray, List.set_cons_zero, List.set_cons_succ])
  (refine kF.takeL (i := 11) (v := ?_) rfl (by kernel_rfl) (fun _ _ _ h => h) (Or.inl ⟨by rfl, ?_⟩) ?_
   rotate_left
   · (intro wS hSw; (try dsimp only at hSw); have hcS := fun b o (h : b < wA.heap.size) => hSw.cell (p := ⟨b, o, none⟩) h; go_simp; (try with_reducible rfl))
   try simp only [Act.put, List.setIfInBounds_toArray, List.set_cons_zero, List.set_cons_succ])
  (refine kF.takeL (i := 12) (v := ?_) rfl (by kernel_rfl) (fun _ _ _ h => h) (Or.inl ⟨by rfl, ?_⟩) ?_
   rotate_left
   · (intro wS hSw; (try dsimp only at hSw); have hcS := fun b o (h : b < wA.heap.size) => hSw.cell (p := ⟨b, o, none⟩) h; go_simp; (try with_reducible rfl))
   try simp only [Act.put, List.setIfInBounds_toArray, List.set_cons_zero, List.set_cons_succ])
  (refine kF.takeL (i := 13) (v := ?_) rfl (by kernel_rfl) (fun _ _ _ h => h) (Or.inl ⟨by rfl, ?_⟩) ?_
   rotate_left
   · (intro wS hSw; (try dsimp only at hSw); have hcS := fun b o (h : b < wA.heap.size) => hSw.cell (p := ⟨b, o, none⟩) h; go_simp; (try with_reducible rfl))
   try simp only [Act.put, List.setIfInBounds_toArray, List.set_cons_zero, List.set_cons_succ])
  (refine kF.lastL (j := 14) rfl (by kernel_rfl) (fun _ _ _ _ _ h => h) (fun _ _ h1 h2 => below_S (Nat.le_refl _) h1 h2) (fun hSk K hK => ?_)
   (go_simp; refine (hC1.out _ hSk).mono ?_; rintro e k14 ⟨rfl, hb14⟩)
   refine hK.out _ _ (below_S (Nat.le_refl _) hSk hb14) ?_
   clear hK K
   try simp only [Act.put, List.setIfInBounds_toArray, List.set_cons_zero, List.set_cons_succ])
  (refine kF.takeL (i := 15) (v := ?_) rfl (by kernel_rfl) (fun _ _ _ h => h) (Or.inl ⟨by rfl, ?_⟩) ?_
   rotate_left
   · (intro wS hSw; (try dsimp only at hSw); have hcS := fun b o (h : b < wA.heap.size) => hSw.cell (p := ⟨b, o, none⟩) h; go_simp; (try with_reducible rfl))
   try simp only [Act.put, List.setIfInBounds_toArray, List.set_cons_zero, List.set_cons_succ])
  (refine kF.takeL (i := 16) (v := ?_) rfl (by kernel_rfl) (fun _ _ _ h => h) (Or.inl ⟨by rfl, ?_⟩) ?_
   rotate_left
   · (intro wS hSw; (try dsimp only at hSw); have hcS := fun b o (h : b < wA.heap.size) => hSw.cell (p := ⟨b, o, none⟩) h; go_simp; (try with_reducible rfl))
   try simp only [Act.put, List.setIfInBounds_toArray, List.set_cons_zero, List.set_cons_succ])
  (refine kF.takeL (i := 17) (v := ?_) rfl (by kernel_rfl) (fun _ _ _ h => h) (Or.inl ⟨by rfl, ?_⟩) ?_
   rotate_left
   · (intro wS hSw; (try dsimp only at hSw); have hcS := fun b o (h : b < wA.heap.size) => hSw.cell (p := ⟨b, o, none⟩) h; go_simp; (try with_reducible rfl))
   try simp only [Act.put, List.setIfInBounds_toArray, List.set_cons_zero, List.set_cons_succ])
  (refine kF.takeL (i := 18) (v := ?_) rfl (by kernel_rfl) (fun _ _ _ h => h) (Or.inl ⟨by rfl, ?_⟩) ?_
   rotate_left
   · (intro wS hSw; (try dsimp only at hSw); have hcS := fun b o (h : b < wA.heap.size) => hSw.cell (p := ⟨b, o, none⟩) h; go_simp; (try with_reducible rfl))
   try simp only [Act.put, List.setIfInBounds_toArray, List.set_cons_zero, List.set_cons_succ])
  (refine kF.takeL (i := 19) (v := ?_) rfl (by kernel_rfl) (fun _ _ _ h => h) (Or.inl ⟨by rfl, ?_⟩) ?_
   rotate_left
   · (intro wS hSw; (try dsimp only at hSw); have hcS := fun b o (h : b < wA.heap.size) => hSw.cell (p := ⟨b, o, none⟩) h; go_simp; (try with_reducible rfl))
   try simp only [Act.put, List.setIfInBounds_toArray, List.set_cons_zero, List.set_cons_succ])
  (refine kF.lastL (j := 20) rfl (by kernel_rfl) (fun _ _ _ _ _ h => h) (fun _ _ h1 h2 => below_S (Nat.le_refl _) h1 h2) (fun hSk K hK => ?_)
   (go_simp; refine (hC2.out _ hSk).mono ?_; rintro e k20 ⟨rfl, hb20⟩)
   refine hK.out _ _ (below_S (Nat.le_refl _) hSk hb20) ?_
   clear hK K
   try simp only [Act.put, List.setIfInBounds_toArray, List.set_cons_zero, List.set_cons_succ])
  (refine kF.takeL (i := 21) (v := ?_) rfl (by kernel_rfl) (fun _ _ _ h => h) (Or.inl ⟨by rfl, ?_⟩) ?_
   rotate_left
   · (intro wS hSw; (try dsimp only at hSw); have hcS := fun b o (h : b < wA.heap.size) => hSw.cell (p := ⟨b, o, none⟩) h; go_simp; (try with_reducible rfl))
   try simp only [Act.put, List.setIfInBounds_toArray, List.set_cons_zero, List.set_cons_succ])
  (refine kF.takeL (i := 22) (v := ?_) rfl (by kernel_rfl) (fun _ _ _ h => h) (Or.inl ⟨by rfl, ?_⟩) ?_
   rotate_left
   · (intro wS hSw; (try dsimp only at hSw); have hcS := fun b o (h : b < wA.heap.size) => hSw.cell (p := ⟨b, o, none⟩) h; go_simp; (try with_reducible rfl))
   try simp only [Act.put, List.setIfInBounds_toArray, List.set_cons_zero, List.set_cons_succ])
  (refine kF.takeL (i := 23) (v := ?_) rfl (by kernel_rfl) (fun _ _ _ h => h) (Or.inl ⟨by rfl, ?_⟩) ?_
   rotate_left
   · (intro wS hSw; (try dsimp only at hSw); have hcS := fun b o (h : b < wA.heap.size) => hSw.cell (p := ⟨b, o, none⟩) h; go_simp; (try with_reducible rfl))
   try simp only [Act.put, List.setIfInBounds_toArray, List.set_cons_zero, List.set_cons_succ])
  (refine kF.takeL (i := 24) (v := ?_) rfl (by kernel_rfl) (fun _ _ _ h => h) (Or.inl ⟨by rfl, ?_⟩) ?_
   rotate_left
   · (intro wS hSw; (try dsimp only at hSw); have hcS := fun b o (h : b < wA.heap.size) => hSw.cell (p := ⟨b, o, none⟩) h; go_simp; (try with_reducible rfl))
   try simp only [Act.put, List.setIfInBounds_toArray, List.set_cons_zero, List.set_cons_succ])
  (refine kF.lastL (j := 25) rfl (by kernel_rfl) (fun _ _ _ _ _ h => h) (fun _ _ h1 h2 => below_S (Nat.le_refl _) h1 h2) (fun hSk K hK => ?_)
   (go_simp; refine (law23_bare 3 _).mono ?_; rintro e k25 ⟨rfl, hb25⟩)
   refine hK.out _ _ (below_S (Nat.le_refl _) hSk hb25) ?_
   clear hK K
   try simp only [Act.put, List.setIfInBounds_toArray, List.set_cons_zero, List.set_cons_succ])
  (refine kF.lastL (j := 26) rfl (by kernel_rfl) (fun _ _ _ _ _ h => h) (fun _ _ h1 h2 => below_S (Nat.le_refl _) h1 h2) (fun hSk K hK => ?_)
   (go_simp; refine (hC3.out _ hSk).mono ?_; rintro e k26 ⟨rfl, hb26⟩)
   refine hK.out _ _ (below_S (Nat.le_refl _) hSk hb26) ?_
   clear hK K
   try simp only [Act.put, List.setIfInBounds_toArray, List.set_cons_zero, List.set_cons_succ])
  (refine kF.takeL (i := 27) (v := ?_) rfl (by kernel_rfl) (fun _ _ _ h => h) (Or.inl ⟨by rfl, ?_⟩) ?_
   rotate_left
   · (intro wS hSw; (try dsimp only at hSw); have hcS := fun b o (h : b < wA.heap.size) => hSw.cell (p := ⟨b, o, none⟩) h; go_simp; (try with_reducible rfl))
   try simp only [Act.put, List.setIfInBounds_toArray, List.set_cons_zero, List.set_cons_succ])
  refine kF.done (by kernel_rfl) ?_
  have hT := hN.below (hSk.trans (hb26.mono hSk.size))
  clear hN hbA xA fA bX bF lX lF x0 x1 x2 x3 x4 x5 y0 y1 y2 y3 y4 y5 hC1 hC2 hC3 hb14 hb20 hb25 hb26 hSk
  have hN := hT
  clear hT
  obtain ⟨wx, rfl⟩ : ∃ x : World, x = k26 := ⟨_, rfl⟩
  have bF : BoxAt wx qF 2 3 3 (.slice (some ⟨g1, 0, none⟩) 2 2) (.slice (some ⟨g2, 0, none⟩) 2 2) (.slice (some ⟨g3, 0, none⟩) 2 2) := (hS9.out.below hN.bel).mem (by simp)
  obtain ⟨y0, y1, y2, y3, y4, y5⟩ := bF.cells
  have lF := bF.lt
  clear bF
  go_upto_region 13 with fail
  have hT := hN.alloc (rnBox g1 g2 g3)
  clear hN y0 y1 y2 y3 y4 y5 lF
  generalize hg : wx.heap.size = qM at hT ⊢
  replace hg := Lib.hid hg
  have hN := hT
  clear hT
  have hM0 := hN.head
  generalize (wx.alloc (rnBox g1 g2 g3)) = wM at hN hM0 ⊢
  obtain ⟨lF, y0, y1, y2, y3, y4, y5, -⟩ := box_cells ((hS9.out.below hN.bel).mem (q := qF) (o := rnBox g1 g2 g3) (by simp))
  have hP3 := (hS9.out.below hN.bel).mem (q := g3) (o := rnO3) (by simp)
  obtain ⟨lP3, p0, p1, p2, -⟩ := box_cells hP3
  have lq : qF < qM ∧ g3 < qM := by
    have h1 := hS9.out.lt (p := (qF, rnBox g1 g2 g3)) (by simp)
    have h2 := hS9.out.lt (p := (g3, rnO3)) (by simp)
    have h3 := (hN.at_ (qM, rnBox g1 g2 g3) (by simp)).2
    dsimp only at h1 h2 h3
    omega
  obtain ⟨lq1, lq2⟩ := lq
  have hzM : qM ≤ wM.heap.size := Nat.le_of_lt (Array.getElem?_eq_some_iff.1 hM0).1
  clear lF hP3 lP3
  refine region_krip (fun W : World => Below qM wM W ∧ ∃ v, W.heap[qM]? = some ((fun v => .cells #[.int .i64 2, .int .i64 3, .int .i64 3, .slice (some ⟨g1, 0, none⟩) 2 2, .slice (some ⟨g2, 0, none⟩) 2 2, v] 29) v)) (by kernel_rfl) ⟨(Below.refl _ _).drew, _, hM0⟩ ?_
  (refine kF.takeL (i := 0) (v := ?_) rfl (by kernel_rfl) (fun _ _ _ h => h) (Or.inl ⟨by rfl, ?_⟩) ?_
   rotate_left
   · (intro wS hSw; (try dsimp only at hSw); have hcS := fun b o (h : b < qM) => hSw.1.cell (p := ⟨b, o, none⟩) h; go_simp; (try with_reducible rfl))
   try simp only [Act.put, List.setIfInBounds_toArray, List.set_cons_zero, List.set_cons_succ])
  (refine kF.takeL (i := 1) (v := ?_) rfl (by kernel_rfl) (fun _ _ _ h => h) (Or.inl ⟨by rfl, ?_⟩) ?_
   rotate_left
   · (intro wS hSw; (try dsimp only at hSw); have hcS := fun b o (h : b < qM) => hSw.1.cell (p := ⟨b, o, none⟩) h; go_simp; (try with_reducible rfl))
   try simp only [Act.put, List.setIfInBounds_toArray, List.set_cons_zero, List.set_cons_succ])
  (refine kF.takeL (i := 2) (v := ?_) rfl (by kernel_rfl) (fun _ _ _ h => h) (Or.inl ⟨by rfl, ?_⟩) ?_
   rotate_left
   · (intro wS hSw; (try dsimp only at hSw); have hcS := fun b o (h : b < qM) => hSw.1.cell (p := ⟨b, o, none⟩) h; go_simp; (try with_reducible rfl))
   try simp only [Act.put, List.setIfInBounds_toArray, List.set_cons_zero, List.set_cons_succ])
  (refine kF.takeL (i := 3) (v := ?_) rfl (by kernel_rfl) (fun _ _ _ h => h) (Or.inl ⟨by rfl, ?_⟩) ?_
   rotate_left
   · (intro wS hSw; (try dsimp only at hSw); have hcS := fun b o (h : b < qM) => hSw.1.cell (p := ⟨b, o, none⟩) h; go_simp; (try with_reducible rfl))
   try simp only [Act.put, List.setIfInBounds_toArray, List.set_cons_zero, List.set_cons_succ])
  (refine kF.lastL (j := 4) rfl (by kernel_rfl) (fun _ _ _ _ _ h => h) (fun _ _ h1 h2 => ⟨below_S (hzM) h1.1 h2, h1.2.imp fun _ h => (h2.block _ (Array.getElem?_eq_some_iff.1 h).1).trans h⟩) (fun hSk K hK => ?_)
   (go_simp; refine (law23_d 112 _).mono ?_; rintro e k4 ⟨rfl, hb4⟩)
   refine hK.out _ _ (⟨below_S hzM hSk.1 hb4, hSk.2.imp fun _ h => (hb4.block _ (Array.getElem?_eq_some_iff.1 h).1).trans h⟩) ?_
   clear hK K
   try simp only [Act.put, List.setIfInBounds_toArray, List.set_cons_zero, List.set_cons_succ])
  (refine kF.takeL (i := 5) (v := ?_) rfl (by kernel_rfl) (fun _ _ _ h => h) (Or.inl ⟨by rfl, ?_⟩) ?_
   rotate_left
   · (intro wS hSw; (try dsimp only at hSw); have hcS := fun b o (h : b < qM) => hSw.1.cell (p := ⟨b, o, none⟩) h; go_simp; (try with_reducible rfl))
   try simp only [Act.put, List.setIfInBounds_toArray, List.set_cons_zero, List.set_cons_succ])
  (refine kF.newL (i := 6) (fun b => .slice (some ⟨b, 0, none⟩) 2 2) (.cells #[.string (letterRoot 112), .int .i64 70, .int .i64 256, .string (letterRoot 112), .int .i64 9, .int .i64 1] 35) rfl (by kernel_rfl) (by rfl) ?_ ?_
   · (intro wS; go_simp; (try with_reducible rfl)))
  (refine kF.settleL (by kernel_rfl) (fun _ _ h1 h2 => ⟨below_S (hzM) h1.1 h2, h1.2.imp fun _ h => (h2.block _ (Array.getElem?_eq_some_iff.1 h).1).trans h⟩) (fun u6 hbu6 hSu6 v hv => ?_)
   obtain ⟨bu6, hBu6, rfl, hxu6⟩ := hv
   try simp only [Act.put, List.setIfInBounds_toArray, List.set_cons_zero, List.set_cons_succ])
  (refine kF.takeL (i := 7) (v := ?_) rfl (by kernel_rfl) (fun _ _ _ h => h) (Or.inl ⟨by rfl, ?_⟩) ?_
   rotate_left
   · (intro wS hSw; (try dsimp only at hSw); have hcS := fun b o (h : b < qM) => hSw.1.cell (p := ⟨b, o, none⟩) h; go_simp; (try with_reducible rfl))
   try simp only [Act.put, List.setIfInBounds_toArray, List.set_cons_zero, List.set_cons_succ])
  obtain ⟨hq6, vv, hv6⟩ := hSu6
  obtain ⟨lM6, z0, z1, z2, z3, z4, z5, fz⟩ := box_cells hv6
  have fz5 := fz 5
  (refine kF.lastL (j := 8) rfl (by kernel_rfl) (fun _ _ _ _ _ h => h) (fun _ _ h1 h2 => ⟨below_S (hzM) h1.1 h2, h1.2.imp fun _ h => (h2.block _ (Array.getElem?_eq_some_iff.1 h).1).trans h⟩) (fun hSk K hK => ?_)
   go_simp
   refine hK.out _ _ (⟨hq6.setCell (p := ⟨qM, 5, none⟩) (Nat.le_refl _) _, _, heap_setCell hv6 _⟩) ?_
   clear hK K
   try simp only [Act.put, List.setIfInBounds_toArray, List.set_cons_zero, List.set_cons_succ])
  refine kF.done (by kernel_rfl) ?_
  have hlt6 : qM < bu6 := by have := hb4.size; have h2 := (Array.getElem?_eq_some_iff.1 hM0).1; simp at this; omega
  have h9q : w9.heap.size ≤ qM := (hN.at_ (qM, rnBox g1 g2 g3) (by simp)).2
  have hb13 : Below w9.heap.size w9 (u6.setCell ⟨qM, 5, none⟩ (.slice (some ⟨bu6, 0, none⟩) 2 2)) := hN.bel.trans ((hq6.setCell (p := ⟨qM, 5, none⟩) (Nat.le_refl _) _).mono h9q)
  have hm13 : (u6.setCell ⟨qM, 5, none⟩ (.slice (some ⟨bu6, 0, none⟩) 2 2)).heap[qM]? = some (.cells #[.int .i64 2, .int .i64 3, .int .i64 3, .slice (some ⟨g1, 0, none⟩) 2 2, .slice (some ⟨g2, 0, none⟩) 2 2, .slice (some ⟨bu6, 0, none⟩) 2 2] 29) := heap_setCell hv6 _
  have hr13 : (u6.setCell ⟨qM, 5, none⟩ (.slice (some ⟨bu6, 0, none⟩) 2 2)).heap[bu6]? = some (.cells (([⟨lP, 70, 256⟩, ⟨lP, 9, 1⟩] : List Place).flatMap Place.cells).toArray 35) := (Go.Deep.blk_setCell_other _ _ _ _ (by show bu6 ≠ qM; omega)).trans hxu6
  generalize (u6.setCell ⟨qM, 5, none⟩ (.slice (some ⟨bu6, 0, none⟩) 2 2)) = wx at hb13 hm13 hr13 ⊢
  clear z0 z1 z2 z3 z4 z5 fz fz5 lM6 hq6 hv6 hSk hxu6 hBu6 hbu6 hb4 hM0 hN y0 y1 y2 y3 y4 y5 p0 p1 p2 lq1 lq2 hzM
  have hF13 := hS9.out.below hb13
  obtain ⟨lF, y0, y1, y2, y3, y4, y5, -⟩ := box_cells (hF13.mem (q := qF) (o := rnBox g1 g2 g3) (by simp))
  obtain ⟨lM, z0, z1, z2, z3, z4, z5, -⟩ := box_cells hm13
  have hC := root_Same (rnV g1 g2 g3) ⟨some ⟨g1, 0, none⟩, 2, 2, some ⟨g2, 0, none⟩, 2, 2, some ⟨bu6, 0, none⟩, 2, 2⟩ rnF ⟨2, 3, 3, rnSn, rnCs, [⟨lP, 70, 256⟩, ⟨lP, 9, 1⟩]⟩ wx (hF13.st (by simp) (by simp) (by simp) 2 3 3)
    ⟨rowHeap (k := 3) (enc := Snap.cells) (l := rnSn) (fun _ => rfl) (hF13.mem (q := g1) (o := rnO1) (by simp)) (by decide), rowHeap (k := 1) (enc := strCell) (l := rnCs) (fun _ => rfl) (hF13.mem (q := g2) (o := rnO2) (by simp)) (by decide), rowHeap (k := 3) (enc := Place.cells) (l := [⟨lP, 70, 256⟩, ⟨lP, 9, 1⟩]) (fun _ => rfl) hr13 (by decide), by intro p hp; simp at hp; rcases hp with rfl | rfl <;> (unfold PlaceOk; decide)⟩
  rw [rn_moved] at hC
  unfold Rws.val stv rnF at hC
  dsimp only at hC
  replace hF13 := Lib.hid hF13
  replace hm13 := Lib.hid hm13
  replace hr13 := Lib.hid hr13
  go_wp2_with fail
  refine hC.mono ?_
  rintro e wz ⟨rfl, hb⟩
  have hN := Nb.start (hb13.trans (hb.mono hb13.size))
  clear hC hF13 hm13 hr13 hb hb13 lF lM y0 y1 y2 y3 y4 y5 z0 z1 z2 z3 z4 z5
  obtain ⟨wx, rfl⟩ : ∃ x : World, x = wz := ⟨_, rfl⟩
  clear hSk
  (obtain ⟨lF, y0, y1, y2, y3, y4, y5, -⟩ := box_cells ((hS9.out.below hN.bel).mem (q := qF) (o := rnBox g1 g2 g3) (by simp)))
  go_upto_region 18 with fail
  (have hT := hN.alloc (.cells #[.int .i64 3, .int .i64 2, .int .i64 3, .slice (some ⟨g1, 0, none⟩) 2 2, .slice (some ⟨g2, 0, none⟩) 2 2, .slice (some ⟨g3, 0, none⟩) 2 2] 29)
   have hlt := fun p hp => hN.lt (p := p) hp
   clear hN lF y0 y1 y2 y3 y4 y5
   generalize hg : wx.heap.size = qC at hT hlt ⊢
   clear hg
   have hN := hT
   clear hT
   generalize (wx.alloc (.cells #[.int .i64 3, .int .i64 2, .int .i64 3, .slice (some ⟨g1, 0, none⟩) 2 2, .slice (some ⟨g2, 0, none⟩) 2 2, .slice (some ⟨g3, 0, none⟩) 2 2] 29)) = wy at hN ⊢
   clear wx
   obtain ⟨wx, rfl⟩ : ∃ x : World, x = wy := ⟨_, rfl⟩)
  clear hlt
  (obtain ⟨lF, y0, y1, y2, y3, y4, y5, -⟩ := box_cells ((hS9.out.below hN.bel).mem (q := qF) (o := rnBox g1 g2 g3) (by simp)))
  go_upto_region 20 with fail
  (have hT := hN.alloc (.cells #[.int .i64 2, .int .i64 3, .int .i64 2, .slice (some ⟨g1, 0, none⟩) 2 2, .slice (some ⟨g2, 0, none⟩) 2 2, .slice (some ⟨g3, 0, none⟩) 2 2] 29)
   have hlt := fun p hp => hN.lt (p := p) hp
   clear hN lF y0 y1 y2 y3 y4 y5
   generalize hg : wx.heap.size = qE at hT hlt ⊢
   clear hg
   have hN := hT
   clear hT
   generalize (wx.alloc (.cells #[.int .i64 2, .int .i64 3, .int .i64 2, .slice (some ⟨g1, 0, none⟩) 2 2, .slice (some ⟨g2, 0, none⟩) 2 2, .slice (some ⟨g3, 0, none⟩) 2 2] 29)) = wy at hN ⊢
   clear wx
   obtain ⟨wx, rfl⟩ : ∃ x : World, x = wy := ⟨_, rfl⟩)
  clear hlt
  (obtain ⟨lF, y0, y1, y2, y3, y4, y5, -⟩ := box_cells ((hS9.out.below hN.bel).mem (q := qF) (o := rnBox g1 g2 g3) (by simp)))
  go_upto_region 22 with fail
  (have hT := hN.alloc (.cells #[.int .i64 2, .int .i64 3, .int .i64 2147483649, .slice (some ⟨g1, 0, none⟩) 2 2, .slice (some ⟨g2, 0, none⟩) 2 2, .slice (some ⟨g3, 0, none⟩) 2 2] 29)
   have hlt := fun p hp => hN.lt (p := p) hp
   clear hN lF y0 y1 y2 y3 y4 y5
   generalize hg : wx.heap.size = qL at hT hlt ⊢
   clear hg
   have hN := hT
   clear hT
   generalize (wx.alloc (.cells #[.int .i64 2, .int .i64 3, .int .i64 2147483649, .slice (some ⟨g1, 0, none⟩) 2 2, .slice (some ⟨g2, 0, none⟩) 2 2, .slice (some ⟨g3, 0, none⟩) 2 2] 29)) = wy at hN ⊢
   clear wx
   obtain ⟨wx, rfl⟩ : ∃ x : World, x = wy := ⟨_, rfl⟩)
  clear hlt
  (obtain ⟨lF, y0, y1, y2, y3, y4, y5, -⟩ := box_cells ((hS9.out.below hN.bel).mem (q := qF) (o := rnBox g1 g2 g3) (by simp)))
  go_upto_region 23 with fail
  (have hT := hN.alloc (.cells #[.int .i64 2, .int .i64 3, .int .i64 3, .slice (some ⟨g1, 0, none⟩) 2 2, .slice (some ⟨g2, 0, none⟩) 2 2, .slice (some ⟨g3, 0, none⟩) 2 2] 29)
   have hlt := fun p hp => hN.lt (p := p) hp
   clear hN lF y0 y1 y2 y3 y4 y5
   generalize hg : wx.heap.size = qS at hT hlt ⊢
   clear hg
   have hN := hT
   clear hT
   generalize (wx.alloc (.cells #[.int .i64 2, .int .i64 3, .int .i64 3, .slice (some ⟨g1, 0, none⟩) 2 2, .slice (some ⟨g2, 0, none⟩) 2 2, .slice (some ⟨g3, 0, none⟩) 2 2] 29)) = wy at hN ⊢
   clear wx
   obtain ⟨wx, rfl⟩ : ∃ x : World, x = wy := ⟨_, rfl⟩)
  have hM0 := hN.head
  (obtain ⟨lF, y0, y1, y2, y3, y4, y5, -⟩ := box_cells ((hS9.out.below hN.bel).mem (q := qF) (o := rnBox g1 g2 g3) (by simp)))
  have hP3 := (hS9.out.below hN.bel).mem (q := g1) (o := rnO1) (by simp)
  obtain ⟨lP3, p0, p1, p2, p3, p4, p5, -⟩ := box_cells hP3
  have lq : qF < qS ∧ g1 < qS := by
    have h1 := hS9.out.lt (p := (qF, rnBox g1 g2 g3)) (by simp)
    have h2 := hS9.out.lt (p := (g1, rnO1)) (by simp)
    have h3 := (hN.at_ (qS, rnBox g1 g2 g3) (by simp)).2
    dsimp only at h1 h2 h3
    omega
  obtain ⟨lq1, lq2⟩ := lq
  have hzM : qS ≤ wx.heap.size := Nat.le_of_lt (Array.getElem?_eq_some_iff.1 hM0).1
  have hlS := (Array.getElem?_eq_some_iff.1 hM0).1
  clear lF hP3 lP3
  replace hlt := Lib.hid hlt
  refine region_krip (fun W : World => Below qS wx W ∧ ∃ v, W.heap[qS]? = some ((fun v => .cells #[.int .i64 2, .int .i64 3, .int .i64 3, v, .slice (some ⟨g2, 0, none⟩) 2 2, .slice (some ⟨g3, 0, none⟩) 2 2] 29) v)) (by kernel_rfl) ⟨(Below.refl _ _).drew, _, hM0⟩ ?_
  (refine kF.takeL (i := 0) (v := ?_) rfl (by kernel_rfl) (fun _ _ _ h => h) (Or.inl ⟨by rfl, ?_⟩) ?_
   rotate_left
   · (intro wS hSw; (try dsimp only at hSw); have hcS := fun b o (h : b < qS) => hSw.1.cell (p := ⟨b, o, none⟩) h; go_simp; (try with_reducible rfl))
   try simp only [Act.put, List.setIfInBounds_toArray, List.set_cons_zero, List.set_cons_succ])
  (refine kF.takeL (i := 1) (v := ?_) rfl (by kernel_rfl) (fun _ _ _ h => h) (Or.inl ⟨by rfl, ?_⟩) ?_
   rotate_left
   · (intro wS hSw; (try dsimp only at hSw); have hcS := fun b o (h : b < qS) => hSw.1.cell (p := ⟨b, o, none⟩) h; go_simp; (try with_reducible rfl))
   try simp only [Act.put, List.setIfInBounds_toArray, List.set_cons_zero, List.set_cons_succ])
  (refine kF.takeL (i := 2) (v := ?_) rfl (by kernel_rfl) (fun _ _ _ h => h) (Or.inl ⟨by rfl, ?_⟩) ?_
   rotate_left
   · (intro wS hSw; (try dsimp only at hSw); have hcS := fun b o (h : b < qS) => hSw.1.cell (p := ⟨b, o, none⟩) h; go_simp; (try with_reducible rfl))
   try simp only [Act.put, List.setIfInBounds_toArray, List.set_cons_zero, List.set_cons_succ])
  (refine kF.takeL (i := 3) (v := ?_) rfl (by kernel_rfl) (fun _ _ _ h => h) (Or.inl ⟨by rfl, ?_⟩) ?_
   rotate_left
   · (intro wS hSw; (try dsimp only at hSw); have hcS := fun b o (h : b < qS) => hSw.1.cell (p := ⟨b, o, none⟩) h; go_simp; (try with_reducible rfl))
   try simp only [Act.put, List.setIfInBounds_toArray, List.set_cons_zero, List.set_cons_succ])
  (refine kF.takeL (i := 4) (v := ?_) rfl (by kernel_rfl) (fun _ _ _ h => h) (Or.inl ⟨by rfl, ?_⟩) ?_
   rotate_left
   · (intro wS hSw; (try dsimp only at hSw); have hcS := fun b o (h : b < qS) => hSw.1.cell (p := ⟨b, o, none⟩) h; go_simp; (try with_reducible rfl))
   try simp only [Act.put, List.setIfInBounds_toArray, List.set_cons_zero, List.set_cons_succ])
  (refine kF.takeL (i := 5) (v := ?_) rfl (by kernel_rfl) (fun _ _ _ h => h) (Or.inl ⟨by rfl, ?_⟩) ?_
   rotate_left
   · (intro wS hSw; (try dsimp only at hSw); have hcS := fun b o (h : b < qS) => hSw.1.cell (p := ⟨b, o, none⟩) h; go_simp; (try with_reducible rfl))
   try simp only [Act.put, List.setIfInBounds_toArray, List.set_cons_zero, List.set_cons_succ])
  (refine kF.takeL (i := 6) (v := ?_) rfl (by kernel_rfl) (fun _ _ _ h => h) (Or.inl ⟨by rfl, ?_⟩) ?_
   rotate_left
   · (intro wS hSw; (try dsimp only at hSw); have hcS := fun b o (h : b < qS) => hSw.1.cell (p := ⟨b, o, none⟩) h; go_simp; (try with_reducible rfl))
   try simp only [Act.put, List.setIfInBounds_toArray, List.set_cons_zero, List.set_cons_succ])
  (refine kF.takeL (i := 7) (v := ?_) rfl (by kernel_rfl) (fun _ _ _ h => h) (Or.inl ⟨by rfl, ?_⟩) ?_
   rotate_left
   · (intro wS hSw; (try dsimp only at hSw); have hcS := fun b o (h : b < qS) => hSw.1.cell (p := ⟨b, o, none⟩) h; go_simp; (try with_reducible rfl))
   try simp only [Act.put, List.setIfInBounds_toArray, List.set_cons_zero, List.set_cons_succ])
  (refine kF.newL (i := 8) (fun b => .slice (some ⟨b, 0, none⟩) 2 2) (.cells #[.int .i64 2, .int .i64 0, .string (letterRoot 113), .int .i64 1, .int .i64 1099511627776, .string (letterRoot 114)] 33) rfl (by kernel_rfl) (by rfl) ?_ ?_
   · (intro wS; go_simp; (try with_reducible rfl)))
  (refine kF.settleL (by kernel_rfl) (fun _ _ h1 h2 => ⟨below_S (hzM) h1.1 h2, h1.2.imp fun _ h => (h2.block _ (Array.getElem?_eq_some_iff.1 h).1).trans h⟩) (fun u8 hbu8 hSu8 v hv => ?_)
   obtain ⟨bu8, hBu8, rfl, hxu8⟩ := hv
   try simp only [Act.put, List.setIfInBounds_toArray, List.set_cons_zero, List.set_cons_succ])
  (refine kF.takeL (i := 9) (v := ?_) rfl (by kernel_rfl) (fun _ _ _ h => h) (Or.inl ⟨by rfl, ?_⟩) ?_
   rotate_left
   · (intro wS hSw; (try dsimp only at hSw); have hcS := fun b o (h : b < qS) => hSw.1.cell (p := ⟨b, o, none⟩) h; go_simp; (try with_reducible rfl))
   try simp only [Act.put, List.setIfInBounds_toArray, List.set_cons_zero, List.set_cons_succ])
  obtain ⟨hq8, vv, hv8⟩ := hSu8
  obtain ⟨lM8, z0, z1, z2, z3, z4, z5, fz⟩ := box_cells hv8
  have fz3 := fz 3
  (refine kF.lastL (j := 10) rfl (by kernel_rfl) (fun _ _ _ _ _ h => h) (fun _ _ h1 h2 => ⟨below_S (hzM) h1.1 h2, h1.2.imp fun _ h => (h2.block _ (Array.getElem?_eq_some_iff.1 h).1).trans h⟩) (fun hSk K hK => ?_)
   go_simp
   refine hK.out _ _ (⟨hq8.setCell (p := ⟨qS, 3, none⟩) (Nat.le_refl _) _, _, heap_setCell hv8 _⟩) ?_
   clear hK K
   try simp only [Act.put, List.setIfInBounds_toArray, List.set_cons_zero, List.set_cons_succ])
  refine kF.done (by kernel_rfl) ?_
  have hT := hN.stored hlt.out hq8 hv8 hxu8 (by simp at hBu8; omega) 3 (.slice (some ⟨bu8, 0, none⟩) 2 2)
  have hN' : Nb w9 (u8.setCell ⟨qS, 3, none⟩ (.slice (some ⟨bu8, 0, none⟩) 2 2)) [(qS, .cells #[.int .i64 2, .int .i64 3, .int .i64 3, .slice (some ⟨bu8, 0, none⟩) 2 2, .slice (some ⟨g2, 0, none⟩) 2 2, .slice (some ⟨g3, 0, none⟩) 2 2] 29), (bu8, rnOS), (qL, (.cells #[.int .i64 2, .int .i64 3, .int .i64 2147483649, .slice (some ⟨g1, 0, none⟩) 2 2, .slice (some ⟨g2, 0, none⟩) 2 2, .slice (some ⟨g3, 0, none⟩) 2 2] 29)), (qE, (.cells #[.int .i64 2, .int .i64 3, .int .i64 2, .slice (some ⟨g1, 0, none⟩) 2 2, .slice (some ⟨g2, 0, none⟩) 2 2, .slice (some ⟨g3, 0, none⟩) 2 2] 29)), (qC, (.cells #[.int .i64 3, .int .i64 2, .int .i64 3, .slice (some ⟨g1, 0, none⟩) 2 2, .slice (some ⟨g2, 0, none⟩) 2 2, .slice (some ⟨g3, 0, none⟩) 2 2] 29))] := hT
  clear hT hN hlt z0 z1 z2 z3 z4 z5 fz fz3 lM8 hq8 hv8 hSk hxu8 hBu8 hbu8 hM0 y0 y1 y2 y3 y4 y5 p0 p1 p2 p3 p4 p5 lq1 lq2 hzM hlS
  have hN := hN'
  clear hN'
  generalize (u8.setCell ⟨qS, 3, none⟩ (.slice (some ⟨bu8, 0, none⟩) 2 2)) = wy at hN ⊢
  obtain ⟨wx, rfl⟩ : ∃ x : World, x = wy := ⟨_, rfl⟩
  (obtain ⟨lF, y0, y1, y2, y3, y4, y5, -⟩ := box_cells ((hS9.out.below hN.bel).mem (q := qF) (o := rnBox g1 g2 g3) (by simp)))
  go_upto_region 25 with fail
  (have hT := hN.alloc (.cells #[.int .i64 2, .int .i64 3, .int .i64 3, .slice (some ⟨g1, 0, none⟩) 2 2, .slice (some ⟨g2, 0, none⟩) 2 2, .slice (some ⟨g3, 0, none⟩) 2 2] 29)
   have hlt := fun p hp => hN.lt (p := p) hp
   clear hN lF y0 y1 y2 y3 y4 y5
   generalize hg : wx.heap.size = qH at hT hlt ⊢
   clear hg
   have hN := hT
   clear hT
   generalize (wx.alloc (.cells #[.int .i64 2, .int .i64 3, .int .i64 3, .slice (some ⟨g1, 0, none⟩) 2 2, .slice (some ⟨g2, 0, none⟩) 2 2, .slice (some ⟨g3, 0, none⟩) 2 2] 29)) = wy at hN ⊢
   clear wx
   obtain ⟨wx, rfl⟩ : ∃ x : World, x = wy := ⟨_, rfl⟩)
  replace hlt := Lib.hid hlt
  go_wp2_with fail
  refine (law23_d 98 _).mono ?_
  rintro e wz ⟨rfl, hb⟩
  have hT := hN.below hb
  clear hN hb
  have hN := hT
  clear hT
  go_wp2_with fail
  refine (law23_d 97 _).mono ?_
  rintro e wx ⟨rfl, hb⟩
  have hT := hN.below hb
  clear hN hb
  have hN := hT
  clear hT
  obtain ⟨lM, z0, z1, z2, z3, z4, z5, fz⟩ := box_cells hN.head
  have fz4 := fz 4
  go_upto_region 26 with fail
  have hne := fun p hp => Nat.ne_of_lt (hlt.out p hp)
  have hT := (hN.set hne 4 (.slice (some ⟨wx.heap.size, 0, none⟩) 2 2)).alloc rnOH
  rw [show (wx.setCell ⟨qH, 4, none⟩ (.slice (some ⟨wx.heap.size, 0, none⟩) 2 2)).heap.size = wx.heap.size by simp] at hT
  clear hN hne hlt z0 z1 z2 z3 z4 z5 fz fz4 lM
  generalize hg : wx.heap.size = g4 at hT ⊢
  clear hg
  have hN : Nb w9 ((wx.setCell ⟨qH, 4, none⟩ (.slice (some ⟨g4, 0, none⟩) 2 2)).alloc (.cells #[.string (letterRoot 98), .string (letterRoot 97)] 9)) [(g4, rnOH), (qH, .cells #[.int .i64 2, .int .i64 3, .int .i64 3, .slice (some ⟨g1, 0, none⟩) 2 2, .slice (some ⟨g4, 0, none⟩) 2 2, .slice (some ⟨g3, 0, none⟩) 2 2] 29), (qS, .cells #[.int .i64 2, .int .i64 3, .int .i64 3, .slice (some ⟨bu8, 0, none⟩) 2 2, .slice (some ⟨g2, 0, none⟩) 2 2, .slice (some ⟨g3, 0, none⟩) 2 2] 29), (bu8, rnOS), (qL, (.cells #[.int .i64 2, .int .i64 3, .int .i64 2147483649, .slice (some ⟨g1, 0, none⟩) 2 2, .slice (some ⟨g2, 0, none⟩) 2 2, .slice (some ⟨g3, 0, none⟩) 2 2] 29)), (qE, (.cells #[.int .i64 2, .int .i64 3, .int .i64 2, .slice (some ⟨g1, 0, none⟩) 2 2, .slice (some ⟨g2, 0, none⟩) 2 2, .slice (some ⟨g3, 0, none⟩) 2 2] 29)), (qC, (.cells #[.int .i64 3, .int .i64 2, .int .i64 3, .slice (some ⟨g1, 0, none⟩) 2 2, .slice (some ⟨g2, 0, none⟩) 2 2, .slice (some ⟨g3, 0, none⟩) 2 2] 29))] := hT
  clear hT
  generalize ((wx.setCell ⟨qH, 4, none⟩ (.slice (some ⟨g4, 0, none⟩) 2 2)).alloc (.cells #[.string (letterRoot 98), .string (letterRoot 97)] 9)) = wy at hN ⊢
  obtain ⟨wx, rfl⟩ : ∃ x : World, x = wy := ⟨_, rfl⟩
  (obtain ⟨lF, y0, y1, y2, y3, y4, y5, -⟩ := box_cells ((hS9.out.below hN.bel).mem (q := qF) (o := rnBox g1 g2 g3) (by simp)))
  go_upto_region 28 with fail
  (have hT := hN.alloc (.cells #[.int .i64 2, .int .i64 3, .int .i64 2147483648, .slice (some ⟨g1, 0, none⟩) 2 2, .slice (some ⟨g2, 0, none⟩) 2 2, .slice (some ⟨g3, 0, none⟩) 2 2] 29)
   have hlt := fun p hp => hN.lt (p := p) hp
   clear hN lF y0 y1 y2 y3 y4 y5
   generalize hg : wx.heap.size = qZ at hT hlt ⊢
   clear hg
   have hN := hT
   clear hT
   generalize (wx.alloc (.cells #[.int .i64 2, .int .i64 3, .int .i64 2147483648, .slice (some ⟨g1, 0, none⟩) 2 2, .slice (some ⟨g2, 0, none⟩) 2 2, .slice (some ⟨g3, 0, none⟩) 2 2] 29)) = wy at hN ⊢
   clear wx
   obtain ⟨wx, rfl⟩ : ∃ x : World, x = wy := ⟨_, rfl⟩)
  clear hlt
  obtain ⟨T, hTv⟩ : ∃ T, T = str (stB rnZ) := ⟨_, rfl⟩
  have hM := root_Make (rnV g1 g2 g3) rnZ wx ((hS9.out.below hN.bel).st (g1 := g1) (g2 := g2) (g3 := g3) (by simp) (by simp) (by simp) 2 3 2147483648)
  rw [rnZ_make, ← hTv] at hM
  replace hTv := Lib.hid hTv
  unfold Rws.val stv rnZ at hM
  dsimp only at hM
  obtain ⟨lM, z0, z1, z2, z3, z4, z5, -⟩ := box_cells hN.head
  go_wp2_with fail
  refine hM.mono ?_
  rintro e wz ⟨rfl, hb⟩
  have hT := hN.below hb
  clear hN hb hM lM z0 z1 z2 z3 z4 z5
  have hN := hT
  clear hT
  have hR := root_Read (stB rnZ) wz rnZ_len
  rw [rnZ_read, ← hTv.out] at hR
  go_wp2_with fail
  refine hR.mono ?_
  rintro e wx ⟨⟨B1, m1, d1, B2, m2, d2, B3, m3, d3⟩, rfl, -, -, -, -, hb⟩
  have hT := hN.below hb
  clear hN hb hR
  have hN := hT
  clear hT
  unfold Rws.val stv rnZ
  dsimp only
  go_upto_region 30 with fail
  have hT := hN.alloc (.cells #[.int .i64 2, .int .i64 3, .int .i64 2147483648, .slice B1 m1 d1, .slice B2 m2 d2, .slice B3 m3 d3] 29)
  clear hN
  have hN := hT
  clear hT
  generalize hg : wx.heap.size = qY at hN ⊢
  clear hg
  generalize (wx.alloc (.cells #[.int .i64 2, .int .i64 3, .int .i64 2147483648, .slice B1 m1 d1, .slice B2 m2 d2, .slice B3 m3 d3] 29)) = wy at hN ⊢
  obtain ⟨wx, rfl⟩ : ∃ x : World, x = wy := ⟨_, rfl⟩
  (obtain ⟨l0, z0, z1, z2, z3, z4, z5, -⟩ := box_cells (hN.mem (q := qC) (o := (.cells #[.int .i64 3, .int .i64 2, .int .i64 3, .slice (some ⟨g1, 0, none⟩) 2 2, .slice (some ⟨g2, 0, none⟩) 2 2, .slice (some ⟨g3, 0, none⟩) 2 2] 29)) (by simp))
   go_wp2_with fail
   have hC := law23_refused (rnV g1 g2 g3) ⟨3, 2, 3, rnSn, rnCs, rnPs⟩ wx ((hS9.out.below hN.bel).st (by simp) (by simp) (by simp) 3 2 3)
   rw [rn_code] at hC
   unfold Rws.val stv at hC
   dsimp only at hC
   refine hC.mono ?_
   rintro e wz ⟨rfl, hb⟩
   have hT := hN.below hb
   clear hN hb hC l0 z0 z1 z2 z3 z4 z5
   have hN := hT
   clear hT
   obtain ⟨wx, rfl⟩ : ∃ x : World, x = wz := ⟨_, rfl⟩)
  (obtain ⟨l0, z0, z1, z2, z3, z4, z5, -⟩ := box_cells (hN.mem (q := qE) (o := (.cells #[.int .i64 2, .int .i64 3, .int .i64 2, .slice (some ⟨g1, 0, none⟩) 2 2, .slice (some ⟨g2, 0, none⟩) 2 2, .slice (some ⟨g3, 0, none⟩) 2 2] 29)) (by simp))
   go_wp2_with fail
   have hC := law23_refused (rnV g1 g2 g3) ⟨2, 3, 2, rnSn, rnCs, rnPs⟩ wx ((hS9.out.below hN.bel).st (by simp) (by simp) (by simp) 2 3 2)
   rw [rn_early] at hC
   unfold Rws.val stv at hC
   dsimp only at hC
   refine hC.mono ?_
   rintro e wz ⟨rfl, hb⟩
   have hT := hN.below hb
   clear hN hb hC l0 z0 z1 z2 z3 z4 z5
   have hN := hT
   clear hT
   obtain ⟨wx, rfl⟩ : ∃ x : World, x = wz := ⟨_, rfl⟩)
  (obtain ⟨l0, z0, z1, z2, z3, z4, z5, -⟩ := box_cells (hN.mem (q := qL) (o := (.cells #[.int .i64 2, .int .i64 3, .int .i64 2147483649, .slice (some ⟨g1, 0, none⟩) 2 2, .slice (some ⟨g2, 0, none⟩) 2 2, .slice (some ⟨g3, 0, none⟩) 2 2] 29)) (by simp))
   go_wp2_with fail
   have hC := law23_refused (rnV g1 g2 g3) ⟨2, 3, 2147483649, rnSn, rnCs, rnPs⟩ wx ((hS9.out.below hN.bel).st (by simp) (by simp) (by simp) 2 3 2147483649)
   rw [rn_late] at hC
   unfold Rws.val stv at hC
   dsimp only at hC
   refine hC.mono ?_
   rintro e wz ⟨rfl, hb⟩
   have hT := hN.below hb
   clear hN hb hC l0 z0 z1 z2 z3 z4 z5
   have hN := hT
   clear hT
   obtain ⟨wx, rfl⟩ : ∃ x : World, x = wz := ⟨_, rfl⟩)
  (obtain ⟨l0, z0, z1, z2, z3, z4, z5, -⟩ := box_cells (hN.mem (q := qS) (o := .cells #[.int .i64 2, .int .i64 3, .int .i64 3, .slice (some ⟨bu8, 0, none⟩) 2 2, .slice (some ⟨g2, 0, none⟩) 2 2, .slice (some ⟨g3, 0, none⟩) 2 2] 29) (by simp))
   go_wp2_with fail
   have hC := law23_refused ⟨some ⟨bu8, 0, none⟩, 2, 2, some ⟨g2, 0, none⟩, 2, 2, some ⟨g3, 0, none⟩, 2, 2⟩ ⟨2, 3, 3, [⟨2, 0, letterRoot 113⟩, ⟨1, 1099511627776, letterRoot 114⟩], rnCs, rnPs⟩ wx ⟨rowHeap (k := 3) (enc := Snap.cells) (l := [⟨2, 0, letterRoot 113⟩, ⟨1, 1099511627776, letterRoot 114⟩]) (fun _ => rfl) (hN.mem (q := bu8) (o := rnOS) (by simp)) (by decide), rowHeap (k := 1) (enc := strCell) (l := rnCs) (fun _ => rfl) ((hS9.out.below hN.bel).mem (q := g2) (o := rnO2) (by simp)) (by decide), rowHeap (k := 3) (enc := Place.cells) (l := rnPs) (fun _ => rfl) ((hS9.out.below hN.bel).mem (q := g3) (o := rnO3) (by simp)) (by decide), rn_psok⟩
   rw [rn_snaps] at hC
   unfold Rws.val stv at hC
   dsimp only at hC
   refine hC.mono ?_
   rintro e wz ⟨rfl, hb⟩
   have hT := hN.below hb
   clear hN hb hC l0 z0 z1 z2 z3 z4 z5
   have hN := hT
   clear hT
   obtain ⟨wx, rfl⟩ : ∃ x : World, x = wz := ⟨_, rfl⟩)
  (obtain ⟨l0, z0, z1, z2, z3, z4, z5, -⟩ := box_cells (hN.mem (q := qH) (o := .cells #[.int .i64 2, .int .i64 3, .int .i64 3, .slice (some ⟨g1, 0, none⟩) 2 2, .slice (some ⟨g4, 0, none⟩) 2 2, .slice (some ⟨g3, 0, none⟩) 2 2] 29) (by simp))
   go_wp2_with fail
   have hC := law23_refused ⟨some ⟨g1, 0, none⟩, 2, 2, some ⟨g4, 0, none⟩, 2, 2, some ⟨g3, 0, none⟩, 2, 2⟩ ⟨2, 3, 3, rnSn, [lB, lA], rnPs⟩ wx ⟨rowHeap (k := 3) (enc := Snap.cells) (l := rnSn) (fun _ => rfl) ((hS9.out.below hN.bel).mem (q := g1) (o := rnO1) (by simp)) (by decide), rowHeap (k := 1) (enc := strCell) (l := [lB, lA]) (fun _ => rfl) (hN.mem (q := g4) (o := rnOH) (by simp)) (by decide), rowHeap (k := 3) (enc := Place.cells) (l := rnPs) (fun _ => rfl) ((hS9.out.below hN.bel).mem (q := g3) (o := rnO3) (by simp)) (by decide), rn_psok⟩
   rw [rn_chunks] at hC
   unfold Rws.val stv at hC
   dsimp only at hC
   refine hC.mono ?_
   rintro e wz ⟨rfl, hb⟩
   have hT := hN.below hb
   clear hN hb hC l0 z0 z1 z2 z3 z4 z5
   have hN := hT
   clear hT
   obtain ⟨wx, rfl⟩ : ∃ x : World, x = wz := ⟨_, rfl⟩)
  obtain ⟨l0, z0, z1, z2, z3, z4, z5, -⟩ := box_cells hN.head
  have hbe := hN.bel
  replace hN := Lib.hid hN
  go_upto_region 32 with fail
  clear l0 z0 z1 z2 z3 z4 z5
  have hsz : S.size = 245 := by rw [hSv.out, str_size]; exact rn_len
  refine region_krip (fun W : World => Below wx.heap.size wx W) (by kernel_rfl) ((Below.refl _ _).drew) ?_
  (refine kF.takeL (i := 0) (v := ?_) rfl (by kernel_rfl) (fun _ _ _ h => h) (Or.inl ⟨by rfl, ?_⟩) ?_
   rotate_left
   · (intro wS hSw; (try dsimp only at hSw); have hcS := fun b o (h : b < wx.heap.size) => hSw.cell (p := ⟨b, o, none⟩) h; go_simp; (try with_reducible rfl))
   try simp only [Act.put, List.setIfInBounds_toArray, List.set_cons_zero, List.set_cons_succ])
  (refine kF.takeL (i := 1) (v := ?_) rfl (by kernel_rfl) (fun _ _ _ h => h) (Or.inl ⟨by rfl, ?_⟩) ?_
   rotate_left
   · (intro wS hSw; (try dsimp only at hSw); have hcS := fun b o (h : b < wx.heap.size) => hSw.cell (p := ⟨b, o, none⟩) h; go_simp; (try with_reducible rfl))
   try simp only [Act.put, List.setIfInBounds_toArray, List.set_cons_zero, List.set_cons_succ])
  (refine kF.takeL (i := 2) (v := ?_) rfl (by kernel_rfl) (fun _ _ _ h => h) (Or.inl ⟨by rfl, ?_⟩) ?_
   rotate_left
   · (intro wS hSw; (try dsimp only at hSw); have hcS := fun b o (h : b < wx.heap.size) => hSw.cell (p := ⟨b, o, none⟩) h; go_simp; (try with_reducible rfl))
   try simp only [Act.put, List.setIfInBounds_toArray, List.set_cons_zero, List.set_cons_succ])
  (refine kF.takeL (i := 3) (v := ?_) rfl (by kernel_rfl) (fun _ _ _ h => h) (Or.inl ⟨by rfl, ?_⟩) ?_
   rotate_left
   · (intro wS hSw; (try dsimp only at hSw); have hcS := fun b o (h : b < wx.heap.size) => hSw.cell (p := ⟨b, o, none⟩) h; go_simp; (try with_reducible rfl))
   try simp only [Act.put, List.setIfInBounds_toArray, List.set_cons_zero, List.set_cons_succ])
  (refine kF.takeL (i := 4) (v := ?_) rfl (by kernel_rfl) (fun _ _ _ h => h) (Or.inl ⟨by rfl, ?_⟩) ?_
   rotate_left
   · (intro wS hSw; (try dsimp only at hSw); have hcS := fun b o (h : b < wx.heap.size) => hSw.cell (p := ⟨b, o, none⟩) h; go_simp; (try with_reducible rfl))
   try simp only [Act.put, List.setIfInBounds_toArray, List.set_cons_zero, List.set_cons_succ])
  (refine kF.takeL (i := 5) (v := .int .i64 244) rfl (by kernel_rfl) (fun _ _ _ h => h) (Or.inl ⟨by rfl, ?_⟩) ?_
   · (intro wS hSw; (try dsimp only at hSw); have hcS := fun b o (h : b < wx.heap.size) => hSw.cell (p := ⟨b, o, none⟩) h; go_simp; (first | done | rfl))
   try simp only [Act.put, List.setIfInBounds_toArray, List.set_cons_zero, List.set_cons_succ])
  (refine kF.takeL (i := 6) (v := ?_) rfl (by kernel_rfl) (fun _ _ _ h => h) (Or.inl ⟨by rfl, ?_⟩) ?_
   rotate_left
   · (intro wS hSw; (try dsimp only at hSw); have hcS := fun b o (h : b < wx.heap.size) => hSw.cell (p := ⟨b, o, none⟩) h; go_simp; (try with_reducible rfl))
   try simp only [Act.put, List.setIfInBounds_toArray, List.set_cons_zero, List.set_cons_succ])
  (refine kF.takeL (i := 7) (v := ?_) rfl (by kernel_rfl) (fun _ _ _ h => h) (Or.inl ⟨by rfl, ?_⟩) ?_
   rotate_left
   · (intro wS hSw; (try dsimp only at hSw); have hcS := fun b o (h : b < wx.heap.size) => hSw.cell (p := ⟨b, o, none⟩) h; go_simp; (try with_reducible rfl))
   try simp only [Act.put, List.setIfInBounds_toArray, List.set_cons_zero, List.set_cons_succ])
  (refine kF.takeL (i := 8) (v := ?_) rfl (by kernel_rfl) (fun _ _ _ h => h) (Or.inl ⟨by rfl, ?_⟩) ?_
   rotate_left
   · (intro wS hSw; (try dsimp only at hSw); have hcS := fun b o (h : b < wx.heap.size) => hSw.cell (p := ⟨b, o, none⟩) h; go_simp; (try with_reducible rfl))
   try simp only [Act.put, List.setIfInBounds_toArray, List.set_cons_zero, List.set_cons_succ])
  (refine kF.takeL (i := 9) (v := ?_) rfl (by kernel_rfl) (fun _ _ _ h => h) (Or.inl ⟨by rfl, ?_⟩) ?_
   rotate_left
   · (intro wS hSw; (try dsimp only at hSw); have hcS := fun b o (h : b < wx.heap.size) => hSw.cell (p := ⟨b, o, none⟩) h; go_simp; (try with_reducible rfl))
   try simp only [Act.put, List.setIfInBounds_toArray, List.set_cons_zero, List.set_cons_succ])
  (refine kF.takeL (i := 10) (v := ?_) rfl (by kernel_rfl) (fun _ _ _ h => h) (Or.inl ⟨by rfl, ?_⟩) ?_
   rotate_left
   · (intro wS hSw; (try dsimp only at hSw); have hcS := fun b o (h : b < wx.heap.size) => hSw.cell (p := ⟨b, o, none⟩) h; go_simp; (try with_reducible rfl))
   try simp only [Act.put, List.setIfInBounds_toArray, List.set_cons_zero, List.set_cons_succ])
  (refine kF.takeL (i := 11) (v := ?_) rfl (by kernel_rfl) (fun _ _ _ h => h) (Or.inl ⟨by rfl, ?_⟩) ?_
   rotate_left
   · (intro wS hSw; (try dsimp only at hSw); have hcS := fun b o (h : b < wx.heap.size) => hSw.cell (p := ⟨b, o, none⟩) h; go_simp; (try with_reducible rfl))
   try simp only [Act.put, List.setIfInBounds_toArray, List.set_cons_zero, List.set_cons_succ])
  (refine kF.takeL (i := 12) (v := ?_) rfl (by kernel_rfl) (fun _ _ _ h => h) (Or.inl ⟨by rfl, ?_⟩) ?_
   rotate_left
   · (intro wS hSw; (try dsimp only at hSw); have hcS := fun b o (h : b < wx.heap.size) => hSw.cell (p := ⟨b, o, none⟩) h; go_simp; (try with_reducible rfl))
   try simp only [Act.put, List.setIfInBounds_toArray, List.set_cons_zero, List.set_cons_succ])
  (refine kF.takeL (i := 13) (v := ?_) rfl (by kernel_rfl) (fun _ _ _ h => h) (Or.inl ⟨by rfl, ?_⟩) ?_
   rotate_left
   · (intro wS hSw; (try dsimp only at hSw); have hcS := fun b o (h : b < wx.heap.size) => hSw.cell (p := ⟨b, o, none⟩) h; go_simp; (try with_reducible rfl))
   try simp only [Act.put, List.setIfInBounds_toArray, List.set_cons_zero, List.set_cons_succ])
  (refine kF.takeL (i := 14) (v := ?_) rfl (by kernel_rfl) (fun _ _ _ h => h) (Or.inl ⟨by rfl, ?_⟩) ?_
   rotate_left
   · (intro wS hSw; (try dsimp only at hSw); have hcS := fun b o (h : b < wx.heap.size) => hSw.cell (p := ⟨b, o, none⟩) h; go_simp; (try with_reducible rfl))
   try simp only [Act.put, List.setIfInBounds_toArray, List.set_cons_zero, List.set_cons_succ])
  (refine kF.takeL (i := 15) (v := ?_) rfl (by kernel_rfl) (fun _ _ _ h => h) (Or.inl ⟨by rfl, ?_⟩) ?_
   rotate_left
   · (intro wS hSw; (try dsimp only at hSw); have hcS := fun b o (h : b < wx.heap.size) => hSw.cell (p := ⟨b, o, none⟩) h; go_simp; (try with_reducible rfl))
   try simp only [Act.put, List.setIfInBounds_toArray, List.set_cons_zero, List.set_cons_succ])
  (refine kF.takeL (i := 16) (v := ?_) rfl (by kernel_rfl) (fun _ _ _ h => h) (Or.inl ⟨by rfl, ?_⟩) ?_
   rotate_left
   · (intro wS hSw; (try dsimp only at hSw); have hcS := fun b o (h : b < wx.heap.size) => hSw.cell (p := ⟨b, o, none⟩) h; go_simp; (try with_reducible rfl))
   try simp only [Act.put, List.setIfInBounds_toArray, List.set_cons_zero, List.set_cons_succ])
  (refine kF.takeL (i := 17) (v := ?_) rfl (by kernel_rfl) (fun _ _ _ h => h) (Or.inl ⟨by rfl, ?_⟩) ?_
   rotate_left
   · (intro wS hSw; (try dsimp only at hSw); have hcS := fun b o (h : b < wx.heap.size) => hSw.cell (p := ⟨b, o, none⟩) h; go_simp; (try with_reducible rfl))
   try simp only [Act.put, List.setIfInBounds_toArray, List.set_cons_zero, List.set_cons_succ])
  (refine kF.takeL (i := 18) (v := ?_) rfl (by kernel_rfl) (fun _ _ _ h => h) (Or.inl ⟨by rfl, ?_⟩) ?_
   rotate_left
   · (intro wS hSw; (try dsimp only at hSw); have hcS := fun b o (h : b < wx.heap.size) => hSw.cell (p := ⟨b, o, none⟩) h; go_simp; (try with_reducible rfl))
   try simp only [Act.put, List.setIfInBounds_toArray, List.set_cons_zero, List.set_cons_succ])
  (refine kF.takeL (i := 19) (v := ?_) rfl (by kernel_rfl) (fun _ _ _ h => h) (Or.inl ⟨by rfl, ?_⟩) ?_
   rotate_left
   · (intro wS hSw; (try dsimp only at hSw); have hcS := fun b o (h : b < wx.heap.size) => hSw.cell (p := ⟨b, o, none⟩) h; go_simp; (try with_reducible rfl))
   try simp only [Act.put, List.setIfInBounds_toArray, List.set_cons_zero, List.set_cons_succ])
  (refine kF.takeL (i := 20) (v := ?_) rfl (by kernel_rfl) (fun _ _ _ h => h) (Or.inl ⟨by rfl, ?_⟩) ?_
   rotate_left
   · (intro wS hSw; (try dsimp only at hSw); have hcS := fun b o (h : b < wx.heap.size) => hSw.cell (p := ⟨b, o, none⟩) h; go_simp; (try with_reducible rfl))
   try simp only [Act.put, List.setIfInBounds_toArray, List.set_cons_zero, List.set_cons_succ])
  (refine kF.takeL (i := 21) (v := ?_) rfl (by kernel_rfl) (fun _ _ _ h => h) (Or.inl ⟨by rfl, ?_⟩) ?_
   rotate_left
   · (intro wS hSw; (try dsimp only at hSw); have hcS := fun b o (h : b < wx.heap.size) => hSw.cell (p := ⟨b, o, none⟩) h; go_simp; (try with_reducible rfl))
   try simp only [Act.put, List.setIfInBounds_toArray, List.set_cons_zero, List.set_cons_succ])
  (refine kF.takeL (i := 22) (v := ?_) rfl (by kernel_rfl) (fun _ _ _ h => h) (Or.inl ⟨by rfl, ?_⟩) ?_
   rotate_left
   · (intro wS hSw; (try dsimp only at hSw); have hcS := fun b o (h : b < wx.heap.size) => hSw.cell (p := ⟨b, o, none⟩) h; go_simp; (try with_reducible rfl))
   try simp only [Act.put, List.setIfInBounds_toArray, List.set_cons_zero, List.set_cons_succ])
  (refine kF.takeL (i := 23) (v := ?_) rfl (by kernel_rfl) (fun _ _ _ h => h) (Or.inl ⟨by rfl, ?_⟩) ?_
   rotate_left
   · (intro wS hSw; (try dsimp only at hSw); have hcS := fun b o (h : b < wx.heap.size) => hSw.cell (p := ⟨b, o, none⟩) h; go_simp; (try with_reducible rfl))
   try simp only [Act.put, List.setIfInBounds_toArray, List.set_cons_zero, List.set_cons_succ])
  (refine kF.takeL (i := 24) (v := ?_) rfl (by kernel_rfl) (fun _ _ _ h => h) (Or.inl ⟨by rfl, ?_⟩) ?_
   rotate_left
   · (intro wS hSw; (try dsimp only at hSw); have hcS := fun b o (h : b < wx.heap.size) => hSw.cell (p := ⟨b, o, none⟩) h; go_simp; (try with_reducible rfl))
   try simp only [Act.put, List.setIfInBounds_toArray, List.set_cons_zero, List.set_cons_succ])
  (refine kF.takeL (i := 25) (v := ?_) rfl (by kernel_rfl) (fun _ _ _ h => h) (Or.inl ⟨by rfl, ?_⟩) ?_
   rotate_left
   · (intro wS hSw; (try dsimp only at hSw); have hcS := fun b o (h : b < wx.heap.size) => hSw.cell (p := ⟨b, o, none⟩) h; go_simp; (try with_reducible rfl))
   try simp only [Act.put, List.setIfInBounds_toArray, List.set_cons_zero, List.set_cons_succ])
  (refine kF.takeL (i := 26) (v := ?_) rfl (by kernel_rfl) (fun _ _ _ h => h) (Or.inl ⟨by rfl, ?_⟩) ?_
   rotate_left
   · (intro wS hSw; (try dsimp only at hSw); have hcS := fun b o (h : b < wx.heap.size) => hSw.cell (p := ⟨b, o, none⟩) h; go_simp; (try with_reducible rfl))
   try simp only [Act.put, List.setIfInBounds_toArray, List.set_cons_zero, List.set_cons_succ])
  (refine kF.takeL (i := 27) (v := ?_) rfl (by kernel_rfl) (fun _ _ _ h => h) (Or.inl ⟨by rfl, ?_⟩) ?_
   rotate_left
   · (intro wS hSw; (try dsimp only at hSw); have hcS := fun b o (h : b < wx.heap.size) => hSw.cell (p := ⟨b, o, none⟩) h; go_simp; (try with_reducible rfl))
   try simp only [Act.put, List.setIfInBounds_toArray, List.set_cons_zero, List.set_cons_succ])
  (refine kF.takeL (i := 28) (v := ?_) rfl (by kernel_rfl) (fun _ _ _ h => h) (Or.inl ⟨by rfl, ?_⟩) ?_
   rotate_left
   · (intro wS hSw; (try dsimp only at hSw); have hcS := fun b o (h : b < wx.heap.size) => hSw.cell (p := ⟨b, o, none⟩) h; go_simp; (try with_reducible rfl))
   try simp only [Act.put, List.setIfInBounds_toArray, List.set_cons_zero, List.set_cons_succ])
  (refine kF.takeL (i := 29) (v := ?_) rfl (by kernel_rfl) (fun _ _ _ h => h) (Or.inl ⟨by rfl, ?_⟩) ?_
   rotate_left
   · (intro wS hSw; (try dsimp only at hSw); have hcS := fun b o (h : b < wx.heap.size) => hSw.cell (p := ⟨b, o, none⟩) h; go_simp; (try with_reducible rfl))
   try simp only [Act.put, List.setIfInBounds_toArray, List.set_cons_zero, List.set_cons_succ])
  (refine kF.takeL (i := 30) (v := ?_) rfl (by kernel_rfl) (fun _ _ _ h => h) (Or.inl ⟨by rfl, ?_⟩) ?_
   rotate_left
   · (intro wS hSw; (try dsimp only at hSw); have hcS := fun b o (h : b < wx.heap.size) => hSw.cell (p := ⟨b, o, none⟩) h; go_simp; (try with_reducible rfl))
   try simp only [Act.put, List.setIfInBounds_toArray, List.set_cons_zero, List.set_cons_succ])
  (refine kF.takeL (i := 31) (v := ?_) rfl (by kernel_rfl) (fun _ _ _ h => h) (Or.inl ⟨by rfl, ?_⟩) ?_
   rotate_left
   · (intro wS hSw; (try dsimp only at hSw); have hcS := fun b o (h : b < wx.heap.size) => hSw.cell (p := ⟨b, o, none⟩) h; go_simp; (try with_reducible rfl))
   try simp only [Act.put, List.setIfInBounds_toArray, List.set_cons_zero, List.set_cons_succ])
  (refine kF.takeL (i := 32) (v := ?_) rfl (by kernel_rfl) (fun _ _ _ h => h) (Or.inl ⟨by rfl, ?_⟩) ?_
   rotate_left
   · (intro wS hSw; (try dsimp only at hSw); have hcS := fun b o (h : b < wx.heap.size) => hSw.cell (p := ⟨b, o, none⟩) h; go_simp; (try with_reducible rfl))
   try simp only [Act.put, List.setIfInBounds_toArray, List.set_cons_zero, List.set_cons_succ])
  (refine kF.takeL (i := 33) (v := ?_) rfl (by kernel_rfl) (fun _ _ _ h => h) (Or.inl ⟨by rfl, ?_⟩) ?_
   rotate_left
   · (intro wS hSw; (try dsimp only at hSw); have hcS := fun b o (h : b < wx.heap.size) => hSw.cell (p := ⟨b, o, none⟩) h; go_simp; (try with_reducible rfl))
   try simp only [Act.put, List.setIfInBounds_toArray, List.set_cons_zero, List.set_cons_succ])
  (refine kF.takeL (i := 34) (v := ?_) rfl (by kernel_rfl) (fun _ _ _ h => h) (Or.inl ⟨by rfl, ?_⟩) ?_
   rotate_left
   · (intro wS hSw; (try dsimp only at hSw); have hcS := fun b o (h : b < wx.heap.size) => hSw.cell (p := ⟨b, o, none⟩) h; go_simp; (try with_reducible rfl))
   try simp only [Act.put, List.setIfInBounds_toArray, List.set_cons_zero, List.set_cons_succ])
  (refine kF.takeL (i := 35) (v := ?_) rfl (by kernel_rfl) (fun _ _ _ h => h) (Or.inl ⟨by rfl, ?_⟩) ?_
   rotate_left
   · (intro wS hSw; (try dsimp only at hSw); have hcS := fun b o (h : b < wx.heap.size) => hSw.cell (p := ⟨b, o, none⟩) h; go_simp; (try with_reducible rfl))
   try simp only [Act.put, List.setIfInBounds_toArray, List.set_cons_zero, List.set_cons_succ])
  (refine kF.takeL (i := 36) (v := ?_) rfl (by kernel_rfl) (fun _ _ _ h => h) (Or.inl ⟨by rfl, ?_⟩) ?_
   rotate_left
   · (intro wS hSw; (try dsimp only at hSw); have hcS := fun b o (h : b < wx.heap.size) => hSw.cell (p := ⟨b, o, none⟩) h; go_simp; (try with_reducible rfl))
   try simp only [Act.put, List.setIfInBounds_toArray, List.set_cons_zero, List.set_cons_succ])
  (refine kF.takeL (i := 37) (v := ?_) rfl (by kernel_rfl) (fun _ _ _ h => h) (Or.inl ⟨by rfl, ?_⟩) ?_
   rotate_left
   · (intro wS hSw; (try dsimp only at hSw); have hcS := fun b o (h : b < wx.heap.size) => hSw.cell (p := ⟨b, o, none⟩) h; go_simp; (try with_reducible rfl))
   try simp only [Act.put, List.setIfInBounds_toArray, List.set_cons_zero, List.set_cons_succ])
  (refine kF.takeL (i := 38) (v := ?_) rfl (by kernel_rfl) (fun _ _ _ h => h) (Or.inl ⟨by rfl, ?_⟩) ?_
   rotate_left
   · (intro wS hSw; (try dsimp only at hSw); have hcS := fun b o (h : b < wx.heap.size) => hSw.cell (p := ⟨b, o, none⟩) h; go_simp; (try with_reducible rfl))
   try simp only [Act.put, List.setIfInBounds_toArray, List.set_cons_zero, List.set_cons_succ])
  (refine kF.takeL (i := 39) (v := ?_) rfl (by kernel_rfl) (fun _ _ _ h => h) (Or.inl ⟨by rfl, ?_⟩) ?_
   rotate_left
   · (intro wS hSw; (try dsimp only at hSw); have hcS := fun b o (h : b < wx.heap.size) => hSw.cell (p := ⟨b, o, none⟩) h; go_simp; (try with_reducible rfl))
   try simp only [Act.put, List.setIfInBounds_toArray, List.set_cons_zero, List.set_cons_succ])
  (refine kF.takeL (i := 40) (v := ?_) rfl (by kernel_rfl) (fun _ _ _ h => h) (Or.inl ⟨by rfl, ?_⟩) ?_
   rotate_left
   · (intro wS hSw; (try dsimp only at hSw); have hcS := fun b o (h : b < wx.heap.size) => hSw.cell (p := ⟨b, o, none⟩) h; go_simp; (try with_reducible rfl))
   try simp only [Act.put, List.setIfInBounds_toArray, List.set_cons_zero, List.set_cons_succ])
  (refine kF.takeL (i := 41) (v := ?_) rfl (by kernel_rfl) (fun _ _ _ h => h) (Or.inl ⟨by rfl, ?_⟩) ?_
   rotate_left
   · (intro wS hSw; (try dsimp only at hSw); have hcS := fun b o (h : b < wx.heap.size) => hSw.cell (p := ⟨b, o, none⟩) h; go_simp; (try with_reducible rfl))
   try simp only [Act.put, List.setIfInBounds_toArray, List.set_cons_zero, List.set_cons_succ])
  (refine kF.takeL (i := 42) (v := ?_) rfl (by kernel_rfl) (fun _ _ _ h => h) (Or.inl ⟨by rfl, ?_⟩) ?_
   rotate_left
   · (intro wS hSw; (try dsimp only at hSw); have hcS := fun b o (h : b < wx.heap.size) => hSw.cell (p := ⟨b, o, none⟩) h; go_simp; (try with_reducible rfl))
   try simp only [Act.put, List.setIfInBounds_toArray, List.set_cons_zero, List.set_cons_succ])
  (refine kF.takeL (i := 43) (v := ?_) rfl (by kernel_rfl) (fun _ _ _ h => h) (Or.inl ⟨by rfl, ?_⟩) ?_
   rotate_left
   · (intro wS hSw; (try dsimp only at hSw); have hcS := fun b o (h : b < wx.heap.size) => hSw.cell (p := ⟨b, o, none⟩) h; go_simp; (try with_reducible rfl))
   try simp only [Act.put, List.setIfInBounds_toArray, List.set_cons_zero, List.set_cons_succ])
  (refine kF.takeL (i := 44) (v := ?_) rfl (by kernel_rfl) (fun _ _ _ h => h) (Or.inl ⟨by rfl, ?_⟩) ?_
   rotate_left
   · (intro wS hSw; (try dsimp only at hSw); have hcS := fun b o (h : b < wx.heap.size) => hSw.cell (p := ⟨b, o, none⟩) h; go_simp; (try with_reducible rfl))
   try simp only [Act.put, List.setIfInBounds_toArray, List.set_cons_zero, List.set_cons_succ])
  (refine kF.takeL (i := 45) (v := ?_) rfl (by kernel_rfl) (fun _ _ _ h => h) (Or.inl ⟨by rfl, ?_⟩) ?_
   rotate_left
   · (intro wS hSw; (try dsimp only at hSw); have hcS := fun b o (h : b < wx.heap.size) => hSw.cell (p := ⟨b, o, none⟩) h; go_simp; (try with_reducible rfl))
   try simp only [Act.put, List.setIfInBounds_toArray, List.set_cons_zero, List.set_cons_succ])
  (refine kF.takeL (i := 48) (v := ?_) rfl (by kernel_rfl) (fun _ _ _ h => h) (Or.inl ⟨by rfl, ?_⟩) ?_
   rotate_left
   · (intro wS hSw; (try dsimp only at hSw); have hcS := fun b o (h : b < wx.heap.size) => hSw.cell (p := ⟨b, o, none⟩) h; go_simp; (try with_reducible rfl))
   try simp only [Act.put, List.setIfInBounds_toArray, List.set_cons_zero, List.set_cons_succ])
  (refine kF.newL (i := 46) (fun b => .slice (some ⟨b, 0, none⟩) 12 12) (.cells #[.string (⟨#[]⟩), .string (⟨#[115, 116, 97, 49]⟩), .string (S ++ ⟨#[120]⟩), .string (S.extract 0 244), .string (⟨#[115, 116, 97, 50]⟩ ++ S.extract 4 245), .string (S.extract 0 4 ++ ⟨#[4]⟩ ++ S.extract 5 245), .string (S.extract 0 6 ++ ⟨#[128, 0, 0, 1]⟩ ++ S.extract 10 245), .string (S.extract 0 10 ++ ⟨#[3]⟩ ++ S.extract 11 245), .string (S.extract 0 10 ++ ⟨#[255]⟩ ++ S.extract 11 245), .string (S.extract 0 15 ++ ⟨#[255]⟩ ++ S.extract 16 245), .string (S.extract 0 99 ++ ⟨#[255, 255]⟩ ++ S.extract 101 245), .string (⟨#[115, 116, 97, 49, 2, 3, 0, 0, 0, 1, 0, 0]⟩)] 9) rfl (by kernel_rfl) (by rfl) ?_ ?_
   · (intro wS; go_simp; (try with_reducible rfl)))
  (refine kF.settleL (by kernel_rfl) (fun _ _ h1 h2 => below_S (Nat.le_refl _) h1 h2) (fun u46 hbu46 hSu46 v hv => ?_)
   obtain ⟨bu46, hBu46, rfl, hxu46⟩ := hv
   try simp only [Act.put, List.setIfInBounds_toArray, List.set_cons_zero, List.set_cons_succ])
  (refine kF.takeL (i := 47) (v := ?_) rfl (by kernel_rfl) (fun _ _ _ h => h) (Or.inl ⟨by rfl, ?_⟩) ?_
   rotate_left
   · (intro wS hSw; (try dsimp only at hSw); have hcS := fun b o (h : b < wx.heap.size) => hSw.cell (p := ⟨b, o, none⟩) h; go_simp; (try with_reducible rfl))
   try simp only [Act.put, List.setIfInBounds_toArray, List.set_cons_zero, List.set_cons_succ])
  refine kF.done (by kernel_rfl) ?_
  have hrow := rn_row hxu46
  have hall : ∀ b ∈ rnBadS S, readRes (bl b) = (stZero, 4) ∧ (bl b).length ≤ 100000 := by rw [hSv.out]; exact fun b hb => rnBadS_no hb
  have hbu : Below w.heap.size w u46 := (hS9.out.bel.trans (hbe.mono hS9.out.bel.size)).trans (hSu46.mono (Nat.le_trans hS9.out.bel.size hbe.size))
  replace hrow := Lib.hid hrow
  replace hall := Lib.hid hall
  clear hxu46 hSu46 hbu46 hBu46 hbe hN hsz eS hlt6 h9q hS9 hX9
  go_wp2_with fail
  go_loopw [19, 20, 21, 230] (fun _ _ _ ti wr => ∃ k : Nat, k ≤ 12 ∧ ti = .int .i64 k ∧ Below u46.heap.size u46 wr) (fun _ _ _ ti _ => 12 - (intOf ti).toNat)
  case atStart => exact ⟨0, Nat.zero_le _, rfl, Below.refl _ _⟩
  obtain ⟨k, hk, rfl, hbr⟩ := hrel
  obtain ⟨wp, rfl⟩ : ∃ x : World, x = wr := ⟨_, rfl⟩
  rcases Nat.lt_or_ge k 12 with hlt | hge
  case inl =>
    obtain ⟨b9, o9, y, e9, hb9, hx, c0⟩ := (hrow.out.to hbr).str hlt
    cases e9
    simp only [Nat.zero_add] at c0
    obtain ⟨hy1, hy2⟩ := hall.out y (List.mem_of_getElem? hx)
    have hR := root_Read (bl y) wp hy2
    rw [hy1, str_bl] at hR
    clear hx hy1 hy2 hb9
    go_wp2_with fail
    refine hR.mono ?_
    rintro e wz ⟨⟨B1, m1, d1, B2, m2, d2, B3, m3, d3⟩, rfl, o1, o2, o3, -, hb⟩
    obtain rfl := Owns.nil_len o1
    obtain rfl := Owns.nil_len o2
    obtain rfl := Owns.nil_len o3
    have hC := Lib.hid fun W (hW : Below wz.heap.size wz W) => ref17_Same ⟨B1, 0, d1, B2, 0, d2, B3, 0, d3⟩ ⟨none, 0, 0, none, 0, 0, none, 0, 0⟩ stZero stZero W ⟨(Owns.row (k := 3) (fun x => snapE.len x) o1).to hW, (Owns.row (k := 1) (fun x => strE.len x) o2).to hW, (Owns.row (k := 3) (fun x => placeE.len x) o3).to hW, by simp [stZero]⟩ ⟨RowAt.none_, RowAt.none_, RowAt.none_, by simp [stZero]⟩
    rw [sameSt_zero] at hC
    unfold Rws.val stv stZero at hC
    unfold Rws.val stv stZero
    dsimp only at hC ⊢
    have hbz := hbr.trans (hb.mono hbr.size)
    clear hR o1 o2 o3 hb
    go_wp2_with fail
    refine (hC.out _ (by repeat (first | exact Below.refl _ _ | assumption | refine Below.drew ?_ | refine below_drewN ?_ _ | refine Below.alloc ?_ (by first | omega | (simp; try omega)) _ | refine Below.setCell ?_ (by first | omega | (simp; try omega)) _ | (refine Below.trans ?_ (Below.mono (by assumption) (by first | omega | (simp; try omega))))))).mono ?_
    rintro e wy ⟨rfl, hb⟩
    have hby : Below u46.heap.size u46 wy := by
      have h1 : Below wz.heap.size wz (wz.alloc (.cells #[.int .i64 0, .int .i64 0, .int .i64 0, .slice B1 0 d1, .slice B2 0 d2, .slice B3 0 d3] 29)) := (Below.refl _ _).alloc (Nat.le_refl _) _
      exact (hbz.trans (h1.mono hbz.size)).trans (hb.mono (Nat.le_trans hbz.size h1.size))
    clear hC hb hbz
    go_wp2_with fail
    go_roundw
    case rel => exact ⟨k + 1, by omega, by go_num, hby⟩
    case measure => simp [intOf]; omega
  obtain rfl : k = 12 := by omega
  go_wp2_with fail
  go_ret
  exact ⟨rfl, hbu.trans (hbr.mono hbu.size)⟩
end Go.Proofs.Ytbfephekkfieaaa
