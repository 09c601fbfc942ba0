/-
  The examples of chapter 17: the contracts of d, at and works.
-/
import Derived.Test.YtbfephekkfieaaaLargeI
import Derived.Test.YtbfephekkfieaaaAddB
import Derived.Test.YtbfephekkfieaaaStepL
import Derived.Test.YtbfephekkfieaaaOfB
import Derived.Test.YtbfephekkfieaaaIdxPacks
import Derived.Test.YtbfephekkfieaaaLetters
import Derived.Test.YtbfephekkfieaaaKrip
namespace Go.Proofs.Ytbfephekkfieaaa
open Go.RowKit
attribute [local go_sem ↓] Go.wp_at_zero Go.wp_at_succ

set_option maxHeartbeats 1000000 in
theorem law17_d (c : UInt8) (w : World) :
    Calls Try.prog 15 #[.int .u8 c.toNat] w fun e w' => e = .returned (.string (letterRoot c)) ∧ Below w.heap.size w w' := by
  have hmk := make32
  go_enter Try.func15, Try.ntmps15
  go_wp2_with fail
  go_loopw [4] (fun i wr => ∃ k : Nat, k ≤ 32 ∧ i = .int .i64 k ∧ Owns 1 byteCell 5 wr w.heap.size (.slice (some ⟨w.heap.size, 0, none⟩) 32 32) (letters k c) ∧ Below w.heap.size w wr) (fun i _ => 32 - (intOf i).toNat)
  case atStart =>
    refine ⟨0, by omega, rfl, ?_, (by repeat (first | exact Below.refl _ _ | assumption | refine Below.drew ?_ | refine below_drewN ?_ _ | refine Below.alloc ?_ (by first | omega | (simp; try omega)) _ | refine Below.setCell ?_ (by first | omega | (simp; try omega)) _ | (refine Below.trans ?_ (Below.mono (by assumption) (by first | omega | (simp; try omega))))))⟩
    exact ⟨rfl, .inr ⟨w.heap.size, 32, zcells, rfl, Nat.le_refl _, heap_alloc_new w _, Nat.le_refl _, by simp [maxLen], rfl, rfl⟩⟩
  case round =>
    obtain ⟨k, hk, rfl, ho, hbw⟩ := hrel
    by_cases hlt : k < 32
    · have ho' := ho
      unfold Owns at ho'
      rw [letters_len hk] at ho'
      have hc := ho'.cellAt k (by omega)
      obtain ⟨x, hx⟩ := getElem_some (l := (letters k c).flatMap byteCell) (i := k) (by rw [flat_len byteCell_len, letters_len hk]; omega)
      rw [hx] at hc
      have hf := ho'.frozenAt k
      have hst := ho'.stored k (.int .u8 c.toNat)
      rw [flat_set, letters_set hlt] at hst
      replace hst := Lib.hid hst
      replace ho := Lib.hid ho
      replace ho' := Lib.hid ho'
      clear hx
      go_wp2
      go_roundw
      case rel => exact ⟨k + 1, by omega, by go_num, by unfold Owns; rw [letters_len (by omega)]; exact hst.out.1, (by repeat (first | exact Below.refl _ _ | assumption | refine Below.drew ?_ | refine below_drewN ?_ _ | refine Below.alloc ?_ (by first | omega | (simp; try omega)) _ | refine Below.setCell ?_ (by first | omega | (simp; try omega)) _ | (refine Below.trans ?_ (Below.mono (by assumption) (by first | omega | (simp; try omega))))))⟩
      case measure => simp [intOf]; omega
    · obtain rfl : k = 32 := by omega
      have hcv := run_bytes_str (c := 32) (ho.row byteCell_len)
      rw [show str (letters 32 c) = letterRoot c by simp [letters, letterRoot]] at hcv
      replace ho := Lib.hid ho
      go_wp2
      go_ret
      exact ⟨rfl, (by repeat (first | exact Below.refl _ _ | assumption | refine Below.drew ?_ | refine below_drewN ?_ _ | refine Below.alloc ?_ (by first | omega | (simp; try omega)) _ | refine Below.setCell ?_ (by first | omega | (simp; try omega)) _ | (refine Below.trans ?_ (Below.mono (by assumption) (by first | omega | (simp; try omega))))))⟩

set_option maxHeartbeats 1000000 in
theorem law17_at (c : UInt8) (f m : Int) (w : World) :
    Calls Try.prog 14 #[.int .u8 c.toNat, .int .i64 f, .int .i64 m] w fun e w' => e = .returned (.agg #[.string (letterRoot c), .int .i64 f, .int .i64 m]) ∧ Below w.heap.size w w' := by
  go_enter Try.func14, Try.ntmps14
  go_wp2_with fail
  refine (law17_d c _).mono ?_
  rintro e w1 ⟨rfl, hb1⟩
  have hz1 := hb1.size
  simp at hz1
  have hb9 : w1.heap[w.heap.size]? = some (.cells #[.string ⟨#[]⟩, .int .i64 0, .int .i64 0] 35) := (hb1.block _ (by simp)).trans (heap_alloc_new w _)
  have x0 := cell_of_row w1 w.heap.size 0 _ _ _ hb9
  have x1 := cell_of_row w1 w.heap.size 1 _ _ _ hb9
  have x2 := cell_of_row w1 w.heap.size 2 _ _ _ hb9
  have e0 : ∀ o, w1.frozen? ⟨w.heap.size, o, none⟩ = false := fun o => by simp [World.frozen?, hb9]
  have y0 := e0 0
  have y1 := e0 1
  have y2 := e0 2
  have hl : w.heap.size < w1.heap.size := by omega
  have hb8 := (heap_setCell (o := 2) (heap_setCell (o := 1) (heap_setCell (o := 0) hb9 (.string (letterRoot c))) (.int .i64 f)) (.int .i64 m))
  have t0 := cell_of_row _ w.heap.size 0 _ _ _ hb8
  have t1 := cell_of_row _ w.heap.size 1 _ _ _ hb8
  have t2 := cell_of_row _ w.heap.size 2 _ _ _ hb8
  have hfin : Hid (Below w.heap.size w (((w1.setCell ⟨w.heap.size, 0, none⟩ (.string (letterRoot c))).setCell ⟨w.heap.size, 1, none⟩ (.int .i64 f)).setCell ⟨w.heap.size, 2, none⟩ (.int .i64 m))) :=
    ((((((Below.refl _ _).alloc (Nat.le_refl _) _).trans (hb1.mono (by simp)))).setCell (p := ⟨w.heap.size, 0, none⟩) (Nat.le_refl _) _).setCell (p := ⟨w.heap.size, 1, none⟩) (Nat.le_refl _) _).setCell (p := ⟨w.heap.size, 2, none⟩) (Nat.le_refl _) _
  replace t0 := Lib.hid t0
  replace t1 := Lib.hid t1
  replace t2 := Lib.hid t2
  replace hb8 := Lib.hid hb8
  replace hb9 := Lib.hid hb9
  clear e0
  go_wp2_with fail
  have t0 := t0.out
  have t1 := t1.out
  have t2 := t2.out
  simp at t0 t1 t2
  exact bodyPost_ret (v := .agg #[.string (letterRoot c), .int .i64 f, .int .i64 m]) (by simp [results, Try.results14, go_sem, t0, t1, t2]) rfl ⟨rfl, hfin.out⟩

abbrev la : ByteArray := letterRoot 97
abbrev lb : ByteArray := letterRoot 98
def plc (c : UInt8) (f m : Int) : Place := ⟨letterRoot c, f, m⟩
theorem sLt_ab : sLt la lb = true := sLt_iff.2 (by decide +kernel)
theorem may_nil : mayIdx [] [] = true := by decide
theorem may_a : mayIdx [la] [plc 112 10 5] = true := by decide +kernel
theorem may_ab : mayIdx [la, lb] [plc 112 10 5, plc 112 15 5] = true :=
  mayIdx_of rfl (by decide) (by decide +kernel) (by decide +kernel) (List.pairwise_cons.2 ⟨by intro x hx; simp at hx; subst hx; exact sLt_ab, List.pairwise_singleton _ _⟩) (by decide +kernel)
theorem low_ab : lowB [la] lb = 1 := by rw [lowB_cons_lt sLt_ab]; rfl
theorem ne_ab : lb ∉ [la] := by decide +kernel
theorem add_1 : addIdx stNone [la] [plc 112 10 5] = (⟨0, 0, 0, [], [la], [plc 112 10 5]⟩, 0) :=
  addIdx_ok may_nil rfl (by decide) (by decide +kernel) (by simp [addGo, insAt, lowB, stNone]) (by simp) (by decide +kernel)
theorem add_2 : addIdx ⟨0, 0, 0, [], [la], [plc 112 10 5]⟩ [lb] [plc 112 12 5] = (stNone, 1) :=
  addIdx_apart may_a rfl (by decide) (by decide +kernel) (by rw [addGo, if_neg ne_ab, low_ab]; rfl) (by decide) (by decide +kernel)
theorem add_3 : addIdx ⟨0, 0, 0, [], [la], [plc 112 10 5]⟩ [lb] [plc 112 15 5] = (⟨0, 0, 0, [], [la, lb], [plc 112 10 5, plc 112 15 5]⟩, 0) :=
  addIdx_ok may_a rfl (by decide) (by decide +kernel) (by rw [addGo, if_neg ne_ab, low_ab]; rfl) (by decide) (by decide +kernel)
theorem add_4 : addIdx ⟨0, 0, 0, [], [la, lb], [plc 112 10 5, plc 112 15 5]⟩ [la] [plc 113 0 5] = (stNone, 6) :=
  addIdx_none may_ab rfl (by decide) (by decide +kernel) (by rw [addGo, if_pos (by decide +kernel)])
theorem find_0 : findP stNone la = (Place.zero, 5) := findP_out may_nil (by simp [stNone])
theorem find_1 : findP ⟨0, 0, 0, [], [la], [plc 112 10 5]⟩ la = (plc 112 10 5, 0) := stands_findP may_a ⟨0, rfl, rfl⟩
theorem packs_0 : packsRes stNone = ([], 0) := by decide
theorem of_1 : OfRes ⟨0, 0, 0, [], [la, lb], [plc 112 10 5, plc 112 15 5]⟩ (letterRoot 112) [la, lb] [plc 112 10 5, plc 112 15 5] 0 := by
  have h := ofL_of (pack := letterRoot 112) may_ab (l' := [0, 1]) (by rw [show inPack [plc 112 10 5, plc 112 15 5] (letterRoot 112) [plc 112 10 5, plc 112 15 5].length = [0, 1] by decide +kernel]) (by decide +kernel)
  exact .inr ⟨may_ab, _, h, rfl, rfl, .inr ⟨by simp, rfl⟩⟩

theorem eqL_same {α : Type} [DecidableEq α] (l : List α) : eqL l l = true := by simp [eqL]
theorem eqlPl (a : Place) (w : World) : (binOp .eql 35 (.agg #[.string a.pack, .int .i64 a.at_, .int .i64 a.len]) (.agg #[.string a.pack, .int .i64 a.at_, .int .i64 a.len])).run Try.prog w
    = .ok (.bool true) w := by
  have u2 := Try.underlying3
  have u9 := Try.underlying9
  have hS : Try.prog.underlying 35 = some (.struct (Try.prog.fieldsOf 35)) := by kernel_rfl
  have hp : Try.prog.stoodInHeld 35 = false := by kernel_rfl
  rw [run_eql_struct, show (10000 : Nat) = 9999 + 1 from rfl, run_equalIn_agg w 9999 _ _ _ hS hp]
  simp only [Program.fieldsOf, Try.underlying35]
  go_simp
theorem row1 {w : World} {b : Nat} {s : ByteArray} (h : w.heap[b]? = some (.cells #[.string s] 9)) : StrsAt w w.heap.size (some ⟨b, 0, none⟩) 1 [s] := by
  refine ⟨rfl, by omega, fun _ => ⟨b, 0, rfl, (Array.getElem?_eq_some_iff.1 h).1, fun i x hx j v hv => ?_⟩⟩
  rcases i with _ | i
  · simp at hx
    subst hx
    rcases j with _ | j <;> simp [strCell] at hv
    subst hv
    exact cell_of_row w b 0 _ _ _ h
  · simp at hx
theorem prow1 {w : World} {b : Nat} {p : Place} (h : PBox w b p) : PlacesAt w w.heap.size (some ⟨b, 0, none⟩) 1 [p] := by
  refine ⟨rfl, by omega, fun _ => ⟨b, 0, rfl, h.lt, fun i x hx j v hv => ?_⟩⟩
  rcases i with _ | i
  · simp at hx
    subst hx
    rcases j with _ | _ | _ | j <;> simp [Place.cells] at hv <;> subst hv
    · exact h.cells.1
    · exact h.cells.2.1
    · exact h.cells.2.2
  · simp at hx

theorem row2 {w : World} {b : Nat} {s t : ByteArray} (h : w.heap[b]? = some (.cells #[.string s, .string t] 9)) : StrsAt w w.heap.size (some ⟨b, 0, none⟩) 2 [s, t] := by
  refine ⟨rfl, by omega, fun _ => ⟨b, 0, rfl, (Array.getElem?_eq_some_iff.1 h).1, fun i x hx j v hv => ?_⟩⟩
  rcases i with _ | _ | i <;> simp at hx <;> subst hx <;> rcases j with _ | j <;> simp [strCell] at hv <;> subst hv
  · exact cell_of_row w b 0 _ _ _ h
  · exact cell_of_row w b 1 _ _ _ h
theorem prow2 {w : World} {b : Nat} {p q : Place} (h : w.heap[b]? = some (.cells #[.string p.pack, .int .i64 p.at_, .int .i64 p.len, .string q.pack, .int .i64 q.at_, .int .i64 q.len] 35)) : PlacesAt w w.heap.size (some ⟨b, 0, none⟩) 2 [p, q] := by
  refine ⟨rfl, by omega, fun _ => ⟨b, 0, rfl, (Array.getElem?_eq_some_iff.1 h).1, fun i x hx j v hv => ?_⟩⟩
  rcases i with _ | _ | i <;> simp at hx <;> subst hx <;> rcases j with _ | _ | _ | j <;> simp [Place.cells] at hv <;> subst hv
  · exact cell_of_row w b 0 _ _ _ h
  · exact cell_of_row w b 1 _ _ _ h
  · exact cell_of_row w b 2 _ _ _ h
  · exact cell_of_row w b 3 _ _ _ h
  · exact cell_of_row w b 4 _ _ _ h
  · exact cell_of_row w b 5 _ _ _ h
theorem blkB {w w' : World} {b : Nat} {o : Obj} (h : w.heap[b]? = some o) (hb : Below w.heap.size w w') : w'.heap[b]? = some o := (hb.block b (Array.getElem?_eq_some_iff.1 h).1).trans h
theorem plcOk (c : UInt8) {f m : Int} (h : 0 ≤ f ∧ f ≤ 1000 ∧ 0 ≤ m ∧ m ≤ 1000) : ∀ p ∈ [plc c f m], PlaceOk p := by
  intro p hp
  simp at hp
  subst hp
  simp only [plc, PlaceOk]
  omega
theorem add_call {r : Rws} {s R : St} {z : Int} {d : ByteArray} {p : Place} (he : addIdx s [d] [p] = (R, z)) (hp : ∀ q ∈ [p], PlaceOk q) (b2 b4 : Nat) (W : World) (hs : StAt W W.heap.size r s) (h2 : W.heap[b2]? = some (.cells #[.string d] 9))
    (h4 : W.heap[b4]? = some (.cells #[.string p.pack, .int .i64 p.at_, .int .i64 p.len] 35)) :
    Calls Try.prog 16 #[.agg #[.int .i64 s.k, .int .i64 s.n, .int .i64 s.next, .slice r.A1 r.n1 r.c1, .slice r.A2 r.n2 r.c2, .slice r.A3 r.n3 r.c3], .slice (some ⟨b2, 0, none⟩) 1 1, .slice (some ⟨b4, 0, none⟩) 1 1] W
      fun e w' => ∃ (A1 : Option Addr) (n1 c1 : Nat) (A2 : Option Addr) (n2 c2 : Nat) (A3 : Option Addr) (n3 c3 : Nat), e = .returned (.tuple #[.agg #[.int .i64 R.k, .int .i64 R.n, .int .i64 R.next, .slice A1 n1 c1, .slice A2 n2 c2, .slice A3 n3 c3], .int .i64 z]) ∧ AddOut W w' ⟨A1, n1, c1, A2, n2, c2, A3, n3, c3⟩ R := by
  have h := outs (index_Add r s (some ⟨b2, 0, none⟩) 1 1 [d] (some ⟨b4, 0, none⟩) 1 1 [p] W hs (row1 h2) (prow1 h4) hp (by decide))
  rw [he] at h
  exact h

theorem of_call (r : Rws) (W : World) (hs : StAt W W.heap.size r ⟨0, 0, 0, [], [la, lb], [plc 112 10 5, plc 112 15 5]⟩) :
    Calls Try.prog 22 #[.agg #[.int .i64 0, .int .i64 0, .int .i64 0, .slice r.A1 r.n1 r.c1, .slice r.A2 r.n2 r.c2, .slice r.A3 r.n3 r.c3], .string (letterRoot 112)] W
      fun e w' => ∃ (A1 : Option Addr) (c1 : Nat) (A2 : Option Addr) (c2 : Nat), e = .returned (.tuple #[.slice A1 2 c1, .slice A2 2 c2, .int .i64 0]) ∧ StrsAt w' w'.heap.size A1 2 [la, lb] ∧ PlacesAt w' w'.heap.size A2 2 [plc 112 10 5, plc 112 15 5] ∧ Below W.heap.size W w' := by
  refine (index_Of r _ (letterRoot 112) W hs).mono ?_
  rintro e w' ⟨u1, u2, D, P, z, he, hres, o1, o2, hb⟩
  obtain ⟨rfl, rfl, rfl⟩ := hres.unique of_1
  obtain ⟨A1, c1, rfl⟩ := o1.form
  obtain ⟨A2, c2, rfl⟩ := o2.form
  exact ⟨A1, c1, A2, c2, he, o1.row strCell_len, o2.row Place.cells_len, hb⟩
theorem box_noStr {w : World} {b o : Nat} {t : ByteArray} (h : BoxAt w b 0 0 0 (.slice none 0 0) (.slice none 0 0) (.slice none 0 0)) : w.cell? ⟨b, o, none⟩ ≠ some (.string t) := by
  intro e
  rw [cell_of_row w b o _ _ _ h] at e
  match o, e with
  | 0, e => simp at e
  | 1, e => simp at e
  | 2, e => simp at e
  | 3, e => simp at e
  | 4, e => simp at e
  | 5, e => simp at e
  | o + 6, e => simp at e
theorem RowAt.box {α : Type} {c : Nat} {enc : α → List Value} {w : World} {A : Option Addr} {n : Nat} {l : List α} {b : Nat} (h : RowAt c enc w w.heap.size A n l) (hz : BoxAt w b 0 0 0 (.slice none 0 0) (.slice none 0 0) (.slice none 0 0)) (hs : ∀ x : α, ∃ (j : Nat) (t : ByteArray), (enc x)[j]? = some (.string t))
    (k n' x : Int) (v4 v5 v6 : Value) : RowAt c enc (st6 w b k n' x v4 v5 v6) (st6 w b k n' x v4 v5 v6).heap.size A n l := by
  refine ⟨h.1, h.2.1, fun hn => ?_⟩
  obtain ⟨b', off, e, hb, hc⟩ := h.2.2 hn
  refine ⟨b', off, e, by rw [size_st6]; exact hb, fun i y hy j v hv => ?_⟩
  obtain ⟨j0, t, ht⟩ := hs y
  have hne : b' ≠ b := fun e => box_noStr hz (e ▸ hc i y hy j0 _ ht)
  have far : ∀ (W : World) (o : Nat) (u : Value), (W.setCell ⟨b, o, none⟩ u).cell? ⟨b', off + i * c + j, none⟩ = W.cell? ⟨b', off + i * c + j, none⟩ := fun W o u => World.cell?_setCell_far W _ _ u (fun e => hne e.symm)
  unfold st6
  rw [far, far, far, far, far, far]
  exact hc i y hy j v hv
theorem StAt.box {w : World} {r : Rws} {s : St} {b : Nat} (h : StAt w w.heap.size r s) (hz : BoxAt w b 0 0 0 (.slice none 0 0) (.slice none 0 0) (.slice none 0 0)) (k n' x : Int) (v4 v5 v6 : Value) : StAt (st6 w b k n' x v4 v5 v6) (st6 w b k n' x v4 v5 v6).heap.size r s :=
  ⟨h.sn.box hz (fun y => ⟨2, y.root, rfl⟩) _ _ _ _ _ _, h.cs.box hz (fun y => ⟨0, y, rfl⟩) _ _ _ _ _ _, h.ps.box hz (fun y => ⟨0, y.pack, rfl⟩) _ _ _ _ _ _, h.ok⟩

set_option maxHeartbeats 1000000 in
set_option maxRecDepth 100000 in
theorem law17_works (w : World) : Calls Try.prog 13 #[] w fun e w' => e = .returned (.bool true) ∧ Below w.heap.size w w' := by
  have hz : ∀ W : World, StAt W W.heap.size ⟨none, 0, 0, none, 0, 0, none, 0, 0⟩ stNone := fun W => ⟨RowAt.none_, RowAt.none_, RowAt.none_, fun p hp => absurd hp List.not_mem_nil⟩
  have hF0 := Lib.hid (fun W => index_Find ⟨none, 0, 0, none, 0, 0, none, 0, 0⟩ stNone la W (hz W))
  have hP0 := Lib.hid (fun W => index_Packs ⟨none, 0, 0, none, 0, 0, none, 0, 0⟩ stNone W (hz W))
  rw [find_0] at hF0
  rw [packs_0] at hP0
  unfold Rws.val stv at hF0 hP0
  dsimp only [Place.agg, Place.zero, stNone] at hF0 hP0
  have hA1 := Lib.hid (fun b2 b4 W hs => add_call (r := ⟨none, 0, 0, none, 0, 0, none, 0, 0⟩) add_1 (plcOk 112 (by decide)) b2 b4 W hs)
  dsimp only [plc, stNone] at hA1
  have hF1 := Lib.hid (fun r W hs => index_Find r ⟨0, 0, 0, [], [la], [plc 112 10 5]⟩ la W hs)
  rw [find_1] at hF1
  have hA2 := Lib.hid (fun r b2 b4 W hs => add_call (r := r) add_2 (plcOk 112 (by decide)) b2 b4 W hs)
  have hA3 := Lib.hid (fun r b2 b4 W hs => add_call (r := r) add_3 (plcOk 112 (by decide)) b2 b4 W hs)
  have hA4 := Lib.hid (fun r b2 b4 W hs => add_call (r := r) add_4 (plcOk 113 (by decide)) b2 b4 W hs)
  have hO := Lib.hid of_call
  unfold Rws.val stv at hF1
  dsimp only [plc, Place.agg, stNone] at hF1 hA2 hA3 hA4
  have bx := Lib.hid (BoxAt.new w 0 0 0 (.slice none 0 0) (.slice none 0 0) (.slice none 0 0))
  have fb : Below w.heap.size w (w.alloc (.cells #[.int .i64 0, .int .i64 0, .int .i64 0, .slice none 0 0, .slice none 0 0, .slice none 0 0] 29)) := (Below.refl _ _).alloc (Nat.le_refl _) _
  go_enter Try.func13, Try.ntmps13
  go_upto_region 2 with fail
  generalize w.alloc (.cells #[.int .i64 0, .int .i64 0, .int .i64 0, .slice none 0 0, .slice none 0 0, .slice none 0 0] 29) = W1 at bx fb ⊢
  obtain ⟨x0, x1, x2, x3, x4, x5⟩ := bx.out.cells
  have hl1 := bx.out.lt
  refine region_krip (fun W : World => Below W1.heap.size W1 W) (by kernel_rfl) ((Below.refl _ _).drew) ?_
  (refine kF.takeL (i := 0) (v := ?_) rfl (by kernel_rfl) (fun _ _ _ h => h) (Or.inl ⟨by rfl, ?_⟩) ?_
   rotate_left
   · (intro wS hSw; (try dsimp only at hSw); have hcS := fun b o (h : b < W1.heap.size) => hSw.cell (p := ⟨b, o, none⟩) h; go_simp; (try with_reducible rfl))
   try simp only [Act.put, List.setIfInBounds_toArray, List.set_cons_zero, List.set_cons_succ])
  (refine kF.newL (i := 6) (fun b => .pointer (some ⟨b, 0, none⟩)) (.cells #[.string ⟨#[]⟩, .int .i64 0, .int .i64 0] 35) rfl (by kernel_rfl) (by rfl) ?_ ?_
   · (intro wS; go_simp; (try with_reducible rfl)))
  (refine kF.onlyL (j := 1) rfl (by kernel_rfl) (fun _ _ _ _ _ => Iff.rfl) (fun _ _ h1 h2 => below_S (Nat.le_refl _) h1 h2) (fun k1 hbk1 hek1 hSk1 K hK => ?_)
   (go_simp; refine (law17_d 97 _).mono ?_; rintro e m1 ⟨rfl, hb1⟩)
   refine hK.out _ _ (below_S (Nat.le_refl _) hSk1 hb1) (.inr (.inl hb1)) ?_
   clear hK K hek1
   try simp only [Act.put, List.setIfInBounds_toArray, List.set_cons_zero, List.set_cons_succ])
  (refine kF.onlyL (j := 2) rfl (by kernel_rfl) (fun _ _ _ _ _ => Iff.rfl) (fun _ _ h1 h2 => below_S (Nat.le_refl _) h1 h2) (fun k2 hbk2 hek2 hSk2 K hK => ?_)
   (go_simp; refine (hF0.out _).mono ?_; rintro e m2 ⟨rfl, hb2⟩)
   refine hK.out _ _ (below_S (Nat.le_refl _) hSk2 hb2) (.inr (.inl hb2)) ?_
   clear hK K hek2
   try simp only [Act.put, List.setIfInBounds_toArray, List.set_cons_zero, List.set_cons_succ])
  (refine kF.takeL (i := 3) (v := ?_) rfl (by kernel_rfl) (fun _ _ _ h => h) (Or.inl ⟨by rfl, ?_⟩) ?_
   rotate_left
   · (intro wS hSw; (try dsimp only at hSw); have hcS := fun b o (h : b < W1.heap.size) => hSw.cell (p := ⟨b, o, none⟩) h; go_simp; (try with_reducible rfl))
   try simp only [Act.put, List.setIfInBounds_toArray, List.set_cons_zero, List.set_cons_succ])
  (refine kF.takeL (i := 4) (v := ?_) rfl (by kernel_rfl) (fun _ _ _ h => h) (Or.inl ⟨by rfl, ?_⟩) ?_
   rotate_left
   · (intro wS hSw; (try dsimp only at hSw); have hcS := fun b o (h : b < W1.heap.size) => hSw.cell (p := ⟨b, o, none⟩) h; go_simp; (try with_reducible rfl))
   try simp only [Act.put, List.setIfInBounds_toArray, List.set_cons_zero, List.set_cons_succ])
  (refine kF.takeL (i := 5) (v := ?_) rfl (by kernel_rfl) (fun _ _ _ h => h) (Or.inl ⟨by rfl, ?_⟩) ?_
   rotate_left
   · (intro wS hSw; (try dsimp only at hSw); have hcS := fun b o (h : b < W1.heap.size) => hSw.cell (p := ⟨b, o, none⟩) h; go_simp; (try with_reducible rfl))
   try simp only [Act.put, List.setIfInBounds_toArray, List.set_cons_zero, List.set_cons_succ])
  (refine kF.settleL (by kernel_rfl) (fun _ _ _ _ _ => Iff.rfl) (fun _ _ h1 h2 => below_S (Nat.le_refl _) h1 h2) (fun u6 hbu6 hSu6 v hv => ?_)
   obtain ⟨bu6, hBu6, rfl, hxu6⟩ := hv
   try simp only [Act.put, List.setIfInBounds_toArray, List.set_cons_zero, List.set_cons_succ])
  obtain ⟨y0, y1, y2⟩ := PBox.cells (p := Place.zero) hxu6
  have y3 := PBox.frozen (p := Place.zero) hxu6 0
  have y4 := PBox.frozen (p := Place.zero) hxu6 1
  have y5 := PBox.frozen (p := Place.zero) hxu6 2
  (refine kF.lastL (j := 7) rfl (by kernel_rfl) (fun _ _ _ _ _ => Iff.rfl) (fun _ _ h1 h2 => below_S (Nat.le_refl _) h1 h2) (fun hSk K hK => ?_)
   go_simp
   refine hK.out _ _ (((hSk.setCell (p := ⟨bu6, 0, none⟩) hBu6 _).setCell (p := ⟨bu6, 1, none⟩) hBu6 _).setCell (p := ⟨bu6, 2, none⟩) hBu6 _) ?_
   clear hK K
   try simp only [Act.put, List.setIfInBounds_toArray, List.set_cons_zero, List.set_cons_succ])
  (refine kF.takeL (i := 8) (v := ?_) rfl (by kernel_rfl) (fun _ _ _ h => h) (Or.inl ⟨by rfl, ?_⟩) ?_
   rotate_left
   · (intro wS hSw; (try dsimp only at hSw); have hcS := fun b o (h : b < W1.heap.size) => hSw.cell (p := ⟨b, o, none⟩) h; go_simp; (try with_reducible rfl))
   try simp only [Act.put, List.setIfInBounds_toArray, List.set_cons_zero, List.set_cons_succ])
  refine kF.done (by kernel_rfl) ?_
  have hS2 := ((hSu6.setCell (p := ⟨bu6, 0, none⟩) hBu6 (.string ⟨#[]⟩)).setCell (p := ⟨bu6, 1, none⟩) hBu6 (.int .i64 0)).setCell (p := ⟨bu6, 2, none⟩) hBu6 (.int .i64 0)
  generalize ((u6.setCell ⟨bu6, 0, none⟩ (.string ⟨#[]⟩)).setCell ⟨bu6, 1, none⟩ (.int .i64 0)).setCell ⟨bu6, 2, none⟩ (.int .i64 0) = W2 at hS2 ⊢
  clear y0 y1 y2 y3 y4 y5 hxu6 hSu6 hbu6 hBu6 hb1 hb2 hbk1 hSk1 hbk2 hSk2 x0 x1 x2 x3 x4 x5
  have bx2 := bx.out.below hS2
  obtain ⟨x0, x1, x2, x3, x4, x5⟩ := bx2.cells
  go_wp2_with fail
  refine (hP0.out W2).mono ?_
  rintro e W3 ⟨u, rfl, ou, hb3⟩
  obtain ⟨A3, c3, rfl⟩ := ou.form
  have hS3 := hS2.trans (hb3.mono hS2.size)
  have fb3 := fb.trans (hS3.mono fb.size)
  have bx3 := bx2.below hb3
  have hl3 := bx3.lt
  clear x0 x1 x2 x3 x4 x5 ou
  obtain ⟨x0, x1, x2, x3, x4, x5⟩ := bx3.cells
  replace bx3 := Lib.hid bx3
  replace bx2 := Lib.hid bx2
  go_wp2_with fail
  refine region_krip (fun W : World => Below W3.heap.size W3 W) (by kernel_rfl) ((Below.refl _ _).drew) ?_
  (refine kF.takeL (i := 0) (v := ?_) rfl (by kernel_rfl) (fun _ _ _ h => h) (Or.inl ⟨by rfl, ?_⟩) ?_
   rotate_left
   · (intro wS hSw; (try dsimp only at hSw); have hcS := fun b o (h : b < W3.heap.size) => hSw.cell (p := ⟨b, o, none⟩) h; go_simp; (try with_reducible rfl))
   try simp only [Act.put, List.setIfInBounds_toArray, List.set_cons_zero, List.set_cons_succ])
  (refine kF.newL (i := 9) (fun b => .pointer (some ⟨b, 0, none⟩)) (.cells #[.int .i64 0, .int .i64 0, .int .i64 0, .slice none 0 0, .slice none 0 0, .slice none 0 0] 29) rfl (by kernel_rfl) (by rfl) ?_ ?_
   · (intro wS; go_simp; (try with_reducible rfl)))
  (refine kF.onlyL (j := 1) rfl (by kernel_rfl) (fun _ _ _ _ _ => Iff.rfl) (fun _ _ h1 h2 => below_S (Nat.le_refl _) h1 h2) (fun k1 hbk1 hek1 hSk1 K hK => ?_)
   (go_simp; refine (law17_d 97 _).mono ?_; rintro e m1 ⟨rfl, hb1⟩)
   refine hK.out _ _ (below_S (Nat.le_refl _) hSk1 hb1) (.inr (.inl hb1)) ?_
   clear hK K hek1
   try simp only [Act.put, List.setIfInBounds_toArray, List.set_cons_zero, List.set_cons_succ])
  (refine kF.newL (i := 2) (fun b => .slice (some ⟨b, 0, none⟩) 1 1) (.cells #[.string (letterRoot 97)] 9) rfl (by kernel_rfl) (by rfl) ?_ ?_
   · (intro wS; go_simp; (try with_reducible rfl)))
  (refine kF.onlyL (j := 3) rfl (by kernel_rfl) (fun _ _ _ _ _ => Iff.rfl) (fun _ _ h1 h2 => below_S (Nat.le_refl _) h1 h2) (fun k3 hbk3 hek3 hSk3 K hK => ?_)
   (go_simp; refine (law17_at 112 10 5 _).mono ?_; rintro e m3 ⟨rfl, hb3⟩)
   refine hK.out _ _ (below_S (Nat.le_refl _) hSk3 hb3) (.inr (.inl hb3)) ?_
   clear hK K hek3
   try simp only [Act.put, List.setIfInBounds_toArray, List.set_cons_zero, List.set_cons_succ])
  (refine kF.newL (i := 4) (fun b => .slice (some ⟨b, 0, none⟩) 1 1) (.cells #[.string (letterRoot 112), .int .i64 10, .int .i64 5] 35) rfl (by kernel_rfl) (by rfl) ?_ ?_
   · (intro wS; go_simp; (try with_reducible rfl)))
  (refine kF.settleL (by kernel_rfl) (fun _ _ _ _ _ => Iff.rfl) (fun _ _ h1 h2 => below_S (Nat.le_refl _) h1 h2) (fun u4 hbu4 hSu4 v hv => ?_)
   obtain ⟨bu4, hBu4, rfl, hxu4⟩ := hv
   try simp only [Act.put, List.setIfInBounds_toArray, List.set_cons_zero, List.set_cons_succ])
  (refine kF.settleL (by kernel_rfl) (fun _ _ _ _ _ => Iff.rfl) (fun _ _ h1 h2 => below_S (Nat.le_refl _) h1 h2) (fun u2 hbu2 hSu2 v hv => ?_)
   obtain ⟨bu2, hBu2, rfl, hxu2⟩ := hv
   try simp only [Act.put, List.setIfInBounds_toArray, List.set_cons_zero, List.set_cons_succ])
  (refine kF.onlyL (j := 5) rfl (by kernel_rfl) (fun _ _ _ _ _ => Iff.rfl) (fun _ _ h1 h2 => below_S (Nat.le_refl _) h1 h2) (fun k5 hbk5 hek5 hSk5 K hK => ?_)
   (go_simp; refine (hA1.out _ _ _ (hz k5) (blkB hxu2 hbk5) (blkB (blkB hxu4 hbu2) hbk5)).mono ?_; rintro e m5 ⟨A1, Al1, Ac1, A2, Al2, Ac2, A3, Al3, Ac3, rfl, ho⟩; have hb5 := ho.below)
   refine hK.out _ _ (below_S (Nat.le_refl _) hSk5 hb5) (.inr (.inl hb5)) ?_
   clear hK K hek5
   try simp only [Act.put, List.setIfInBounds_toArray, List.set_cons_zero, List.set_cons_succ])
  (refine kF.takeL (i := 6) (v := ?_) rfl (by kernel_rfl) (fun _ _ _ h => h) (Or.inl ⟨by rfl, ?_⟩) ?_
   rotate_left
   · (intro wS hSw; (try dsimp only at hSw); have hcS := fun b o (h : b < W3.heap.size) => hSw.cell (p := ⟨b, o, none⟩) h; go_simp; (try with_reducible rfl))
   try simp only [Act.put, List.setIfInBounds_toArray, List.set_cons_zero, List.set_cons_succ])
  (refine kF.takeL (i := 7) (v := ?_) rfl (by kernel_rfl) (fun _ _ _ h => h) (Or.inl ⟨by rfl, ?_⟩) ?_
   rotate_left
   · (intro wS hSw; (try dsimp only at hSw); have hcS := fun b o (h : b < W3.heap.size) => hSw.cell (p := ⟨b, o, none⟩) h; go_simp; (try with_reducible rfl))
   try simp only [Act.put, List.setIfInBounds_toArray, List.set_cons_zero, List.set_cons_succ])
  (refine kF.takeL (i := 8) (v := ?_) rfl (by kernel_rfl) (fun _ _ _ h => h) (Or.inl ⟨by rfl, ?_⟩) ?_
   rotate_left
   · (intro wS hSw; (try dsimp only at hSw); have hcS := fun b o (h : b < W3.heap.size) => hSw.cell (p := ⟨b, o, none⟩) h; go_simp; (try with_reducible rfl))
   try simp only [Act.put, List.setIfInBounds_toArray, List.set_cons_zero, List.set_cons_succ])
  (refine kF.settleL (by kernel_rfl) (fun _ _ _ _ _ => Iff.rfl) (fun _ _ h1 h2 => below_S (Nat.le_refl _) h1 h2) (fun u9 hbu9 hSu9 v hv => ?_)
   obtain ⟨bu9, hBu9, rfl, hxu9⟩ := hv
   try simp only [Act.put, List.setIfInBounds_toArray, List.set_cons_zero, List.set_cons_succ])
  obtain ⟨y0, y1, y2, y3, y4, y5⟩ := BoxAt.cells hxu9
  have e0 := BoxAt.frozen hxu9 0
  have e1 := BoxAt.frozen hxu9 1
  have e2 := BoxAt.frozen hxu9 2
  have e3 := BoxAt.frozen hxu9 3
  have e4 := BoxAt.frozen hxu9 4
  have e5 := BoxAt.frozen hxu9 5
  (refine kF.lastL (j := 10) rfl (by kernel_rfl) (fun _ _ _ _ _ => Iff.rfl) (fun _ _ h1 h2 => below_S (Nat.le_refl _) h1 h2) (fun hSk K hK => ?_)
   go_simp
   refine hK.out _ _ (below_st6 hSk hBu9 _ _ _ _ _ _) ?_
   clear hK K
   try simp only [Act.put, List.setIfInBounds_toArray, List.set_cons_zero, List.set_cons_succ])
  (refine kF.takeL (i := 11) (v := ?_) rfl (by kernel_rfl) (fun _ _ _ h => h) (Or.inl ⟨by rfl, ?_⟩) ?_
   rotate_left
   · (intro wS hSw; (try dsimp only at hSw); have hcS := fun b o (h : b < W3.heap.size) => hSw.cell (p := ⟨b, o, none⟩) h; go_simp; (try with_reducible rfl))
   try simp only [Act.put, List.setIfInBounds_toArray, List.set_cons_zero, List.set_cons_succ])
  refine kF.done (by kernel_rfl) ?_
  have hSW4 : Below W3.heap.size W3 ((((((u9.setCell ⟨bu9, 0, none⟩ (.int .i64 0)).setCell ⟨bu9, 1, none⟩ (.int .i64 0)).setCell ⟨bu9, 2, none⟩ (.int .i64 0)).setCell ⟨bu9, 3, none⟩ (.slice A1 Al1 Ac1)).setCell ⟨bu9, 4, none⟩ (.slice A2 Al2 Ac2)).setCell ⟨bu9, 5, none⟩ (.slice A3 Al3 Ac3)) := below_st6 hSu9 hBu9 0 0 0 (.slice A1 Al1 Ac1) (.slice A2 Al2 Ac2) (.slice A3 Al3 Ac3)
  have bxW4 : Hid (BoxAt ((((((u9.setCell ⟨bu9, 0, none⟩ (.int .i64 0)).setCell ⟨bu9, 1, none⟩ (.int .i64 0)).setCell ⟨bu9, 2, none⟩ (.int .i64 0)).setCell ⟨bu9, 3, none⟩ (.slice A1 Al1 Ac1)).setCell ⟨bu9, 4, none⟩ (.slice A2 Al2 Ac2)).setCell ⟨bu9, 5, none⟩ (.slice A3 Al3 Ac3)) bu9 0 0 0 (.slice A1 Al1 Ac1) (.slice A2 Al2 Ac2) (.slice A3 Al3 Ac3)) := BoxAt.st6 hxu9 0 0 0 (.slice A1 Al1 Ac1) (.slice A2 Al2 Ac2) (.slice A3 Al3 Ac3)
  have stW4 : Hid (StAt ((((((u9.setCell ⟨bu9, 0, none⟩ (.int .i64 0)).setCell ⟨bu9, 1, none⟩ (.int .i64 0)).setCell ⟨bu9, 2, none⟩ (.int .i64 0)).setCell ⟨bu9, 3, none⟩ (.slice A1 Al1 Ac1)).setCell ⟨bu9, 4, none⟩ (.slice A2 Al2 Ac2)).setCell ⟨bu9, 5, none⟩ (.slice A3 Al3 Ac3)) ((((((u9.setCell ⟨bu9, 0, none⟩ (.int .i64 0)).setCell ⟨bu9, 1, none⟩ (.int .i64 0)).setCell ⟨bu9, 2, none⟩ (.int .i64 0)).setCell ⟨bu9, 3, none⟩ (.slice A1 Al1 Ac1)).setCell ⟨bu9, 4, none⟩ (.slice A2 Al2 Ac2)).setCell ⟨bu9, 5, none⟩ (.slice A3 Al3 Ac3)).heap.size ⟨A1, Al1, Ac1, A2, Al2, Ac2, A3, Al3, Ac3⟩ ⟨0, 0, 0, [], [la], [plc 112 10 5]⟩) := StAt.box (ho.st.to hbu9) hxu9 0 0 0 (.slice A1 Al1 Ac1) (.slice A2 Al2 Ac2) (.slice A3 Al3 Ac3)
  clear y0 y1 y2 y3 y4 y5 e0 e1 e2 e3 e4 e5 ho hxu9 hxu2 hxu4 hSu9 hSu2 hSu4 hbu9 hbu2 hbu4 hBu9 hBu2 hBu4 hbk1 hbk3 hbk5 hSk1 hSk3 hSk5 hb1 hb3 hb5
  generalize ((((((u9.setCell ⟨bu9, 0, none⟩ (.int .i64 0)).setCell ⟨bu9, 1, none⟩ (.int .i64 0)).setCell ⟨bu9, 2, none⟩ (.int .i64 0)).setCell ⟨bu9, 3, none⟩ (.slice A1 Al1 Ac1)).setCell ⟨bu9, 4, none⟩ (.slice A2 Al2 Ac2)).setCell ⟨bu9, 5, none⟩ (.slice A3 Al3 Ac3)) = W4 at hSW4 bxW4 stW4 ⊢
  clear x0 x1 x2 x3 x4 x5
  obtain ⟨x0, x1, x2, x3, x4, x5⟩ := bxW4.out.cells
  have lW4 := bxW4.out.lt
  go_wp2_with fail
  refine region_krip (fun W : World => Below W4.heap.size W4 W) (by kernel_rfl) ((Below.refl _ _).drew) ?_
  (refine kF.takeL (i := 0) (v := ?_) rfl (by kernel_rfl) (fun _ _ _ h => h) (Or.inl ⟨by rfl, ?_⟩) ?_
   rotate_left
   · (intro wS hSw; (try dsimp only at hSw); have hcS := fun b o (h : b < W4.heap.size) => hSw.cell (p := ⟨b, o, none⟩) h; go_simp; (try with_reducible rfl))
   try simp only [Act.put, List.setIfInBounds_toArray, List.set_cons_zero, List.set_cons_succ])
  (refine kF.newL (i := 6) (fun b => .pointer (some ⟨b, 0, none⟩)) (.cells #[.string ⟨#[]⟩, .int .i64 0, .int .i64 0] 35) rfl (by kernel_rfl) (by rfl) ?_ ?_
   · (intro wS; go_simp; (try with_reducible rfl)))
  (refine kF.onlyL (j := 1) rfl (by kernel_rfl) (fun _ _ _ _ _ => Iff.rfl) (fun _ _ h1 h2 => below_S (Nat.le_refl _) h1 h2) (fun k1 hbk1 hek1 hSk1 K hK => ?_)
   (go_simp; refine (law17_d 97 _).mono ?_; rintro e m1 ⟨rfl, hb1⟩)
   refine hK.out _ _ (below_S (Nat.le_refl _) hSk1 hb1) (.inr (.inl hb1)) ?_
   clear hK K hek1
   try simp only [Act.put, List.setIfInBounds_toArray, List.set_cons_zero, List.set_cons_succ])
  (refine kF.onlyL (j := 2) rfl (by kernel_rfl) (fun _ _ _ _ _ => Iff.rfl) (fun _ _ h1 h2 => below_S (Nat.le_refl _) h1 h2) (fun k2 hbk2 hek2 hSk2 K hK => ?_)
   (go_simp; refine (hF1.out ⟨A1, Al1, Ac1, A2, Al2, Ac2, A3, Al3, Ac3⟩ _ (stW4.out.to ((hSk2)))).mono ?_; rintro e m2 ⟨rfl, hb2⟩)
   refine hK.out _ _ (below_S (Nat.le_refl _) hSk2 hb2) (.inr (.inl hb2)) ?_
   clear hK K hek2
   try simp only [Act.put, List.setIfInBounds_toArray, List.set_cons_zero, List.set_cons_succ])
  (refine kF.takeL (i := 3) (v := ?_) rfl (by kernel_rfl) (fun _ _ _ h => h) (Or.inl ⟨by rfl, ?_⟩) ?_
   rotate_left
   · (intro wS hSw; (try dsimp only at hSw); have hcS := fun b o (h : b < W4.heap.size) => hSw.cell (p := ⟨b, o, none⟩) h; go_simp; (try with_reducible rfl))
   try simp only [Act.put, List.setIfInBounds_toArray, List.set_cons_zero, List.set_cons_succ])
  (refine kF.takeL (i := 4) (v := ?_) rfl (by kernel_rfl) (fun _ _ _ h => h) (Or.inl ⟨by rfl, ?_⟩) ?_
   rotate_left
   · (intro wS hSw; (try dsimp only at hSw); have hcS := fun b o (h : b < W4.heap.size) => hSw.cell (p := ⟨b, o, none⟩) h; go_simp; (try with_reducible rfl))
   try simp only [Act.put, List.setIfInBounds_toArray, List.set_cons_zero, List.set_cons_succ])
  (refine kF.takeL (i := 5) (v := ?_) rfl (by kernel_rfl) (fun _ _ _ h => h) (Or.inl ⟨by rfl, ?_⟩) ?_
   rotate_left
   · (intro wS hSw; (try dsimp only at hSw); have hcS := fun b o (h : b < W4.heap.size) => hSw.cell (p := ⟨b, o, none⟩) h; go_simp; (try with_reducible rfl))
   try simp only [Act.put, List.setIfInBounds_toArray, List.set_cons_zero, List.set_cons_succ])
  (refine kF.settleL (by kernel_rfl) (fun _ _ _ _ _ => Iff.rfl) (fun _ _ h1 h2 => below_S (Nat.le_refl _) h1 h2) (fun u6 hbu6 hSu6 v hv => ?_)
   obtain ⟨bu6, hBu6, rfl, hxu6⟩ := hv
   try simp only [Act.put, List.setIfInBounds_toArray, List.set_cons_zero, List.set_cons_succ])
  obtain ⟨y0, y1, y2⟩ := PBox.cells (p := Place.zero) hxu6
  have y3 := PBox.frozen (p := Place.zero) hxu6 0
  have y4 := PBox.frozen (p := Place.zero) hxu6 1
  have y5 := PBox.frozen (p := Place.zero) hxu6 2
  (refine kF.lastL (j := 7) rfl (by kernel_rfl) (fun _ _ _ _ _ => Iff.rfl) (fun _ _ h1 h2 => below_S (Nat.le_refl _) h1 h2) (fun hSk K hK => ?_)
   go_simp
   refine hK.out _ _ (((hSk.setCell (p := ⟨bu6, 0, none⟩) hBu6 _).setCell (p := ⟨bu6, 1, none⟩) hBu6 _).setCell (p := ⟨bu6, 2, none⟩) hBu6 _) ?_
   clear hK K
   try simp only [Act.put, List.setIfInBounds_toArray, List.set_cons_zero, List.set_cons_succ])
  (refine kF.takeL (i := 8) (v := ?_) rfl (by kernel_rfl) (fun _ _ _ h => h) (Or.inl ⟨by rfl, ?_⟩) ?_
   rotate_left
   · (intro wS hSw; (try dsimp only at hSw); have hcS := fun b o (h : b < W4.heap.size) => hSw.cell (p := ⟨b, o, none⟩) h; go_simp; (try with_reducible rfl))
   try simp only [Act.put, List.setIfInBounds_toArray, List.set_cons_zero, List.set_cons_succ])
  refine kF.done (by kernel_rfl) ?_
  have hSW5 := ((hSu6.setCell (p := ⟨bu6, 0, none⟩) hBu6 (.string (letterRoot 112))).setCell (p := ⟨bu6, 1, none⟩) hBu6 (.int .i64 10)).setCell (p := ⟨bu6, 2, none⟩) hBu6 (.int .i64 5)
  have pbW5 : PBox (((u6.setCell ⟨bu6, 0, none⟩ (.string (letterRoot 112))).setCell ⟨bu6, 1, none⟩ (.int .i64 10)).setCell ⟨bu6, 2, none⟩ (.int .i64 5)) bu6 ⟨(letterRoot 112), 10, 5⟩ := (PBox.set3 (p := Place.zero) hxu6 ⟨(letterRoot 112), 10, 5⟩)
  replace pbW5 := Lib.hid pbW5
  clear y0 y1 y2 y3 y4 y5 hxu6 hSu6 hbu6 hBu6 hb1 hb2 hbk1 hSk1 hbk2 hSk2
  generalize ((u6.setCell ⟨bu6, 0, none⟩ (.string (letterRoot 112))).setCell ⟨bu6, 1, none⟩ (.int .i64 10)).setCell ⟨bu6, 2, none⟩ (.int .i64 5) = W5 at hSW5 pbW5 ⊢
  have bxW5 := Lib.hid (bxW4.out.below hSW5)
  have stW5 := Lib.hid (stW4.out.to hSW5)
  clear x0 x1 x2 x3 x4 x5
  obtain ⟨x0, x1, x2, x3, x4, x5⟩ := bxW5.out.cells
  have lW5 := bxW5.out.lt
  go_wp2_with fail
  refine region_krip (fun W : World => Below W5.heap.size W5 W) (by kernel_rfl) ((Below.refl _ _).drew) ?_
  (refine kF.takeL (i := 0) (v := ?_) rfl (by kernel_rfl) (fun _ _ _ h => h) (Or.inl ⟨by rfl, ?_⟩) ?_
   rotate_left
   · (intro wS hSw; (try dsimp only at hSw); have hcS := fun b o (h : b < W5.heap.size) => hSw.cell (p := ⟨b, o, none⟩) h; go_simp; (try with_reducible rfl))
   try simp only [Act.put, List.setIfInBounds_toArray, List.set_cons_zero, List.set_cons_succ])
  (refine kF.newL (i := 9) (fun b => .pointer (some ⟨b, 0, none⟩)) (.cells #[.int .i64 0, .int .i64 0, .int .i64 0, .slice none 0 0, .slice none 0 0, .slice none 0 0] 29) rfl (by kernel_rfl) (by rfl) ?_ ?_
   · (intro wS; go_simp; (try with_reducible rfl)))
  (refine kF.onlyL (j := 1) rfl (by kernel_rfl) (fun _ _ _ _ _ => Iff.rfl) (fun _ _ h1 h2 => below_S (Nat.le_refl _) h1 h2) (fun k1 hbk1 hek1 hSk1 K hK => ?_)
   (go_simp; refine (law17_d 98 _).mono ?_; rintro e m1 ⟨rfl, hb1⟩)
   refine hK.out _ _ (below_S (Nat.le_refl _) hSk1 hb1) (.inr (.inl hb1)) ?_
   clear hK K hek1
   try simp only [Act.put, List.setIfInBounds_toArray, List.set_cons_zero, List.set_cons_succ])
  (refine kF.newL (i := 2) (fun b => .slice (some ⟨b, 0, none⟩) 1 1) (.cells #[.string (letterRoot 98)] 9) rfl (by kernel_rfl) (by rfl) ?_ ?_
   · (intro wS; go_simp; (try with_reducible rfl)))
  (refine kF.onlyL (j := 3) rfl (by kernel_rfl) (fun _ _ _ _ _ => Iff.rfl) (fun _ _ h1 h2 => below_S (Nat.le_refl _) h1 h2) (fun k3 hbk3 hek3 hSk3 K hK => ?_)
   (go_simp; refine (law17_at 112 12 5 _).mono ?_; rintro e m3 ⟨rfl, hb3⟩)
   refine hK.out _ _ (below_S (Nat.le_refl _) hSk3 hb3) (.inr (.inl hb3)) ?_
   clear hK K hek3
   try simp only [Act.put, List.setIfInBounds_toArray, List.set_cons_zero, List.set_cons_succ])
  (refine kF.newL (i := 4) (fun b => .slice (some ⟨b, 0, none⟩) 1 1) (.cells #[.string (letterRoot 112), .int .i64 12, .int .i64 5] 35) rfl (by kernel_rfl) (by rfl) ?_ ?_
   · (intro wS; go_simp; (try with_reducible rfl)))
  (refine kF.settleL (by kernel_rfl) (fun _ _ _ _ _ => Iff.rfl) (fun _ _ h1 h2 => below_S (Nat.le_refl _) h1 h2) (fun u4 hbu4 hSu4 v hv => ?_)
   obtain ⟨bu4, hBu4, rfl, hxu4⟩ := hv
   try simp only [Act.put, List.setIfInBounds_toArray, List.set_cons_zero, List.set_cons_succ])
  (refine kF.settleL (by kernel_rfl) (fun _ _ _ _ _ => Iff.rfl) (fun _ _ h1 h2 => below_S (Nat.le_refl _) h1 h2) (fun u2 hbu2 hSu2 v hv => ?_)
   obtain ⟨bu2, hBu2, rfl, hxu2⟩ := hv
   try simp only [Act.put, List.setIfInBounds_toArray, List.set_cons_zero, List.set_cons_succ])
  (refine kF.onlyL (j := 5) rfl (by kernel_rfl) (fun _ _ _ _ _ => Iff.rfl) (fun _ _ h1 h2 => below_S (Nat.le_refl _) h1 h2) (fun k5 hbk5 hek5 hSk5 K hK => ?_)
   (go_simp; refine (hA2.out ⟨A1, Al1, Ac1, A2, Al2, Ac2, A3, Al3, Ac3⟩ _ _ _ (stW5.out.to hSk5) (blkB hxu2 hbk5) (blkB (blkB hxu4 hbu2) hbk5)).mono ?_; rintro e m5 ⟨B1, Bl1, Bc1, B2, Bl2, Bc2, B3, Bl3, Bc3, rfl, ho⟩; have hb5 := ho.below)
   refine hK.out _ _ (below_S (Nat.le_refl _) hSk5 hb5) (.inr (.inl hb5)) ?_
   clear hK K hek5
   try simp only [Act.put, List.setIfInBounds_toArray, List.set_cons_zero, List.set_cons_succ])
  (refine kF.takeL (i := 6) (v := ?_) rfl (by kernel_rfl) (fun _ _ _ h => h) (Or.inl ⟨by rfl, ?_⟩) ?_
   rotate_left
   · (intro wS hSw; (try dsimp only at hSw); have hcS := fun b o (h : b < W5.heap.size) => hSw.cell (p := ⟨b, o, none⟩) h; go_simp; (try with_reducible rfl))
   try simp only [Act.put, List.setIfInBounds_toArray, List.set_cons_zero, List.set_cons_succ])
  (refine kF.takeL (i := 7) (v := ?_) rfl (by kernel_rfl) (fun _ _ _ h => h) (Or.inl ⟨by rfl, ?_⟩) ?_
   rotate_left
   · (intro wS hSw; (try dsimp only at hSw); have hcS := fun b o (h : b < W5.heap.size) => hSw.cell (p := ⟨b, o, none⟩) h; go_simp; (try with_reducible rfl))
   try simp only [Act.put, List.setIfInBounds_toArray, List.set_cons_zero, List.set_cons_succ])
  (refine kF.takeL (i := 8) (v := ?_) rfl (by kernel_rfl) (fun _ _ _ h => h) (Or.inl ⟨by rfl, ?_⟩) ?_
   rotate_left
   · (intro wS hSw; (try dsimp only at hSw); have hcS := fun b o (h : b < W5.heap.size) => hSw.cell (p := ⟨b, o, none⟩) h; go_simp; (try with_reducible rfl))
   try simp only [Act.put, List.setIfInBounds_toArray, List.set_cons_zero, List.set_cons_succ])
  (refine kF.settleL (by kernel_rfl) (fun _ _ _ _ _ => Iff.rfl) (fun _ _ h1 h2 => below_S (Nat.le_refl _) h1 h2) (fun u9 hbu9 hSu9 v hv => ?_)
   obtain ⟨bu9, hBu9, rfl, hxu9⟩ := hv
   try simp only [Act.put, List.setIfInBounds_toArray, List.set_cons_zero, List.set_cons_succ])
  obtain ⟨y0, y1, y2, y3, y4, y5⟩ := BoxAt.cells hxu9
  have e0 := BoxAt.frozen hxu9 0
  have e1 := BoxAt.frozen hxu9 1
  have e2 := BoxAt.frozen hxu9 2
  have e3 := BoxAt.frozen hxu9 3
  have e4 := BoxAt.frozen hxu9 4
  have e5 := BoxAt.frozen hxu9 5
  (refine kF.lastL (j := 10) rfl (by kernel_rfl) (fun _ _ _ _ _ => Iff.rfl) (fun _ _ h1 h2 => below_S (Nat.le_refl _) h1 h2) (fun hSk K hK => ?_)
   go_simp
   refine hK.out _ _ (below_st6 hSk hBu9 _ _ _ _ _ _) ?_
   clear hK K
   try simp only [Act.put, List.setIfInBounds_toArray, List.set_cons_zero, List.set_cons_succ])
  (refine kF.takeL (i := 11) (v := ?_) rfl (by kernel_rfl) (fun _ _ _ h => h) (Or.inl ⟨by rfl, ?_⟩) ?_
   rotate_left
   · (intro wS hSw; (try dsimp only at hSw); have hcS := fun b o (h : b < W5.heap.size) => hSw.cell (p := ⟨b, o, none⟩) h; go_simp; (try with_reducible rfl))
   try simp only [Act.put, List.setIfInBounds_toArray, List.set_cons_zero, List.set_cons_succ])
  refine kF.done (by kernel_rfl) ?_
  have hSW6 : Below W5.heap.size W5 ((((((u9.setCell ⟨bu9, 0, none⟩ (.int .i64 0)).setCell ⟨bu9, 1, none⟩ (.int .i64 0)).setCell ⟨bu9, 2, none⟩ (.int .i64 0)).setCell ⟨bu9, 3, none⟩ (.slice B1 Bl1 Bc1)).setCell ⟨bu9, 4, none⟩ (.slice B2 Bl2 Bc2)).setCell ⟨bu9, 5, none⟩ (.slice B3 Bl3 Bc3)) := below_st6 hSu9 hBu9 0 0 0 (.slice B1 Bl1 Bc1) (.slice B2 Bl2 Bc2) (.slice B3 Bl3 Bc3)
  have bxW6 : Hid (BoxAt ((((((u9.setCell ⟨bu9, 0, none⟩ (.int .i64 0)).setCell ⟨bu9, 1, none⟩ (.int .i64 0)).setCell ⟨bu9, 2, none⟩ (.int .i64 0)).setCell ⟨bu9, 3, none⟩ (.slice B1 Bl1 Bc1)).setCell ⟨bu9, 4, none⟩ (.slice B2 Bl2 Bc2)).setCell ⟨bu9, 5, none⟩ (.slice B3 Bl3 Bc3)) bu9 0 0 0 (.slice B1 Bl1 Bc1) (.slice B2 Bl2 Bc2) (.slice B3 Bl3 Bc3)) := BoxAt.st6 hxu9 0 0 0 (.slice B1 Bl1 Bc1) (.slice B2 Bl2 Bc2) (.slice B3 Bl3 Bc3)
  have stW6 : Hid (StAt ((((((u9.setCell ⟨bu9, 0, none⟩ (.int .i64 0)).setCell ⟨bu9, 1, none⟩ (.int .i64 0)).setCell ⟨bu9, 2, none⟩ (.int .i64 0)).setCell ⟨bu9, 3, none⟩ (.slice B1 Bl1 Bc1)).setCell ⟨bu9, 4, none⟩ (.slice B2 Bl2 Bc2)).setCell ⟨bu9, 5, none⟩ (.slice B3 Bl3 Bc3)) ((((((u9.setCell ⟨bu9, 0, none⟩ (.int .i64 0)).setCell ⟨bu9, 1, none⟩ (.int .i64 0)).setCell ⟨bu9, 2, none⟩ (.int .i64 0)).setCell ⟨bu9, 3, none⟩ (.slice B1 Bl1 Bc1)).setCell ⟨bu9, 4, none⟩ (.slice B2 Bl2 Bc2)).setCell ⟨bu9, 5, none⟩ (.slice B3 Bl3 Bc3)).heap.size ⟨B1, Bl1, Bc1, B2, Bl2, Bc2, B3, Bl3, Bc3⟩ stNone) := StAt.box (ho.st.to hbu9) hxu9 0 0 0 (.slice B1 Bl1 Bc1) (.slice B2 Bl2 Bc2) (.slice B3 Bl3 Bc3)
  clear y0 y1 y2 y3 y4 y5 e0 e1 e2 e3 e4 e5 ho hxu9 hxu2 hxu4 hSu9 hSu2 hSu4 hbu9 hbu2 hbu4 hBu9 hBu2 hBu4 hbk1 hbk3 hbk5 hSk1 hSk3 hSk5 hb1 hb3 hb5
  generalize ((((((u9.setCell ⟨bu9, 0, none⟩ (.int .i64 0)).setCell ⟨bu9, 1, none⟩ (.int .i64 0)).setCell ⟨bu9, 2, none⟩ (.int .i64 0)).setCell ⟨bu9, 3, none⟩ (.slice B1 Bl1 Bc1)).setCell ⟨bu9, 4, none⟩ (.slice B2 Bl2 Bc2)).setCell ⟨bu9, 5, none⟩ (.slice B3 Bl3 Bc3)) = W6 at hSW6 bxW6 stW6 ⊢
  have byW6 := Lib.hid (bxW5.out.below hSW6)
  have syW6 := Lib.hid (stW5.out.to hSW6)
  have pbW6 := Lib.hid (pbW5.out.below hSW6)
  clear x0 x1 x2 x3 x4 x5 bxW6 stW6
  obtain ⟨x0, x1, x2, x3, x4, x5⟩ := byW6.out.cells
  have lW6 := byW6.out.lt
  go_wp2_with fail
  refine region_krip (fun W : World => Below W6.heap.size W6 W) (by kernel_rfl) ((Below.refl _ _).drew) ?_
  (refine kF.takeL (i := 0) (v := ?_) rfl (by kernel_rfl) (fun _ _ _ h => h) (Or.inl ⟨by rfl, ?_⟩) ?_
   rotate_left
   · (intro wS hSw; (try dsimp only at hSw); have hcS := fun b o (h : b < W6.heap.size) => hSw.cell (p := ⟨b, o, none⟩) h; go_simp; (try with_reducible rfl))
   try simp only [Act.put, List.setIfInBounds_toArray, List.set_cons_zero, List.set_cons_succ])
  (refine kF.newL (i := 9) (fun b => .pointer (some ⟨b, 0, none⟩)) (.cells #[.int .i64 0, .int .i64 0, .int .i64 0, .slice none 0 0, .slice none 0 0, .slice none 0 0] 29) rfl (by kernel_rfl) (by rfl) ?_ ?_
   · (intro wS; go_simp; (try with_reducible rfl)))
  (refine kF.onlyL (j := 1) rfl (by kernel_rfl) (fun _ _ _ _ _ => Iff.rfl) (fun _ _ h1 h2 => below_S (Nat.le_refl _) h1 h2) (fun k1 hbk1 hek1 hSk1 K hK => ?_)
   (go_simp; refine (law17_d 98 _).mono ?_; rintro e m1 ⟨rfl, hb1⟩)
   refine hK.out _ _ (below_S (Nat.le_refl _) hSk1 hb1) (.inr (.inl hb1)) ?_
   clear hK K hek1
   try simp only [Act.put, List.setIfInBounds_toArray, List.set_cons_zero, List.set_cons_succ])
  (refine kF.newL (i := 2) (fun b => .slice (some ⟨b, 0, none⟩) 1 1) (.cells #[.string (letterRoot 98)] 9) rfl (by kernel_rfl) (by rfl) ?_ ?_
   · (intro wS; go_simp; (try with_reducible rfl)))
  (refine kF.onlyL (j := 3) rfl (by kernel_rfl) (fun _ _ _ _ _ => Iff.rfl) (fun _ _ h1 h2 => below_S (Nat.le_refl _) h1 h2) (fun k3 hbk3 hek3 hSk3 K hK => ?_)
   (go_simp; refine (law17_at 112 15 5 _).mono ?_; rintro e m3 ⟨rfl, hb3⟩)
   refine hK.out _ _ (below_S (Nat.le_refl _) hSk3 hb3) (.inr (.inl hb3)) ?_
   clear hK K hek3
   try simp only [Act.put, List.setIfInBounds_toArray, List.set_cons_zero, List.set_cons_succ])
  (refine kF.newL (i := 4) (fun b => .slice (some ⟨b, 0, none⟩) 1 1) (.cells #[.string (letterRoot 112), .int .i64 15, .int .i64 5] 35) rfl (by kernel_rfl) (by rfl) ?_ ?_
   · (intro wS; go_simp; (try with_reducible rfl)))
  (refine kF.settleL (by kernel_rfl) (fun _ _ _ _ _ => Iff.rfl) (fun _ _ h1 h2 => below_S (Nat.le_refl _) h1 h2) (fun u4 hbu4 hSu4 v hv => ?_)
   obtain ⟨bu4, hBu4, rfl, hxu4⟩ := hv
   try simp only [Act.put, List.setIfInBounds_toArray, List.set_cons_zero, List.set_cons_succ])
  (refine kF.settleL (by kernel_rfl) (fun _ _ _ _ _ => Iff.rfl) (fun _ _ h1 h2 => below_S (Nat.le_refl _) h1 h2) (fun u2 hbu2 hSu2 v hv => ?_)
   obtain ⟨bu2, hBu2, rfl, hxu2⟩ := hv
   try simp only [Act.put, List.setIfInBounds_toArray, List.set_cons_zero, List.set_cons_succ])
  (refine kF.onlyL (j := 5) rfl (by kernel_rfl) (fun _ _ _ _ _ => Iff.rfl) (fun _ _ h1 h2 => below_S (Nat.le_refl _) h1 h2) (fun k5 hbk5 hek5 hSk5 K hK => ?_)
   (go_simp; refine (hA3.out ⟨A1, Al1, Ac1, A2, Al2, Ac2, A3, Al3, Ac3⟩ _ _ _ (syW6.out.to hSk5) (blkB hxu2 hbk5) (blkB (blkB hxu4 hbu2) hbk5)).mono ?_; rintro e m5 ⟨C1, Cl1, Cc1, C2, Cl2, Cc2, C3, Cl3, Cc3, rfl, ho⟩; have hb5 := ho.below)
   refine hK.out _ _ (below_S (Nat.le_refl _) hSk5 hb5) (.inr (.inl hb5)) ?_
   clear hK K hek5
   try simp only [Act.put, List.setIfInBounds_toArray, List.set_cons_zero, List.set_cons_succ])
  (refine kF.takeL (i := 6) (v := ?_) rfl (by kernel_rfl) (fun _ _ _ h => h) (Or.inl ⟨by rfl, ?_⟩) ?_
   rotate_left
   · (intro wS hSw; (try dsimp only at hSw); have hcS := fun b o (h : b < W6.heap.size) => hSw.cell (p := ⟨b, o, none⟩) h; go_simp; (try with_reducible rfl))
   try simp only [Act.put, List.setIfInBounds_toArray, List.set_cons_zero, List.set_cons_succ])
  (refine kF.takeL (i := 7) (v := ?_) rfl (by kernel_rfl) (fun _ _ _ h => h) (Or.inl ⟨by rfl, ?_⟩) ?_
   rotate_left
   · (intro wS hSw; (try dsimp only at hSw); have hcS := fun b o (h : b < W6.heap.size) => hSw.cell (p := ⟨b, o, none⟩) h; go_simp; (try with_reducible rfl))
   try simp only [Act.put, List.setIfInBounds_toArray, List.set_cons_zero, List.set_cons_succ])
  (refine kF.takeL (i := 8) (v := ?_) rfl (by kernel_rfl) (fun _ _ _ h => h) (Or.inl ⟨by rfl, ?_⟩) ?_
   rotate_left
   · (intro wS hSw; (try dsimp only at hSw); have hcS := fun b o (h : b < W6.heap.size) => hSw.cell (p := ⟨b, o, none⟩) h; go_simp; (try with_reducible rfl))
   try simp only [Act.put, List.setIfInBounds_toArray, List.set_cons_zero, List.set_cons_succ])
  (refine kF.settleL (by kernel_rfl) (fun _ _ _ _ _ => Iff.rfl) (fun _ _ h1 h2 => below_S (Nat.le_refl _) h1 h2) (fun u9 hbu9 hSu9 v hv => ?_)
   obtain ⟨bu9, hBu9, rfl, hxu9⟩ := hv
   try simp only [Act.put, List.setIfInBounds_toArray, List.set_cons_zero, List.set_cons_succ])
  obtain ⟨y0, y1, y2, y3, y4, y5⟩ := BoxAt.cells hxu9
  have e0 := BoxAt.frozen hxu9 0
  have e1 := BoxAt.frozen hxu9 1
  have e2 := BoxAt.frozen hxu9 2
  have e3 := BoxAt.frozen hxu9 3
  have e4 := BoxAt.frozen hxu9 4
  have e5 := BoxAt.frozen hxu9 5
  (refine kF.lastL (j := 10) rfl (by kernel_rfl) (fun _ _ _ _ _ => Iff.rfl) (fun _ _ h1 h2 => below_S (Nat.le_refl _) h1 h2) (fun hSk K hK => ?_)
   go_simp
   refine hK.out _ _ (below_st6 hSk hBu9 _ _ _ _ _ _) ?_
   clear hK K
   try simp only [Act.put, List.setIfInBounds_toArray, List.set_cons_zero, List.set_cons_succ])
  (refine kF.takeL (i := 11) (v := ?_) rfl (by kernel_rfl) (fun _ _ _ h => h) (Or.inl ⟨by rfl, ?_⟩) ?_
   rotate_left
   · (intro wS hSw; (try dsimp only at hSw); have hcS := fun b o (h : b < W6.heap.size) => hSw.cell (p := ⟨b, o, none⟩) h; go_simp; (try with_reducible rfl))
   try simp only [Act.put, List.setIfInBounds_toArray, List.set_cons_zero, List.set_cons_succ])
  refine kF.done (by kernel_rfl) ?_
  have hSW7 : Below W6.heap.size W6 ((((((u9.setCell ⟨bu9, 0, none⟩ (.int .i64 0)).setCell ⟨bu9, 1, none⟩ (.int .i64 0)).setCell ⟨bu9, 2, none⟩ (.int .i64 0)).setCell ⟨bu9, 3, none⟩ (.slice C1 Cl1 Cc1)).setCell ⟨bu9, 4, none⟩ (.slice C2 Cl2 Cc2)).setCell ⟨bu9, 5, none⟩ (.slice C3 Cl3 Cc3)) := below_st6 hSu9 hBu9 0 0 0 (.slice C1 Cl1 Cc1) (.slice C2 Cl2 Cc2) (.slice C3 Cl3 Cc3)
  have bxW7 : Hid (BoxAt ((((((u9.setCell ⟨bu9, 0, none⟩ (.int .i64 0)).setCell ⟨bu9, 1, none⟩ (.int .i64 0)).setCell ⟨bu9, 2, none⟩ (.int .i64 0)).setCell ⟨bu9, 3, none⟩ (.slice C1 Cl1 Cc1)).setCell ⟨bu9, 4, none⟩ (.slice C2 Cl2 Cc2)).setCell ⟨bu9, 5, none⟩ (.slice C3 Cl3 Cc3)) bu9 0 0 0 (.slice C1 Cl1 Cc1) (.slice C2 Cl2 Cc2) (.slice C3 Cl3 Cc3)) := BoxAt.st6 hxu9 0 0 0 (.slice C1 Cl1 Cc1) (.slice C2 Cl2 Cc2) (.slice C3 Cl3 Cc3)
  have stW7 : Hid (StAt ((((((u9.setCell ⟨bu9, 0, none⟩ (.int .i64 0)).setCell ⟨bu9, 1, none⟩ (.int .i64 0)).setCell ⟨bu9, 2, none⟩ (.int .i64 0)).setCell ⟨bu9, 3, none⟩ (.slice C1 Cl1 Cc1)).setCell ⟨bu9, 4, none⟩ (.slice C2 Cl2 Cc2)).setCell ⟨bu9, 5, none⟩ (.slice C3 Cl3 Cc3)) ((((((u9.setCell ⟨bu9, 0, none⟩ (.int .i64 0)).setCell ⟨bu9, 1, none⟩ (.int .i64 0)).setCell ⟨bu9, 2, none⟩ (.int .i64 0)).setCell ⟨bu9, 3, none⟩ (.slice C1 Cl1 Cc1)).setCell ⟨bu9, 4, none⟩ (.slice C2 Cl2 Cc2)).setCell ⟨bu9, 5, none⟩ (.slice C3 Cl3 Cc3)).heap.size ⟨C1, Cl1, Cc1, C2, Cl2, Cc2, C3, Cl3, Cc3⟩ ⟨0, 0, 0, [], [la, lb], [plc 112 10 5, plc 112 15 5]⟩) := StAt.box (ho.st.to hbu9) hxu9 0 0 0 (.slice C1 Cl1 Cc1) (.slice C2 Cl2 Cc2) (.slice C3 Cl3 Cc3)
  clear y0 y1 y2 y3 y4 y5 e0 e1 e2 e3 e4 e5 ho hxu9 hxu2 hxu4 hSu9 hSu2 hSu4 hbu9 hbu2 hbu4 hBu9 hBu2 hBu4 hbk1 hbk3 hbk5 hSk1 hSk3 hSk5 hb1 hb3 hb5
  generalize ((((((u9.setCell ⟨bu9, 0, none⟩ (.int .i64 0)).setCell ⟨bu9, 1, none⟩ (.int .i64 0)).setCell ⟨bu9, 2, none⟩ (.int .i64 0)).setCell ⟨bu9, 3, none⟩ (.slice C1 Cl1 Cc1)).setCell ⟨bu9, 4, none⟩ (.slice C2 Cl2 Cc2)).setCell ⟨bu9, 5, none⟩ (.slice C3 Cl3 Cc3)) = W7 at hSW7 bxW7 stW7 ⊢
  have pbW7 := Lib.hid (pbW6.out.below hSW7)
  clear x0 x1 x2 x3 x4 x5
  obtain ⟨x0, x1, x2, x3, x4, x5⟩ := bxW7.out.cells
  have lW7 := bxW7.out.lt
  go_wp2_with fail
  refine region_krip (fun W : World => Below W7.heap.size W7 W) (by kernel_rfl) ((Below.refl _ _).drew) ?_
  (refine kF.takeL (i := 0) (v := ?_) rfl (by kernel_rfl) (fun _ _ _ h => h) (Or.inl ⟨by rfl, ?_⟩) ?_
   rotate_left
   · (intro wS hSw; (try dsimp only at hSw); have hcS := fun b o (h : b < W7.heap.size) => hSw.cell (p := ⟨b, o, none⟩) h; go_simp; (try with_reducible rfl))
   try simp only [Act.put, List.setIfInBounds_toArray, List.set_cons_zero, List.set_cons_succ])
  (refine kF.lastL (j := 1) rfl (by kernel_rfl) (fun _ _ _ _ _ => Iff.rfl) (fun _ _ h1 h2 => below_S (Nat.le_refl _) h1 h2) (fun hSk K hK => ?_)
   (go_simp; refine (law17_d 112 _).mono ?_; rintro e m1 ⟨rfl, hb1⟩)
   refine hK.out _ _ (below_S (Nat.le_refl _) hSk hb1) ?_
   clear hK K
   try simp only [Act.put, List.setIfInBounds_toArray, List.set_cons_zero, List.set_cons_succ])
  (refine kF.lastL (j := 2) rfl (by kernel_rfl) (fun _ _ _ _ _ => Iff.rfl) (fun _ _ h1 h2 => below_S (Nat.le_refl _) h1 h2) (fun hSk K hK => ?_)
   (go_simp; refine (hO.out ⟨C1, Cl1, Cc1, C2, Cl2, Cc2, C3, Cl3, Cc3⟩ _ (stW7.out.to hSk)).mono ?_; rintro e W8 ⟨D1, dc, P1, pc, rfl, ro1, ro2, hb8⟩; have hSW8 := hSk.trans (hb8.mono hSk.size))
   refine hK.out _ _ (below_S (Nat.le_refl _) hSk hb8) ?_
   clear hK K
   try simp only [Act.put, List.setIfInBounds_toArray, List.set_cons_zero, List.set_cons_succ])
  (refine kF.takeL (i := 3) (v := ?_) rfl (by kernel_rfl) (fun _ _ _ h => h) (Or.inl ⟨by rfl, ?_⟩) ?_
   rotate_left
   · (intro wS hSw; (try dsimp only at hSw); have hcS := fun b o (h : b < W7.heap.size) => hSw.cell (p := ⟨b, o, none⟩) h; go_simp; (try with_reducible rfl))
   try simp only [Act.put, List.setIfInBounds_toArray, List.set_cons_zero, List.set_cons_succ])
  (refine kF.takeL (i := 4) (v := ?_) rfl (by kernel_rfl) (fun _ _ _ h => h) (Or.inl ⟨by rfl, ?_⟩) ?_
   rotate_left
   · (intro wS hSw; (try dsimp only at hSw); have hcS := fun b o (h : b < W7.heap.size) => hSw.cell (p := ⟨b, o, none⟩) h; go_simp; (try with_reducible rfl))
   try simp only [Act.put, List.setIfInBounds_toArray, List.set_cons_zero, List.set_cons_succ])
  (refine kF.takeL (i := 5) (v := ?_) rfl (by kernel_rfl) (fun _ _ _ h => h) (Or.inl ⟨by rfl, ?_⟩) ?_
   rotate_left
   · (intro wS hSw; (try dsimp only at hSw); have hcS := fun b o (h : b < W7.heap.size) => hSw.cell (p := ⟨b, o, none⟩) h; go_simp; (try with_reducible rfl))
   try simp only [Act.put, List.setIfInBounds_toArray, List.set_cons_zero, List.set_cons_succ])
  (refine kF.takeL (i := 6) (v := ?_) rfl (by kernel_rfl) (fun _ _ _ h => h) (Or.inl ⟨by rfl, ?_⟩) ?_
   rotate_left
   · (intro wS hSw; (try dsimp only at hSw); have hcS := fun b o (h : b < W7.heap.size) => hSw.cell (p := ⟨b, o, none⟩) h; go_simp; (try with_reducible rfl))
   try simp only [Act.put, List.setIfInBounds_toArray, List.set_cons_zero, List.set_cons_succ])
  (refine kF.takeL (i := 7) (v := ?_) rfl (by kernel_rfl) (fun _ _ _ h => h) (Or.inl ⟨by rfl, ?_⟩) ?_
   rotate_left
   · (intro wS hSw; (try dsimp only at hSw); have hcS := fun b o (h : b < W7.heap.size) => hSw.cell (p := ⟨b, o, none⟩) h; go_simp; (try with_reducible rfl))
   try simp only [Act.put, List.setIfInBounds_toArray, List.set_cons_zero, List.set_cons_succ])
  (refine kF.takeL (i := 8) (v := ?_) rfl (by kernel_rfl) (fun _ _ _ h => h) (Or.inl ⟨by rfl, ?_⟩) ?_
   rotate_left
   · (intro wS hSw; (try dsimp only at hSw); have hcS := fun b o (h : b < W7.heap.size) => hSw.cell (p := ⟨b, o, none⟩) h; go_simp; (try with_reducible rfl))
   try simp only [Act.put, List.setIfInBounds_toArray, List.set_cons_zero, List.set_cons_succ])
  (refine kF.takeL (i := 9) (v := ?_) rfl (by kernel_rfl) (fun _ _ _ h => h) (Or.inl ⟨by rfl, ?_⟩) ?_
   rotate_left
   · (intro wS hSw; (try dsimp only at hSw); have hcS := fun b o (h : b < W7.heap.size) => hSw.cell (p := ⟨b, o, none⟩) h; go_simp; (try with_reducible rfl))
   try simp only [Act.put, List.setIfInBounds_toArray, List.set_cons_zero, List.set_cons_succ])
  refine kF.done (by kernel_rfl) ?_
  have pbW8 := Lib.hid (pbW7.out.below hSW8)
  have bxW8 := Lib.hid (bxW7.out.below hSW8)
  have stW8 := Lib.hid (stW7.out.to hSW8)
  clear x0 x1 x2 x3 x4 x5 hb1 hb8
  obtain ⟨x0, x1, x2, x3, x4, x5⟩ := bxW8.out.cells
  have lW8 := bxW8.out.lt
  replace ro1 := Lib.hid ro1
  replace ro2 := Lib.hid ro2
  go_wp2_with fail
  refine region_krip (fun W : World => Below W8.heap.size W8 W) (by kernel_rfl) ((Below.refl _ _).drew) ?_
  (refine kF.takeL (i := 0) (v := ?_) rfl (by kernel_rfl) (fun _ _ _ h => h) (Or.inl ⟨by rfl, ?_⟩) ?_
   rotate_left
   · (intro wS hSw; (try dsimp only at hSw); have hcS := fun b o (h : b < W8.heap.size) => hSw.cell (p := ⟨b, o, none⟩) h; go_simp; (try with_reducible rfl))
   try simp only [Act.put, List.setIfInBounds_toArray, List.set_cons_zero, List.set_cons_succ])
  (refine kF.newL (i := 9) (fun b => .pointer (some ⟨b, 0, none⟩)) (.cells #[.int .i64 0, .int .i64 0, .int .i64 0, .slice none 0 0, .slice none 0 0, .slice none 0 0] 29) rfl (by kernel_rfl) (by rfl) ?_ ?_
   · (intro wS; go_simp; (try with_reducible rfl)))
  (refine kF.onlyL (j := 1) rfl (by kernel_rfl) (fun _ _ _ _ _ => Iff.rfl) (fun _ _ h1 h2 => below_S (Nat.le_refl _) h1 h2) (fun k1 hbk1 hek1 hSk1 K hK => ?_)
   (go_simp; refine (law17_d 97 _).mono ?_; rintro e m1 ⟨rfl, hb1⟩)
   refine hK.out _ _ (below_S (Nat.le_refl _) hSk1 hb1) (.inr (.inl hb1)) ?_
   clear hK K hek1
   try simp only [Act.put, List.setIfInBounds_toArray, List.set_cons_zero, List.set_cons_succ])
  (refine kF.newL (i := 2) (fun b => .slice (some ⟨b, 0, none⟩) 1 1) (.cells #[.string (letterRoot 97)] 9) rfl (by kernel_rfl) (by rfl) ?_ ?_
   · (intro wS; go_simp; (try with_reducible rfl)))
  (refine kF.onlyL (j := 3) rfl (by kernel_rfl) (fun _ _ _ _ _ => Iff.rfl) (fun _ _ h1 h2 => below_S (Nat.le_refl _) h1 h2) (fun k3 hbk3 hek3 hSk3 K hK => ?_)
   (go_simp; refine (law17_at 113 0 5 _).mono ?_; rintro e m3 ⟨rfl, hb3⟩)
   refine hK.out _ _ (below_S (Nat.le_refl _) hSk3 hb3) (.inr (.inl hb3)) ?_
   clear hK K hek3
   try simp only [Act.put, List.setIfInBounds_toArray, List.set_cons_zero, List.set_cons_succ])
  (refine kF.newL (i := 4) (fun b => .slice (some ⟨b, 0, none⟩) 1 1) (.cells #[.string (letterRoot 113), .int .i64 0, .int .i64 5] 35) rfl (by kernel_rfl) (by rfl) ?_ ?_
   · (intro wS; go_simp; (try with_reducible rfl)))
  (refine kF.settleL (by kernel_rfl) (fun _ _ _ _ _ => Iff.rfl) (fun _ _ h1 h2 => below_S (Nat.le_refl _) h1 h2) (fun u4 hbu4 hSu4 v hv => ?_)
   obtain ⟨bu4, hBu4, rfl, hxu4⟩ := hv
   try simp only [Act.put, List.setIfInBounds_toArray, List.set_cons_zero, List.set_cons_succ])
  (refine kF.settleL (by kernel_rfl) (fun _ _ _ _ _ => Iff.rfl) (fun _ _ h1 h2 => below_S (Nat.le_refl _) h1 h2) (fun u2 hbu2 hSu2 v hv => ?_)
   obtain ⟨bu2, hBu2, rfl, hxu2⟩ := hv
   try simp only [Act.put, List.setIfInBounds_toArray, List.set_cons_zero, List.set_cons_succ])
  (refine kF.onlyL (j := 5) rfl (by kernel_rfl) (fun _ _ _ _ _ => Iff.rfl) (fun _ _ h1 h2 => below_S (Nat.le_refl _) h1 h2) (fun k5 hbk5 hek5 hSk5 K hK => ?_)
   (go_simp; refine (hA4.out ⟨C1, Cl1, Cc1, C2, Cl2, Cc2, C3, Cl3, Cc3⟩ _ _ _ (stW8.out.to hSk5) (blkB hxu2 hbk5) (blkB (blkB hxu4 hbu2) hbk5)).mono ?_; rintro e m5 ⟨E1, El1, Ec1, E2, El2, Ec2, E3, El3, Ec3, rfl, ho⟩; have hb5 := ho.below)
   refine hK.out _ _ (below_S (Nat.le_refl _) hSk5 hb5) (.inr (.inl hb5)) ?_
   clear hK K hek5
   try simp only [Act.put, List.setIfInBounds_toArray, List.set_cons_zero, List.set_cons_succ])
  (refine kF.takeL (i := 6) (v := ?_) rfl (by kernel_rfl) (fun _ _ _ h => h) (Or.inl ⟨by rfl, ?_⟩) ?_
   rotate_left
   · (intro wS hSw; (try dsimp only at hSw); have hcS := fun b o (h : b < W8.heap.size) => hSw.cell (p := ⟨b, o, none⟩) h; go_simp; (try with_reducible rfl))
   try simp only [Act.put, List.setIfInBounds_toArray, List.set_cons_zero, List.set_cons_succ])
  (refine kF.takeL (i := 7) (v := ?_) rfl (by kernel_rfl) (fun _ _ _ h => h) (Or.inl ⟨by rfl, ?_⟩) ?_
   rotate_left
   · (intro wS hSw; (try dsimp only at hSw); have hcS := fun b o (h : b < W8.heap.size) => hSw.cell (p := ⟨b, o, none⟩) h; go_simp; (try with_reducible rfl))
   try simp only [Act.put, List.setIfInBounds_toArray, List.set_cons_zero, List.set_cons_succ])
  (refine kF.takeL (i := 8) (v := ?_) rfl (by kernel_rfl) (fun _ _ _ h => h) (Or.inl ⟨by rfl, ?_⟩) ?_
   rotate_left
   · (intro wS hSw; (try dsimp only at hSw); have hcS := fun b o (h : b < W8.heap.size) => hSw.cell (p := ⟨b, o, none⟩) h; go_simp; (try with_reducible rfl))
   try simp only [Act.put, List.setIfInBounds_toArray, List.set_cons_zero, List.set_cons_succ])
  (refine kF.settleL (by kernel_rfl) (fun _ _ _ _ _ => Iff.rfl) (fun _ _ h1 h2 => below_S (Nat.le_refl _) h1 h2) (fun u9 hbu9 hSu9 v hv => ?_)
   obtain ⟨bu9, hBu9, rfl, hxu9⟩ := hv
   try simp only [Act.put, List.setIfInBounds_toArray, List.set_cons_zero, List.set_cons_succ])
  obtain ⟨y0, y1, y2, y3, y4, y5⟩ := BoxAt.cells hxu9
  have e0 := BoxAt.frozen hxu9 0
  have e1 := BoxAt.frozen hxu9 1
  have e2 := BoxAt.frozen hxu9 2
  have e3 := BoxAt.frozen hxu9 3
  have e4 := BoxAt.frozen hxu9 4
  have e5 := BoxAt.frozen hxu9 5
  (refine kF.lastL (j := 10) rfl (by kernel_rfl) (fun _ _ _ _ _ => Iff.rfl) (fun _ _ h1 h2 => below_S (Nat.le_refl _) h1 h2) (fun hSk K hK => ?_)
   go_simp
   refine hK.out _ _ (below_st6 hSk hBu9 _ _ _ _ _ _) ?_
   clear hK K
   try simp only [Act.put, List.setIfInBounds_toArray, List.set_cons_zero, List.set_cons_succ])
  (refine kF.takeL (i := 11) (v := ?_) rfl (by kernel_rfl) (fun _ _ _ h => h) (Or.inl ⟨by rfl, ?_⟩) ?_
   rotate_left
   · (intro wS hSw; (try dsimp only at hSw); have hcS := fun b o (h : b < W8.heap.size) => hSw.cell (p := ⟨b, o, none⟩) h; go_simp; (try with_reducible rfl))
   try simp only [Act.put, List.setIfInBounds_toArray, List.set_cons_zero, List.set_cons_succ])
  refine kF.done (by kernel_rfl) ?_
  have hSW9 : Below W8.heap.size W8 ((((((u9.setCell ⟨bu9, 0, none⟩ (.int .i64 0)).setCell ⟨bu9, 1, none⟩ (.int .i64 0)).setCell ⟨bu9, 2, none⟩ (.int .i64 0)).setCell ⟨bu9, 3, none⟩ (.slice E1 El1 Ec1)).setCell ⟨bu9, 4, none⟩ (.slice E2 El2 Ec2)).setCell ⟨bu9, 5, none⟩ (.slice E3 El3 Ec3)) := below_st6 hSu9 hBu9 0 0 0 (.slice E1 El1 Ec1) (.slice E2 El2 Ec2) (.slice E3 El3 Ec3)
  have bxW9 : Hid (BoxAt ((((((u9.setCell ⟨bu9, 0, none⟩ (.int .i64 0)).setCell ⟨bu9, 1, none⟩ (.int .i64 0)).setCell ⟨bu9, 2, none⟩ (.int .i64 0)).setCell ⟨bu9, 3, none⟩ (.slice E1 El1 Ec1)).setCell ⟨bu9, 4, none⟩ (.slice E2 El2 Ec2)).setCell ⟨bu9, 5, none⟩ (.slice E3 El3 Ec3)) bu9 0 0 0 (.slice E1 El1 Ec1) (.slice E2 El2 Ec2) (.slice E3 El3 Ec3)) := BoxAt.st6 hxu9 0 0 0 (.slice E1 El1 Ec1) (.slice E2 El2 Ec2) (.slice E3 El3 Ec3)
  have stW9 : Hid (StAt ((((((u9.setCell ⟨bu9, 0, none⟩ (.int .i64 0)).setCell ⟨bu9, 1, none⟩ (.int .i64 0)).setCell ⟨bu9, 2, none⟩ (.int .i64 0)).setCell ⟨bu9, 3, none⟩ (.slice E1 El1 Ec1)).setCell ⟨bu9, 4, none⟩ (.slice E2 El2 Ec2)).setCell ⟨bu9, 5, none⟩ (.slice E3 El3 Ec3)) ((((((u9.setCell ⟨bu9, 0, none⟩ (.int .i64 0)).setCell ⟨bu9, 1, none⟩ (.int .i64 0)).setCell ⟨bu9, 2, none⟩ (.int .i64 0)).setCell ⟨bu9, 3, none⟩ (.slice E1 El1 Ec1)).setCell ⟨bu9, 4, none⟩ (.slice E2 El2 Ec2)).setCell ⟨bu9, 5, none⟩ (.slice E3 El3 Ec3)).heap.size ⟨E1, El1, Ec1, E2, El2, Ec2, E3, El3, Ec3⟩ stNone) := StAt.box (ho.st.to hbu9) hxu9 0 0 0 (.slice E1 El1 Ec1) (.slice E2 El2 Ec2) (.slice E3 El3 Ec3)
  clear y0 y1 y2 y3 y4 y5 e0 e1 e2 e3 e4 e5 ho hxu9 hxu2 hxu4 hSu9 hSu2 hSu4 hbu9 hbu2 hbu4 hBu9 hBu2 hBu4 hbk1 hbk3 hbk5 hSk1 hSk3 hSk5 hb1 hb3 hb5
  generalize ((((((u9.setCell ⟨bu9, 0, none⟩ (.int .i64 0)).setCell ⟨bu9, 1, none⟩ (.int .i64 0)).setCell ⟨bu9, 2, none⟩ (.int .i64 0)).setCell ⟨bu9, 3, none⟩ (.slice E1 El1 Ec1)).setCell ⟨bu9, 4, none⟩ (.slice E2 El2 Ec2)).setCell ⟨bu9, 5, none⟩ (.slice E3 El3 Ec3)) = W9 at hSW9 bxW9 stW9 ⊢
  have pbW9 := Lib.hid (pbW8.out.below hSW9)
  have r1W9 := Lib.hid (ro1.out.to hSW9)
  have r2W9 := Lib.hid (ro2.out.to hSW9)
  have lW9 := pbW9.out.lt
  clear x0 x1 x2 x3 x4 x5
  obtain ⟨x0, x1, x2⟩ := pbW9.out.cells
  go_wp2_with fail
  have ee := eqlPl (plc 112 10 5)
  dsimp only [plc] at ee
  refine region_krip (fun W : World => Below W9.heap.size W9 W) (by kernel_rfl) ((Below.refl _ _).drew) ?_
  (refine kF.takeL (i := 0) (v := ?_) rfl (by kernel_rfl) (fun _ _ _ h => h) (Or.inl ⟨by rfl, ?_⟩) ?_
   rotate_left
   · (intro wS hSw; (try dsimp only at hSw); have hcS := fun b o (h : b < W9.heap.size) => hSw.cell (p := ⟨b, o, none⟩) h; go_simp; (try with_reducible rfl))
   try simp only [Act.put, List.setIfInBounds_toArray, List.set_cons_zero, List.set_cons_succ])
  (refine kF.takeL (i := 1) (v := ?_) rfl (by kernel_rfl) (fun _ _ _ h => h) (Or.inl ⟨by rfl, ?_⟩) ?_
   rotate_left
   · (intro wS hSw; (try dsimp only at hSw); have hcS := fun b o (h : b < W9.heap.size) => hSw.cell (p := ⟨b, o, none⟩) h; go_simp; (try with_reducible rfl))
   try simp only [Act.put, List.setIfInBounds_toArray, List.set_cons_zero, List.set_cons_succ])
  (refine kF.takeL (i := 2) (v := ?_) rfl (by kernel_rfl) (fun _ _ _ h => h) (Or.inl ⟨by rfl, ?_⟩) ?_
   rotate_left
   · (intro wS hSw; (try dsimp only at hSw); have hcS := fun b o (h : b < W9.heap.size) => hSw.cell (p := ⟨b, o, none⟩) h; go_simp; (try with_reducible rfl))
   try simp only [Act.put, List.setIfInBounds_toArray, List.set_cons_zero, List.set_cons_succ])
  (refine kF.takeL (i := 3) (v := ?_) rfl (by kernel_rfl) (fun _ _ _ h => h) (Or.inl ⟨by rfl, ?_⟩) ?_
   rotate_left
   · (intro wS hSw; (try dsimp only at hSw); have hcS := fun b o (h : b < W9.heap.size) => hSw.cell (p := ⟨b, o, none⟩) h; go_simp; (try with_reducible rfl))
   try simp only [Act.put, List.setIfInBounds_toArray, List.set_cons_zero, List.set_cons_succ])
  (refine kF.takeL (i := 4) (v := ?_) rfl (by kernel_rfl) (fun _ _ _ h => h) (Or.inl ⟨by rfl, ?_⟩) ?_
   rotate_left
   · (intro wS hSw; (try dsimp only at hSw); have hcS := fun b o (h : b < W9.heap.size) => hSw.cell (p := ⟨b, o, none⟩) h; go_simp; (try with_reducible rfl))
   try simp only [Act.put, List.setIfInBounds_toArray, List.set_cons_zero, List.set_cons_succ])
  (refine kF.takeL (i := 5) (v := ?_) rfl (by kernel_rfl) (fun _ _ _ h => h) (Or.inl ⟨by rfl, ?_⟩) ?_
   rotate_left
   · (intro wS hSw; (try dsimp only at hSw); have hcS := fun b o (h : b < W9.heap.size) => hSw.cell (p := ⟨b, o, none⟩) h; go_simp; (try with_reducible rfl))
   try simp only [Act.put, List.setIfInBounds_toArray, List.set_cons_zero, List.set_cons_succ])
  (refine kF.takeL (i := 6) (v := ?_) rfl (by kernel_rfl) (fun _ _ _ h => h) (Or.inl ⟨by rfl, ?_⟩) ?_
   rotate_left
   · (intro wS hSw; (try dsimp only at hSw); have hcS := fun b o (h : b < W9.heap.size) => hSw.cell (p := ⟨b, o, none⟩) h; go_simp; (try with_reducible rfl))
   try simp only [Act.put, List.setIfInBounds_toArray, List.set_cons_zero, List.set_cons_succ])
  (refine kF.takeL (i := 7) (v := ?_) rfl (by kernel_rfl) (fun _ _ _ h => h) (Or.inl ⟨by rfl, ?_⟩) ?_
   rotate_left
   · (intro wS hSw; (try dsimp only at hSw); have hcS := fun b o (h : b < W9.heap.size) => hSw.cell (p := ⟨b, o, none⟩) h; go_simp; (try with_reducible rfl))
   try simp only [Act.put, List.setIfInBounds_toArray, List.set_cons_zero, List.set_cons_succ])
  (refine kF.takeL (i := 8) (v := ?_) rfl (by kernel_rfl) (fun _ _ _ h => h) (Or.inl ⟨by rfl, ?_⟩) ?_
   rotate_left
   · (intro wS hSw; (try dsimp only at hSw); have hcS := fun b o (h : b < W9.heap.size) => hSw.cell (p := ⟨b, o, none⟩) h; go_simp; (try with_reducible rfl))
   try simp only [Act.put, List.setIfInBounds_toArray, List.set_cons_zero, List.set_cons_succ])
  (refine kF.takeL (i := 9) (v := ?_) rfl (by kernel_rfl) (fun _ _ _ h => h) (Or.inl ⟨by rfl, ?_⟩) ?_
   rotate_left
   · (intro wS hSw; (try dsimp only at hSw); have hcS := fun b o (h : b < W9.heap.size) => hSw.cell (p := ⟨b, o, none⟩) h; go_simp; (try with_reducible rfl))
   try simp only [Act.put, List.setIfInBounds_toArray, List.set_cons_zero, List.set_cons_succ])
  (refine kF.takeL (i := 10) (v := ?_) rfl (by kernel_rfl) (fun _ _ _ h => h) (Or.inl ⟨by rfl, ?_⟩) ?_
   rotate_left
   · (intro wS hSw; (try dsimp only at hSw); have hcS := fun b o (h : b < W9.heap.size) => hSw.cell (p := ⟨b, o, none⟩) h; go_simp; (try with_reducible rfl))
   try simp only [Act.put, List.setIfInBounds_toArray, List.set_cons_zero, List.set_cons_succ])
  (refine kF.takeL (i := 11) (v := ?_) rfl (by kernel_rfl) (fun _ _ _ h => h) (Or.inl ⟨by rfl, ?_⟩) ?_
   rotate_left
   · (intro wS hSw; (try dsimp only at hSw); have hcS := fun b o (h : b < W9.heap.size) => hSw.cell (p := ⟨b, o, none⟩) h; go_simp; (try with_reducible rfl))
   try simp only [Act.put, List.setIfInBounds_toArray, List.set_cons_zero, List.set_cons_succ])
  (refine kF.takeL (i := 12) (v := ?_) rfl (by kernel_rfl) (fun _ _ _ h => h) (Or.inl ⟨by rfl, ?_⟩) ?_
   rotate_left
   · (intro wS hSw; (try dsimp only at hSw); have hcS := fun b o (h : b < W9.heap.size) => hSw.cell (p := ⟨b, o, none⟩) h; go_simp; (try with_reducible rfl))
   try simp only [Act.put, List.setIfInBounds_toArray, List.set_cons_zero, List.set_cons_succ])
  (refine kF.takeL (i := 13) (v := ?_) rfl (by kernel_rfl) (fun _ _ _ h => h) (Or.inl ⟨by rfl, ?_⟩) ?_
   rotate_left
   · (intro wS hSw; (try dsimp only at hSw); have hcS := fun b o (h : b < W9.heap.size) => hSw.cell (p := ⟨b, o, none⟩) h; go_simp; (try with_reducible rfl))
   try simp only [Act.put, List.setIfInBounds_toArray, List.set_cons_zero, List.set_cons_succ])
  (refine kF.takeL (i := 14) (v := ?_) rfl (by kernel_rfl) (fun _ _ _ h => h) (Or.inl ⟨by rfl, ?_⟩) ?_
   rotate_left
   · (intro wS hSw; (try dsimp only at hSw); have hcS := fun b o (h : b < W9.heap.size) => hSw.cell (p := ⟨b, o, none⟩) h; go_simp; (try with_reducible rfl))
   try simp only [Act.put, List.setIfInBounds_toArray, List.set_cons_zero, List.set_cons_succ])
  (refine kF.takeL (i := 15) (v := ?_) rfl (by kernel_rfl) (fun _ _ _ h => h) (Or.inl ⟨by rfl, ?_⟩) ?_
   rotate_left
   · (intro wS hSw; (try dsimp only at hSw); have hcS := fun b o (h : b < W9.heap.size) => hSw.cell (p := ⟨b, o, none⟩) h; go_simp; (try with_reducible rfl))
   try simp only [Act.put, List.setIfInBounds_toArray, List.set_cons_zero, List.set_cons_succ])
  (refine kF.takeL (i := 16) (v := ?_) rfl (by kernel_rfl) (fun _ _ _ h => h) (Or.inl ⟨by rfl, ?_⟩) ?_
   rotate_left
   · (intro wS hSw; (try dsimp only at hSw); have hcS := fun b o (h : b < W9.heap.size) => hSw.cell (p := ⟨b, o, none⟩) h; go_simp; (try with_reducible rfl))
   try simp only [Act.put, List.setIfInBounds_toArray, List.set_cons_zero, List.set_cons_succ])
  (refine kF.takeL (i := 17) (v := ?_) rfl (by kernel_rfl) (fun _ _ _ h => h) (Or.inl ⟨by rfl, ?_⟩) ?_
   rotate_left
   · (intro wS hSw; (try dsimp only at hSw); have hcS := fun b o (h : b < W9.heap.size) => hSw.cell (p := ⟨b, o, none⟩) h; go_simp; (try with_reducible rfl))
   try simp only [Act.put, List.setIfInBounds_toArray, List.set_cons_zero, List.set_cons_succ])
  (refine kF.takeL (i := 18) (v := ?_) rfl (by kernel_rfl) (fun _ _ _ h => h) (Or.inl ⟨by rfl, ?_⟩) ?_
   rotate_left
   · (intro wS hSw; (try dsimp only at hSw); have hcS := fun b o (h : b < W9.heap.size) => hSw.cell (p := ⟨b, o, none⟩) h; go_simp; (try with_reducible rfl))
   try simp only [Act.put, List.setIfInBounds_toArray, List.set_cons_zero, List.set_cons_succ])
  (refine kF.takeL (i := 19) (v := ?_) rfl (by kernel_rfl) (fun _ _ _ h => h) (Or.inl ⟨by rfl, ?_⟩) ?_
   rotate_left
   · (intro wS hSw; (try dsimp only at hSw); have hcS := fun b o (h : b < W9.heap.size) => hSw.cell (p := ⟨b, o, none⟩) h; go_simp; (try with_reducible rfl))
   try simp only [Act.put, List.setIfInBounds_toArray, List.set_cons_zero, List.set_cons_succ])
  (refine kF.takeL (i := 20) (v := ?_) rfl (by kernel_rfl) (fun _ _ _ h => h) (Or.inl ⟨by rfl, ?_⟩) ?_
   rotate_left
   · (intro wS hSw; (try dsimp only at hSw); have hcS := fun b o (h : b < W9.heap.size) => hSw.cell (p := ⟨b, o, none⟩) h; go_simp; (try with_reducible rfl))
   try simp only [Act.put, List.setIfInBounds_toArray, List.set_cons_zero, List.set_cons_succ])
  (refine kF.lastL (j := 21) rfl (by kernel_rfl) (fun _ _ _ _ _ => Iff.rfl) (fun _ _ h1 h2 => below_S (Nat.le_refl _) h1 h2) (fun hSk K hK => ?_)
   (go_simp; refine (law17_at 112 10 5 _).mono ?_; rintro e m21 ⟨rfl, hb21⟩)
   refine hK.out _ _ (below_S (Nat.le_refl _) hSk hb21) ?_
   clear hK K
   try simp only [Act.put, List.setIfInBounds_toArray, List.set_cons_zero, List.set_cons_succ])
  (refine kF.takeL (i := 22) (v := ?_) rfl (by kernel_rfl) (fun _ _ _ h => h) (Or.inl ⟨by rfl, ?_⟩) ?_
   rotate_left
   · (intro wS hSw; (try dsimp only at hSw); have hcS := fun b o (h : b < W9.heap.size) => hSw.cell (p := ⟨b, o, none⟩) h; go_simp; (try with_reducible rfl))
   try simp only [Act.put, List.setIfInBounds_toArray, List.set_cons_zero, List.set_cons_succ])
  (refine kF.takeL (i := 23) (v := ?_) rfl (by kernel_rfl) (fun _ _ _ h => h) (Or.inl ⟨by rfl, ?_⟩) ?_
   rotate_left
   · (intro wS hSw; (try dsimp only at hSw); have hcS := fun b o (h : b < W9.heap.size) => hSw.cell (p := ⟨b, o, none⟩) h; go_simp; (try with_reducible rfl))
   try simp only [Act.put, List.setIfInBounds_toArray, List.set_cons_zero, List.set_cons_succ])
  (refine kF.takeL (i := 24) (v := ?_) rfl (by kernel_rfl) (fun _ _ _ h => h) (Or.inl ⟨by rfl, ?_⟩) ?_
   rotate_left
   · (intro wS hSw; (try dsimp only at hSw); have hcS := fun b o (h : b < W9.heap.size) => hSw.cell (p := ⟨b, o, none⟩) h; go_simp; (try with_reducible rfl))
   try simp only [Act.put, List.setIfInBounds_toArray, List.set_cons_zero, List.set_cons_succ])
  (refine kF.takeL (i := 25) (v := ?_) rfl (by kernel_rfl) (fun _ _ _ h => h) (Or.inl ⟨by rfl, ?_⟩) ?_
   rotate_left
   · (intro wS hSw; (try dsimp only at hSw); have hcS := fun b o (h : b < W9.heap.size) => hSw.cell (p := ⟨b, o, none⟩) h; go_simp; (try with_reducible rfl))
   try simp only [Act.put, List.setIfInBounds_toArray, List.set_cons_zero, List.set_cons_succ])
  (refine kF.takeL (i := 26) (v := ?_) rfl (by kernel_rfl) (fun _ _ _ h => h) (Or.inl ⟨by rfl, ?_⟩) ?_
   rotate_left
   · (intro wS hSw; (try dsimp only at hSw); have hcS := fun b o (h : b < W9.heap.size) => hSw.cell (p := ⟨b, o, none⟩) h; go_simp; (try with_reducible rfl))
   try simp only [Act.put, List.setIfInBounds_toArray, List.set_cons_zero, List.set_cons_succ])
  (refine kF.takeL (i := 27) (v := ?_) rfl (by kernel_rfl) (fun _ _ _ h => h) (Or.inl ⟨by rfl, ?_⟩) ?_
   rotate_left
   · (intro wS hSw; (try dsimp only at hSw); have hcS := fun b o (h : b < W9.heap.size) => hSw.cell (p := ⟨b, o, none⟩) h; go_simp; (try with_reducible rfl))
   try simp only [Act.put, List.setIfInBounds_toArray, List.set_cons_zero, List.set_cons_succ])
  (refine kF.takeL (i := 28) (v := ?_) rfl (by kernel_rfl) (fun _ _ _ h => h) (Or.inl ⟨by rfl, ?_⟩) ?_
   rotate_left
   · (intro wS hSw; (try dsimp only at hSw); have hcS := fun b o (h : b < W9.heap.size) => hSw.cell (p := ⟨b, o, none⟩) h; go_simp; (try with_reducible rfl))
   try simp only [Act.put, List.setIfInBounds_toArray, List.set_cons_zero, List.set_cons_succ])
  (refine kF.takeL (i := 29) (v := ?_) rfl (by kernel_rfl) (fun _ _ _ h => h) (Or.inl ⟨by rfl, ?_⟩) ?_
   rotate_left
   · (intro wS hSw; (try dsimp only at hSw); have hcS := fun b o (h : b < W9.heap.size) => hSw.cell (p := ⟨b, o, none⟩) h; go_simp; (try with_reducible rfl))
   try simp only [Act.put, List.setIfInBounds_toArray, List.set_cons_zero, List.set_cons_succ])
  (refine kF.takeL (i := 30) (v := ?_) rfl (by kernel_rfl) (fun _ _ _ h => h) (Or.inl ⟨by rfl, ?_⟩) ?_
   rotate_left
   · (intro wS hSw; (try dsimp only at hSw); have hcS := fun b o (h : b < W9.heap.size) => hSw.cell (p := ⟨b, o, none⟩) h; go_simp; (try with_reducible rfl))
   try simp only [Act.put, List.setIfInBounds_toArray, List.set_cons_zero, List.set_cons_succ])
  (refine kF.takeL (i := 31) (v := ?_) rfl (by kernel_rfl) (fun _ _ _ h => h) (Or.inl ⟨by rfl, ?_⟩) ?_
   rotate_left
   · (intro wS hSw; (try dsimp only at hSw); have hcS := fun b o (h : b < W9.heap.size) => hSw.cell (p := ⟨b, o, none⟩) h; go_simp; (try with_reducible rfl))
   try simp only [Act.put, List.setIfInBounds_toArray, List.set_cons_zero, List.set_cons_succ])
  (refine kF.takeL (i := 32) (v := ?_) rfl (by kernel_rfl) (fun _ _ _ h => h) (Or.inl ⟨by rfl, ?_⟩) ?_
   rotate_left
   · (intro wS hSw; (try dsimp only at hSw); have hcS := fun b o (h : b < W9.heap.size) => hSw.cell (p := ⟨b, o, none⟩) h; go_simp; (try with_reducible rfl))
   try simp only [Act.put, List.setIfInBounds_toArray, List.set_cons_zero, List.set_cons_succ])
  (refine kF.takeL (i := 33) (v := ?_) rfl (by kernel_rfl) (fun _ _ _ h => h) (Or.inl ⟨by rfl, ?_⟩) ?_
   rotate_left
   · (intro wS hSw; (try dsimp only at hSw); have hcS := fun b o (h : b < W9.heap.size) => hSw.cell (p := ⟨b, o, none⟩) h; go_simp; (try with_reducible rfl))
   try simp only [Act.put, List.setIfInBounds_toArray, List.set_cons_zero, List.set_cons_succ])
  (refine kF.takeL (i := 34) (v := ?_) rfl (by kernel_rfl) (fun _ _ _ h => h) (Or.inl ⟨by rfl, ?_⟩) ?_
   rotate_left
   · (intro wS hSw; (try dsimp only at hSw); have hcS := fun b o (h : b < W9.heap.size) => hSw.cell (p := ⟨b, o, none⟩) h; go_simp; (try with_reducible rfl))
   try simp only [Act.put, List.setIfInBounds_toArray, List.set_cons_zero, List.set_cons_succ])
  (refine kF.takeL (i := 35) (v := ?_) rfl (by kernel_rfl) (fun _ _ _ h => h) (Or.inl ⟨by rfl, ?_⟩) ?_
   rotate_left
   · (intro wS hSw; (try dsimp only at hSw); have hcS := fun b o (h : b < W9.heap.size) => hSw.cell (p := ⟨b, o, none⟩) h; go_simp; (try with_reducible rfl))
   try simp only [Act.put, List.setIfInBounds_toArray, List.set_cons_zero, List.set_cons_succ])
  (refine kF.takeL (i := 36) (v := ?_) rfl (by kernel_rfl) (fun _ _ _ h => h) (Or.inl ⟨by rfl, ?_⟩) ?_
   rotate_left
   · (intro wS hSw; (try dsimp only at hSw); have hcS := fun b o (h : b < W9.heap.size) => hSw.cell (p := ⟨b, o, none⟩) h; go_simp; (try with_reducible rfl))
   try simp only [Act.put, List.setIfInBounds_toArray, List.set_cons_zero, List.set_cons_succ])
  (refine kF.takeL (i := 37) (v := ?_) rfl (by kernel_rfl) (fun _ _ _ h => h) (Or.inl ⟨by rfl, ?_⟩) ?_
   rotate_left
   · (intro wS hSw; (try dsimp only at hSw); have hcS := fun b o (h : b < W9.heap.size) => hSw.cell (p := ⟨b, o, none⟩) h; go_simp; (try with_reducible rfl))
   try simp only [Act.put, List.setIfInBounds_toArray, List.set_cons_zero, List.set_cons_succ])
  (refine kF.lastL (j := 38) rfl (by kernel_rfl) (fun _ _ _ _ _ => Iff.rfl) (fun _ _ h1 h2 => below_S (Nat.le_refl _) h1 h2) (fun hSk K hK => ?_)
   (go_simp; refine (law17_d 97 _).mono ?_; rintro e m38 ⟨rfl, hb38⟩)
   refine hK.out _ _ (below_S (Nat.le_refl _) hSk hb38) ?_
   clear hK K
   try simp only [Act.put, List.setIfInBounds_toArray, List.set_cons_zero, List.set_cons_succ])
  (refine kF.lastL (j := 39) rfl (by kernel_rfl) (fun _ _ _ _ _ => Iff.rfl) (fun _ _ h1 h2 => below_S (Nat.le_refl _) h1 h2) (fun hSk K hK => ?_)
   (go_simp; refine (law17_d 98 _).mono ?_; rintro e m39 ⟨rfl, hb39⟩)
   refine hK.out _ _ (below_S (Nat.le_refl _) hSk hb39) ?_
   clear hK K
   try simp only [Act.put, List.setIfInBounds_toArray, List.set_cons_zero, List.set_cons_succ])
  (refine kF.newL (i := 40) (fun b => .slice (some ⟨b, 0, none⟩) 2 2) (.cells #[.string (letterRoot 97), .string (letterRoot 98)] 9) rfl (by kernel_rfl) (by rfl) ?_ ?_
   · (intro wS; go_simp; (try with_reducible rfl)))
  (refine kF.settleL (by kernel_rfl) (fun _ _ _ _ _ => Iff.rfl) (fun _ _ h1 h2 => below_S (Nat.le_refl _) h1 h2) (fun u40 hbu40 hSu40 v hv => ?_)
   obtain ⟨bu40, hBu40, rfl, hxu40⟩ := hv
   try simp only [Act.put, List.setIfInBounds_toArray, List.set_cons_zero, List.set_cons_succ])
  (refine kF.lastL (j := 41) rfl (by kernel_rfl) (fun _ _ _ _ _ => Iff.rfl) (fun _ _ h1 h2 => below_S (Nat.le_refl _) h1 h2) (fun hSk K hK => ?_)
   (go_simp; refine (law17_texts _ _ 2 2 _ _ [la, lb] [la, lb] _ (r1W9.out.to hSk) (row2 hxu40)).mono ?_; rw [eqL_same]; rintro e m41 ⟨rfl, hb41⟩)
   refine hK.out _ _ (below_S (Nat.le_refl _) hSk hb41) ?_
   clear hK K
   try simp only [Act.put, List.setIfInBounds_toArray, List.set_cons_zero, List.set_cons_succ])
  (refine kF.takeL (i := 42) (v := ?_) rfl (by kernel_rfl) (fun _ _ _ h => h) (Or.inl ⟨by rfl, ?_⟩) ?_
   rotate_left
   · (intro wS hSw; (try dsimp only at hSw); have hcS := fun b o (h : b < W9.heap.size) => hSw.cell (p := ⟨b, o, none⟩) h; go_simp; (try with_reducible rfl))
   try simp only [Act.put, List.setIfInBounds_toArray, List.set_cons_zero, List.set_cons_succ])
  (refine kF.takeL (i := 43) (v := ?_) rfl (by kernel_rfl) (fun _ _ _ h => h) (Or.inl ⟨by rfl, ?_⟩) ?_
   rotate_left
   · (intro wS hSw; (try dsimp only at hSw); have hcS := fun b o (h : b < W9.heap.size) => hSw.cell (p := ⟨b, o, none⟩) h; go_simp; (try with_reducible rfl))
   try simp only [Act.put, List.setIfInBounds_toArray, List.set_cons_zero, List.set_cons_succ])
  (refine kF.takeL (i := 44) (v := ?_) rfl (by kernel_rfl) (fun _ _ _ h => h) (Or.inl ⟨by rfl, ?_⟩) ?_
   rotate_left
   · (intro wS hSw; (try dsimp only at hSw); have hcS := fun b o (h : b < W9.heap.size) => hSw.cell (p := ⟨b, o, none⟩) h; go_simp; (try with_reducible rfl))
   try simp only [Act.put, List.setIfInBounds_toArray, List.set_cons_zero, List.set_cons_succ])
  (refine kF.lastL (j := 45) rfl (by kernel_rfl) (fun _ _ _ _ _ => Iff.rfl) (fun _ _ h1 h2 => below_S (Nat.le_refl _) h1 h2) (fun hSk K hK => ?_)
   (go_simp; refine (law17_at 112 10 5 _).mono ?_; rintro e m45 ⟨rfl, hb45⟩)
   refine hK.out _ _ (below_S (Nat.le_refl _) hSk hb45) ?_
   clear hK K
   try simp only [Act.put, List.setIfInBounds_toArray, List.set_cons_zero, List.set_cons_succ])
  (refine kF.lastL (j := 46) rfl (by kernel_rfl) (fun _ _ _ _ _ => Iff.rfl) (fun _ _ h1 h2 => below_S (Nat.le_refl _) h1 h2) (fun hSk K hK => ?_)
   (go_simp; refine (law17_at 112 15 5 _).mono ?_; rintro e m46 ⟨rfl, hb46⟩)
   refine hK.out _ _ (below_S (Nat.le_refl _) hSk hb46) ?_
   clear hK K
   try simp only [Act.put, List.setIfInBounds_toArray, List.set_cons_zero, List.set_cons_succ])
  (refine kF.newL (i := 47) (fun b => .slice (some ⟨b, 0, none⟩) 2 2) (.cells #[.string (letterRoot 112), .int .i64 10, .int .i64 5, .string (letterRoot 112), .int .i64 15, .int .i64 5] 35) rfl (by kernel_rfl) (by rfl) ?_ ?_
   · (intro wS; go_simp; (try with_reducible rfl)))
  (refine kF.settleL (by kernel_rfl) (fun _ _ _ _ _ => Iff.rfl) (fun _ _ h1 h2 => below_S (Nat.le_refl _) h1 h2) (fun u47 hbu47 hSu47 v hv => ?_)
   obtain ⟨bu47, hBu47, rfl, hxu47⟩ := hv
   try simp only [Act.put, List.setIfInBounds_toArray, List.set_cons_zero, List.set_cons_succ])
  (refine kF.lastL (j := 48) rfl (by kernel_rfl) (fun _ _ _ _ _ => Iff.rfl) (fun _ _ h1 h2 => below_S (Nat.le_refl _) h1 h2) (fun hSk K hK => ?_)
   (go_simp; refine (law17_places _ _ 2 2 _ _ [plc 112 10 5, plc 112 15 5] [plc 112 10 5, plc 112 15 5] _ (r2W9.out.to hSk) (prow2 hxu47)).mono ?_; rw [eqL_same]; rintro e m48 ⟨rfl, hb48⟩)
   refine hK.out _ _ (below_S (Nat.le_refl _) hSk hb48) ?_
   clear hK K
   try simp only [Act.put, List.setIfInBounds_toArray, List.set_cons_zero, List.set_cons_succ])
  (refine kF.takeL (i := 49) (v := ?_) rfl (by kernel_rfl) (fun _ _ _ h => h) (Or.inl ⟨by rfl, ?_⟩) ?_
   rotate_left
   · (intro wS hSw; (try dsimp only at hSw); have hcS := fun b o (h : b < W9.heap.size) => hSw.cell (p := ⟨b, o, none⟩) h; go_simp; (try with_reducible rfl))
   try simp only [Act.put, List.setIfInBounds_toArray, List.set_cons_zero, List.set_cons_succ])
  (refine kF.takeL (i := 50) (v := ?_) rfl (by kernel_rfl) (fun _ _ _ h => h) (Or.inl ⟨by rfl, ?_⟩) ?_
   rotate_left
   · (intro wS hSw; (try dsimp only at hSw); have hcS := fun b o (h : b < W9.heap.size) => hSw.cell (p := ⟨b, o, none⟩) h; go_simp; (try with_reducible rfl))
   try simp only [Act.put, List.setIfInBounds_toArray, List.set_cons_zero, List.set_cons_succ])
  (refine kF.takeL (i := 51) (v := ?_) rfl (by kernel_rfl) (fun _ _ _ h => h) (Or.inl ⟨by rfl, ?_⟩) ?_
   rotate_left
   · (intro wS hSw; (try dsimp only at hSw); have hcS := fun b o (h : b < W9.heap.size) => hSw.cell (p := ⟨b, o, none⟩) h; go_simp; (try with_reducible rfl))
   try simp only [Act.put, List.setIfInBounds_toArray, List.set_cons_zero, List.set_cons_succ])
  (refine kF.takeL (i := 52) (v := ?_) rfl (by kernel_rfl) (fun _ _ _ h => h) (Or.inl ⟨by rfl, ?_⟩) ?_
   rotate_left
   · (intro wS hSw; (try dsimp only at hSw); have hcS := fun b o (h : b < W9.heap.size) => hSw.cell (p := ⟨b, o, none⟩) h; go_simp; (try with_reducible rfl))
   try simp only [Act.put, List.setIfInBounds_toArray, List.set_cons_zero, List.set_cons_succ])
  (refine kF.takeL (i := 53) (v := ?_) rfl (by kernel_rfl) (fun _ _ _ h => h) (Or.inl ⟨by rfl, ?_⟩) ?_
   rotate_left
   · (intro wS hSw; (try dsimp only at hSw); have hcS := fun b o (h : b < W9.heap.size) => hSw.cell (p := ⟨b, o, none⟩) h; go_simp; (try with_reducible rfl))
   try simp only [Act.put, List.setIfInBounds_toArray, List.set_cons_zero, List.set_cons_succ])
  (refine kF.takeL (i := 54) (v := ?_) rfl (by kernel_rfl) (fun _ _ _ h => h) (Or.inl ⟨by rfl, ?_⟩) ?_
   rotate_left
   · (intro wS hSw; (try dsimp only at hSw); have hcS := fun b o (h : b < W9.heap.size) => hSw.cell (p := ⟨b, o, none⟩) h; go_simp; (try with_reducible rfl))
   try simp only [Act.put, List.setIfInBounds_toArray, List.set_cons_zero, List.set_cons_succ])
  refine kF.done (by kernel_rfl) ?_
  have hSx := hSk.trans (hb48.mono hSk.size)
  have fW4 := fb3.trans (hSW4.mono fb3.size)
  have fW5 := fW4.trans (hSW5.mono fW4.size)
  have fW6 := fW5.trans (hSW6.mono fW5.size)
  have fW7 := fW6.trans (hSW7.mono fW6.size)
  have fW8 := fW7.trans (hSW8.mono fW7.size)
  have fW9 := fW8.trans (hSW9.mono fW8.size)
  have ffin := Lib.hid (fW9.trans (hSx.mono fW9.size))
  clear x0 x1 x2
  go_wp2_with fail
  go_ret
  exact ⟨rfl, ffin.out⟩
end Go.Proofs.Ytbfephekkfieaaa
