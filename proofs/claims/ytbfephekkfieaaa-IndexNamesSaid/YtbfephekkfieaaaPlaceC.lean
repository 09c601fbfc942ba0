/-
  slices.Values over places: what the iterator gives.
-/
import Derived.Test.YtbfephekkfieaaaPlaceB
import Derived.RangeFuncBox
import Derived.RangeFuncLeaves
import Derived.RangeFuncGives
import Derived.Shelf.Abstract
import Derived.OwnWalkIn
import Derived.TacticsInMore
import Derived.LoopNIn
import Derived.LoopIn
namespace Go.Proofs.Ytbfephekkfieaaa
open Go.RowKit Go.Shelf Go.Sort
attribute [local go_sem] Oper.semAt_some

/-- An iterator over memory below w gives xs. -/
def SeqGivesK {α : Type} (F : Fence) (n : Nat) (P : Program) (g : Nat) (lb : Array Value) (enc : α → Value) (S : List α → Prop) (N : Nat) (w : World) : Prop :=
  ∀ (l : Nat) (J : List α → World → Prop) (W : World), Below w.heap.size w W → (∀ pre W1 o, J pre W1 → J pre (W1.alloc o)) →
    (∀ pre x W1, J pre W1 → pre.length < N → YieldAt F (n - 1) P l #[enc x] W1 fun e W' => e = .returned (.bool true) ∧ J (pre ++ [x]) W' ∧ Below w.heap.size W1 W') →
    J [] W →
    CallsIn F n P g (#[.func (.yield l) #[] #[]] ++ lb) W fun e W' => (∃ v, e = .returned v) ∧ ∃ xs, S xs ∧ J xs W'

set_option maxRecDepth 100000 in
set_option maxHeartbeats 2000000 in
theorem values_gives (F : Fence) (n : Nat) (h7 : F.fn 73) (hro : F.round = none) (hn : 1 ≤ n) (Bs m c : Nat) (A : Option Addr) (pl : List Place) (w : World) (hB0 : Bs < w.heap.size)
    (hBs : w.cell? ⟨Bs, 0, none⟩ = some (.slice A m c)) (h : PlacesAt w w.heap.size A m pl) :
    SeqGivesK F n Try.prog 73 #[.pointer (some ⟨Bs, 0, none⟩)] Place.agg (fun xs => xs = pl) m w := by
  intro l J W hW hJa hY h0
  have hm := h.2.1
  have hl := Lib.hid h.1
  have hcb := (hW.cell (p := ⟨Bs, 0, none⟩) hB0).trans hBs
  refine callsIn_of_wp Try.func73 rfl h7 ?_ hro
  simp only [Try.ntmps73, List.size_toArray, List.length_cons, List.length_nil, Nat.reduceAdd, Nat.reduceSub, Array.replicate_succ, Array.replicate_zero, List.push_toArray, List.append_toArray, List.nil_append, List.cons_append]
  gi_wp2
  gi_loopw [7] (fun i wr => ∃ k : Nat, k ≤ m ∧ i = .int .i64 k ∧ J (pl.take k) wr ∧ Below w.heap.size w wr) (fun i _ => m - (intOf i).toNat)
  case atStart => exact ⟨0, Nat.zero_le _, rfl, h0, hW⟩
  case round =>
    obtain ⟨k, hk, rfl, hJs, hnx⟩ := hrel
    have hz := hnx.size
    by_cases hlt : k < m
    · obtain ⟨b, off, p, rfl, hb, hx, q0, q1, q2⟩ := (h.to hnx).place hlt
      have htk : Hid (pl.take (k + 1) = pl.take k ++ [p]) := by unfold Hid; rw [List.take_add_one, hx]; rfl
      have hlen : (pl.take k).length < m := by rw [List.length_take]; have := hl.out; omega
      obtain ⟨fn, tmps, assign, body, hy, hR⟩ := hY _ p (wr.alloc (.cells #[.string p.pack, .int .i64 p.at_, .int .i64 p.len] 35)) (hJa _ _ _ hJs) hlen
      clear hx hlen
      unfold Place.agg at hy
      gi_wp2
      refine hR.mono ?_
      rintro e W3 ⟨rfl, hJ3, hk3⟩
      gi_wp2
      go_roundw
      case rel => exact ⟨k + 1, by omega, by simp, by rw [htk.out]; exact hJ3, (hnx.alloc hz _).trans hk3⟩
      case measure => simp [intOf]; omega
    · obtain rfl : k = m := by omega
      gi_wp2
      go_end0
      exact ⟨⟨_, rfl⟩, pl, rfl, by rwa [List.take_of_length_le (by have := hl.out; omega)] at hJs⟩

/-! slices.AppendSeq(nil, seq) at places. -/

def firstRange : Code → Option (Code × Code)
  | .rangeFunc _ _ a c => some (a, c)
  | .seq a b => match firstRange a with
    | some c => some c
    | none => firstRange b
  | .block _ c => firstRange c
  | .scope c => firstRange c
  | .cond _ a b => match firstRange a with
    | some c => some c
    | none => firstRange b
  | .loop c => firstRange c
  | _ => none
noncomputable def apAssign : Code := ((Try.f90.body.bind firstRange).map (·.1)).getD .skip
noncomputable def apBody : Code := ((Try.f90.body.bind firstRange).map (·.2)).getD .skip
/-- The loop's record: AppendSeq's temporaries as they stood at the entering: 's' boxed in block Bs; sv: the iterator's value. -/
noncomputable def apRec (fn : FuncId) (sv : Value) (Bs D : Nat) (st : LoopState) (pend : Option Code) : Loop :=
  { state := st, pending := pend, fn, tmps := #[.slice none 0 0, sv, .pointer (some ⟨Bs, 0, none⟩), undef, .slice none 0 0, undef, sv, undef, undef, undef, undef, undef, undef], params := #[7], assign := apAssign, body := apBody, defers := D }


structure ApAt (w0 : World) (fn : FuncId) (sv : Value) (Bs l D : Nat) (ss : List Place) (W : World) : Prop where
  box : ∃ v, W.heap[Bs]? = some (.cells #[v] 27 (0, 0)) ∧ placeE.Own W w0.heap.size v ss
  L : W.heap[l]? = some (.loop (apRec fn sv Bs D .ready none))
  K : W.heap[D]? = some (.deferred (some []))
  below : Below w0.heap.size w0 W

theorem heap_alloc_lt {W : World} {o x : Obj} {j : Nat} (h : W.heap[j]? = some x) : (W.alloc o).heap[j]? = some x :=
  (Below.heap_alloc _ _ j (Array.getElem?_eq_some_iff.1 h).1).trans h
theorem ApAt.alloc {w0 : World} {fn : FuncId} {sv : Value} {Bs l D : Nat} {ss : List Place} {W : World} (h : ApAt w0 fn sv Bs l D ss W) (o : Obj) : ApAt w0 fn sv Bs l D ss (W.alloc o) := by
  obtain ⟨v, hv, ho⟩ := h.box
  exact ⟨⟨v, heap_alloc_lt hv, ho.alloc o⟩, heap_alloc_lt h.L, heap_alloc_lt h.K, h.below.alloc h.below.size _⟩

theorem grownBy_putObj (W : World) (l : Nat) (o : Obj) : W.grownBy (W.putObj l o) (some l) :=
  ⟨rfl, rfl, rfl, by simp, fun k _ hk => World.putObj_heap_other (fun e => hk (by rw [e]))⟩
theorem grownBy_setCell0 (W : World) (b : Nat) (v : Value) : W.grownBy (W.setCell ⟨b, 0, none⟩ v) (some b) :=
  ⟨rfl, rfl, rfl, (KeepsWalks.setCell W _ v).size, fun k _ hk => Below.heap_setCell _ _ _ k (fun e => hk (by rw [e]))⟩
theorem own_ne {α : Type} {k : Nat} {enc : α → List Value} {T : TypeId} {W : World} {base : Nat} {v : Value} {l : List α} (h : Owns k enc T W base v l) {j : Nat} {o : Obj} (hj : W.heap[j]? = some o) (hno : ∀ cur, o ≠ .cells cur T (0, 0)) :
    v.ownBlock = none ∨ v.ownBlock ≠ some j := by
  rcases h.2 with ⟨rfl, _⟩ | ⟨g, cap, cur, rfl, _, hgb, _⟩
  · exact .inl rfl
  · refine .inr fun e' => ?_
    have : g = j := by simpa [Value.ownBlock] using e'
    subst this; rw [hgb] at hj; cases hj; exact hno cur rfl
theorem cell_of_box {W : World} {B : Nat} {v : Value} {t : TypeId} (h : W.heap[B]? = some (.cells #[v] t (0, 0))) : W.cell? ⟨B, 0, none⟩ = some v ∧ W.frozen? ⟨B, 0, none⟩ = false := by
  constructor <;> simp [World.cell?, World.frozen?, h]
theorem heap_setCell_box {W : World} {B : Nat} {v : Value} {t : TypeId} (v' : Value) (h : W.heap[B]? = some (.cells #[v] t (0, 0))) : (W.setCell ⟨B, 0, none⟩ v').heap[B]? = some (.cells #[v'] t (0, 0)) := by
  obtain ⟨hlt, hk⟩ := Array.getElem?_eq_some_iff.1 h
  show (W.heap.modify B _)[B]? = _
  rw [Array.getElem?_eq_getElem (by rw [Array.size_modify]; exact hlt), Array.getElem_modify_self, hk]
  rfl

set_option maxRecDepth 100000 in
set_option maxHeartbeats 2000000 in
theorem apYield (F : Fence) (m : Nat) (w0 : World) (fn : FuncId) (hfn : F.fn fn) (sv : Value) (Bs l D : Nat) (hBl : Bs ≠ l) (hDl : D ≠ l) (hDB : D ≠ Bs) (h0B : w0.heap.size ≤ Bs) (h0l : w0.heap.size ≤ l)
    (ss : List Place) (x : Place) (W : World) (h : ApAt w0 fn sv Bs l D ss W) (hlen : ss.length < 1000000000) :
    YieldAt F m Try.prog l #[x.agg] W fun e W' => e = .returned (.bool true) ∧ ApAt w0 fn sv Bs l D (ss ++ [x]) W' ∧ Below w0.heap.size W W' := by
  obtain ⟨i0, hi, hz0, hz1, hz2⟩ := infoOf placeE.info
  have hXl : l ≠ W.heap.size := Nat.ne_of_lt (Array.getElem?_eq_some_iff.1 h.L).1
  refine ⟨fn, #[.slice none 0 0, sv, .pointer (some ⟨Bs, 0, none⟩), undef, .slice none 0 0, undef, sv, x.agg, undef, undef, undef, undef, undef], apAssign, apBody, by simpa [apRec] using run_yield (P := Try.prog) (args := #[x.agg]) h.L rfl, roundIn_of_wpIn hfn ?_⟩
  conv => arg 4; whnf
  unfold Place.agg
  gi_wp2_with (rw [Oper.semAt_eq _ _ _ (fun c h => by cases h)]; go_simp; try go_bits)
  obtain ⟨W1, hW1⟩ : ∃ W1, W1 = W.alloc (.cells #[.string x.pack, .int .i64 x.at_, .int .i64 x.len] 35) := ⟨_, rfl⟩
  rw [← hW1]
  have hb01 : Below w0.heap.size W W1 := by rw [hW1]; exact (Below.refl _ _).alloc h.below.size _
  have hz01 : W.heap.size < W1.heap.size := by rw [hW1]; simp
  have e0 : W1.cell? ⟨W.heap.size, 0, none⟩ = some (.string x.pack) := by rw [hW1]; go_simp
  have e1 : W1.cell? ⟨W.heap.size, 1, none⟩ = some (.int .i64 x.at_) := by rw [hW1]; go_simp
  have e2 : W1.cell? ⟨W.heap.size, 2, none⟩ = some (.int .i64 x.len) := by rw [hW1]; go_simp
  replace h : ApAt w0 fn sv Bs l D ss W1 := by rw [hW1]; exact h.alloc _
  clear hW1
  obtain ⟨v, hv, hrow⟩ := h.box
  have hl : l < W1.heap.size := (Array.getElem?_eq_some_iff.1 h.L).1
  have hbr := run_beginRound (P := Try.prog) h.L rfl
  obtain ⟨W2, hW2⟩ : ∃ W2, W1.putObj l (.loop { apRec fn sv Bs D .ready none with state := .busy }) = W2 := ⟨_, rfl⟩
  rw [hW2] at hbr
  have hg2 : W1.grownBy W2 (some l) := by rw [← hW2]; exact grownBy_putObj _ _ _
  have hv2 : W2.heap[Bs]? = some (.cells #[v] 27 (0, 0)) := by rw [← hW2]; exact (World.putObj_heap_other hBl).trans hv
  have hK2 : W2.heap[D]? = some (.deferred (some [])) := by rw [← hW2]; exact (World.putObj_heap_other hDl).trans h.K
  have hL2 : W2.heap[l]? = some (.loop { apRec fn sv Bs D .ready none with state := .busy }) := by rw [← hW2]; exact World.putObj_heap_same hl
  have hrow2 : placeE.Own W2 w0.heap.size v ss := hrow.grown hg2 (own_ne hrow h.L (fun cur e => by cases e))
  have hb2 : Below w0.heap.size w0 W2 := h.below.grown hg2 h.below.size (fun k e => by cases e; exact h0l)
  have hbW2 : Below w0.heap.size W W2 := hb01.grown hg2 h.below.size (fun k e => by cases e; exact h0l)
  obtain ⟨hc2, hf2⟩ := cell_of_box hv2
  have hBlt : Bs < W2.heap.size := (Array.getElem?_eq_some_iff.1 hv2).1
  have hl2 : l < W2.heap.size := (Array.getElem?_eq_some_iff.1 hL2).1
  have hDlt : D < W2.heap.size := (Array.getElem?_eq_some_iff.1 hK2).1
  have e0' : W2.cell? ⟨W.heap.size, 0, none⟩ = some (.string x.pack) := by rw [hg2.cell_far _ hz01 (by simpa using Ne.symm hXl)]; exact e0
  have e1' : W2.cell? ⟨W.heap.size, 1, none⟩ = some (.int .i64 x.at_) := by rw [hg2.cell_far _ hz01 (by simpa using Ne.symm hXl)]; exact e1
  have e2' : W2.cell? ⟨W.heap.size, 2, none⟩ = some (.int .i64 x.len) := by rw [hg2.cell_far _ hz01 (by simpa using Ne.symm hXl)]; exact e2
  have hzW2 : W.heap.size < W2.heap.size := by have := hg2.size; omega
  have ne_of : ∀ {j : Nat} {o : Obj}, W2.heap[j]? = some o → (∀ cur, o ≠ .cells cur 35 (0, 0)) → some j ≠ v.ownBlock := fun hj hno => by
    rcases own_ne hrow2 hj hno with e | e
    · rw [e]; simp
    · exact fun e' => e e'.symm
  clear hW2 e0 e1 e2
  refine ⟨W2, hbr, ?_⟩
  conv => arg 4; whnf
  gi_wp2_with (first
    | (gi_at_builtin; go_must (refine wpListIn_append_own _ rfl _ _ 27 rfl w0.heap.size 35 i0 placeE.z 3 32 placeE.und hi hz0 hz1 hz2 rfl (by decide) _ _ _ rfl (hrow2.alloc _) ⟨W2.heap.size, 0, none⟩ 1 1 x.cells rfl rfl (World.news_of_block (cs := #[.string x.pack, .int .i64 x.at_, .int .i64 x.len]) (t := 35) (fr := (0, 0)) (heap_alloc_new _ _)) (placeE.one x) (by simp only [maxLen]; omega) (by omega) (by have := hb2.size; simp; omega) ?_); intro v' w3 hown' hg3 hnil3
       have hv3 : w3.heap[Bs]? = some (.cells #[v] 27 (0, 0)) := (hg3.block Bs (by simp; omega) (ne_of hv2 (fun cur e => by cases e))).trans (heap_alloc_lt hv2)
       obtain ⟨hc3, hf3⟩ := cell_of_box hv3
       obtain ⟨g', cap', cur', rfl, hbase', hgb', hr1, hr2, hr3, hr4⟩ : ∃ g' cap' cur', v' = .slice (some ⟨g', 0, none⟩) (ss.length + 1) cap' ∧ w0.heap.size ≤ g' ∧ w3.heap[g']? = some (.cells cur' 35 (0, 0)) ∧ ss.length + 1 ≤ cap' ∧ cap' ≤ maxLen ∧ cur'.size = cap' * 3 ∧ cur'.toList.take ((ss.length + 1) * 3) = ss.flatMap Place.cells ++ x.cells := by
         rcases hown'.2 with ⟨_, h0⟩ | h'
         · exact absurd h0 (by omega)
         · exact h'
       go_frame)
    | (rw [Oper.semAt_eq _ _ _ (fun c h => by cases h)]; go_simp; try go_bits))
  have hg3' : (W2.alloc (.cells #[.string x.pack, .int .i64 x.at_, .int .i64 x.len] 35)).grownBy w3 v.ownBlock := hg3
  have hL3 : w3.heap[l]? = some (.loop { apRec fn sv Bs D .ready none with state := .busy }) := (hg3'.block l (by simp; omega) (ne_of hL2 (fun cur e => by cases e))).trans (heap_alloc_lt hL2)
  have hK3 : w3.heap[D]? = some (.deferred (some [])) := (hg3'.block D (by simp; omega) (ne_of hK2 (fun cur e => by cases e))).trans (heap_alloc_lt hK2)
  have hown3 : placeE.Own w3 w0.heap.size (.slice (some ⟨g', 0, none⟩) (ss.length + 1) cap') (ss ++ [x]) := by
    unfold Elem.Own Owns
    rw [List.length_append, List.flatMap_append]
    simpa [placeE] using hown'
  obtain ⟨w4, hw4⟩ : ∃ w4, w3.setCell ⟨Bs, 0, none⟩ (.slice (some ⟨g', 0, none⟩) (ss.length + 1) cap') = w4 := ⟨_, rfl⟩
  rw [hw4]
  have hg4 : w3.grownBy w4 (some Bs) := by rw [← hw4]; exact grownBy_setCell0 _ _ _
  have hv4 : w4.heap[Bs]? = some (.cells #[.slice (some ⟨g', 0, none⟩) (ss.length + 1) cap'] 27 (0, 0)) := by rw [← hw4]; exact heap_setCell_box _ hv3
  have hL4 : w4.heap[l]? = some (.loop { apRec fn sv Bs D .ready none with state := .busy }) := (hg4.block l (Array.getElem?_eq_some_iff.1 hL3).1 (fun e => hBl (by cases e; rfl))).trans hL3
  have hK4 : w4.heap[D]? = some (.deferred (some [])) := (hg4.block D (Array.getElem?_eq_some_iff.1 hK3).1 (fun e => hDB (by cases e; rfl))).trans hK3
  have hrow4 := hown3.grown hg4 (own_ne hown3 hv3 (fun cur e => by cases e))
  have hbg3 : ∀ j, v.ownBlock = some j → w0.heap.size ≤ j := fun j hj => (hrow2.within hj).1
  have hb3 : Below w0.heap.size w0 w3 := (hb2.alloc hb2.size _).grown hg3' (by have := hb2.size; simp; omega) hbg3
  have hbW3 : Below w0.heap.size W w3 := (hbW2.alloc hb2.size _).grown hg3' (by have := hb2.size; simp; omega) hbg3
  have hb4 : Below w0.heap.size w0 w4 := hb3.grown hg4 hb3.size (fun k e => by cases e; exact h0B)
  have hbW4 : Below w0.heap.size W w4 := hbW3.grown hg4 hb3.size (fun k e => by cases e; exact h0B)
  clear hw4
  refine ⟨_, _, run_endRound none hL4, rfl, ⟨⟨_, (World.putObj_heap_other hBl).trans hv4, hrow4.grown (grownBy_putObj w4 l _) (own_ne hrow4 hL4 (fun cur e => by cases e))⟩, World.putObj_heap_same (Array.getElem?_eq_some_iff.1 hL4).1, (World.putObj_heap_other hDl).trans hK4, hb4.grown (grownBy_putObj _ _ _) hb4.size (fun k e => by cases e; exact h0l)⟩, hbW4.grown (grownBy_putObj _ _ _) hb4.size (fun k e => by cases e; exact h0l)⟩
end Go.Proofs.Ytbfephekkfieaaa
