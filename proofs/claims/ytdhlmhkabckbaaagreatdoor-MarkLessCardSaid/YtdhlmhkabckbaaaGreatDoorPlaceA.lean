/-
  Places: what a slice of places reads as; the contracts of mayPlace, of the reference's MayPlace; cmp.Compare, cmp.Or and byPack in worlds that only draw and grow.
-/
import Derived.Test.YtdhlmhkabckbaaaGreatDoorStrs
import Derived.Shelf.SlSortCmp.QuietGrown
import Derived.Deep.DrawnRows
import Derived.RangeFuncBox
import Derived.RangeFuncLeaves
import Derived.RangeFuncGives
import Derived.Shelf.Abstract
import Derived.OwnWalkIn
import Derived.TacticsInMore
import Derived.LoopNIn
import Derived.LoopIn
import Derived.RangeFuncOwn
namespace Go.Proofs.YtdhlmhkabckbaaaGreatDoor
open Go.RowKit Go.Sort
attribute [local go_sem ↓] Go.wp_at_zero Go.wp_at_succ

structure Place where
  pack : ByteArray
  at_ : Int
  len : Int
instance : DecidableEq Place := fun a b => decidable_of_iff (a.pack = b.pack ∧ a.at_ = b.at_ ∧ a.len = b.len) (by cases a; cases b; simp)
instance : Inhabited Place := ⟨⟨⟨#[]⟩, 0, 0⟩⟩
def Place.cells (p : Place) : List Value := [.string p.pack, .int .i64 p.at_, .int .i64 p.len]
def Place.agg (p : Place) : Value := .agg #[.string p.pack, .int .i64 p.at_, .int .i64 p.len]
theorem Place.cells_len (p : Place) : p.cells.length = 3 := rfl
abbrev PlacesAt := RowAt 3 Place.cells
def placeE : Elem Place where
  T := 98
  S := 55
  k := 3
  bytes := 32
  enc := Place.cells
  z := .agg #[.string ⟨#[]⟩, .int .i64 0, .int .i64 0]
  und := Tryz.underlying55
  info := by kernel_rfl
  zc := rfl
  pos := by decide
  small := by decide
  len := Place.cells_len
  one := fun x u hu => by simp [Place.cells] at hu; rcases hu with rfl | rfl | rfl <;> rfl

theorem RowAt.placeAt {w : World} {B n b off : Nat} {l : List Place} (h : PlacesAt w B (some ⟨b, off, none⟩) n l) {i : Nat} {p : Place} (hx : l[i]? = some p) :
    w.cell? ⟨b, off + i * 3, none⟩ = some (.string p.pack) ∧ w.cell? ⟨b, off + i * 3 + 1, none⟩ = some (.int .i64 p.at_) ∧ w.cell? ⟨b, off + i * 3 + 2, none⟩ = some (.int .i64 p.len) := by
  have hi : i < n := by have := h.1; have := (List.getElem?_eq_some_iff.1 hx).1; omega
  obtain ⟨b', off', e, _, hc⟩ := h.2.2 (by omega)
  simp only [Option.some.injEq, Addr.mk.injEq] at e
  obtain ⟨rfl, rfl, _⟩ := e
  exact ⟨hc i _ hx 0 _ rfl, hc i _ hx 1 _ rfl, hc i _ hx 2 _ rfl⟩
theorem RowAt.place {w : World} {B n : Nat} {A : Option Addr} {l : List Place} (h : PlacesAt w B A n l) {i : Nat} (hi : i < n) :
    ∃ b off p, A = some ⟨b, off, none⟩ ∧ b < B ∧ l[i]? = some p ∧ w.cell? ⟨b, off + i * 3, none⟩ = some (.string p.pack) ∧ w.cell? ⟨b, off + i * 3 + 1, none⟩ = some (.int .i64 p.at_) ∧ w.cell? ⟨b, off + i * 3 + 2, none⟩ = some (.int .i64 p.len) := by
  obtain ⟨b, off, rfl, hb⟩ := h.addrOf hi
  obtain ⟨p, hp⟩ := getElem_some (l := l) (i := i) (by have := h.1; omega)
  obtain ⟨h0, h1, h2⟩ := h.placeAt hp
  exact ⟨b, off, p, rfl, hb, hp, h0, h1, h2⟩

def mayPlace (p : Place) : Bool := decide (p.pack.size = 32) && decide (0 ≤ p.at_) && decide (p.at_ ≤ 32768) && decide (1 ≤ p.len) && decide (p.len ≤ 16384) && decide (p.at_ + p.len ≤ 32768)

set_option maxHeartbeats 1000000 in
theorem index_mayPlace (p : Place) (w : World) (hb : -9223372036854775808 ≤ p.at_ ∧ p.at_ ≤ 9223372036854775807 ∧ -9223372036854775808 ≤ p.len ∧ p.len ≤ 9223372036854775807) :
    Calls Tryz.prog 144 #[p.agg] w fun e w' => e = .returned (.bool (mayPlace p)) ∧ Below w.heap.size w w' := by
  unfold Place.agg
  obtain ⟨b1, b2, b3, b4⟩ := hb
  go_enter Tryz.func144, Tryz.ntmps144
  go_wp2
  all_goals
    go_ret
    exact ⟨ret_bool (by rw [Bool.eq_iff_iff]; simp [mayPlace]; omega), (by repeat (first | exact Below.refl _ _ | assumption | refine Below.drew ?_ | refine below_drewN ?_ _ | refine Below.alloc ?_ (by first | omega | (simp; try omega)) _ | refine Below.setCell ?_ (by first | omega | (simp; try omega)) _ | (refine Below.trans ?_ (Below.mono (by assumption) (by first | omega | (simp; try omega))))))⟩

/-- Worlds that only draw and grow. -/
def Gr (w w' : World) : Prop := ∃ q os, w' = grow (w.drewN q) os
theorem Gr.refl (w : World) : Gr w w := ⟨0, #[], by rw [grow_empty]; rfl⟩
theorem Gr.trans {a b c : World} (h : Gr a b) (h' : Gr b c) : Gr a c := by
  obtain ⟨q, os, rfl⟩ := h
  obtain ⟨q', os', rfl⟩ := h'
  refine ⟨q + q', os ++ os', ?_⟩
  show grow (grow ((a.drewN q).drewN q') os) os' = _
  rw [grow_grow, World.drewN_drewN]
theorem Gr.alloc {a b : World} (h : Gr a b) (o : Obj) : Gr a (b.alloc o) := h.trans ⟨0, #[o], by rw [alloc_eq_grow]; rfl⟩
theorem Gr.drew {a b : World} (h : Gr a b) : Gr a b.drew := h.trans ⟨1, #[], by rw [grow_empty]; rfl⟩
theorem Gr.drewN {a b : World} (h : Gr a b) (n : Nat) : Gr a (b.drewN n) := h.trans ⟨n, #[], by rw [grow_empty]⟩
end Go.Proofs.YtdhlmhkabckbaaaGreatDoor
/-
  cmp.Compare at strings and ints, cmp.Or, and index.byPack, in worlds that only draw and grow.
-/
namespace Go.Proofs.YtdhlmhkabckbaaaGreatDoor
open Go.RowKit Go.Sort
attribute [local go_sem ↓] Go.wp_at_zero Go.wp_at_succ

def cmpS (a b : ByteArray) : Int := if sLt a b then -1 else if sLt b a then 1 else 0
def cmpI (a b : Int) : Int := if a < b then -1 else if b < a then 1 else 0
def byPack (p q : Place) : Int := if cmpS p.pack q.pack = 0 then cmpI p.at_ q.at_ else cmpS p.pack q.pack

theorem isNaN_int (a : Int) (w : World) : Calls Tryz.prog 146 #[.int .i64 a] w fun e w' => e = .returned (.bool false) ∧ w = w' := by
  go_enter Tryz.func146, Tryz.ntmps146
  go_wp2
  go_ret
  exact ⟨ret_bool (by simp), rfl⟩
theorem isNaN_str (a : ByteArray) (w : World) : Calls Tryz.prog 98 #[.string a] w fun e w' => e = .returned (.bool false) ∧ w = w' := by
  go_enter Tryz.func98, Tryz.ntmps98
  go_wp2
  go_ret
  exact ⟨ret_bool (by simp), rfl⟩
set_option maxHeartbeats 1000000 in
theorem compare_int (a b : Int) (w : World) : Calls Tryz.prog 101 #[.int .i64 a, .int .i64 b] w fun e w' => e = .returned (.int .i64 (cmpI a b)) ∧ w = w' := by
  obtain ⟨r, hr⟩ : ∃ r, r = cmpI a b := ⟨_, rfl⟩
  rw [← hr]
  unfold cmpI at hr
  by_cases h1 : a < b
  · obtain rfl : r = -1 := by rw [hr, if_pos h1]
    clear hr
    go_enter Tryz.func101, Tryz.ntmps101
    go_wp2_with (first | (go_at_call 146; refine (isNaN_int _ _).mono ?_; rintro e w' ⟨rfl, rfl⟩))
    go_ret
    exact ⟨rfl, rfl⟩
  · by_cases h2 : b < a
    · obtain rfl : r = 1 := by rw [hr, if_neg h1, if_pos h2]
      clear hr
      go_enter Tryz.func101, Tryz.ntmps101
      go_wp2_with (first | (go_at_call 146; refine (isNaN_int _ _).mono ?_; rintro e w' ⟨rfl, rfl⟩))
      go_ret
      exact ⟨rfl, rfl⟩
    · obtain rfl : r = 0 := by rw [hr, if_neg h1, if_neg h2]
      clear hr
      go_enter Tryz.func101, Tryz.ntmps101
      go_wp2_with (first | (go_at_call 146; refine (isNaN_int _ _).mono ?_; rintro e w' ⟨rfl, rfl⟩))
      go_ret
      exact ⟨rfl, rfl⟩
set_option maxHeartbeats 1000000 in
theorem compare_str (a b : ByteArray) (w : World) : Calls Tryz.prog 54 #[.string a, .string b] w fun e w' => e = .returned (.int .i64 (cmpS a b)) ∧ w = w' := by
  obtain ⟨r, hr⟩ : ∃ r, r = cmpS a b := ⟨_, rfl⟩
  rw [← hr]
  unfold cmpS at hr
  rcases sLt_tri a b with h1 | h1 | h1
  · obtain rfl : r = -1 := by rw [hr, if_pos h1]
    have q1 : Op.bytesLess a.toList b.toList = true := h1
    clear hr h1
    go_enter Tryz.func54, Tryz.ntmps54
    go_wp2_with (first | (go_at_call 98; refine (isNaN_str _ _).mono ?_; rintro e w' ⟨rfl, rfl⟩))
    go_ret
    exact ⟨rfl, rfl⟩
  · obtain rfl : r = 0 := by rw [hr, h1, sLt_irrefl]; rfl
    have q1 : Op.bytesLess a.toList b.toList = false := by rw [h1]; exact sLt_irrefl b
    have q2 := str_eq h1
    clear hr h1
    go_enter Tryz.func54, Tryz.ntmps54
    go_wp2_with (first | (go_at_call 98; refine (isNaN_str _ _).mono ?_; rintro e w' ⟨rfl, rfl⟩))
    go_ret
    exact ⟨rfl, rfl⟩
  · obtain rfl : r = 1 := by rw [hr, sLt_asymm h1, if_pos h1]; rfl
    have q1 : Op.bytesLess a.toList b.toList = false := sLt_asymm h1
    have q2 := str_ne (Ne.symm (sLt_ne h1))
    clear hr h1
    go_enter Tryz.func54, Tryz.ntmps54
    go_wp2_with (first | (go_at_call 98; refine (isNaN_str _ _).mono ?_; rintro e w' ⟨rfl, rfl⟩))
    go_ret
    exact ⟨rfl, rfl⟩
set_option maxHeartbeats 1000000 in
theorem cmp_Or (g c : Nat) (x y r : Int) (hr : Hid (r = if x = 0 then y else x)) (w : World) (h0 : w.cell? ⟨g, 0, none⟩ = some (.int .i64 x)) (h1 : w.cell? ⟨g, 1, none⟩ = some (.int .i64 y)) :
    Calls Tryz.prog 216 #[.slice (some ⟨g, 0, none⟩) 2 c] w fun e w' => e = .returned (.int .i64 r) ∧ w = w' := by
  go_enter Tryz.func216, Tryz.ntmps216
  go_wp2
  go_loop [8] (fun i => ∃ k : Nat, k ≤ 2 ∧ i = .int .i64 k ∧ (0 < k → Hid (x = 0)) ∧ (1 < k → Hid (y = 0))) (fun i => 2 - (intOf i).toNat)
  case atStart => exact ⟨0, by omega, rfl, fun h => absurd h (by omega), fun h => absurd h (by omega)⟩
  case round =>
    obtain ⟨k, hk, rfl, hx0, hy0⟩ := hrel
    by_cases hk0 : k = 0
    · subst hk0
      by_cases hx : x = 0
      · have hq : (x != 0) = false := by simpa using hx
        replace hx := Lib.hid hx
        go_wp2_with fail
        go_round
        case rel => exact ⟨1, by omega, rfl, fun _ => hx, fun h => absurd h (by omega)⟩
        case measure => simp [intOf]
      · have hq : (x != 0) = true := by simpa using hx
        replace hx := Lib.hid hx
        go_wp2_with fail
        go_ret
        exact ⟨ret_int (by rw [hr.out, if_neg hx.out]), rfl⟩
    · have hxz := hx0 (by omega)
      by_cases hk1 : k = 1
      · subst hk1
        by_cases hy : y = 0
        · have hq : (y != 0) = false := by simpa using hy
          replace hy := Lib.hid hy
          clear hk0 hx0 hy0
          go_wp2_with fail
          go_round
          case rel => exact ⟨2, by omega, rfl, fun _ => hxz, fun _ => hy⟩
          case measure => simp [intOf]
        · have hq : (y != 0) = true := by simpa using hy
          replace hy := Lib.hid hy
          clear hk0 hx0 hy0
          go_wp2_with fail
          go_ret
          exact ⟨ret_int (by rw [hr.out, if_pos hxz.out]), rfl⟩
      · obtain rfl : k = 2 := by omega
        have hyz := hy0 (by omega)
        clear hk0 hx0 hy0 hk1
        go_wp2_with fail
        go_ret
        exact ⟨ret_int (by rw [hr.out, if_pos hxz.out, hyz.out]), rfl⟩

set_option maxHeartbeats 2000000 in
theorem byPack_any (p q : Place) (w : World) : Calls Tryz.prog 192 #[p.agg, q.agg] w fun e w' => e = .returned (.int .i64 (byPack p q)) ∧ Gr w w' := by
  unfold Place.agg
  obtain ⟨r, hr⟩ : ∃ r, r = byPack p q := ⟨_, rfl⟩
  rw [← hr]
  replace hr : Hid (r = if cmpS p.pack q.pack = 0 then cmpI p.at_ q.at_ else cmpS p.pack q.pack) := hr
  go_enter Tryz.func192, Tryz.ntmps192
  go_wp2_with fail
  go_region_held3 (fun W : World => w.heap.size + 2 ≤ W.heap.size ∧ W.cell? ⟨w.heap.size, 0, none⟩ = some (.string p.pack) ∧ W.cell? ⟨w.heap.size, 1, none⟩ = some (.int .i64 p.at_) ∧ W.cell? ⟨w.heap.size + 1, 0, none⟩ = some (.string q.pack) ∧ W.cell? ⟨w.heap.size + 1, 1, none⟩ = some (.int .i64 q.at_))
    (go_simp)
    (first
      | (go_at_call 54; refine (compare_str _ _ _).mono ?_; rintro e w1 ⟨rfl, rfl⟩)
      | (go_at_call 101; refine (compare_int _ _ _).mono ?_; rintro e w1 ⟨rfl, rfl⟩)
      | (go_at_call 216; refine (cmp_Or _ _ (cmpS p.pack q.pack) (cmpI p.at_ q.at_) r hr _ (by go_simp) (by go_simp)).mono ?_; rintro e w1 ⟨rfl, rfl⟩))
  all_goals
    go_wp2_with fail
    go_ret
    exact ⟨rfl, by repeat (first | exact Gr.refl _ | refine Gr.drew ?_ | refine Gr.drewN ?_ _ | refine Gr.alloc ?_ _)⟩
end Go.Proofs.YtdhlmhkabckbaaaGreatDoor

/-
  slices.Values over places: what the iterator gives.
-/
namespace Go.Proofs.YtdhlmhkabckbaaaGreatDoor
open Go.RowKit Go.Shelf Go.Sort
attribute [local go_sem] Oper.semAt_some

/-- An iterator over memory below w gives xs. -/
def SeqGivesK {α : Type} (F : Fence) (n : Nat) (P : Program) (g : Nat) (lb : Array Value) (enc : α → Value) (S : List α → Prop) (N : Nat) (w : World) : Prop :=
  ∀ (l : Nat) (J : List α → World → Prop) (W : World), Below w.heap.size w W → (∀ pre W1 o, J pre W1 → J pre (W1.alloc o)) →
    (∀ pre x W1, J pre W1 → pre.length < N → YieldAt F (n - 1) P l #[enc x] W1 fun e W' => e = .returned (.bool true) ∧ J (pre ++ [x]) W' ∧ Below w.heap.size W1 W') →
    J [] W →
    CallsIn F n P g (#[.func (.yield l) #[] #[]] ++ lb) W fun e W' => (∃ v, e = .returned v) ∧ ∃ xs, S xs ∧ J xs W'

set_option maxRecDepth 100000 in
set_option maxHeartbeats 2000000 in
theorem values_gives (F : Fence) (n : Nat) (h7 : F.fn 215) (hro : F.round = none) (hn : 1 ≤ n) (Bs m c : Nat) (A : Option Addr) (pl : List Place) (w : World) (hB0 : Bs < w.heap.size)
    (hBs : w.cell? ⟨Bs, 0, none⟩ = some (.slice A m c)) (h : PlacesAt w w.heap.size A m pl) :
    SeqGivesK F n Tryz.prog 215 #[.pointer (some ⟨Bs, 0, none⟩)] Place.agg (fun xs => xs = pl) m w := by
  intro l J W hW hJa hY h0
  have hm := h.2.1
  have hl := Lib.hid h.1
  have hcb := (hW.cell (p := ⟨Bs, 0, none⟩) hB0).trans hBs
  refine callsIn_of_wp Tryz.func215 rfl h7 ?_ hro
  simp only [Tryz.ntmps215, List.size_toArray, List.length_cons, List.length_nil, Nat.reduceAdd, Nat.reduceSub, Array.replicate_succ, Array.replicate_zero, List.push_toArray, List.append_toArray, List.nil_append, List.cons_append]
  gi_wp2
  gi_loopw [7] (fun i wr => ∃ k : Nat, k ≤ m ∧ i = .int .i64 k ∧ J (pl.take k) wr ∧ Below w.heap.size w wr) (fun i _ => m - (intOf i).toNat)
  case atStart => exact ⟨0, Nat.zero_le _, rfl, h0, hW⟩
  case round =>
    obtain ⟨k, hk, rfl, hJs, hnx⟩ := hrel
    have hz := hnx.size
    by_cases hlt : k < m
    · obtain ⟨b, off, p, rfl, hb, hx, q0, q1, q2⟩ := (h.to hnx).place hlt
      have htk : Hid (pl.take (k + 1) = pl.take k ++ [p]) := by unfold Hid; rw [List.take_add_one, hx]; rfl
      have hlen : (pl.take k).length < m := by rw [List.length_take]; have := hl.out; omega
      obtain ⟨fn, tmps, assign, body, hy, hR⟩ := hY _ p (wr.alloc (.cells #[.string p.pack, .int .i64 p.at_, .int .i64 p.len] 98)) (hJa _ _ _ hJs) hlen
      clear hx hlen
      unfold Place.agg at hy
      gi_wp2
      refine hR.mono ?_
      rintro e W3 ⟨rfl, hJ3, hk3⟩
      gi_wp2
      go_roundw
      case rel => exact ⟨k + 1, by omega, by simp, by rw [htk.out]; exact hJ3, (hnx.alloc hz _).trans hk3⟩
      case measure => simp [intOf]; omega
    · obtain rfl : k = m := by omega
      gi_wp2
      go_end0
      exact ⟨⟨_, rfl⟩, pl, rfl, by rwa [List.take_of_length_le (by have := hl.out; omega)] at hJs⟩

/-! slices.AppendSeq(nil, seq) at places. -/

def firstRange : Code → Option (Code × Code)
  | .rangeFunc _ _ a c => some (a, c)
  | .seq a b => match firstRange a with
    | some c => some c
    | none => firstRange b
  | .block _ c => firstRange c
  | .scope c => firstRange c
  | .cond _ a b => match firstRange a with
    | some c => some c
    | none => firstRange b
  | .loop c => firstRange c
  | _ => none
noncomputable def apAssign : Code := ((Tryz.f223.body.bind firstRange).map (·.1)).getD .skip
noncomputable def apBody : Code := ((Tryz.f223.body.bind firstRange).map (·.2)).getD .skip
/-- The loop's record: AppendSeq's temporaries as they stood at the entering: 's' boxed in block Bs; sv: the iterator's value. -/
noncomputable def apRec (fn : FuncId) (sv : Value) (Bs D : Nat) (st : LoopState) (pend : Option Code) : Loop :=
  { state := st, pending := pend, fn, tmps := #[.slice none 0 0, sv, .pointer (some ⟨Bs, 0, none⟩), undef, .slice none 0 0, undef, sv, undef, undef, undef, undef, undef, undef], params := #[7], assign := apAssign, body := apBody, defers := D }


structure ApAt (w0 : World) (fn : FuncId) (sv : Value) (Bs l D : Nat) (ss : List Place) (W : World) : Prop where
  box : ∃ v, W.heap[Bs]? = some (.cells #[v] 55 (0, 0)) ∧ placeE.Own W w0.heap.size v ss
  L : W.heap[l]? = some (.loop (apRec fn sv Bs D .ready none))
  K : W.heap[D]? = some (.deferred (some []))
  below : Below w0.heap.size w0 W

theorem heap_alloc_lt {W : World} {o x : Obj} {j : Nat} (h : W.heap[j]? = some x) : (W.alloc o).heap[j]? = some x :=
  (Below.heap_alloc _ _ j (Array.getElem?_eq_some_iff.1 h).1).trans h
theorem ApAt.alloc {w0 : World} {fn : FuncId} {sv : Value} {Bs l D : Nat} {ss : List Place} {W : World} (h : ApAt w0 fn sv Bs l D ss W) (o : Obj) : ApAt w0 fn sv Bs l D ss (W.alloc o) := by
  obtain ⟨v, hv, ho⟩ := h.box
  exact ⟨⟨v, heap_alloc_lt hv, ho.alloc o⟩, heap_alloc_lt h.L, heap_alloc_lt h.K, h.below.alloc h.below.size _⟩

theorem grownBy_putObj (W : World) (l : Nat) (o : Obj) : W.grownBy (W.putObj l o) (some l) :=
  ⟨rfl, rfl, rfl, by simp, fun k _ hk => World.putObj_heap_other (fun e => hk (by rw [e]))⟩
theorem grownBy_setCell0 (W : World) (b : Nat) (v : Value) : W.grownBy (W.setCell ⟨b, 0, none⟩ v) (some b) :=
  ⟨rfl, rfl, rfl, (KeepsWalks.setCell W _ v).size, fun k _ hk => Below.heap_setCell _ _ _ k (fun e => hk (by rw [e]))⟩
theorem own_ne {α : Type} {k : Nat} {enc : α → List Value} {T : TypeId} {W : World} {base : Nat} {v : Value} {l : List α} (h : Owns k enc T W base v l) {j : Nat} {o : Obj} (hj : W.heap[j]? = some o) (hno : ∀ cur, o ≠ .cells cur T (0, 0)) :
    v.ownBlock = none ∨ v.ownBlock ≠ some j := by
  rcases h.2 with ⟨rfl, _⟩ | ⟨g, cap, cur, rfl, _, hgb, _⟩
  · exact .inl rfl
  · refine .inr fun e' => ?_
    have : g = j := by simpa [Value.ownBlock] using e'
    subst this; rw [hgb] at hj; cases hj; exact hno cur rfl
theorem cell_of_box {W : World} {B : Nat} {v : Value} {t : TypeId} (h : W.heap[B]? = some (.cells #[v] t (0, 0))) : W.cell? ⟨B, 0, none⟩ = some v ∧ W.frozen? ⟨B, 0, none⟩ = false := by
  constructor <;> simp [World.cell?, World.frozen?, h]
theorem heap_setCell_box {W : World} {B : Nat} {v : Value} {t : TypeId} (v' : Value) (h : W.heap[B]? = some (.cells #[v] t (0, 0))) : (W.setCell ⟨B, 0, none⟩ v').heap[B]? = some (.cells #[v'] t (0, 0)) := by
  obtain ⟨hlt, hk⟩ := Array.getElem?_eq_some_iff.1 h
  show (W.heap.modify B _)[B]? = _
  rw [Array.getElem?_eq_getElem (by rw [Array.size_modify]; exact hlt), Array.getElem_modify_self, hk]
  rfl

set_option maxRecDepth 100000 in
set_option maxHeartbeats 2000000 in
theorem apYield (F : Fence) (m : Nat) (w0 : World) (fn : FuncId) (hfn : F.fn fn) (sv : Value) (Bs l D : Nat) (hBl : Bs ≠ l) (hDl : D ≠ l) (hDB : D ≠ Bs) (h0B : w0.heap.size ≤ Bs) (h0l : w0.heap.size ≤ l)
    (ss : List Place) (x : Place) (W : World) (h : ApAt w0 fn sv Bs l D ss W) (hlen : ss.length < 1000000000) :
    YieldAt F m Tryz.prog l #[x.agg] W fun e W' => e = .returned (.bool true) ∧ ApAt w0 fn sv Bs l D (ss ++ [x]) W' ∧ Below w0.heap.size W W' := by
  obtain ⟨i0, hi, hz0, hz1, hz2⟩ := infoOf placeE.info
  have hXl : l ≠ W.heap.size := Nat.ne_of_lt (Array.getElem?_eq_some_iff.1 h.L).1
  refine ⟨fn, #[.slice none 0 0, sv, .pointer (some ⟨Bs, 0, none⟩), undef, .slice none 0 0, undef, sv, x.agg, undef, undef, undef, undef, undef], apAssign, apBody, by simpa [apRec] using run_yield (P := Tryz.prog) (args := #[x.agg]) h.L rfl, roundIn_of_wpIn hfn ?_⟩
  conv => arg 4; whnf
  unfold Place.agg
  gi_wp2_with (rw [Oper.semAt_eq _ _ _ (fun c h => by cases h)]; go_simp; try go_bits)
  obtain ⟨W1, hW1⟩ : ∃ W1, W1 = W.alloc (.cells #[.string x.pack, .int .i64 x.at_, .int .i64 x.len] 98) := ⟨_, rfl⟩
  rw [← hW1]
  have hb01 : Below w0.heap.size W W1 := by rw [hW1]; exact (Below.refl _ _).alloc h.below.size _
  have hz01 : W.heap.size < W1.heap.size := by rw [hW1]; simp
  have e0 : W1.cell? ⟨W.heap.size, 0, none⟩ = some (.string x.pack) := by rw [hW1]; go_simp
  have e1 : W1.cell? ⟨W.heap.size, 1, none⟩ = some (.int .i64 x.at_) := by rw [hW1]; go_simp
  have e2 : W1.cell? ⟨W.heap.size, 2, none⟩ = some (.int .i64 x.len) := by rw [hW1]; go_simp
  replace h : ApAt w0 fn sv Bs l D ss W1 := by rw [hW1]; exact h.alloc _
  clear hW1
  obtain ⟨v, hv, hrow⟩ := h.box
  have hl : l < W1.heap.size := (Array.getElem?_eq_some_iff.1 h.L).1
  have hbr := run_beginRound (P := Tryz.prog) h.L rfl
  obtain ⟨W2, hW2⟩ : ∃ W2, W1.putObj l (.loop { apRec fn sv Bs D .ready none with state := .busy }) = W2 := ⟨_, rfl⟩
  rw [hW2] at hbr
  have hg2 : W1.grownBy W2 (some l) := by rw [← hW2]; exact grownBy_putObj _ _ _
  have hv2 : W2.heap[Bs]? = some (.cells #[v] 55 (0, 0)) := by rw [← hW2]; exact (World.putObj_heap_other hBl).trans hv
  have hK2 : W2.heap[D]? = some (.deferred (some [])) := by rw [← hW2]; exact (World.putObj_heap_other hDl).trans h.K
  have hL2 : W2.heap[l]? = some (.loop { apRec fn sv Bs D .ready none with state := .busy }) := by rw [← hW2]; exact World.putObj_heap_same hl
  have hrow2 : placeE.Own W2 w0.heap.size v ss := hrow.grown hg2 (own_ne hrow h.L (fun cur e => by cases e))
  have hb2 : Below w0.heap.size w0 W2 := h.below.grown hg2 h.below.size (fun k e => by cases e; exact h0l)
  have hbW2 : Below w0.heap.size W W2 := hb01.grown hg2 h.below.size (fun k e => by cases e; exact h0l)
  obtain ⟨hc2, hf2⟩ := cell_of_box hv2
  have hBlt : Bs < W2.heap.size := (Array.getElem?_eq_some_iff.1 hv2).1
  have hl2 : l < W2.heap.size := (Array.getElem?_eq_some_iff.1 hL2).1
  have hDlt : D < W2.heap.size := (Array.getElem?_eq_some_iff.1 hK2).1
  have e0' : W2.cell? ⟨W.heap.size, 0, none⟩ = some (.string x.pack) := by rw [hg2.cell_far _ hz01 (by simpa using Ne.symm hXl)]; exact e0
  have e1' : W2.cell? ⟨W.heap.size, 1, none⟩ = some (.int .i64 x.at_) := by rw [hg2.cell_far _ hz01 (by simpa using Ne.symm hXl)]; exact e1
  have e2' : W2.cell? ⟨W.heap.size, 2, none⟩ = some (.int .i64 x.len) := by rw [hg2.cell_far _ hz01 (by simpa using Ne.symm hXl)]; exact e2
  have hzW2 : W.heap.size < W2.heap.size := by have := hg2.size; omega
  have ne_of : ∀ {j : Nat} {o : Obj}, W2.heap[j]? = some o → (∀ cur, o ≠ .cells cur 98 (0, 0)) → some j ≠ v.ownBlock := fun hj hno => by
    rcases own_ne hrow2 hj hno with e | e
    · rw [e]; simp
    · exact fun e' => e e'.symm
  clear hW2 e0 e1 e2
  refine ⟨W2, hbr, ?_⟩
  conv => arg 4; whnf
  gi_wp2_with (first
    | (gi_at_builtin; go_must (refine wpListIn_append_own _ rfl _ _ 55 rfl w0.heap.size 98 i0 placeE.z 3 32 placeE.und hi hz0 hz1 hz2 rfl (by decide) _ _ _ rfl (hrow2.alloc _) ⟨W2.heap.size, 0, none⟩ 1 1 x.cells rfl rfl (World.news_of_block (cs := #[.string x.pack, .int .i64 x.at_, .int .i64 x.len]) (t := 98) (fr := (0, 0)) (heap_alloc_new _ _)) (placeE.one x) (by simp only [maxLen]; omega) (by omega) (by have := hb2.size; simp; omega) ?_); intro v' w3 hown' hg3 hnil3
       have hv3 : w3.heap[Bs]? = some (.cells #[v] 55 (0, 0)) := (hg3.block Bs (by simp; omega) (ne_of hv2 (fun cur e => by cases e))).trans (heap_alloc_lt hv2)
       obtain ⟨hc3, hf3⟩ := cell_of_box hv3
       obtain ⟨g', cap', cur', rfl, hbase', hgb', hr1, hr2, hr3, hr4⟩ : ∃ g' cap' cur', v' = .slice (some ⟨g', 0, none⟩) (ss.length + 1) cap' ∧ w0.heap.size ≤ g' ∧ w3.heap[g']? = some (.cells cur' 98 (0, 0)) ∧ ss.length + 1 ≤ cap' ∧ cap' ≤ maxLen ∧ cur'.size = cap' * 3 ∧ cur'.toList.take ((ss.length + 1) * 3) = ss.flatMap Place.cells ++ x.cells := by
         rcases hown'.2 with ⟨_, h0⟩ | h'
         · exact absurd h0 (by omega)
         · exact h'
       go_frame)
    | (rw [Oper.semAt_eq _ _ _ (fun c h => by cases h)]; go_simp; try go_bits))
  have hg3' : (W2.alloc (.cells #[.string x.pack, .int .i64 x.at_, .int .i64 x.len] 98)).grownBy w3 v.ownBlock := hg3
  have hL3 : w3.heap[l]? = some (.loop { apRec fn sv Bs D .ready none with state := .busy }) := (hg3'.block l (by simp; omega) (ne_of hL2 (fun cur e => by cases e))).trans (heap_alloc_lt hL2)
  have hK3 : w3.heap[D]? = some (.deferred (some [])) := (hg3'.block D (by simp; omega) (ne_of hK2 (fun cur e => by cases e))).trans (heap_alloc_lt hK2)
  have hown3 : placeE.Own w3 w0.heap.size (.slice (some ⟨g', 0, none⟩) (ss.length + 1) cap') (ss ++ [x]) := by
    unfold Elem.Own Owns
    rw [List.length_append, List.flatMap_append]
    simpa [placeE] using hown'
  obtain ⟨w4, hw4⟩ : ∃ w4, w3.setCell ⟨Bs, 0, none⟩ (.slice (some ⟨g', 0, none⟩) (ss.length + 1) cap') = w4 := ⟨_, rfl⟩
  rw [hw4]
  have hg4 : w3.grownBy w4 (some Bs) := by rw [← hw4]; exact grownBy_setCell0 _ _ _
  have hv4 : w4.heap[Bs]? = some (.cells #[.slice (some ⟨g', 0, none⟩) (ss.length + 1) cap'] 55 (0, 0)) := by rw [← hw4]; exact heap_setCell_box _ hv3
  have hL4 : w4.heap[l]? = some (.loop { apRec fn sv Bs D .ready none with state := .busy }) := (hg4.block l (Array.getElem?_eq_some_iff.1 hL3).1 (fun e => hBl (by cases e; rfl))).trans hL3
  have hK4 : w4.heap[D]? = some (.deferred (some [])) := (hg4.block D (Array.getElem?_eq_some_iff.1 hK3).1 (fun e => hDB (by cases e; rfl))).trans hK3
  have hrow4 := hown3.grown hg4 (own_ne hown3 hv3 (fun cur e => by cases e))
  have hbg3 : ∀ j, v.ownBlock = some j → w0.heap.size ≤ j := fun j hj => (hrow2.within hj).1
  have hb3 : Below w0.heap.size w0 w3 := (hb2.alloc hb2.size _).grown hg3' (by have := hb2.size; simp; omega) hbg3
  have hbW3 : Below w0.heap.size W w3 := (hbW2.alloc hb2.size _).grown hg3' (by have := hb2.size; simp; omega) hbg3
  have hb4 : Below w0.heap.size w0 w4 := hb3.grown hg4 hb3.size (fun k e => by cases e; exact h0B)
  have hbW4 : Below w0.heap.size W w4 := hbW3.grown hg4 hb3.size (fun k e => by cases e; exact h0B)
  clear hw4
  refine ⟨_, _, run_endRound none hL4, rfl, ⟨⟨_, (World.putObj_heap_other hBl).trans hv4, hrow4.grown (grownBy_putObj w4 l _) (own_ne hrow4 hL4 (fun cur e => by cases e))⟩, World.putObj_heap_same (Array.getElem?_eq_some_iff.1 hL4).1, (World.putObj_heap_other hDl).trans hK4, hb4.grown (grownBy_putObj _ _ _) hb4.size (fun k e => by cases e; exact h0l)⟩, hbW4.grown (grownBy_putObj _ _ _) hb4.size (fun k e => by cases e; exact h0l)⟩
end Go.Proofs.YtdhlmhkabckbaaaGreatDoor

/-
  slices.Collect(slices.Values(l)) at places.
-/
namespace Go.Proofs.YtdhlmhkabckbaaaGreatDoor
open Go.RowKit Go.Shelf Go.Sort
attribute [local go_sem] Oper.semAt_some

set_option maxRecDepth 100000 in
set_option maxHeartbeats 2000000 in
theorem appendSeq_place (F : Fence) (n : Nat) (h11 : F.fn 223) (hro : F.round = none) (hn : 2 ≤ n) (g : Nat) (lb : Array Value) (hFg : F.fn g) (eg : ∀ args w, (callFunc g args).run Tryz.prog w = .ok (.enter g args) w)
    (pl : List Place) (hN : pl.length ≤ 1000000000) (w : World) (hseq : SeqGivesK F (n - 1) Tryz.prog g lb Place.agg (fun xs => xs = pl) pl.length w) :
    CallsIn F n Tryz.prog 223 #[.slice none 0 0, .func (.func g) #[] lb] w fun e w' => ∃ v, e = .returned v ∧ placeE.Own w' w.heap.size v pl ∧ Below w.heap.size w w' := by
  have h1 : 1 ≤ n := by omega
  refine callsIn_of_wp_marks Tryz.func223 rfl h11 ?_ hro
  simp only [Tryz.ntmps223, List.size_toArray, List.length_cons, List.length_nil, Nat.reduceAdd, Nat.reduceSub, Array.replicate_succ, Array.replicate_zero, List.push_toArray, List.append_toArray, List.nil_append, List.cons_append]
  gi_wp2
  refine wpIn_rangeFunc ?_
  intro fn hfn
  rw [hro]
  obtain ⟨W0, hW0⟩ : ∃ W0, w.alloc (.cells #[.slice none 0 0] 55) = W0 := ⟨_, rfl⟩
  have hs0 : W0.heap.size = w.heap.size + 1 := by rw [← hW0]; simp
  have hv0 : W0.heap[w.heap.size]? = some (.cells #[.slice none 0 0] 55 (0, 0)) := by rw [← hW0]; exact World.alloc_heap_new w _
  have hb0 : Below w.heap.size w W0 := by rw [← hW0]; exact (Below.refl _ w).alloc (Nat.le_refl _) _
  rw [hW0]
  obtain ⟨W1, hW1⟩ : ∃ W1, (W0.alloc (.deferred (some []))).alloc (.loop (apRec fn (.func (.func g) #[] lb) w.heap.size W0.heap.size .ready none)) = W1 := ⟨_, rfl⟩
  have hold : ∀ k, k < W0.heap.size → W1.heap[k]? = W0.heap[k]? := fun k hk => by
    rw [← hW1]; exact (Below.heap_alloc _ _ k (by simp; omega)).trans (Below.heap_alloc _ _ k hk)
  have hb1 : Below w.heap.size w W1 := by rw [← hW1]; exact (hb0.alloc hb0.size _).alloc (by have := hb0.size; simp; omega) _
  have hs1 : W1.heap.size = W0.heap.size + 2 := by rw [← hW1]; simp
  have hM : ApAt w fn (.func (.func g) #[] lb) w.heap.size (W0.heap.size + 1) W0.heap.size [] W1 :=
    ⟨⟨_, (hold w.heap.size (by omega)).trans hv0, Owns.nil_⟩,
     by rw [← hW1]; have := World.alloc_heap_new (W0.alloc (.deferred (some []))) (.loop (apRec fn (.func (.func g) #[] lb) w.heap.size W0.heap.size .ready none)); rwa [World.size_alloc] at this,
     by rw [← hW1]; exact (Below.heap_alloc _ _ _ (by simp)).trans (World.alloc_heap_new W0 _), hb1⟩
  refine ⟨W0.heap.size + 1, [{ target := .collected W0.heap.size, args := #[] }], W1, { target := .fn (.func g) lb, args := #[.func (.yield (W0.heap.size + 1)) #[] #[]] }, W1, g,
    #[.func (.yield (W0.heap.size + 1)) #[] #[]] ++ lb, W1, ?_, ?_, ?_, ?_, fun _ => h1, ?_⟩
  · rw [← hW1]; exact run_enterLoop_outer _ _ _ _ _
  · simp [resolve, go_sem]
  · intro f' hf'; simp [Target.leads] at hf'; subst hf'; exact hFg
  · simp [invoke, go_sem, eg]
  · refine (hseq (W0.heap.size + 1) (fun pre W => pre.length ≤ pl.length ∧ ApAt w fn (.func (.func g) #[] lb) w.heap.size (W0.heap.size + 1) W0.heap.size pre W) W1 hb1 (fun pre W2 o h => ⟨h.1, h.2.alloc o⟩)
      (fun pre x W hJ hl => ?_) ⟨by simp, hM⟩).mono ?_
    · obtain ⟨fn', tm, as_, bo, h3, h4⟩ := apYield F (n - 1 - 1) w fn hfn (.func (.func g) #[] lb) w.heap.size (W0.heap.size + 1) W0.heap.size (by omega) (by omega) (by omega) (Nat.le_refl _) (by omega) pre x W hJ.2 (by omega)
      refine ⟨fn', tm, as_, bo, h3, h4.mono ?_⟩
      rintro e W' ⟨he, hA, hB⟩
      exact ⟨he, ⟨by simp; omega, hA⟩, hB⟩
    rintro e W2 ⟨⟨v0, rfl⟩, xs, rfl, _, h2⟩
    obtain ⟨v, hv, hrow⟩ := h2.box
    have hend := run_endLoop (P := Tryz.prog) h2.L (by simp [apRec])
    obtain ⟨W3, hW3⟩ : ∃ W3, W2.putObj (W0.heap.size + 1) (.loop { apRec fn (.func (.func g) #[] lb) w.heap.size W0.heap.size .ready none with state := .exhausted }) = W3 := ⟨_, rfl⟩
    rw [hW3] at hend
    have hg3 : W2.grownBy W3 (some (W0.heap.size + 1)) := by rw [← hW3]; exact grownBy_putObj _ _ _
    have hv3 : W3.heap[w.heap.size]? = some (.cells #[v] 55 (0, 0)) := by rw [← hW3]; exact (World.putObj_heap_other (by omega)).trans hv
    have hK3 : W3.heap[W0.heap.size]? = some (.deferred (some [])) := by rw [← hW3]; exact (World.putObj_heap_other (by omega)).trans h2.K
    have hrow3 := hrow.grown hg3 (own_ne hrow h2.L (fun cur e => by cases e))
    have hb3 : Below w.heap.size w W3 := h2.below.grown hg3 h2.below.size (fun k e => by cases e; omega)
    obtain ⟨hc3, hf3⟩ := cell_of_box hv3
    clear hW3
    refine ⟨none, W3, hend, ?_⟩
    gi_wp2
    rw [← hs0]
    refine ⟨by simp, .inl ⟨_, _, rfl, run_takeDeferred hK3, ?_⟩⟩
    exact ⟨_, results_tmp rfl _ _ _, v, rfl, hrow3.grown (grownBy_putObj _ _ _) (own_ne hrow3 hK3 (fun cur e => by cases e)), hb3.grown (grownBy_putObj _ _ _) hb3.size (fun k e => by cases e; omega)⟩
end Go.Proofs.YtdhlmhkabckbaaaGreatDoor
