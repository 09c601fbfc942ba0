/-
  What stands in a pack: rows of places' numbers, sorted by where the places begin.
-/
import Derived.Test.YtcepdigeimedoaaPlaceE
import Derived.Test.YtcepdigeimedoaaIdxPacks
namespace Go.Proofs.Ytcepdigeimedoaa
open Go.RowKit Go.Shelf Go.Sort Go.Lib
attribute [local go_sem ↓] Go.wp_at_zero Go.wp_at_succ

def natCell (i : Nat) : List Value := [.int .i64 i]
theorem natCell_len (i : Nat) : (natCell i).length = 1 := rfl
def natE : Elem Nat where
  T := 3
  S := 24
  k := 1
  bytes := 8
  enc := natCell
  z := .int .i64 0
  und := Try.underlying24
  info := by kernel_rfl
  zc := rfl
  pos := by decide
  small := by decide
  len := natCell_len
  one := fun x u hu => by simp [natCell] at hu; subst hu; rfl

/-- Where a place begins. -/
def atOf (ps : List Place) (i : Nat) : Int := match ps[i]? with | some p => p.at_ | none => 0
theorem atOf_eq {ps : List Place} {i : Nat} {p : Place} (h : ps[i]? = some p) : atOf ps i = p.at_ := by unfold atOf; rw [h]

set_option maxHeartbeats 1000000 in
theorem of_cmp (A : Option Addr) (n c bx : Nat) (ps : List Place) (w : World) (h : PlacesAt w w.heap.size A n ps) (h5 : w.cell? ⟨bx, 5, none⟩ = some (.slice A n c)) (x y : Nat) (hx : x < n) (hy : y < n) :
    Calls Try.prog 102 #[.int .i64 x, .int .i64 y, .pointer (some ⟨bx, 0, none⟩)] w fun e w' => e = .returned (.int .i64 (cmpI (atOf ps x) (atOf ps y))) ∧ ∃ q, w' = w.drewN q := by
  obtain ⟨b, off, p, rfl, hb, hp, p0, p1, p2⟩ := h.place hx
  obtain ⟨b', off', q, e, hb', hq, q0, q1, q2⟩ := h.place hy
  simp only [Option.some.injEq, Addr.mk.injEq] at e
  obtain ⟨rfl, rfl, _⟩ := e
  have ex : Hid (atOf ps x = p.at_) := atOf_eq hp
  have ey : Hid (atOf ps y = q.at_) := atOf_eq hq
  have hc : ∀ W, Calls Try.prog 103 #[.int .i64 p.at_, .int .i64 q.at_] W fun e w' => e = .returned (.int .i64 (cmpI p.at_ q.at_)) ∧ w' = W := fun W => (compare_int _ _ W).mono fun e w' ⟨h1, h2⟩ => ⟨h1, h2.symm⟩
  obtain ⟨z, hz⟩ : ∃ z, z = cmpI p.at_ q.at_ := ⟨_, rfl⟩
  rw [← hz] at hc
  replace hz := Lib.hid hz
  clear hp hq
  go_enter Try.func102, Try.ntmps102
  go_wp2
  go_quiet ((go_at_call 103; exact Calls.quiet_of_same (hc _)))
  go_wp2
  go_ret
  exact ⟨by rw [ex.out, ey.out, ← hz.out]; rfl, _, rfl⟩

theorem cmpI_lt {a b : Int} : cmpI a b < 0 ↔ a < b := by
  unfold cmpI
  split
  · simp [*]
  · split <;> simp [*]
/-- By where they begin. -/
def cmpAt (ps : List Place) {m : Nat} (x y : Fin m) : Int := cmpI (atOf ps x.val) (atOf ps y.val)
theorem ltOf_at (ps : List Place) {m : Nat} (x y : Fin m) : ltOf (cmpAt ps) x y = decide (atOf ps x.val < atOf ps y.val) := by
  unfold ltOf cmpAt
  rw [Bool.eq_iff_iff]
  simp [cmpI_lt]
theorem swo_at (ps : List Place) {m : Nat} : SWO (ltOf (cmpAt ps (m := m))) where
  irrefl x := by rw [ltOf_at]; simp
  trans x y z h1 h2 := by
    rw [ltOf_at] at *
    simp at *
    omega
  ntrans x y z h1 h2 := by
    rw [ltOf_at] at *
    simp at *
    omega

def finE {m : Nat} (x : Fin m) : Value := .int .i64 (x.val : Nat)
theorem finE_one {m : Nat} : OneCell (finE (m := m)) := fun _ => rfl
theorem holds_nat {w : World} {base g n c m : Nat} {l : List Nat} {d : Array (Fin (m + 1))} (h : natE.Own w base (.slice (some ⟨g, 0, none⟩) n c) l) (hd : d.toList.map Fin.val = l) : n = d.size ∧ Holds finE w g 0 d := by
  have hdl : d.size = l.length := by rw [← hd]; simp
  rcases h.2 with ⟨e, _⟩ | ⟨g', cap, cur, e, hg, hh, hnc, _, hcs, htk⟩
  · simp at e
  · simp only [Value.slice.injEq, Option.some.injEq, Addr.mk.injEq, and_true] at e
    obtain ⟨rfl, rfl, rfl⟩ := e
    refine ⟨hdl.symm, fun j hj => ?_⟩
    have hx : l[j]? = some (d[j]!).val := by
      rw [← hd, getElem!_pos d j hj]
      simp [hj]
    have hc := World.ownsRow.cells (g := g) h rfl (j * 1 + 0) _ (flat_at natCell_len l _ _ hx 0 _ rfl)
    rw [Addr.add_lit, show 0 + (j * 1 + 0) = 0 + j by omega] at hc
    exact ⟨hc, by simp [World.frozen?, hh]⟩
theorem row_of_holds {w : World} {g m : Nat} {d : Array (Fin (m + 1))} (h : Holds finE w g 0 d) (hg : g < w.heap.size) (hd : d.size ≤ 1000000000) : RowAt 1 natCell w w.heap.size (some ⟨g, 0, none⟩) d.size (d.toList.map Fin.val) := by
  refine ⟨by simp, by omega, fun _ => ⟨g, 0, rfl, hg, fun i x hx j v hv => ?_⟩⟩
  have hi : i < d.size := by have := (List.getElem?_eq_some_iff.1 hx).1; simpa using this
  obtain rfl : j = 0 := by have := (List.getElem?_eq_some_iff.1 hv).1; simpa [natCell] using this
  have := (h i hi).1
  rw [show 0 + i * 1 + 0 = 0 + i by omega, this, getElem!_pos d i hi]
  simp [hi] at hx
  subst hx
  simp [natCell] at hv
  subst hv
  rfl
/-- A list of numbers below m + 1 as an array of such. -/
theorem fins {m : Nat} : ∀ {l : List Nat}, (∀ i ∈ l, i < m + 1) → ∃ d : List (Fin (m + 1)), d.map Fin.val = l
  | [], _ => ⟨[], rfl⟩
  | i :: l, h => by
    obtain ⟨d, hd⟩ := fins (l := l) fun j hj => h j (List.mem_cons_of_mem _ hj)
    exact ⟨⟨i, h i List.mem_cons_self⟩ :: d, by rw [List.map_cons, hd]⟩

set_option maxHeartbeats 1000000 in
theorem sort_row (base g n c bx m cc : Nat) (A : Option Addr) (l : List Nat) (ps : List Place) (w : World) (h : natE.Own w base (.slice (some ⟨g, 0, none⟩) n c) l) (hl : ∀ i ∈ l, i < m) (hn : l.length ≤ 1000000000) (hm : 0 < m)
    (hps : PlacesAt w g A m ps) (hbx : bx < g) (h5 : w.cell? ⟨bx, 5, none⟩ = some (.slice A m cc)) :
    Calls Try.prog 101 #[.slice (some ⟨g, 0, none⟩) n c, .func (.func 102) #[] #[.pointer (some ⟨bx, 0, none⟩)]] w fun e w' => e = .returned (.tuple #[]) ∧ ∃ l', l'.Perm l ∧ l'.Pairwise (fun a b => atOf ps a ≤ atOf ps b) ∧ RowAt 1 natCell w' w'.heap.size (some ⟨g, 0, none⟩) n l' ∧ RowKit.Below g w w' := by
  obtain ⟨m, rfl⟩ : ∃ k, m = k + 1 := ⟨m - 1, by omega⟩
  obtain ⟨dl, hdl⟩ := fins hl
  obtain ⟨d, rfl⟩ : ∃ d : Array (Fin (m + 1)), d.toList = dl := ⟨dl.toArray, by simp⟩
  obtain ⟨rfl, hH⟩ := holds_nat h hdl
  have hgl : g < w.heap.size := (World.ownsRow.lt h g rfl).2
  have eg : ∀ args w, (callFunc 102 args).run Try.prog w = .ok (.enter 102 args) w := enters_of Try.func102 (by kernel_rfl) rfl
  have hbelow : ∀ q (d' : Array (Fin (m + 1))) os, RowKit.Below g w (sortWorld finE w g 0 q d' os) := fun q d' os => by
    unfold sortWorld
    refine below_grow (below_putRow (Below.refl g w) (Nat.le_refl _)) ?_ os
    show g ≤ (putRow finE (Sort.ahead w q) g 0 d').heap.size
    rw [size_putRow]
    exact Nat.le_of_lt hgl
  have hcmp : CmpReads Try.prog 102 #[.pointer (some ⟨bx, 0, none⟩)] finE (cmpAt ps) g 0 d.size w := fun q os dk _ x y => by
    have hb := hbelow q dk os
    have hps' : PlacesAt (sortWorld finE w g 0 q dk os) g A (m + 1) ps := hps.below hb
    exact of_cmp A (m + 1) cc bx ps _ (hps'.more (by have := hb.size; omega)) ((hb.cell (p := ⟨bx, 5, none⟩) hbx).trans h5) x.val y.val x.isLt y.isLt
  have hcon := Any.slices_SortFunc Try.sortI finE finE_one (cmpAt ps) (swo_at ps) 102 #[.pointer (some ⟨bx, 0, none⟩)] g 0 c d w eg hcmp.lays hH hgl (by rw [← hdl] at hn; simp at hn; omega)
  refine Calls.mono (show Calls Try.prog 101 _ w _ from hcon) ?_
  rintro e w' ⟨he, d', q, os, hp, hs, rfl⟩
  have hsz : d'.size = d.size := hp.1
  have hH' := holds_sortWorld finE w g 0 q d d' os hgl hH hsz
  have hb := hbelow q d' os
  have hlen : d.size ≤ 1000000000 := by rw [← hdl] at hn; simpa using hn
  refine ⟨he, d'.toList.map Fin.val, ?_, ?_, ?_, hb⟩
  · rw [← hdl]
    refine List.Perm.map _ ?_
    have := hp.2.2
    simpa [hsz, Array.extract_eq_self_of_le] using this
  · rw [List.pairwise_map, List.pairwise_iff_getElem]
    intro i j hi hj hij
    have := hs i j (Nat.zero_le _) hij (by rw [← hsz]; simpa using hj)
    rw [ltOf_at, getElem!_pos d' j (by simpa using hj), getElem!_pos d' i (by simpa using hi)] at this
    simpa using this
  · have := row_of_holds hH' (by have := hb.size; exact Nat.lt_of_lt_of_le hgl this) (by omega)
    rw [hsz] at this
    exact this
end Go.Proofs.Ytcepdigeimedoaa
