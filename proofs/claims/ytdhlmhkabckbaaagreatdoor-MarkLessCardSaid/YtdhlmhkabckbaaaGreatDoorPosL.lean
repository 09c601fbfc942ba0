/-
  Where a text stands in a row.
-/
import Derived.Test.YtdhlmhkabckbaaaGreatDoorStA
import Derived.Test.YtdhlmhkabckbaaaGreatDoorCntA
import Derived.Test.YtdhlmhkabckbaaaGreatDoorPlaceE
import Derived.Test.YtdhlmhkabckbaaaGreatDoorBase
namespace Go.Proofs.YtdhlmhkabckbaaaGreatDoor
open Go.RowKit
attribute [local go_sem ↓] Go.wp_at_zero Go.wp_at_succ

/-- Where a text stands in a row first. -/
def posOf (d : ByteArray) : List ByteArray → Option Nat
  | [] => none
  | c :: l => if c = d then some 0 else (posOf d l).map (· + 1)
theorem posOf_none {d : ByteArray} : ∀ {l : List ByteArray}, posOf d l = none ↔ d ∉ l
  | [] => by simp [posOf]
  | c :: l => by
    rw [posOf]
    by_cases h : c = d
    · simp [h]
    · rw [if_neg h, Option.map_eq_none_iff, posOf_none]
      simp [Ne.symm h]
theorem posOf_at {d : ByteArray} : ∀ {l : List ByteArray} {i : Nat}, posOf d l = some i → l[i]? = some d
  | [], _, h => by simp [posOf] at h
  | c :: l, i, h => by
    rw [posOf] at h
    by_cases hc : c = d
    · rw [if_pos hc] at h
      injection h with h
      subst h
      simp [hc]
    · rw [if_neg hc, Option.map_eq_some_iff] at h
      obtain ⟨j, hj, rfl⟩ := h
      simpa using posOf_at hj
theorem rise_inj {l : List ByteArray} (h : RiseS l) {i j : Nat} {d : ByteArray} (hi : l[i]? = some d) (hj : l[j]? = some d) : i = j := by
  have key : ∀ {a b : Nat}, l[a]? = some d → l[b]? = some d → ¬ a < b := fun {a b} ha hb hab => by
    obtain ⟨h1, h2⟩ := List.getElem?_eq_some_iff.1 ha
    obtain ⟨h3, h4⟩ := List.getElem?_eq_some_iff.1 hb
    have := List.pairwise_iff_getElem.1 h a b h1 h3 hab
    rw [h2, h4, sLt_irrefl] at this
    cases this
  have h1 := key hi hj
  have h2 := key hj hi
  omega
theorem posOf_of_at {l : List ByteArray} (h : RiseS l) {i : Nat} {d : ByteArray} (hi : l[i]? = some d) : posOf d l = some i := by
  cases hp : posOf d l with
  | none => exact absurd (List.mem_of_getElem? hi) (posOf_none.1 hp)
  | some j => rw [rise_inj h (posOf_at hp) hi]
theorem chk_rise : ∀ {cs : List ByteArray} {ps : List Place} {prev : Option ByteArray}, cs.length = ps.length → chk prev cs ps = true → RiseS cs ∧ ∀ b, prev = some b → ∀ c ∈ cs, sLt b c = true
  | [], _, _, _, _ => ⟨List.Pairwise.nil, fun _ _ _ h => absurd h List.not_mem_nil⟩
  | c :: cs, [], _, hl, _ => by simp at hl
  | c :: cs, p :: ps, prev, hl, h => by
    simp [chk] at h
    obtain ⟨h1, h2⟩ := chk_rise (by simpa using hl) h.2
    have h3 := h2 c rfl
    refine ⟨List.pairwise_cons.2 ⟨fun x hx => h3 x hx, h1⟩, fun b hb x hx => ?_⟩
    subst hb
    have hbc : sLt b c = true := by
      have := h.1.1.2
      simpa [prevOk] using this
    rcases List.mem_cons.1 hx with rfl | hx
    · exact hbc
    · exact sLt_trans hbc (h3 x hx)
theorem mayIdx_rise {cs : List ByteArray} {ps : List Place} (h : mayIdx cs ps = true) : RiseS cs := by
  simp [mayIdx] at h
  exact (chk_rise h.1.1.1 h.1.2).1
theorem chk_size32 : ∀ {cs : List ByteArray} {ps : List Place} {prev : Option ByteArray}, chk prev cs ps = true → ∀ c ∈ cs, c.size = 32
  | [], _, _, _ => by simp
  | c :: cs, [], _, h => by simp [chk] at h
  | c :: cs, p :: ps, prev, h => by
    simp [chk] at h
    intro d hd
    simp at hd
    rcases hd with rfl | hd
    · exact h.1.1.1
    · exact chk_size32 h.2 d hd
theorem mayIdx_size {cs : List ByteArray} {ps : List Place} (h : mayIdx cs ps = true) : ∀ c ∈ cs, c.size = 32 := by
  simp [mayIdx] at h
  exact chk_size32 h.1.2

/-- What the search asks at a place. -/
def geAt (cs : List ByteArray) (d : ByteArray) (i : Nat) : Bool := match cs[i]? with | some c => !sLt c d | none => false
theorem geAt_eq {cs : List ByteArray} {d c : ByteArray} {i : Nat} (h : cs[i]? = some c) : geAt cs d i = !sLt c d := by unfold geAt; rw [h]
theorem geAt_mono {cs : List ByteArray} {d : ByteArray} (hr : RiseS cs) {a b : Nat} (hab : a ≤ b) (hb : b < cs.length) (h : geAt cs d a = true) : geAt cs d b = true := by
  have xa : cs[a]? = some (cs[a]'(by omega)) := List.getElem?_eq_getElem (by omega)
  have xb : cs[b]? = some (cs[b]'(by omega)) := List.getElem?_eq_getElem (by omega)
  rcases Nat.lt_or_ge a b with h' | h'
  · rw [geAt_eq xa] at h
    rw [geAt_eq xb]
    have := List.pairwise_iff_getElem.1 hr a b (by omega) (by omega) h'
    cases hlt : sLt cs[b] d
    · rfl
    · rw [sLt_trans this hlt] at h
      cases h
  · have : a = b := by omega
    subst this
    exact h
end Go.Proofs.YtdhlmhkabckbaaaGreatDoor
/-
  What Find tells of a state; boxes of places.
-/
namespace Go.Proofs.YtdhlmhkabckbaaaGreatDoor
open Go.RowKit
attribute [local go_sem ↓] Go.wp_at_zero Go.wp_at_succ

def Place.zero : Place := ⟨⟨#[]⟩, 0, 0⟩
/-- What Find tells of a state. -/
def findP (s : St) (d : ByteArray) : Place × Int :=
  if mayIdx s.cs s.ps then match posOf d s.cs with | some i => ((s.ps[i]?).getD Place.zero, 0) | none => (Place.zero, 5) else (Place.zero, 4)
theorem findP_form {s : St} {d : ByteArray} (h : mayIdx s.cs s.ps = false) : findP s d = (Place.zero, 4) := by simp [findP, h]
theorem findP_none {s : St} {d : ByteArray} (h : mayIdx s.cs s.ps = true) (hd : posOf d s.cs = none) : findP s d = (Place.zero, 5) := by simp [findP, h, hd]
theorem findP_some {s : St} {d : ByteArray} {i : Nat} {p : Place} (h : mayIdx s.cs s.ps = true) (hd : posOf d s.cs = some i) (hp : s.ps[i]? = some p) : findP s d = (p, 0) := by simp [findP, h, hd, hp]
theorem mayIdx_len {cs : List ByteArray} {ps : List Place} (h : mayIdx cs ps = true) : cs.length = ps.length ∧ cs.length ≤ 400 := by
  simp [mayIdx] at h
  exact ⟨h.1.1.1, h.1.1.2⟩

/-- Block b is a box of a place. -/
def PBox (w : World) (b : Nat) (p : Place) : Prop := w.heap[b]? = some (.cells #[.string p.pack, .int .i64 p.at_, .int .i64 p.len] 98)
section
variable {w w' : World} {b : Nat} {p : Place}
theorem PBox.lt (h : PBox w b p) : b < w.heap.size := (Array.getElem?_eq_some_iff.1 h).1
theorem PBox.cells (h : PBox w b p) : w.cell? ⟨b, 0, none⟩ = some (.string p.pack) ∧ w.cell? ⟨b, 1, none⟩ = some (.int .i64 p.at_) ∧ w.cell? ⟨b, 2, none⟩ = some (.int .i64 p.len) :=
  ⟨cell_of_row w b 0 _ _ _ h, cell_of_row w b 1 _ _ _ h, cell_of_row w b 2 _ _ _ h⟩
theorem PBox.frozen (h : PBox w b p) (o : Nat) : w.frozen? ⟨b, o, none⟩ = false := by
  unfold PBox at h
  unfold World.frozen?
  simp [h]
theorem PBox.below (h : PBox w b p) (hb : Below w.heap.size w w') : PBox w' b p := (hb.block b h.lt).trans h
theorem PBox.alloc (h : PBox w b p) (o : Obj) : PBox (w.alloc o) b p := (Go.Deep.blk_alloc_lt _ _ _ h.lt).trans h
theorem PBox.drewN (h : PBox w b p) (q : Nat) : PBox (w.drewN q) b p := h
theorem PBox.drew (h : PBox w b p) : PBox w.drew b p := h
theorem PBox.new (w : World) (p : Place) : PBox (w.alloc (.cells #[.string p.pack, .int .i64 p.at_, .int .i64 p.len] 98)) w.heap.size p := heap_alloc_new w _
end
abbrev set3 (w : World) (b : Nat) (p : Place) : World := ((w.setCell ⟨b, 0, none⟩ (.string p.pack)).setCell ⟨b, 1, none⟩ (.int .i64 p.at_)).setCell ⟨b, 2, none⟩ (.int .i64 p.len)
theorem PBox.set3 {w : World} {b : Nat} {p : Place} (h : PBox w b p) (q : Place) : PBox (set3 w b q) b q := (heap_setCell (heap_setCell (heap_setCell h _) _) _).trans rfl
theorem below_set3 {B : Nat} {w0 w : World} (h : Below B w0 w) {b : Nat} (hb : B ≤ b) (p : Place) : Below B w0 (Go.Proofs.YtdhlmhkabckbaaaGreatDoor.set3 w b p) := ((h.setCell hb _).setCell hb _).setCell hb _
end Go.Proofs.YtdhlmhkabckbaaaGreatDoor

/-
  The contract of index.Packs.
-/
namespace Go.Proofs.YtdhlmhkabckbaaaGreatDoor
open Go.RowKit Go.Maps
attribute [local go_sem ↓] Go.wp_at_zero Go.wp_at_succ

/-- What Packs tells of a state. -/
def packsRes (s : St) : List ByteArray × Int := if mayIdx s.cs s.ps then (setS (s.ps.map Place.pack), 0) else ([], 4)
theorem mayIdx_places {cs : List ByteArray} {ps : List Place} (h : mayIdx cs ps = true) : ∀ p ∈ ps, mayPlace p = true := by
  have hl := (mayIdx_len h).1
  simp [mayIdx] at h
  exact chk_places h.1.2 hl
theorem mayPlace_pack {p : Place} (h : mayPlace p = true) : p.pack.size = 32 := by
  simp [mayPlace] at h
  exact h.1.1.1.1.1

set_option maxHeartbeats 1000000 in
theorem index_Packs (v : Rws) (s : St) (w : World) (h : StAt w w.heap.size v s) :
    Calls Tryz.prog 55 #[v.val s] w fun e w' => ∃ u, e = .returned (.tuple #[u, .int .i64 (packsRes s).2]) ∧ strE.Own w' w.heap.size u (packsRes s).1 ∧ Below w.heap.size w w' := by
  obtain ⟨k, n, next, sn, cs, ps⟩ := s
  obtain ⟨A1, n1, c1, A2, n2, c2, A3, n3, c3⟩ := v
  obtain ⟨-, h2, h3, hok⟩ := h
  dsimp only at h2 h3 hok
  unfold Rws.val stv
  dsimp only
  have l3 := Lib.hid h3.1
  have b3 := h3.2.1
  have hmay := fun W (hb : Below w.heap.size w W) => index_May k n next A1 n1 c1 A2 n2 c2 A3 n3 c3 cs ps W (h2.to hb) (h3.to hb) hok
  unfold stv at hmay
  replace hmay := Lib.hid hmay
  have bs := Lib.hid (BoxAt.new w k n next (.slice A1 n1 c1) (.slice A2 n2 c2) (.slice A3 n3 c3))
  clear hok
  cases hm : mayIdx cs ps
  · have hres : Hid (packsRes ⟨k, n, next, sn, cs, ps⟩ = ([], 4)) := by simp [Hid, packsRes, hm]
    rw [hm] at hmay
    replace hm := Lib.hid hm
    go_enter Tryz.func55, Tryz.ntmps55
    go_wp2_with fail
    refine (hmay.out _ (by repeat (first | exact Below.refl _ _ | assumption | refine Below.drew ?_ | refine below_drewN ?_ _ | refine Below.alloc ?_ (by first | omega | (simp; try omega)) _ | refine Below.setCell ?_ (by first | omega | (simp; try omega)) _ | (refine Below.trans ?_ (Below.mono (by assumption) (by first | omega | (simp; try omega))))))).mono ?_
    rintro e w1 ⟨rfl, hb1⟩
    have hz1 := hb1.size
    go_wp2_with fail
    go_ret2
    exact ⟨.slice none 0 0, by rw [hres.out]; rfl, by rw [hres.out]; exact Owns.nil_, (by repeat (first | exact Below.refl _ _ | assumption | refine Below.drew ?_ | refine below_drewN ?_ _ | refine Below.alloc ?_ (by first | omega | (simp; try omega)) _ | refine Below.setCell ?_ (by first | omega | (simp; try omega)) _ | (refine Below.trans ?_ (Below.mono (by assumption) (by first | omega | (simp; try omega))))))⟩
  · have hres : Hid (packsRes ⟨k, n, next, sn, cs, ps⟩ = (setS (ps.map Place.pack), 0)) := by simp [Hid, packsRes, hm]
    have h400 : n3 ≤ 400 := by have := mayIdx_len hm; have := l3.out; omega
    have hpk := Lib.hid (fun p hp => mayPlace_pack (mayIdx_places hm p hp))
    rw [hm] at hmay
    replace hm := Lib.hid hm
    have hmm := @run_makeMap Tryz.prog
    go_enter Tryz.func55, Tryz.ntmps55
    go_wp2_with fail
    refine (hmay.out _ (by repeat (first | exact Below.refl _ _ | assumption | refine Below.drew ?_ | refine below_drewN ?_ _ | refine Below.alloc ?_ (by first | omega | (simp; try omega)) _ | refine Below.setCell ?_ (by first | omega | (simp; try omega)) _ | (refine Below.trans ?_ (Below.mono (by assumption) (by first | omega | (simp; try omega))))))).mono ?_
    rintro e w1 ⟨rfl, hb1⟩
    have hz1 := hb1.size
    simp at hz1
    have hbw1 : Below w.heap.size w w1 := (by repeat (first | exact Below.refl _ _ | assumption | refine Below.drew ?_ | refine below_drewN ?_ _ | refine Below.alloc ?_ (by first | omega | (simp; try omega)) _ | refine Below.setCell ?_ (by first | omega | (simp; try omega)) _ | (refine Below.trans ?_ (Below.mono (by assumption) (by first | omega | (simp; try omega))))))
    have h1 := h3.to hbw1
    obtain ⟨x0, x1, x2, x3, x4, x5⟩ := ((bs.out.below hb1).alloc (.map #[] 0)).cells
    clear hb1
    go_wp2_with fail
    go_loopw [6, 14] (fun _ i wr => ∃ j : Nat, j ≤ n3 ∧ i = .int .i64 j ∧ CntAt wr w1.heap.size ((ps.take j).map Place.pack) ∧ Below w1.heap.size w1 wr) (fun _ i _ => n3 - (intOf i).toNat)
    case atStart => exact ⟨0, Nat.zero_le _, rfl, by simpa using CntAt.made w1, (by repeat (first | exact Below.refl _ _ | assumption | refine Below.drew ?_ | refine below_drewN ?_ _ | refine Below.alloc ?_ (by first | omega | (simp; try omega)) _ | refine Below.setCell ?_ (by first | omega | (simp; try omega)) _ | (refine Below.trans ?_ (Below.mono (by assumption) (by first | omega | (simp; try omega))))))⟩
    case round =>
      obtain ⟨j, hj, rfl, hcnt, hbr⟩ := hrel
      have hzr := hbr.size
      by_cases hlt : j < n3
      · obtain ⟨b0, off, p, rfl, hb0, hx, q0, q1, q2⟩ := (h1.to hbr).place hlt
        have hsz : p.pack.size ≤ maxLen := by rw [hpk.out p (List.mem_of_getElem? hx)]; decide
        have htk : Hid ((ps.take (j + 1)).map Place.pack = (ps.take j).map Place.pack ++ [p.pack]) := by
          unfold Hid
          rw [List.take_add_one, hx]
          simp
        have hlen : ((ps.take j).map Place.pack).length < 1000000000 := by simp; omega
        clear hx
        replace hlen := Lib.hid hlen
        replace hsz := Lib.hid hsz
        go_wp2_with (first
          | (at_lookup; go_must (refine wpList_cnt_lookup _ rfl _ _ rfl w1.heap.size _ rfl (CntAt.alloc hcnt _) p.pack rfl hsz.out ?_); intro c hc9 hc)
          | (at_mapUpdate; go_must (refine wpList_cnt_update _ rfl _ _ _ rfl w1.heap.size _ rfl (CntAt.alloc hcnt _) hlen.out p.pack rfl hsz.out c hc rfl ?_); intro w3 hcnt3 hg3))
        go_roundw
        case rel => exact ⟨j + 1, by omega, by go_num, by rw [htk.out]; exact hcnt3, Below.grown (by repeat (first | exact Below.refl _ _ | assumption | refine Below.drew ?_ | refine below_drewN ?_ _ | refine Below.alloc ?_ (by first | omega | (simp; try omega)) _ | refine Below.setCell ?_ (by first | omega | (simp; try omega)) _ | (refine Below.trans ?_ (Below.mono (by assumption) (by first | omega | (simp; try omega)))))) hg3 (by first | omega | (simp; try omega)) (fun _ hi => by cases hi; exact Nat.le_refl _)⟩
        case measure => simp [intOf]; omega
      · obtain rfl : j = n3 := by omega
        have htk : Hid ((ps.take j).map Place.pack = ps.map Place.pack) := by unfold Hid; rw [List.take_of_length_le (by have := l3.out; omega)]
        rw [htk.out] at hcnt
        go_wp2_with fail
        refine (maps_Keys _ _).mono ?_
        rintro e w2 ⟨rfl, rfl⟩
        go_wp2_with fail
        refine (sorted_keys w1.heap.size _ wr hcnt).mono ?_
        rintro e w3 ⟨u, rfl, hown, hb3⟩
        have hz3 := hb3.size
        have hbw : Below w.heap.size w wr := hbw1.trans (hbr.mono (by omega))
        have hbw3 : Below w.heap.size w w3 := (hbw.alloc (by omega) _).trans (hb3.mono (by omega))
        go_wp2_with fail
        go_ret2
        exact ⟨u, by rw [hres.out]; rfl, by rw [hres.out]; exact (show strE.Own .. from hown).from (by omega), hbw3⟩
end Go.Proofs.YtdhlmhkabckbaaaGreatDoor

/-
  What stands in a pack: rows of places' numbers, sorted by where the places begin.
-/
namespace Go.Proofs.YtdhlmhkabckbaaaGreatDoor
open Go.RowKit Go.Shelf Go.Sort Go.Lib
attribute [local go_sem ↓] Go.wp_at_zero Go.wp_at_succ

def natCell (i : Nat) : List Value := [.int .i64 i]
theorem natCell_len (i : Nat) : (natCell i).length = 1 := rfl
def natE : Elem Nat where
  T := 3
  S := 104
  k := 1
  bytes := 8
  enc := natCell
  z := .int .i64 0
  und := Tryz.underlying104
  info := by kernel_rfl
  zc := rfl
  pos := by decide
  small := by decide
  len := natCell_len
  one := fun x u hu => by simp [natCell] at hu; subst hu; rfl

/-- Where a place begins. -/
def atOf (ps : List Place) (i : Nat) : Int := match ps[i]? with | some p => p.at_ | none => 0
theorem atOf_eq {ps : List Place} {i : Nat} {p : Place} (h : ps[i]? = some p) : atOf ps i = p.at_ := by unfold atOf; rw [h]

set_option maxHeartbeats 1000000 in
theorem of_cmp (A : Option Addr) (n c bx : Nat) (ps : List Place) (w : World) (h : PlacesAt w w.heap.size A n ps) (h5 : w.cell? ⟨bx, 5, none⟩ = some (.slice A n c)) (x y : Nat) (hx : x < n) (hy : y < n) :
    Calls Tryz.prog 100 #[.int .i64 x, .int .i64 y, .pointer (some ⟨bx, 0, none⟩)] w fun e w' => e = .returned (.int .i64 (cmpI (atOf ps x) (atOf ps y))) ∧ ∃ q, w' = w.drewN q := by
  obtain ⟨b, off, p, rfl, hb, hp, p0, p1, p2⟩ := h.place hx
  obtain ⟨b', off', q, e, hb', hq, q0, q1, q2⟩ := h.place hy
  simp only [Option.some.injEq, Addr.mk.injEq] at e
  obtain ⟨rfl, rfl, _⟩ := e
  have ex : Hid (atOf ps x = p.at_) := atOf_eq hp
  have ey : Hid (atOf ps y = q.at_) := atOf_eq hq
  have hc : ∀ W, Calls Tryz.prog 101 #[.int .i64 p.at_, .int .i64 q.at_] W fun e w' => e = .returned (.int .i64 (cmpI p.at_ q.at_)) ∧ w' = W := fun W => (compare_int _ _ W).mono fun e w' ⟨h1, h2⟩ => ⟨h1, h2.symm⟩
  obtain ⟨z, hz⟩ : ∃ z, z = cmpI p.at_ q.at_ := ⟨_, rfl⟩
  rw [← hz] at hc
  replace hz := Lib.hid hz
  clear hp hq
  go_enter Tryz.func100, Tryz.ntmps100
  go_wp2
  go_quiet ((go_at_call 101; exact Calls.quiet_of_same (hc _)))
  go_wp2
  go_ret
  exact ⟨by rw [ex.out, ey.out, ← hz.out]; rfl, _, rfl⟩

theorem cmpI_lt {a b : Int} : cmpI a b < 0 ↔ a < b := by
  unfold cmpI
  split
  · simp [*]
  · split <;> simp [*]
/-- By where they begin. -/
def cmpAt (ps : List Place) {m : Nat} (x y : Fin m) : Int := cmpI (atOf ps x.val) (atOf ps y.val)
theorem ltOf_at (ps : List Place) {m : Nat} (x y : Fin m) : ltOf (cmpAt ps) x y = decide (atOf ps x.val < atOf ps y.val) := by
  unfold ltOf cmpAt
  rw [Bool.eq_iff_iff]
  simp [cmpI_lt]
theorem swo_at (ps : List Place) {m : Nat} : SWO (ltOf (cmpAt ps (m := m))) where
  irrefl x := by rw [ltOf_at]; simp
  trans x y z h1 h2 := by
    rw [ltOf_at] at *
    simp at *
    omega
  ntrans x y z h1 h2 := by
    rw [ltOf_at] at *
    simp at *
    omega

def finE {m : Nat} (x : Fin m) : Value := .int .i64 (x.val : Nat)
theorem finE_one {m : Nat} : OneCell (finE (m := m)) := fun _ => rfl
theorem holds_nat {w : World} {base g n c m : Nat} {l : List Nat} {d : Array (Fin (m + 1))} (h : natE.Own w base (.slice (some ⟨g, 0, none⟩) n c) l) (hd : d.toList.map Fin.val = l) : n = d.size ∧ Holds finE w g 0 d := by
  have hdl : d.size = l.length := by rw [← hd]; simp
  rcases h.2 with ⟨e, _⟩ | ⟨g', cap, cur, e, hg, hh, hnc, _, hcs, htk⟩
  · simp at e
  · simp only [Value.slice.injEq, Option.some.injEq, Addr.mk.injEq, and_true] at e
    obtain ⟨rfl, rfl, rfl⟩ := e
    refine ⟨hdl.symm, fun j hj => ?_⟩
    have hx : l[j]? = some (d[j]!).val := by
      rw [← hd, getElem!_pos d j hj]
      simp [hj]
    have hc := World.ownsRow.cells (g := g) h rfl (j * 1 + 0) _ (flat_at natCell_len l _ _ hx 0 _ rfl)
    rw [Addr.add_lit, show 0 + (j * 1 + 0) = 0 + j by omega] at hc
    exact ⟨hc, by simp [World.frozen?, hh]⟩
theorem row_of_holds {w : World} {g m : Nat} {d : Array (Fin (m + 1))} (h : Holds finE w g 0 d) (hg : g < w.heap.size) (hd : d.size ≤ 1000000000) : RowAt 1 natCell w w.heap.size (some ⟨g, 0, none⟩) d.size (d.toList.map Fin.val) := by
  refine ⟨by simp, by omega, fun _ => ⟨g, 0, rfl, hg, fun i x hx j v hv => ?_⟩⟩
  have hi : i < d.size := by have := (List.getElem?_eq_some_iff.1 hx).1; simpa using this
  obtain rfl : j = 0 := by have := (List.getElem?_eq_some_iff.1 hv).1; simpa [natCell] using this
  have := (h i hi).1
  rw [show 0 + i * 1 + 0 = 0 + i by omega, this, getElem!_pos d i hi]
  simp [hi] at hx
  subst hx
  simp [natCell] at hv
  subst hv
  rfl
/-- A list of numbers below m + 1 as an array of such. -/
theorem fins {m : Nat} : ∀ {l : List Nat}, (∀ i ∈ l, i < m + 1) → ∃ d : List (Fin (m + 1)), d.map Fin.val = l
  | [], _ => ⟨[], rfl⟩
  | i :: l, h => by
    obtain ⟨d, hd⟩ := fins (l := l) fun j hj => h j (List.mem_cons_of_mem _ hj)
    exact ⟨⟨i, h i List.mem_cons_self⟩ :: d, by rw [List.map_cons, hd]⟩

set_option maxHeartbeats 1000000 in
theorem sort_row (base g n c bx m cc : Nat) (A : Option Addr) (l : List Nat) (ps : List Place) (w : World) (h : natE.Own w base (.slice (some ⟨g, 0, none⟩) n c) l) (hl : ∀ i ∈ l, i < m) (hn : l.length ≤ 1000000000) (hm : 0 < m)
    (hps : PlacesAt w g A m ps) (hbx : bx < g) (h5 : w.cell? ⟨bx, 5, none⟩ = some (.slice A m cc)) :
    Calls Tryz.prog 69 #[.slice (some ⟨g, 0, none⟩) n c, .func (.func 100) #[] #[.pointer (some ⟨bx, 0, none⟩)]] w fun e w' => e = .returned (.tuple #[]) ∧ ∃ l', l'.Perm l ∧ l'.Pairwise (fun a b => atOf ps a ≤ atOf ps b) ∧ RowAt 1 natCell w' w'.heap.size (some ⟨g, 0, none⟩) n l' ∧ RowKit.Below g w w' := by
  obtain ⟨m, rfl⟩ : ∃ k, m = k + 1 := ⟨m - 1, by omega⟩
  obtain ⟨dl, hdl⟩ := fins hl
  obtain ⟨d, rfl⟩ : ∃ d : Array (Fin (m + 1)), d.toList = dl := ⟨dl.toArray, by simp⟩
  obtain ⟨rfl, hH⟩ := holds_nat h hdl
  have hgl : g < w.heap.size := (World.ownsRow.lt h g rfl).2
  have eg : ∀ args w, (callFunc 100 args).run Tryz.prog w = .ok (.enter 100 args) w := enters_of Tryz.func100 (by kernel_rfl) rfl
  have hbelow : ∀ q (d' : Array (Fin (m + 1))) os, RowKit.Below g w (sortWorld finE w g 0 q d' os) := fun q d' os => by
    unfold sortWorld
    refine below_grow (below_putRow (Below.refl g w) (Nat.le_refl _)) ?_ os
    show g ≤ (putRow finE (Sort.ahead w q) g 0 d').heap.size
    rw [size_putRow]
    exact Nat.le_of_lt hgl
  have hcmp : CmpReads Tryz.prog 100 #[.pointer (some ⟨bx, 0, none⟩)] finE (cmpAt ps) g 0 d.size w := fun q os dk _ x y => by
    have hb := hbelow q dk os
    have hps' : PlacesAt (sortWorld finE w g 0 q dk os) g A (m + 1) ps := hps.below hb
    exact of_cmp A (m + 1) cc bx ps _ (hps'.more (by have := hb.size; omega)) ((hb.cell (p := ⟨bx, 5, none⟩) hbx).trans h5) x.val y.val x.isLt y.isLt
  have hcon := Any.slices_SortFunc Tryz.sortI finE finE_one (cmpAt ps) (swo_at ps) 100 #[.pointer (some ⟨bx, 0, none⟩)] g 0 c d w eg hcmp.lays hH hgl (by rw [← hdl] at hn; simp at hn; omega)
  refine Calls.mono (show Calls Tryz.prog 69 _ w _ from hcon) ?_
  rintro e w' ⟨he, d', q, os, hp, hs, rfl⟩
  have hsz : d'.size = d.size := hp.1
  have hH' := holds_sortWorld finE w g 0 q d d' os hgl hH hsz
  have hb := hbelow q d' os
  have hlen : d.size ≤ 1000000000 := by rw [← hdl] at hn; simpa using hn
  refine ⟨he, d'.toList.map Fin.val, ?_, ?_, ?_, hb⟩
  · rw [← hdl]
    refine List.Perm.map _ ?_
    have := hp.2.2
    simpa [hsz, Array.extract_eq_self_of_le] using this
  · rw [List.pairwise_map, List.pairwise_iff_getElem]
    intro i j hi hj hij
    have := hs i j (Nat.zero_le _) hij (by rw [← hsz]; simpa using hj)
    rw [ltOf_at, getElem!_pos d' j (by simpa using hj), getElem!_pos d' i (by simpa using hi)] at this
    simpa using this
  · have := row_of_holds hH' (by have := hb.size; exact Nat.lt_of_lt_of_le hgl this) (by omega)
    rw [hsz] at this
    exact this
end Go.Proofs.YtdhlmhkabckbaaaGreatDoor
/-
  What stands in a pack, as a list: it is one and no other.
-/
namespace Go.Proofs.YtdhlmhkabckbaaaGreatDoor

theorem pair_unique {α : Type} {r : α → α → Prop} (irr : ∀ a, ¬ r a a) (tr : ∀ a b c, r a b → r b c → r a c) : ∀ {l l' : List α}, l.Pairwise r → l'.Pairwise r → (∀ x, x ∈ l ↔ x ∈ l') → l = l'
  | [], [], _, _, _ => rfl
  | [], y :: l', _, _, h => absurd ((h y).2 List.mem_cons_self) List.not_mem_nil
  | x :: l, [], _, _, h => absurd ((h x).1 List.mem_cons_self) List.not_mem_nil
  | x :: l, y :: l', h1, h2, h => by
    have a1 := List.pairwise_cons.1 h1
    have a2 := List.pairwise_cons.1 h2
    have hxy : x = y := by
      rcases List.mem_cons.1 ((h x).1 List.mem_cons_self) with e | hx
      · exact e
      · rcases List.mem_cons.1 ((h y).2 List.mem_cons_self) with e | hy
        · exact e.symm
        · exact absurd (tr _ _ _ (a1.1 y hy) (a2.1 x hx)) (irr x)
    subst hxy
    rw [pair_unique irr tr a1.2 a2.2 fun z => ?_]
    refine ⟨fun hz => ?_, fun hz => ?_⟩
    · rcases List.mem_cons.1 ((h z).1 (List.mem_cons_of_mem _ hz)) with e | hz'
      · exact absurd (e ▸ a1.1 z hz) (irr x)
      · exact hz'
    · rcases List.mem_cons.1 ((h z).2 (List.mem_cons_of_mem _ hz)) with e | hz'
      · exact absurd (e ▸ a2.1 z hz) (irr x)
      · exact hz'

/-- What stands in a pack: each chunk with its place, by where the places begin. -/
structure OfL (cs : List ByteArray) (ps : List Place) (pack : ByteArray) (L : List (ByteArray × Place)) : Prop where
  rise : L.Pairwise fun a b => a.2.at_ < b.2.at_
  mem : ∀ x : ByteArray × Place, x ∈ L ↔ (∃ i : Nat, cs[i]? = some x.1 ∧ ps[i]? = some x.2) ∧ x.2.pack = pack
theorem OfL.unique {cs : List ByteArray} {ps : List Place} {pack : ByteArray} {L L' : List (ByteArray × Place)} (h : OfL cs ps pack L) (h' : OfL cs ps pack L') : L = L' :=
  pair_unique (r := fun a b : ByteArray × Place => a.2.at_ < b.2.at_) (fun a => by omega) (fun a b c h1 h2 => by omega) h.rise h'.rise fun x => (h.mem x).trans (h'.mem x).symm

/-- The numbers of the places that stand in a pack, among the first n. -/
def inPack (ps : List Place) (pack : ByteArray) (n : Nat) : List Nat := (List.range n).filter fun i => decide ((ps[i]?).map Place.pack = some pack)
theorem inPack_mem {ps : List Place} {pack : ByteArray} {n i : Nat} : i ∈ inPack ps pack n ↔ i < n ∧ (ps[i]?).map Place.pack = some pack := by simp [inPack]
theorem inPack_yes {ps : List Place} {pack : ByteArray} {k : Nat} {p : Place} (h : ps[k]? = some p) (hp : p.pack = pack) : inPack ps pack (k + 1) = inPack ps pack k ++ [k] := by
  simp [inPack, List.range_succ, List.filter_append, h, hp]
theorem inPack_no {ps : List Place} {pack : ByteArray} {k : Nat} {p : Place} (h : ps[k]? = some p) (hp : p.pack ≠ pack) : inPack ps pack (k + 1) = inPack ps pack k := by
  simp [inPack, List.range_succ, List.filter_append, h, hp]
theorem inPack_len (ps : List Place) (pack : ByteArray) (n : Nat) : (inPack ps pack n).length ≤ n := by
  have := List.length_filter_le (fun i => decide ((ps[i]?).map Place.pack = some pack)) (List.range n)
  simpa [inPack] using this
theorem inPack_nodup (ps : List Place) (pack : ByteArray) (n : Nat) : (inPack ps pack n).Nodup := List.Pairwise.filter _ List.nodup_range

/-- A chunk with its place. -/
def pairAt (cs : List ByteArray) (ps : List Place) (i : Nat) : ByteArray × Place := ((cs[i]?).getD ⟨#[]⟩, (ps[i]?).getD Place.zero)
theorem pairAt_eq {cs : List ByteArray} {ps : List Place} {i : Nat} {c : ByteArray} {p : Place} (h1 : cs[i]? = some c) (h2 : ps[i]? = some p) : pairAt cs ps i = (c, p) := by simp [pairAt, h1, h2]

theorem at_ne {cs : List ByteArray} {ps : List Place} (hm : mayIdx cs ps = true) {i j : Nat} {p q : Place} (hi : ps[i]? = some p) (hj : ps[j]? = some q) (hpq : p.pack = q.pack) (hij : i ≠ j) : p.at_ ≠ q.at_ := by
  have hv := mayIdx_places hm
  have hap : apartB ps = true := by simp [mayIdx] at hm; exact hm.2
  have hpw := (apartB_iff ps).1 hap
  have key : ∀ {a b : Nat} {x y : Place}, ps[a]? = some x → ps[b]? = some y → x.pack = y.pack → a < b → x.at_ ≠ y.at_ := fun {a b x y} ha hb hxy hab he => by
    obtain ⟨h1, h2⟩ := List.getElem?_eq_some_iff.1 ha
    obtain ⟨h3, h4⟩ := List.getElem?_eq_some_iff.1 hb
    have := List.pairwise_iff_getElem.1 hpw a b h1 h3 hab
    rw [h2, h4] at this
    have b1 := mayPlace_bounds (hv x (List.mem_of_getElem? ha))
    have b2 := mayPlace_bounds (hv y (List.mem_of_getElem? hb))
    simp [clash, hxy] at this
    omega
  rcases Nat.lt_or_ge i j with h | h
  · exact key hi hj hpq h
  · exact (key hj hi hpq.symm (by omega)).symm

theorem ofL_of {cs : List ByteArray} {ps : List Place} {pack : ByteArray} (hm : mayIdx cs ps = true) {l' : List Nat} (hp : l'.Perm (inPack ps pack ps.length)) (hs : l'.Pairwise fun a b => atOf ps a ≤ atOf ps b) : OfL cs ps pack (l'.map (pairAt cs ps)) := by
  have hlen := (mayIdx_len hm).1
  have hin : ∀ {i}, i ∈ l' → ∃ c p, cs[i]? = some c ∧ ps[i]? = some p ∧ p.pack = pack := fun {i} hi => by
    obtain ⟨h1, h2⟩ := inPack_mem.1 (hp.mem_iff.1 hi)
    obtain ⟨p, hp'⟩ := getElem_some (l := ps) (i := i) h1
    obtain ⟨c, hc⟩ := getElem_some (l := cs) (i := i) (by omega)
    rw [hp'] at h2
    exact ⟨c, p, hc, hp', by simpa using h2⟩
  constructor
  · rw [List.pairwise_map]
    have hnd : l'.Nodup := hp.nodup_iff.2 (inPack_nodup ps pack ps.length)
    refine List.Pairwise.imp_of_mem ?_ (hs.and hnd)
    intro a b ha hb hab
    obtain ⟨c1, p1, h1, h2, h3⟩ := hin ha
    obtain ⟨c2, p2, h4, h5, h6⟩ := hin hb
    rw [pairAt_eq h1 h2, pairAt_eq h4 h5]
    have := at_ne hm h2 h5 (h3.trans h6.symm) hab.2
    have h7 := hab.1
    rw [atOf_eq h2, atOf_eq h5] at h7
    simp only
    omega
  · intro x
    rw [List.mem_map]
    constructor
    · rintro ⟨i, hi, rfl⟩
      obtain ⟨c1, p1, h1, h2, h3⟩ := hin hi
      rw [pairAt_eq h1 h2]
      exact ⟨⟨i, h1, h2⟩, h3⟩
    · rintro ⟨⟨i, h1, h2⟩, h3⟩
      refine ⟨i, hp.mem_iff.2 (inPack_mem.2 ⟨(List.getElem?_eq_some_iff.1 h2).1, by rw [h2]; simp [h3]⟩), ?_⟩
      rw [pairAt_eq h1 h2]

/-- What Of tells. -/
def OfRes (s : St) (pack : ByteArray) (D : List ByteArray) (P : List Place) (z : Int) : Prop :=
  (mayIdx s.cs s.ps = false ∧ D = [] ∧ P = [] ∧ z = 4) ∨ (mayIdx s.cs s.ps = true ∧ ∃ L, OfL s.cs s.ps pack L ∧ D = L.map (·.1) ∧ P = L.map (·.2) ∧ ((L = [] ∧ z = 5) ∨ (L ≠ [] ∧ z = 0)))
theorem OfRes.unique {s : St} {pack : ByteArray} {D D' : List ByteArray} {P P' : List Place} {z z' : Int} (h : OfRes s pack D P z) (h' : OfRes s pack D' P' z') : D = D' ∧ P = P' ∧ z = z' := by
  rcases h with ⟨a, rfl, rfl, rfl⟩ | ⟨a, L, h1, rfl, rfl, h4⟩
  · rcases h' with ⟨_, rfl, rfl, rfl⟩ | ⟨b, _⟩
    · exact ⟨rfl, rfl, rfl⟩
    · rw [a] at b; cases b
  · rcases h' with ⟨b, _⟩ | ⟨_, L', h1', rfl, rfl, h4'⟩
    · rw [a] at b; cases b
    · obtain rfl := h1.unique h1'
      refine ⟨rfl, rfl, ?_⟩
      rcases h4 with ⟨e, rfl⟩ | ⟨e, rfl⟩ <;> rcases h4' with ⟨e', rfl⟩ | ⟨e', rfl⟩ <;> first | rfl | exact absurd e e' | exact absurd e' e

/-- What was chosen so far by the reference: what begins below. -/
structure OfTo (cs : List ByteArray) (ps : List Place) (pack : ByteArray) (from_ : Int) (L : List (ByteArray × Place)) : Prop where
  rise : L.Pairwise fun a b => a.2.at_ < b.2.at_
  mem : ∀ x : ByteArray × Place, x ∈ L ↔ ((∃ i : Nat, cs[i]? = some x.1 ∧ ps[i]? = some x.2) ∧ x.2.pack = pack) ∧ x.2.at_ < from_
theorem OfTo.nil {cs : List ByteArray} {ps : List Place} {pack : ByteArray} (hm : mayIdx cs ps = true) : OfTo cs ps pack 0 [] :=
  ⟨List.Pairwise.nil, fun x => ⟨fun h => absurd h List.not_mem_nil, fun ⟨⟨⟨i, _, h2⟩, _⟩, h3⟩ => by have := mayPlace_bounds (mayIdx_places hm _ (List.mem_of_getElem? h2)); omega⟩⟩
/-- The next one: number q, which stands in the pack, begins at from_ or behind, and none that does so begins ahead of it. -/
theorem OfTo.next {cs : List ByteArray} {ps : List Place} {pack : ByteArray} {f : Int} {L : List (ByteArray × Place)} (h : OfTo cs ps pack f L) (hm : mayIdx cs ps = true) {q : Nat} {c : ByteArray} {p : Place} (hc : cs[q]? = some c) (hp : ps[q]? = some p) (hpk : p.pack = pack) (hf : f ≤ p.at_)
    (hmin : ∀ (i : Nat) (r : Place), ps[i]? = some r → r.pack = pack → f ≤ r.at_ → p.at_ ≤ r.at_) : OfTo cs ps pack (p.at_ + 1) (L ++ [(c, p)]) := by
  constructor
  · rw [List.pairwise_append]
    refine ⟨h.rise, List.pairwise_singleton _ _, fun a ha b hb => ?_⟩
    rw [List.mem_singleton] at hb
    subst hb
    have := ((h.mem a).1 ha).2
    simp only
    omega
  · intro x
    rw [List.mem_append, List.mem_singleton, h.mem]
    constructor
    · rintro (⟨h1, h2⟩ | rfl)
      · exact ⟨h1, by omega⟩
      · exact ⟨⟨⟨q, hc, hp⟩, hpk⟩, by simp only; omega⟩
    · rintro ⟨⟨⟨i, h1, h2⟩, h3⟩, h4⟩
      by_cases hx : x.2.at_ < f
      · exact .inl ⟨⟨⟨i, h1, h2⟩, h3⟩, hx⟩
      · refine .inr ?_
        have h5 := hmin i x.2 h2 h3 (by omega)
        by_cases hiq : i = q
        · subst hiq
          rw [hc] at h1
          rw [hp] at h2
          injection h1 with h1
          injection h2 with h2
          exact Prod.ext h1.symm h2.symm
        · have := at_ne hm h2 hp (h3.trans hpk.symm) hiq
          omega
/-- None is left. -/
theorem OfTo.done {cs : List ByteArray} {ps : List Place} {pack : ByteArray} {f : Int} {L : List (ByteArray × Place)} (h : OfTo cs ps pack f L) (hno : ∀ (i : Nat) (r : Place), ps[i]? = some r → r.pack = pack → r.at_ < f) : OfL cs ps pack L :=
  ⟨h.rise, fun x => (h.mem x).trans ⟨fun h => h.1, fun h => ⟨h, by obtain ⟨⟨i, _, h2⟩, h3⟩ := h; exact hno i x.2 h2 h3⟩⟩⟩
end Go.Proofs.YtdhlmhkabckbaaaGreatDoor

/-
  Two rows without repeats that have the same have as many.
-/
namespace Go.Proofs.YtdhlmhkabckbaaaGreatDoor

theorem nodup_len {α : Type} [DecidableEq α] : ∀ {l m : List α}, l.Nodup → m.Nodup → (∀ x, x ∈ l ↔ x ∈ m) → l.length = m.length
  | [], m, _, _, h => by
    cases m with
    | nil => rfl
    | cons y m => exact absurd ((h y).2 List.mem_cons_self) List.not_mem_nil
  | x :: l, m, h1, h2, h => by
    have hx := List.nodup_cons.1 h1
    have hm : x ∈ m := (h x).1 List.mem_cons_self
    have ih := nodup_len (l := l) (m := m.erase x) hx.2 (h2.erase x) fun y => by
      rw [h2.mem_erase_iff]
      constructor
      · intro hy
        exact ⟨fun e => hx.1 (e ▸ hy), (h y).1 (List.mem_cons_of_mem _ hy)⟩
      · rintro ⟨hne, hy⟩
        exact (List.mem_cons.1 ((h y).2 hy)).resolve_left hne
    rw [List.length_cons, ih, List.length_erase_of_mem hm]
    have : 0 < m.length := List.length_pos_of_mem hm
    omega
end Go.Proofs.YtdhlmhkabckbaaaGreatDoor
