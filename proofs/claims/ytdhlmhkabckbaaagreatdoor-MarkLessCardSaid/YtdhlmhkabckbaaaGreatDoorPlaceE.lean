/-
  slices.SortedFunc(slices.Values(l), byPack): the places of l, sorted by packs and by where they begin.
-/
import Derived.Test.YtdhlmhkabckbaaaGreatDoorPlaceA
import Derived.Test.YtdhlmhkabckbaaaGreatDoorLayB
import Derived.Shelf.SlSortCmp.NoneTotal
import Derived.Lib.OwnBridge
import Derived.Deep.DrawnRows
namespace Go.Proofs.YtdhlmhkabckbaaaGreatDoor
open Go.RowKit Go.Shelf Go.Sort Go.Lib

theorem cmpS_lt {a b : ByteArray} : cmpS a b < 0 ↔ sLt a b = true := by
  unfold cmpS
  rcases sLt_tri a b with h | h | h
  · simp [h]
  · simp [h, sLt_irrefl]
  · simp [h, sLt_asymm h]
theorem cmpS_zero {a b : ByteArray} : cmpS a b = 0 ↔ a = b := by
  unfold cmpS
  rcases sLt_tri a b with h | h | h
  · simp [h, sLt_ne h]
  · simp [h, sLt_irrefl]
  · simp [h, sLt_asymm h, Ne.symm (sLt_ne h)]
/-- Ahead of: by packs, then by where it begins. -/
def ahead (p q : Place) : Bool := sLt p.pack q.pack || (decide (p.pack = q.pack) && decide (p.at_ < q.at_))
theorem ltOf_byPack (p q : Place) : ltOf byPack p q = ahead p q := by
  unfold ltOf byPack ahead
  by_cases h : p.pack = q.pack
  · rw [if_pos (cmpS_zero.2 h)]
    unfold cmpI
    by_cases h1 : p.at_ < q.at_
    · simp [h1, h]
    · by_cases h2 : q.at_ < p.at_ <;> simp [h1, h2, h, sLt_irrefl]
  · rw [if_neg (fun e => h (cmpS_zero.1 e))]
    rw [Bool.eq_iff_iff]
    simp [cmpS_lt, h]
theorem swo_byPack : SWO (ltOf byPack) where
  irrefl x := by rw [ltOf_byPack]; simp [ahead, sLt_irrefl]
  trans x y z h1 h2 := by
    rw [ltOf_byPack] at *
    simp [ahead] at *
    rcases h1 with h1 | ⟨e1, h1⟩ <;> rcases h2 with h2 | ⟨e2, h2⟩
    · exact .inl (sLt_trans h1 h2)
    · exact .inl (e2 ▸ h1)
    · exact .inl (e1 ▸ h2)
    · exact .inr ⟨e1.trans e2, by omega⟩
  ntrans x y z h1 h2 := by
    rw [ltOf_byPack] at *
    simp [ahead] at *
    rcases sLt_tri x.pack y.pack with a | a | a
    · rw [a] at h1; simp at h1
    · rcases sLt_tri y.pack z.pack with b | b | b
      · rw [b] at h2; simp at h2
      · refine ⟨by rw [a, b]; exact sLt_irrefl _, fun _ => ?_⟩
        have := h1.2 a
        have := h2.2 b
        omega
      · refine ⟨by rw [a]; exact sLt_asymm b, fun e => ?_⟩
        rw [← a, e, sLt_irrefl] at b
        cases b
    · rcases sLt_tri y.pack z.pack with b | b | b
      · rw [b] at h2; simp at h2
      · refine ⟨by rw [← b]; exact sLt_asymm a, fun e => ?_⟩
        rw [e, ← b, sLt_irrefl] at a
        cases a
      · have hxz : sLt z.pack x.pack = true := sLt_trans b a
        refine ⟨sLt_asymm hxz, fun e => ?_⟩
        rw [e, sLt_irrefl] at hxz
        cases hxz

theorem holdsK_own {w : World} {base g n c : Nat} {l : List Place} (h : placeE.Own w base (.slice (some ⟨g, 0, none⟩) n c) l) : n = l.length ∧ HoldsK Place.cells 3 w g 0 l.toArray := by
  rcases h.2 with ⟨e, _⟩ | ⟨g', cap, cur, e, hg, hh, hnc, _, hcs, htk⟩
  · simp at e
  · simp only [Value.slice.injEq, Option.some.injEq, Addr.mk.injEq, and_true] at e
    obtain ⟨rfl, rfl, rfl⟩ := e
    refine ⟨rfl, fun j hj => ?_⟩
    rw [size_flatK] at hj
    simp at hj
    have hx := List.getElem?_eq_getElem (l := l) (i := j / 3) (by omega)
    have hv := List.getElem?_eq_getElem (l := Place.cells l[j / 3]) (i := j % 3) (by rw [Place.cells_len]; omega)
    have hc := World.ownsRow.cells (g := g) h rfl (j / 3 * 3 + j % 3) _ (flat_at Place.cells_len l _ _ hx _ _ hv)
    rw [Addr.add_lit, show 0 + (j / 3 * 3 + j % 3) = 0 + j by omega] at hc
    refine ⟨?_, by simp [World.frozen?, hh]⟩
    rw [hc, get_flatK _ _ _ _ (by simpa using hj)]
    simp [getElem!_pos, show j / 3 < l.length by omega]
    rw [hv]
    rfl

theorem below_grow {B : Nat} {a w : World} (h : RowKit.Below B a w) (hB : B ≤ w.heap.size) (os : Array Obj) : RowKit.Below B a (grow w os) :=
  ⟨h.os, h.tape, h.output, by have := h.size; simp [grow]; omega, fun k hk => by
    rw [← h.block k hk]
    simp only [grow]
    exact Array.getElem?_append_left (by omega)⟩
theorem places_of_holdsK {w : World} {g : Nat} {d : Array Place} (h : HoldsK Place.cells 3 w g 0 d) (hg : g < w.heap.size) (hd : d.size ≤ 1000000000) : PlacesAt w w.heap.size (some ⟨g, 0, none⟩) d.size d.toList := by
  refine ⟨by simp, by omega, fun _ => ⟨g, 0, rfl, hg, fun i x hx j v hv => ?_⟩⟩
  have hi : i < d.size := by have := (List.getElem?_eq_some_iff.1 hx).1; simpa using this
  have hj : j < 3 := by have := (List.getElem?_eq_some_iff.1 hv).1; rwa [Place.cells_len] at this
  have := (h (i * 3 + j) (by rw [size_flatK]; omega)).1
  rw [get_flatK _ _ _ _ (by omega), show (i * 3 + j) / 3 = i by omega, show (i * 3 + j) % 3 = j by omega] at this
  rw [Nat.add_assoc, this]
  have hx' : d[i]! = x := by
    rw [getElem!_pos d i hi]
    obtain ⟨_, hx⟩ := List.getElem?_eq_some_iff.1 hx
    simpa using hx
  rw [hx']
  simp only [Option.some.injEq]
  rw [List.getElem!_eq_getElem?_getD, hv]
  rfl

set_option maxHeartbeats 1000000 in
theorem sort_places (base g n c : Nat) (l : List Place) (w : World) (h : placeE.Own w base (.slice (some ⟨g, 0, none⟩) n c) l) (hn : l.length ≤ 1000000000) :
    Calls Tryz.prog 214 #[.slice (some ⟨g, 0, none⟩) n c, .func (.func 192) #[] #[]] w fun e w' => e = .returned (.tuple #[]) ∧ ∃ l', l'.Perm l ∧ l'.Pairwise (fun a b => ahead b a = false) ∧ PlacesAt w' w'.heap.size (some ⟨g, 0, none⟩) n l' ∧ RowKit.Below g w w' := by
  obtain ⟨rfl, hH⟩ := holdsK_own h
  have hgl : g < w.heap.size := (World.ownsRow.lt h g rfl).2
  have eg : ∀ args w, (callFunc 192 args).run Tryz.prog w = .ok (.enter 192 args) w := enters_of Tryz.func192 (by kernel_rfl) rfl
  have hcmp : CmpLays Tryz.prog 192 #[] Place.cells 3 byPack g 0 l.toArray.size w := fun m os dk _ x y => byPack_any x y _
  have hcon := AnyQ.slices_SortFunc Tryz.sortP 3 Tryz.isAgg98 Tryz.sizeOf98 Place.cells Place.cells_len placeE.one byPack swo_byPack 192 #[] g 0 c l.toArray w eg hcmp hH hgl (by simp; omega)
  refine Calls.mono (show Calls Tryz.prog 214 _ w _ from hcon) ?_
  rintro e w' ⟨he, d', q, os, hp, hs, rfl⟩
  have hsz : d'.size = l.toArray.size := hp.1
  have hH' := holdsK_sortWorldK_c Place.cells 3 w g 0 l.toArray d' q os hH hgl hsz
  have hb : RowKit.Below g w (sortWorldK Place.cells 3 w g 0 q d' os) := by
    unfold sortWorldK
    refine below_grow (below_putRow (Below.refl g w) (Nat.le_refl _)) ?_ os
    show g ≤ (putRowK Place.cells 3 (Sort.ahead w q) g 0 d').heap.size
    rw [size_putRowK]
    exact Nat.le_of_lt hgl
  refine ⟨he, d'.toList, ?_, ?_, ?_, hb⟩
  · have := hp.2.2
    simpa [hsz, Array.extract_eq_self_of_le] using this
  · rw [List.pairwise_iff_getElem]
    intro i j hi hj hij
    have := hs i j (Nat.zero_le _) hij (by rw [← hsz]; simpa using hj)
    rw [ltOf_byPack, getElem!_pos d' j (by simpa using hj), getElem!_pos d' i (by simpa using hi)] at this
    simpa using this
  · have := places_of_holdsK hH' (by have := size_sortWorldK_c Place.cells 3 w g 0 q d' os; omega) (by rw [hsz]; simpa using hn)
    rw [hsz] at this
    simpa using this

theorem collect_places (F : Fence) (n : Nat) (h8 : F.fn 213) (h11 : F.fn 223) (hro : F.round = none) (hn : 3 ≤ n) (g : Nat) (lb : Array Value) (hFg : F.fn g) (eg : ∀ args w, (callFunc g args).run Tryz.prog w = .ok (.enter g args) w)
    (pl : List Place) (hN : pl.length ≤ 1000000000) (w : World) (hseq : SeqGivesK F (n - 1 - 1) Tryz.prog g lb Place.agg (fun xs => xs = pl) pl.length w) :
    CallsIn F n Tryz.prog 213 #[.func (.func g) #[] lb] w fun e w' => ∃ v, e = .returned v ∧ placeE.Own w' w.heap.size v pl ∧ RowKit.Below w.heap.size w w' := by
  have h1 : 1 ≤ n := by omega
  refine callsIn_of_wp Tryz.func213 rfl h8 ?_ hro
  simp only [Tryz.ntmps213, List.size_toArray, List.length_cons, List.length_nil, Nat.reduceAdd, Nat.reduceSub, Array.replicate_succ, Array.replicate_zero, List.push_toArray, List.append_toArray, List.nil_append, List.cons_append]
  gi_wp2_with (gi_at_call 223; refine (appendSeq_place F (n - 1) h11 hro (by omega) g lb hFg eg pl hN _ hseq).mono ?_; rintro e w' ⟨v, rfl, hrow, hb⟩)
  go_ret
  exact ⟨v, rfl, hrow, hb⟩

theorem values_place (A : Option Addr) (m c : Nat) (w : World) :
    Calls Tryz.prog 191 #[.slice A m c] w fun e w' => e = .returned (.func (.func 215) #[] #[.pointer (some ⟨w.heap.size, 0, none⟩)]) ∧ w' = w.alloc (.cells #[.slice A m c] 55) := by
  go_enter Tryz.func191, Tryz.ntmps191
  go_wp2
  go_ret
  exact ⟨rfl, rfl⟩

set_option maxHeartbeats 1000000 in
theorem sortedFunc_places (A : Option Addr) (m c Bs : Nat) (pl : List Place) (w : World) (h : PlacesAt w w.heap.size A m pl) (hB0 : Bs < w.heap.size) (hBs : w.cell? ⟨Bs, 0, none⟩ = some (.slice A m c)) (hm : m ≤ 1000000000) :
    Calls Tryz.prog 190 #[.func (.func 215) #[] #[.pointer (some ⟨Bs, 0, none⟩)], .func (.func 192) #[] #[]] w fun e w' =>
      ∃ A' c' l', e = .returned (.slice A' m c') ∧ l'.Perm pl ∧ l'.Pairwise (fun a b => ahead b a = false) ∧ PlacesAt w' w'.heap.size A' m l' ∧ RowKit.Below w.heap.size w w' := by
  have hlen : pl.length = m := h.1
  have hseq : SeqGivesK Fence.wide 2 Tryz.prog 215 #[.pointer (some ⟨Bs, 0, none⟩)] Place.agg (fun xs => xs = pl) pl.length w := by
    rw [hlen]
    exact values_gives Fence.wide 2 trivial rfl (by omega) Bs m c A pl w hB0 hBs h
  have hcol := callsIn_wide.1 (collect_places Fence.wide 4 trivial trivial rfl (by omega) _ _ trivial (enters_of Tryz.func215 (by kernel_rfl) rfl) pl (by omega) w hseq)
  replace hlen := Lib.hid hlen
  clear hseq
  go_enter Tryz.func190, Tryz.ntmps190
  go_wp2_with fail
  refine hcol.mono ?_
  rintro e w1 ⟨v, rfl, hown, hb1⟩
  have hz1 := hb1.size
  rcases hown.2 with ⟨rfl, h0⟩ | ⟨g, cap, cur, rfl, hg, _⟩
  · have hpl : pl = [] := List.eq_nil_of_length_eq_zero h0
    subst hpl
    obtain rfl : m = 0 := by have := hlen.out; simpa using this.symm
    have hnone := fun W => (show Calls Tryz.prog 214 #[.slice none 0 0, .func (.func 192) #[] #[]] W _ from AnyF.slices_SortFunc_none Tryz.sortP none 0 (.func (.func 192) #[] #[]) W)
    clear hown
    go_wp2_with fail
    refine (hnone w1).mono ?_
    rintro e w2 ⟨rfl, rfl⟩
    clear hnone
    go_wp2_with fail
    go_ret
    exact ⟨none, 0, [], rfl, List.Perm.refl _, List.Pairwise.nil, RowAt.none_, hb1⟩
  · have hs := sort_places w.heap.size g pl.length cap pl w1 hown (by have := hlen.out; omega)
    rw [hlen.out] at hs
    clear hown
    go_wp2_with fail
    rw [hlen.out]
    refine hs.mono ?_
    rintro e w2 ⟨rfl, l', hp, hso, hr, hb2⟩
    clear hs
    go_wp2_with fail
    go_ret
    exact ⟨_, _, l', rfl, hp, hso, hr, hb1.trans (hb2.mono hg)⟩
end Go.Proofs.YtdhlmhkabckbaaaGreatDoor
/-
  Which places are apart: the plain law, the contracts of index.apart and of the reference's common.
-/
namespace Go.Proofs.YtdhlmhkabckbaaaGreatDoor
open Go.RowKit
attribute [local go_sem ↓] Go.wp_at_zero Go.wp_at_succ

/-- Two places have a byte in common. -/
def clash (p q : Place) : Bool := decide (p.pack = q.pack) && decide (p.at_ < q.at_ + q.len) && decide (q.at_ < p.at_ + p.len)
theorem clash_symm (p q : Place) : clash p q = clash q p := by
  unfold clash
  rw [Bool.eq_iff_iff]
  simp
  constructor
  · rintro ⟨⟨a, b⟩, c⟩; exact ⟨⟨a.symm, c⟩, b⟩
  · rintro ⟨⟨a, b⟩, c⟩; exact ⟨⟨a.symm, c⟩, b⟩
def apartB : List Place → Bool
  | [] => true
  | p :: l => l.all (fun q => !clash p q) && apartB l
theorem apartB_iff : ∀ l : List Place, apartB l = true ↔ l.Pairwise fun a b => clash a b = false
  | [] => by simp [apartB]
  | p :: l => by
    rw [apartB, List.pairwise_cons, Bool.and_eq_true, apartB_iff l]
    simp
theorem apart_perm {l l' : List Place} (h : l'.Perm l) : apartB l' = apartB l := by
  rw [Bool.eq_iff_iff, apartB_iff, apartB_iff]
  exact h.pairwise_iff (fun {a b} h => by rw [clash_symm]; exact h)
theorem apart_false {l : List Place} {i j : Nat} {p q : Place} (hp : l[i]? = some p) (hq : l[j]? = some q) (hij : i < j) (hc : clash p q = true) : apartB l = false := by
  cases h : apartB l
  · rfl
  · rw [apartB_iff] at h
    obtain ⟨hi, rfl⟩ := List.getElem?_eq_some_iff.1 hp
    obtain ⟨hj, rfl⟩ := List.getElem?_eq_some_iff.1 hq
    have := (List.pairwise_iff_getElem.1 h) i j hi hj hij
    rw [hc] at this
    cases this

/-- Of two neighbours of one pack the later one begins where the earlier one ends, or behind it. -/
def Steps (l : List Place) (k : Nat) : Prop := ∀ i p q, i + 1 < k → l[i]? = some p → l[i + 1]? = some q → p.pack = q.pack → p.at_ + p.len ≤ q.at_
theorem steps_apart {l : List Place} (hs : l.Pairwise fun a b => ahead b a = false) (_ : ∀ p ∈ l, mayPlace p = true) (h : Steps l l.length) : apartB l = true := by
  rw [apartB_iff, List.pairwise_iff_getElem]
  intro i j hi hj hij
  have hsorted := List.pairwise_iff_getElem.1 hs
  have hnot : ∀ a b (ha : a < l.length) (hb : b < l.length), a < b → l[b].pack = l[a].pack → l[a].at_ ≤ l[b].at_ := by
    intro a b ha hb hab e
    have := hsorted a b ha hb hab
    simp [ahead, e, sLt_irrefl] at this
    omega
  by_cases hp : l[i].pack = l[j].pack
  · -- the one behind i is of the same pack
    have hmid : l[i + 1].pack = l[i].pack := by
      rcases Nat.lt_or_ge (i + 1) j with h1 | h1
      · have a1 := hsorted i (i + 1) hi (by omega) (by omega)
        have a2 := hsorted (i + 1) j (by omega) hj h1
        simp [ahead] at a1 a2
        rcases sLt_tri l[i + 1].pack l[i].pack with c | c | c
        · rw [c] at a1; simp at a1
        · exact c
        · rw [hp] at c
          rw [c] at a2; simp at a2
      · have : i + 1 = j := by omega
        subst this
        exact hp.symm
    have hst := h i l[i] l[i + 1] (by omega) (List.getElem?_eq_getElem hi) (List.getElem?_eq_getElem (by omega)) hmid.symm
    have hle : l[i + 1].at_ ≤ l[j].at_ := by
      rcases Nat.lt_or_ge (i + 1) j with h1 | h1
      · exact hnot (i + 1) j (by omega) hj h1 (by rw [hmid, hp])
      · have : i + 1 = j := by omega
        subst this
        exact Int.le_refl _
    simp [clash]
    intro _ _
    omega
  · simp [clash, hp]
theorem not_apart {l : List Place} (hs : l.Pairwise fun a b => ahead b a = false) (hv : ∀ p ∈ l, mayPlace p = true) {k : Nat} {p q : Place} (hp : l[k]? = some p) (hq : l[k + 1]? = some q) (he : p.pack = q.pack) (hlt : q.at_ < p.at_ + p.len) : apartB l = false := by
  refine apart_false hp hq (by omega) ?_
  obtain ⟨h1, e1⟩ := List.getElem?_eq_some_iff.1 hp
  obtain ⟨h2, e2⟩ := List.getElem?_eq_some_iff.1 hq
  have := (List.pairwise_iff_getElem.1 hs) k (k + 1) h1 h2 (by omega)
  rw [e1, e2] at this
  simp [ahead, he, sLt_irrefl] at this
  have hm := hv q (List.mem_of_getElem? hq)
  simp [mayPlace] at hm
  simp [clash, he]
  omega

theorem mayPlace_bounds {p : Place} (h : mayPlace p = true) : 0 ≤ p.at_ ∧ p.at_ ≤ 32768 ∧ 1 ≤ p.len ∧ p.len ≤ 16384 ∧ p.at_ + p.len ≤ 32768 := by
  simp [mayPlace] at h
  omega

set_option maxHeartbeats 2000000 in
theorem index_apart (A : Option Addr) (m c : Nat) (pl : List Place) (w : World) (h : PlacesAt w w.heap.size A m pl) (hm : m ≤ 1000000000) (hv : ∀ p ∈ pl, mayPlace p = true) :
    Calls Tryz.prog 145 #[.slice A m c] w fun e w' => e = .returned (.bool (apartB pl)) ∧ Below w.heap.size w w' := by
  have hl := Lib.hid h.1
  replace hv := Lib.hid hv
  go_enter Tryz.func145, Tryz.ntmps145
  go_wp2_with fail
  refine (values_place A m c w).mono ?_
  rintro e w1 ⟨rfl, rfl⟩
  go_wp2_with fail
  refine (sortedFunc_places A m c w.heap.size pl _ (h.to (w' := w.alloc (.cells #[.slice A m c] 55)) (by repeat (first | exact Below.refl _ _ | assumption | refine Below.drew ?_ | refine below_drewN ?_ _ | refine Below.alloc ?_ (by first | omega | (simp; try omega)) _ | refine Below.setCell ?_ (by first | omega | (simp; try omega)) _ | (refine Below.trans ?_ (Below.mono (by assumption) (by first | omega | (simp; try omega))))))) (by simp) (by go_simp) hm).mono ?_
  rintro e w2 ⟨A', c', l', rfl, hp, hso, hr, hb2⟩
  have hz2 := hb2.size
  simp at hz2
  have hw2 : Below w.heap.size w w2 := (by repeat (first | exact Below.refl _ _ | assumption | refine Below.drew ?_ | refine below_drewN ?_ _ | refine Below.alloc ?_ (by first | omega | (simp; try omega)) _ | refine Below.setCell ?_ (by first | omega | (simp; try omega)) _ | (refine Below.trans ?_ (Below.mono (by assumption) (by first | omega | (simp; try omega))))))
  have hl' : l'.length = m := hr.1
  have hv' : ∀ p ∈ l', mayPlace p = true := fun p hq => hv.out p (hp.mem_iff.1 hq)
  have hperm := Lib.hid (apart_perm hp)
  replace hv' := Lib.hid hv'
  replace hso := Lib.hid hso
  replace hl' := Lib.hid hl'
  go_wp2_with fail
  go_loopw [3] (fun i wr => ∃ k : Nat, 1 ≤ k ∧ (k ≤ m ∨ k = 1) ∧ i = .int .i64 k ∧ Hid (Steps l' k) ∧ Below w2.heap.size w2 wr) (fun i _ => m - (intOf i).toNat)
  case atStart => exact ⟨1, Nat.le_refl _, .inr rfl, rfl, fun i p q hi => absurd hi (by omega), Below.refl _ _⟩
  case round =>
    obtain ⟨k, hk1, hkm, rfl, hst, hbr⟩ := hrel
    have hzr := hbr.size
    by_cases hlt : k < m
    · obtain ⟨b, off, q, rfl, hb, hq, q0, q1, q2⟩ := (hr.to hbr).place hlt
      obtain ⟨p, hp'⟩ := getElem_some (l := l') (i := k - 1) (by have := hl'.out; omega)
      obtain ⟨p0, p1, p2⟩ := (hr.to hbr).placeAt hp'
      obtain ⟨bp1, bp2, bp3, bp4, bp5⟩ := mayPlace_bounds (hv'.out p (List.mem_of_getElem? hp'))
      obtain ⟨bq1, bq2, bq3, bq4, bq5⟩ := mayPlace_bounds (hv'.out q (List.mem_of_getElem? hq))
      have hi0 : (0 : Int) ≤ (k : Int) - 1 := by omega
      have hi1 : (k : Int) - 1 < (m : Int) := by omega
      have hi2 : (k : Int) < (m : Int) := by omega
      have hi3 : (0 : Int) ≤ (k : Int) := by omega
      replace hq := Lib.hid hq
      replace hp' := Lib.hid hp'
      have hq' : Hid (l'[k - 1 + 1]? = some q) := by unfold Hid; rw [Nat.sub_add_cancel hk1]; exact hq.out
      by_cases he : p.pack = q.pack
      · have hs := str_eq he
        by_cases hgt : q.at_ < p.at_ + p.len
        · have hres : Hid (apartB pl = false) := by
            unfold Hid
            rw [← hperm.out]
            exact not_apart hso.out hv'.out hp'.out hq'.out he hgt
          have hg : decide (q.at_ < p.at_ + p.len) = true := by simpa using hgt
          replace he := Lib.hid he
          go_wp2_with fail
          go_quiet (fail)
          go_wp2_with fail
          go_ret
          exact ⟨ret_bool hres.out.symm, (by repeat (first | exact Below.refl _ _ | assumption | refine Below.drew ?_ | refine below_drewN ?_ _ | refine Below.alloc ?_ (by first | omega | (simp; try omega)) _ | refine Below.setCell ?_ (by first | omega | (simp; try omega)) _ | (refine Below.trans ?_ (Below.mono (by assumption) (by first | omega | (simp; try omega))))))⟩
        · have hg : decide (q.at_ < p.at_ + p.len) = false := by simpa using hgt
          replace he := Lib.hid he
          go_wp2_with fail
          go_quiet (fail)
          go_wp2_with fail
          go_roundw
          case rel => exact ⟨k + 1, by omega, by omega, by go_num, (fun i a b' hi ha hb' e => by
                      rcases Nat.lt_or_ge (i + 1) k with h1 | h1
                      · exact hst.out i a b' h1 ha hb' e
                      · have : i = k - 1 := by omega
                        subst this
                        have h3 := hp'.out
                        have h4 := hq'.out
                        rw [ha] at h3
                        rw [hb'] at h4
                        injection h3 with h3
                        injection h4 with h4
                        subst h3 h4
                        omega), (by repeat (first | exact Below.refl _ _ | assumption | refine Below.drew ?_ | refine below_drewN ?_ _ | refine Below.alloc ?_ (by first | omega | (simp; try omega)) _ | refine Below.setCell ?_ (by first | omega | (simp; try omega)) _ | (refine Below.trans ?_ (Below.mono (by assumption) (by first | omega | (simp; try omega))))))⟩
          case measure => simp [intOf]; omega
      · have hs := str_ne he
        replace he := Lib.hid he
        go_wp2_with fail
        go_quiet (fail)
        go_wp2_with fail
        go_roundw
        case rel => exact ⟨k + 1, by omega, by omega, by go_num, (fun i a b' hi ha hb' e => by
                  rcases Nat.lt_or_ge (i + 1) k with h1 | h1
                  · exact hst.out i a b' h1 ha hb' e
                  · have : i = k - 1 := by omega
                    subst this
                    have h3 := hp'.out
                    have h4 := hq'.out
                    rw [ha] at h3
                    rw [hb'] at h4
                    injection h3 with h3
                    injection h4 with h4
                    subst h3 h4
                    exact absurd e he.out), (by repeat (first | exact Below.refl _ _ | assumption | refine Below.drew ?_ | refine below_drewN ?_ _ | refine Below.alloc ?_ (by first | omega | (simp; try omega)) _ | refine Below.setCell ?_ (by first | omega | (simp; try omega)) _ | (refine Below.trans ?_ (Below.mono (by assumption) (by first | omega | (simp; try omega))))))⟩
        case measure => simp [intOf]; omega
    · have hres : Hid (apartB pl = true) := by
        unfold Hid
        rw [← hperm.out]
        refine steps_apart hso.out hv'.out (fun i a b' hi ha hb' e => ?_)
        rw [hl'.out] at hi
        rcases hkm with hkm | hkm
        · exact hst.out i a b' (by omega) ha hb' e
        · omega
      go_wp2_with fail
      go_ret
      exact ⟨ret_bool hres.out.symm, (by repeat (first | exact Below.refl _ _ | assumption | refine Below.drew ?_ | refine below_drewN ?_ _ | refine Below.alloc ?_ (by first | omega | (simp; try omega)) _ | refine Below.setCell ?_ (by first | omega | (simp; try omega)) _ | (refine Below.trans ?_ (Below.mono (by assumption) (by first | omega | (simp; try omega))))))⟩
end Go.Proofs.YtdhlmhkabckbaaaGreatDoor
