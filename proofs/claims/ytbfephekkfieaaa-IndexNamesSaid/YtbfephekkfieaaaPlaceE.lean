/-
  slices.SortedFunc(slices.Values(l), byPack): the places of l, sorted by packs and by where they begin.
-/
import Derived.Test.YtbfephekkfieaaaPlaceD
import Derived.Test.YtbfephekkfieaaaLayB
import Derived.Shelf.SlSortCmp.NoneTotal
import Derived.Lib.OwnBridge
namespace Go.Proofs.Ytbfephekkfieaaa
open Go.RowKit Go.Shelf Go.Sort Go.Lib

theorem cmpS_lt {a b : ByteArray} : cmpS a b < 0 ↔ sLt a b = true := by
  unfold cmpS
  rcases sLt_tri a b with h | h | h
  · simp [h]
  · simp [h, sLt_irrefl]
  · simp [h, sLt_asymm h]
theorem cmpS_zero {a b : ByteArray} : cmpS a b = 0 ↔ a = b := by
  unfold cmpS
  rcases sLt_tri a b with h | h | h
  · simp [h, sLt_ne h]
  · simp [h, sLt_irrefl]
  · simp [h, sLt_asymm h, Ne.symm (sLt_ne h)]
/-- Ahead of: by packs, then by where it begins. -/
def ahead (p q : Place) : Bool := sLt p.pack q.pack || (decide (p.pack = q.pack) && decide (p.at_ < q.at_))
theorem ltOf_byPack (p q : Place) : ltOf byPack p q = ahead p q := by
  unfold ltOf byPack ahead
  by_cases h : p.pack = q.pack
  · rw [if_pos (cmpS_zero.2 h)]
    unfold cmpI
    by_cases h1 : p.at_ < q.at_
    · simp [h1, h]
    · by_cases h2 : q.at_ < p.at_ <;> simp [h1, h2, h, sLt_irrefl]
  · rw [if_neg (fun e => h (cmpS_zero.1 e))]
    rw [Bool.eq_iff_iff]
    simp [cmpS_lt, h]
theorem swo_byPack : SWO (ltOf byPack) where
  irrefl x := by rw [ltOf_byPack]; simp [ahead, sLt_irrefl]
  trans x y z h1 h2 := by
    rw [ltOf_byPack] at *
    simp [ahead] at *
    rcases h1 with h1 | ⟨e1, h1⟩ <;> rcases h2 with h2 | ⟨e2, h2⟩
    · exact .inl (sLt_trans h1 h2)
    · exact .inl (e2 ▸ h1)
    · exact .inl (e1 ▸ h2)
    · exact .inr ⟨e1.trans e2, by omega⟩
  ntrans x y z h1 h2 := by
    rw [ltOf_byPack] at *
    simp [ahead] at *
    rcases sLt_tri x.pack y.pack with a | a | a
    · rw [a] at h1; simp at h1
    · rcases sLt_tri y.pack z.pack with b | b | b
      · rw [b] at h2; simp at h2
      · refine ⟨by rw [a, b]; exact sLt_irrefl _, fun _ => ?_⟩
        have := h1.2 a
        have := h2.2 b
        omega
      · refine ⟨by rw [a]; exact sLt_asymm b, fun e => ?_⟩
        rw [← a, e, sLt_irrefl] at b
        cases b
    · rcases sLt_tri y.pack z.pack with b | b | b
      · rw [b] at h2; simp at h2
      · refine ⟨by rw [← b]; exact sLt_asymm a, fun e => ?_⟩
        rw [e, ← b, sLt_irrefl] at a
        cases a
      · have hxz : sLt z.pack x.pack = true := sLt_trans b a
        refine ⟨sLt_asymm hxz, fun e => ?_⟩
        rw [e, sLt_irrefl] at hxz
        cases hxz

theorem holdsK_own {w : World} {base g n c : Nat} {l : List Place} (h : placeE.Own w base (.slice (some ⟨g, 0, none⟩) n c) l) : n = l.length ∧ HoldsK Place.cells 3 w g 0 l.toArray := by
  rcases h.2 with ⟨e, _⟩ | ⟨g', cap, cur, e, hg, hh, hnc, _, hcs, htk⟩
  · simp at e
  · simp only [Value.slice.injEq, Option.some.injEq, Addr.mk.injEq, and_true] at e
    obtain ⟨rfl, rfl, rfl⟩ := e
    refine ⟨rfl, fun j hj => ?_⟩
    rw [size_flatK] at hj
    simp at hj
    have hx := List.getElem?_eq_getElem (l := l) (i := j / 3) (by omega)
    have hv := List.getElem?_eq_getElem (l := Place.cells l[j / 3]) (i := j % 3) (by rw [Place.cells_len]; omega)
    have hc := World.ownsRow.cells (g := g) h rfl (j / 3 * 3 + j % 3) _ (flat_at Place.cells_len l _ _ hx _ _ hv)
    rw [Addr.add_lit, show 0 + (j / 3 * 3 + j % 3) = 0 + j by omega] at hc
    refine ⟨?_, by simp [World.frozen?, hh]⟩
    rw [hc, get_flatK _ _ _ _ (by simpa using hj)]
    simp [getElem!_pos, show j / 3 < l.length by omega]
    rw [hv]
    rfl

theorem below_grow {B : Nat} {a w : World} (h : RowKit.Below B a w) (hB : B ≤ w.heap.size) (os : Array Obj) : RowKit.Below B a (grow w os) :=
  ⟨h.os, h.tape, h.output, by have := h.size; simp [grow]; omega, fun k hk => by
    rw [← h.block k hk]
    simp only [grow]
    exact Array.getElem?_append_left (by omega)⟩
theorem places_of_holdsK {w : World} {g : Nat} {d : Array Place} (h : HoldsK Place.cells 3 w g 0 d) (hg : g < w.heap.size) (hd : d.size ≤ 1000000000) : PlacesAt w w.heap.size (some ⟨g, 0, none⟩) d.size d.toList := by
  refine ⟨by simp, by omega, fun _ => ⟨g, 0, rfl, hg, fun i x hx j v hv => ?_⟩⟩
  have hi : i < d.size := by have := (List.getElem?_eq_some_iff.1 hx).1; simpa using this
  have hj : j < 3 := by have := (List.getElem?_eq_some_iff.1 hv).1; rwa [Place.cells_len] at this
  have := (h (i * 3 + j) (by rw [size_flatK]; omega)).1
  rw [get_flatK _ _ _ _ (by omega), show (i * 3 + j) / 3 = i by omega, show (i * 3 + j) % 3 = j by omega] at this
  rw [Nat.add_assoc, this]
  have hx' : d[i]! = x := by
    rw [getElem!_pos d i hi]
    obtain ⟨_, hx⟩ := List.getElem?_eq_some_iff.1 hx
    simpa using hx
  rw [hx']
  simp only [Option.some.injEq]
  rw [List.getElem!_eq_getElem?_getD, hv]
  rfl

set_option maxHeartbeats 1000000 in
theorem sort_places (base g n c : Nat) (l : List Place) (w : World) (h : placeE.Own w base (.slice (some ⟨g, 0, none⟩) n c) l) (hn : l.length ≤ 1000000000) :
    Calls Try.prog 72 #[.slice (some ⟨g, 0, none⟩) n c, .func (.func 60) #[] #[]] w fun e w' => e = .returned (.tuple #[]) ∧ ∃ l', l'.Perm l ∧ l'.Pairwise (fun a b => ahead b a = false) ∧ PlacesAt w' w'.heap.size (some ⟨g, 0, none⟩) n l' ∧ RowKit.Below g w w' := by
  obtain ⟨rfl, hH⟩ := holdsK_own h
  have hgl : g < w.heap.size := (World.ownsRow.lt h g rfl).2
  have eg : ∀ args w, (callFunc 60 args).run Try.prog w = .ok (.enter 60 args) w := enters_of Try.func60 (by kernel_rfl) rfl
  have hcmp : CmpLays Try.prog 60 #[] Place.cells 3 byPack g 0 l.toArray.size w := fun m os dk _ x y => byPack_any x y _
  have hcon := AnyQ.slices_SortFunc Try.sortP 3 Try.isAgg35 Try.sizeOf35 Place.cells Place.cells_len placeE.one byPack swo_byPack 60 #[] g 0 c l.toArray w eg hcmp hH hgl (by simp; omega)
  refine Calls.mono (show Calls Try.prog 72 _ w _ from hcon) ?_
  rintro e w' ⟨he, d', q, os, hp, hs, rfl⟩
  have hsz : d'.size = l.toArray.size := hp.1
  have hH' := holdsK_sortWorldK_c Place.cells 3 w g 0 l.toArray d' q os hH hgl hsz
  have hb : RowKit.Below g w (sortWorldK Place.cells 3 w g 0 q d' os) := by
    unfold sortWorldK
    refine below_grow (below_putRow (Below.refl g w) (Nat.le_refl _)) ?_ os
    show g ≤ (putRowK Place.cells 3 (Sort.ahead w q) g 0 d').heap.size
    rw [size_putRowK]
    exact Nat.le_of_lt hgl
  refine ⟨he, d'.toList, ?_, ?_, ?_, hb⟩
  · have := hp.2.2
    simpa [hsz, Array.extract_eq_self_of_le] using this
  · rw [List.pairwise_iff_getElem]
    intro i j hi hj hij
    have := hs i j (Nat.zero_le _) hij (by rw [← hsz]; simpa using hj)
    rw [ltOf_byPack, getElem!_pos d' j (by simpa using hj), getElem!_pos d' i (by simpa using hi)] at this
    simpa using this
  · have := places_of_holdsK hH' (by have := size_sortWorldK_c Place.cells 3 w g 0 q d' os; omega) (by rw [hsz]; simpa using hn)
    rw [hsz] at this
    simpa using this

theorem collect_places (F : Fence) (n : Nat) (h8 : F.fn 71) (h11 : F.fn 90) (hro : F.round = none) (hn : 3 ≤ n) (g : Nat) (lb : Array Value) (hFg : F.fn g) (eg : ∀ args w, (callFunc g args).run Try.prog w = .ok (.enter g args) w)
    (pl : List Place) (hN : pl.length ≤ 1000000000) (w : World) (hseq : SeqGivesK F (n - 1 - 1) Try.prog g lb Place.agg (fun xs => xs = pl) pl.length w) :
    CallsIn F n Try.prog 71 #[.func (.func g) #[] lb] w fun e w' => ∃ v, e = .returned v ∧ placeE.Own w' w.heap.size v pl ∧ RowKit.Below w.heap.size w w' := by
  have h1 : 1 ≤ n := by omega
  refine callsIn_of_wp Try.func71 rfl h8 ?_ hro
  simp only [Try.ntmps71, List.size_toArray, List.length_cons, List.length_nil, Nat.reduceAdd, Nat.reduceSub, Array.replicate_succ, Array.replicate_zero, List.push_toArray, List.append_toArray, List.nil_append, List.cons_append]
  gi_wp2_with (gi_at_call 90; refine (appendSeq_place F (n - 1) h11 hro (by omega) g lb hFg eg pl hN _ hseq).mono ?_; rintro e w' ⟨v, rfl, hrow, hb⟩)
  go_ret
  exact ⟨v, rfl, hrow, hb⟩

theorem values_place (A : Option Addr) (m c : Nat) (w : World) :
    Calls Try.prog 59 #[.slice A m c] w fun e w' => e = .returned (.func (.func 73) #[] #[.pointer (some ⟨w.heap.size, 0, none⟩)]) ∧ w' = w.alloc (.cells #[.slice A m c] 27) := by
  go_enter Try.func59, Try.ntmps59
  go_wp2
  go_ret
  exact ⟨rfl, rfl⟩

set_option maxHeartbeats 1000000 in
theorem sortedFunc_places (A : Option Addr) (m c Bs : Nat) (pl : List Place) (w : World) (h : PlacesAt w w.heap.size A m pl) (hB0 : Bs < w.heap.size) (hBs : w.cell? ⟨Bs, 0, none⟩ = some (.slice A m c)) (hm : m ≤ 1000000000) :
    Calls Try.prog 58 #[.func (.func 73) #[] #[.pointer (some ⟨Bs, 0, none⟩)], .func (.func 60) #[] #[]] w fun e w' =>
      ∃ A' c' l', e = .returned (.slice A' m c') ∧ l'.Perm pl ∧ l'.Pairwise (fun a b => ahead b a = false) ∧ PlacesAt w' w'.heap.size A' m l' ∧ RowKit.Below w.heap.size w w' := by
  have hlen : pl.length = m := h.1
  have hseq : SeqGivesK Fence.wide 2 Try.prog 73 #[.pointer (some ⟨Bs, 0, none⟩)] Place.agg (fun xs => xs = pl) pl.length w := by
    rw [hlen]
    exact values_gives Fence.wide 2 trivial rfl (by omega) Bs m c A pl w hB0 hBs h
  have hcol := callsIn_wide.1 (collect_places Fence.wide 4 trivial trivial rfl (by omega) _ _ trivial (enters_of Try.func73 (by kernel_rfl) rfl) pl (by omega) w hseq)
  replace hlen := Lib.hid hlen
  clear hseq
  go_enter Try.func58, Try.ntmps58
  go_wp2_with fail
  refine hcol.mono ?_
  rintro e w1 ⟨v, rfl, hown, hb1⟩
  have hz1 := hb1.size
  rcases hown.2 with ⟨rfl, h0⟩ | ⟨g, cap, cur, rfl, hg, _⟩
  · have hpl : pl = [] := List.eq_nil_of_length_eq_zero h0
    subst hpl
    obtain rfl : m = 0 := by have := hlen.out; simpa using this.symm
    have hnone := fun W => (show Calls Try.prog 72 #[.slice none 0 0, .func (.func 60) #[] #[]] W _ from AnyF.slices_SortFunc_none Try.sortP none 0 (.func (.func 60) #[] #[]) W)
    clear hown
    go_wp2_with fail
    refine (hnone w1).mono ?_
    rintro e w2 ⟨rfl, rfl⟩
    clear hnone
    go_wp2_with fail
    go_ret
    exact ⟨none, 0, [], rfl, List.Perm.refl _, List.Pairwise.nil, RowAt.none_, hb1⟩
  · have hs := sort_places w.heap.size g pl.length cap pl w1 hown (by have := hlen.out; omega)
    rw [hlen.out] at hs
    clear hown
    go_wp2_with fail
    rw [hlen.out]
    refine hs.mono ?_
    rintro e w2 ⟨rfl, l', hp, hso, hr, hb2⟩
    clear hs
    go_wp2_with fail
    go_ret
    exact ⟨_, _, l', rfl, hp, hso, hr, hb1.trans (hb2.mono hg)⟩
end Go.Proofs.Ytbfephekkfieaaa
