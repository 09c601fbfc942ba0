/-
  What stands in a pack: rows of places' numbers, sorted by where the places begin.
-/
import Derived.Test.YtbfephekkfieaaaPlaceE
import Derived.Test.YtbfephekkfieaaaIdxPacks
import Derived.Test.YtbfephekkfieaaaBase
namespace Go.Proofs.Ytbfephekkfieaaa
open Go.RowKit Go.Shelf Go.Sort Go.Lib
attribute [local go_sem ↓] Go.wp_at_zero Go.wp_at_succ

def natCell (i : Nat) : List Value := [.int .i64 i]
theorem natCell_len (i : Nat) : (natCell i).length = 1 := rfl
def natE : Elem Nat where
  T := 3
  S := 84
  k := 1
  bytes := 8
  enc := natCell
  z := .int .i64 0
  und := Try.underlying84
  info := by kernel_rfl
  zc := rfl
  pos := by decide
  small := by decide
  len := natCell_len
  one := fun x u hu => by simp [natCell] at hu; subst hu; rfl

/-- Where a place begins. -/
def atOf (ps : List Place) (i : Nat) : Int := match ps[i]? with | some p => p.at_ | none => 0
theorem atOf_eq {ps : List Place} {i : Nat} {p : Place} (h : ps[i]? = some p) : atOf ps i = p.at_ := by unfold atOf; rw [h]

set_option maxHeartbeats 1000000 in
theorem of_cmp (A : Option Addr) (n c bx : Nat) (ps : List Place) (w : World) (h : PlacesAt w w.heap.size A n ps) (h5 : w.cell? ⟨bx, 5, none⟩ = some (.slice A n c)) (x y : Nat) (hx : x < n) (hy : y < n) :
    Calls Try.prog 44 #[.int .i64 x, .int .i64 y, .pointer (some ⟨bx, 0, none⟩)] w fun e w' => e = .returned (.int .i64 (cmpI (atOf ps x) (atOf ps y))) ∧ ∃ q, w' = w.drewN q := by
  obtain ⟨b, off, p, rfl, hb, hp, p0, p1, p2⟩ := h.place hx
  obtain ⟨b', off', q, e, hb', hq, q0, q1, q2⟩ := h.place hy
  simp only [Option.some.injEq, Addr.mk.injEq] at e
  obtain ⟨rfl, rfl, _⟩ := e
  have ex : Hid (atOf ps x = p.at_) := atOf_eq hp
  have ey : Hid (atOf ps y = q.at_) := atOf_eq hq
  have hc : ∀ W, Calls Try.prog 45 #[.int .i64 p.at_, .int .i64 q.at_] W fun e w' => e = .returned (.int .i64 (cmpI p.at_ q.at_)) ∧ w' = W := fun W => (compare_int _ _ W).mono fun e w' ⟨h1, h2⟩ => ⟨h1, h2.symm⟩
  obtain ⟨z, hz⟩ : ∃ z, z = cmpI p.at_ q.at_ := ⟨_, rfl⟩
  rw [← hz] at hc
  replace hz := Lib.hid hz
  clear hp hq
  go_enter Try.func44, Try.ntmps44
  go_wp2
  go_quiet ((go_at_call 45; exact Calls.quiet_of_same (hc _)))
  go_wp2
  go_ret
  exact ⟨by rw [ex.out, ey.out, ← hz.out]; rfl, _, rfl⟩

theorem cmpI_lt {a b : Int} : cmpI a b < 0 ↔ a < b := by
  unfold cmpI
  split
  · simp [*]
  · split <;> simp [*]
/-- By where they begin. -/
def cmpAt (ps : List Place) {m : Nat} (x y : Fin m) : Int := cmpI (atOf ps x.val) (atOf ps y.val)
theorem ltOf_at (ps : List Place) {m : Nat} (x y : Fin m) : ltOf (cmpAt ps) x y = decide (atOf ps x.val < atOf ps y.val) := by
  unfold ltOf cmpAt
  rw [Bool.eq_iff_iff]
  simp [cmpI_lt]
theorem swo_at (ps : List Place) {m : Nat} : SWO (ltOf (cmpAt ps (m := m))) where
  irrefl x := by rw [ltOf_at]; simp
  trans x y z h1 h2 := by
    rw [ltOf_at] at *
    simp at *
    omega
  ntrans x y z h1 h2 := by
    rw [ltOf_at] at *
    simp at *
    omega

def finE {m : Nat} (x : Fin m) : Value := .int .i64 (x.val : Nat)
theorem finE_one {m : Nat} : OneCell (finE (m := m)) := fun _ => rfl
theorem holds_nat {w : World} {base g n c m : Nat} {l : List Nat} {d : Array (Fin (m + 1))} (h : natE.Own w base (.slice (some ⟨g, 0, none⟩) n c) l) (hd : d.toList.map Fin.val = l) : n = d.size ∧ Holds finE w g 0 d := by
  have hdl : d.size = l.length := by rw [← hd]; simp
  rcases h.2 with ⟨e, _⟩ | ⟨g', cap, cur, e, hg, hh, hnc, _, hcs, htk⟩
  · simp at e
  · simp only [Value.slice.injEq, Option.some.injEq, Addr.mk.injEq, and_true] at e
    obtain ⟨rfl, rfl, rfl⟩ := e
    refine ⟨hdl.symm, fun j hj => ?_⟩
    have hx : l[j]? = some (d[j]!).val := by
      rw [← hd, getElem!_pos d j hj]
      simp [hj]
    have hc := World.ownsRow.cells (g := g) h rfl (j * 1 + 0) _ (flat_at natCell_len l _ _ hx 0 _ rfl)
    rw [Addr.add_lit, show 0 + (j * 1 + 0) = 0 + j by omega] at hc
    exact ⟨hc, by simp [World.frozen?, hh]⟩
theorem row_of_holds {w : World} {g m : Nat} {d : Array (Fin (m + 1))} (h : Holds finE w g 0 d) (hg : g < w.heap.size) (hd : d.size ≤ 1000000000) : RowAt 1 natCell w w.heap.size (some ⟨g, 0, none⟩) d.size (d.toList.map Fin.val) := by
  refine ⟨by simp, by omega, fun _ => ⟨g, 0, rfl, hg, fun i x hx j v hv => ?_⟩⟩
  have hi : i < d.size := by have := (List.getElem?_eq_some_iff.1 hx).1; simpa using this
  obtain rfl : j = 0 := by have := (List.getElem?_eq_some_iff.1 hv).1; simpa [natCell] using this
  have := (h i hi).1
  rw [show 0 + i * 1 + 0 = 0 + i by omega, this, getElem!_pos d i hi]
  simp [hi] at hx
  subst hx
  simp [natCell] at hv
  subst hv
  rfl
/-- A list of numbers below m + 1 as an array of such. -/
theorem fins {m : Nat} : ∀ {l : List Nat}, (∀ i ∈ l, i < m + 1) → ∃ d : List (Fin (m + 1)), d.map Fin.val = l
  | [], _ => ⟨[], rfl⟩
  | i :: l, h => by
    obtain ⟨d, hd⟩ := fins (l := l) fun j hj => h j (List.mem_cons_of_mem _ hj)
    exact ⟨⟨i, h i List.mem_cons_self⟩ :: d, by rw [List.map_cons, hd]⟩

set_option maxHeartbeats 1000000 in
theorem sort_row (base g n c bx m cc : Nat) (A : Option Addr) (l : List Nat) (ps : List Place) (w : World) (h : natE.Own w base (.slice (some ⟨g, 0, none⟩) n c) l) (hl : ∀ i ∈ l, i < m) (hn : l.length ≤ 1000000000) (hm : 0 < m)
    (hps : PlacesAt w g A m ps) (hbx : bx < g) (h5 : w.cell? ⟨bx, 5, none⟩ = some (.slice A m cc)) :
    Calls Try.prog 43 #[.slice (some ⟨g, 0, none⟩) n c, .func (.func 44) #[] #[.pointer (some ⟨bx, 0, none⟩)]] w fun e w' => e = .returned (.tuple #[]) ∧ ∃ l', l'.Perm l ∧ l'.Pairwise (fun a b => atOf ps a ≤ atOf ps b) ∧ RowAt 1 natCell w' w'.heap.size (some ⟨g, 0, none⟩) n l' ∧ RowKit.Below g w w' := by
  obtain ⟨m, rfl⟩ : ∃ k, m = k + 1 := ⟨m - 1, by omega⟩
  obtain ⟨dl, hdl⟩ := fins hl
  obtain ⟨d, rfl⟩ : ∃ d : Array (Fin (m + 1)), d.toList = dl := ⟨dl.toArray, by simp⟩
  obtain ⟨rfl, hH⟩ := holds_nat h hdl
  have hgl : g < w.heap.size := (World.ownsRow.lt h g rfl).2
  have eg : ∀ args w, (callFunc 44 args).run Try.prog w = .ok (.enter 44 args) w := enters_of Try.func44 (by kernel_rfl) rfl
  have hbelow : ∀ q (d' : Array (Fin (m + 1))) os, RowKit.Below g w (sortWorld finE w g 0 q d' os) := fun q d' os => by
    unfold sortWorld
    refine below_grow (below_putRow (Below.refl g w) (Nat.le_refl _)) ?_ os
    show g ≤ (putRow finE (Sort.ahead w q) g 0 d').heap.size
    rw [size_putRow]
    exact Nat.le_of_lt hgl
  have hcmp : CmpReads Try.prog 44 #[.pointer (some ⟨bx, 0, none⟩)] finE (cmpAt ps) g 0 d.size w := fun q os dk _ x y => by
    have hb := hbelow q dk os
    have hps' : PlacesAt (sortWorld finE w g 0 q dk os) g A (m + 1) ps := hps.below hb
    exact of_cmp A (m + 1) cc bx ps _ (hps'.more (by have := hb.size; omega)) ((hb.cell (p := ⟨bx, 5, none⟩) hbx).trans h5) x.val y.val x.isLt y.isLt
  have hcon := Any.slices_SortFunc Try.sortI finE finE_one (cmpAt ps) (swo_at ps) 44 #[.pointer (some ⟨bx, 0, none⟩)] g 0 c d w eg hcmp.lays hH hgl (by rw [← hdl] at hn; simp at hn; omega)
  refine Calls.mono (show Calls Try.prog 43 _ w _ from hcon) ?_
  rintro e w' ⟨he, d', q, os, hp, hs, rfl⟩
  have hsz : d'.size = d.size := hp.1
  have hH' := holds_sortWorld finE w g 0 q d d' os hgl hH hsz
  have hb := hbelow q d' os
  have hlen : d.size ≤ 1000000000 := by rw [← hdl] at hn; simpa using hn
  refine ⟨he, d'.toList.map Fin.val, ?_, ?_, ?_, hb⟩
  · rw [← hdl]
    refine List.Perm.map _ ?_
    have := hp.2.2
    simpa [hsz, Array.extract_eq_self_of_le] using this
  · rw [List.pairwise_map, List.pairwise_iff_getElem]
    intro i j hi hj hij
    have := hs i j (Nat.zero_le _) hij (by rw [← hsz]; simpa using hj)
    rw [ltOf_at, getElem!_pos d' j (by simpa using hj), getElem!_pos d' i (by simpa using hi)] at this
    simpa using this
  · have := row_of_holds hH' (by have := hb.size; exact Nat.lt_of_lt_of_le hgl this) (by omega)
    rw [hsz] at this
    exact this
end Go.Proofs.Ytbfephekkfieaaa
/-
  What stands in a pack, as a list: it is one and no other.
-/
namespace Go.Proofs.Ytbfephekkfieaaa

theorem pair_unique {α : Type} {r : α → α → Prop} (irr : ∀ a, ¬ r a a) (tr : ∀ a b c, r a b → r b c → r a c) : ∀ {l l' : List α}, l.Pairwise r → l'.Pairwise r → (∀ x, x ∈ l ↔ x ∈ l') → l = l'
  | [], [], _, _, _ => rfl
  | [], y :: l', _, _, h => absurd ((h y).2 List.mem_cons_self) List.not_mem_nil
  | x :: l, [], _, _, h => absurd ((h x).1 List.mem_cons_self) List.not_mem_nil
  | x :: l, y :: l', h1, h2, h => by
    have a1 := List.pairwise_cons.1 h1
    have a2 := List.pairwise_cons.1 h2
    have hxy : x = y := by
      rcases List.mem_cons.1 ((h x).1 List.mem_cons_self) with e | hx
      · exact e
      · rcases List.mem_cons.1 ((h y).2 List.mem_cons_self) with e | hy
        · exact e.symm
        · exact absurd (tr _ _ _ (a1.1 y hy) (a2.1 x hx)) (irr x)
    subst hxy
    rw [pair_unique irr tr a1.2 a2.2 fun z => ?_]
    refine ⟨fun hz => ?_, fun hz => ?_⟩
    · rcases List.mem_cons.1 ((h z).1 (List.mem_cons_of_mem _ hz)) with e | hz'
      · exact absurd (e ▸ a1.1 z hz) (irr x)
      · exact hz'
    · rcases List.mem_cons.1 ((h z).2 (List.mem_cons_of_mem _ hz)) with e | hz'
      · exact absurd (e ▸ a2.1 z hz) (irr x)
      · exact hz'

/-- What stands in a pack: each chunk with its place, by where the places begin. -/
structure OfL (cs : List ByteArray) (ps : List Place) (pack : ByteArray) (L : List (ByteArray × Place)) : Prop where
  rise : L.Pairwise fun a b => a.2.at_ < b.2.at_
  mem : ∀ x : ByteArray × Place, x ∈ L ↔ (∃ i : Nat, cs[i]? = some x.1 ∧ ps[i]? = some x.2) ∧ x.2.pack = pack
theorem OfL.unique {cs : List ByteArray} {ps : List Place} {pack : ByteArray} {L L' : List (ByteArray × Place)} (h : OfL cs ps pack L) (h' : OfL cs ps pack L') : L = L' :=
  pair_unique (r := fun a b : ByteArray × Place => a.2.at_ < b.2.at_) (fun a => by omega) (fun a b c h1 h2 => by omega) h.rise h'.rise fun x => (h.mem x).trans (h'.mem x).symm

/-- The numbers of the places that stand in a pack, among the first n. -/
def inPack (ps : List Place) (pack : ByteArray) (n : Nat) : List Nat := (List.range n).filter fun i => decide ((ps[i]?).map Place.pack = some pack)
theorem inPack_mem {ps : List Place} {pack : ByteArray} {n i : Nat} : i ∈ inPack ps pack n ↔ i < n ∧ (ps[i]?).map Place.pack = some pack := by simp [inPack]
theorem inPack_yes {ps : List Place} {pack : ByteArray} {k : Nat} {p : Place} (h : ps[k]? = some p) (hp : p.pack = pack) : inPack ps pack (k + 1) = inPack ps pack k ++ [k] := by
  simp [inPack, List.range_succ, List.filter_append, h, hp]
theorem inPack_no {ps : List Place} {pack : ByteArray} {k : Nat} {p : Place} (h : ps[k]? = some p) (hp : p.pack ≠ pack) : inPack ps pack (k + 1) = inPack ps pack k := by
  simp [inPack, List.range_succ, List.filter_append, h, hp]
theorem inPack_len (ps : List Place) (pack : ByteArray) (n : Nat) : (inPack ps pack n).length ≤ n := by
  have := List.length_filter_le (fun i => decide ((ps[i]?).map Place.pack = some pack)) (List.range n)
  simpa [inPack] using this
theorem inPack_nodup (ps : List Place) (pack : ByteArray) (n : Nat) : (inPack ps pack n).Nodup := List.Pairwise.filter _ List.nodup_range

/-- A chunk with its place. -/
def pairAt (cs : List ByteArray) (ps : List Place) (i : Nat) : ByteArray × Place := ((cs[i]?).getD ⟨#[]⟩, (ps[i]?).getD Place.zero)
theorem pairAt_eq {cs : List ByteArray} {ps : List Place} {i : Nat} {c : ByteArray} {p : Place} (h1 : cs[i]? = some c) (h2 : ps[i]? = some p) : pairAt cs ps i = (c, p) := by simp [pairAt, h1, h2]

theorem at_ne {cs : List ByteArray} {ps : List Place} (hm : mayIdx cs ps = true) {i j : Nat} {p q : Place} (hi : ps[i]? = some p) (hj : ps[j]? = some q) (hpq : p.pack = q.pack) (hij : i ≠ j) : p.at_ ≠ q.at_ := by
  have hv := mayIdx_places hm
  have hap : apartB ps = true := by simp [mayIdx] at hm; exact hm.2
  have hpw := (apartB_iff ps).1 hap
  have key : ∀ {a b : Nat} {x y : Place}, ps[a]? = some x → ps[b]? = some y → x.pack = y.pack → a < b → x.at_ ≠ y.at_ := fun {a b x y} ha hb hxy hab he => by
    obtain ⟨h1, h2⟩ := List.getElem?_eq_some_iff.1 ha
    obtain ⟨h3, h4⟩ := List.getElem?_eq_some_iff.1 hb
    have := List.pairwise_iff_getElem.1 hpw a b h1 h3 hab
    rw [h2, h4] at this
    have b1 := mayPlace_bounds (hv x (List.mem_of_getElem? ha))
    have b2 := mayPlace_bounds (hv y (List.mem_of_getElem? hb))
    simp [clash, hxy] at this
    omega
  rcases Nat.lt_or_ge i j with h | h
  · exact key hi hj hpq h
  · exact (key hj hi hpq.symm (by omega)).symm

theorem ofL_of {cs : List ByteArray} {ps : List Place} {pack : ByteArray} (hm : mayIdx cs ps = true) {l' : List Nat} (hp : l'.Perm (inPack ps pack ps.length)) (hs : l'.Pairwise fun a b => atOf ps a ≤ atOf ps b) : OfL cs ps pack (l'.map (pairAt cs ps)) := by
  have hlen := (mayIdx_len hm).1
  have hin : ∀ {i}, i ∈ l' → ∃ c p, cs[i]? = some c ∧ ps[i]? = some p ∧ p.pack = pack := fun {i} hi => by
    obtain ⟨h1, h2⟩ := inPack_mem.1 (hp.mem_iff.1 hi)
    obtain ⟨p, hp'⟩ := getElem_some (l := ps) (i := i) h1
    obtain ⟨c, hc⟩ := getElem_some (l := cs) (i := i) (by omega)
    rw [hp'] at h2
    exact ⟨c, p, hc, hp', by simpa using h2⟩
  constructor
  · rw [List.pairwise_map]
    have hnd : l'.Nodup := hp.nodup_iff.2 (inPack_nodup ps pack ps.length)
    refine List.Pairwise.imp_of_mem ?_ (hs.and hnd)
    intro a b ha hb hab
    obtain ⟨c1, p1, h1, h2, h3⟩ := hin ha
    obtain ⟨c2, p2, h4, h5, h6⟩ := hin hb
    rw [pairAt_eq h1 h2, pairAt_eq h4 h5]
    have := at_ne hm h2 h5 (h3.trans h6.symm) hab.2
    have h7 := hab.1
    rw [atOf_eq h2, atOf_eq h5] at h7
    simp only
    omega
  · intro x
    rw [List.mem_map]
    constructor
    · rintro ⟨i, hi, rfl⟩
      obtain ⟨c1, p1, h1, h2, h3⟩ := hin hi
      rw [pairAt_eq h1 h2]
      exact ⟨⟨i, h1, h2⟩, h3⟩
    · rintro ⟨⟨i, h1, h2⟩, h3⟩
      refine ⟨i, hp.mem_iff.2 (inPack_mem.2 ⟨(List.getElem?_eq_some_iff.1 h2).1, by rw [h2]; simp [h3]⟩), ?_⟩
      rw [pairAt_eq h1 h2]

/-- What Of tells. -/
def OfRes (s : St) (pack : ByteArray) (D : List ByteArray) (P : List Place) (z : Int) : Prop :=
  (mayIdx s.cs s.ps = false ∧ D = [] ∧ P = [] ∧ z = 4) ∨ (mayIdx s.cs s.ps = true ∧ ∃ L, OfL s.cs s.ps pack L ∧ D = L.map (·.1) ∧ P = L.map (·.2) ∧ ((L = [] ∧ z = 5) ∨ (L ≠ [] ∧ z = 0)))
theorem OfRes.unique {s : St} {pack : ByteArray} {D D' : List ByteArray} {P P' : List Place} {z z' : Int} (h : OfRes s pack D P z) (h' : OfRes s pack D' P' z') : D = D' ∧ P = P' ∧ z = z' := by
  rcases h with ⟨a, rfl, rfl, rfl⟩ | ⟨a, L, h1, rfl, rfl, h4⟩
  · rcases h' with ⟨_, rfl, rfl, rfl⟩ | ⟨b, _⟩
    · exact ⟨rfl, rfl, rfl⟩
    · rw [a] at b; cases b
  · rcases h' with ⟨b, _⟩ | ⟨_, L', h1', rfl, rfl, h4'⟩
    · rw [a] at b; cases b
    · obtain rfl := h1.unique h1'
      refine ⟨rfl, rfl, ?_⟩
      rcases h4 with ⟨e, rfl⟩ | ⟨e, rfl⟩ <;> rcases h4' with ⟨e', rfl⟩ | ⟨e', rfl⟩ <;> first | rfl | exact absurd e e' | exact absurd e' e

/-- What was chosen so far by the reference: what begins below. -/
structure OfTo (cs : List ByteArray) (ps : List Place) (pack : ByteArray) (from_ : Int) (L : List (ByteArray × Place)) : Prop where
  rise : L.Pairwise fun a b => a.2.at_ < b.2.at_
  mem : ∀ x : ByteArray × Place, x ∈ L ↔ ((∃ i : Nat, cs[i]? = some x.1 ∧ ps[i]? = some x.2) ∧ x.2.pack = pack) ∧ x.2.at_ < from_
theorem OfTo.nil {cs : List ByteArray} {ps : List Place} {pack : ByteArray} (hm : mayIdx cs ps = true) : OfTo cs ps pack 0 [] :=
  ⟨List.Pairwise.nil, fun x => ⟨fun h => absurd h List.not_mem_nil, fun ⟨⟨⟨i, _, h2⟩, _⟩, h3⟩ => by have := mayPlace_bounds (mayIdx_places hm _ (List.mem_of_getElem? h2)); omega⟩⟩
/-- The next one: number q, which stands in the pack, begins at from_ or behind, and none that does so begins ahead of it. -/
theorem OfTo.next {cs : List ByteArray} {ps : List Place} {pack : ByteArray} {f : Int} {L : List (ByteArray × Place)} (h : OfTo cs ps pack f L) (hm : mayIdx cs ps = true) {q : Nat} {c : ByteArray} {p : Place} (hc : cs[q]? = some c) (hp : ps[q]? = some p) (hpk : p.pack = pack) (hf : f ≤ p.at_)
    (hmin : ∀ (i : Nat) (r : Place), ps[i]? = some r → r.pack = pack → f ≤ r.at_ → p.at_ ≤ r.at_) : OfTo cs ps pack (p.at_ + 1) (L ++ [(c, p)]) := by
  constructor
  · rw [List.pairwise_append]
    refine ⟨h.rise, List.pairwise_singleton _ _, fun a ha b hb => ?_⟩
    rw [List.mem_singleton] at hb
    subst hb
    have := ((h.mem a).1 ha).2
    simp only
    omega
  · intro x
    rw [List.mem_append, List.mem_singleton, h.mem]
    constructor
    · rintro (⟨h1, h2⟩ | rfl)
      · exact ⟨h1, by omega⟩
      · exact ⟨⟨⟨q, hc, hp⟩, hpk⟩, by simp only; omega⟩
    · rintro ⟨⟨⟨i, h1, h2⟩, h3⟩, h4⟩
      by_cases hx : x.2.at_ < f
      · exact .inl ⟨⟨⟨i, h1, h2⟩, h3⟩, hx⟩
      · refine .inr ?_
        have h5 := hmin i x.2 h2 h3 (by omega)
        by_cases hiq : i = q
        · subst hiq
          rw [hc] at h1
          rw [hp] at h2
          injection h1 with h1
          injection h2 with h2
          exact Prod.ext h1.symm h2.symm
        · have := at_ne hm h2 hp (h3.trans hpk.symm) hiq
          omega
/-- None is left. -/
theorem OfTo.done {cs : List ByteArray} {ps : List Place} {pack : ByteArray} {f : Int} {L : List (ByteArray × Place)} (h : OfTo cs ps pack f L) (hno : ∀ (i : Nat) (r : Place), ps[i]? = some r → r.pack = pack → r.at_ < f) : OfL cs ps pack L :=
  ⟨h.rise, fun x => (h.mem x).trans ⟨fun h => h.1, fun h => ⟨h, by obtain ⟨⟨i, _, h2⟩, h3⟩ := h; exact hno i x.2 h2 h3⟩⟩⟩
end Go.Proofs.Ytbfephekkfieaaa

/-
  Two rows without repeats that have the same have as many.
-/
namespace Go.Proofs.Ytbfephekkfieaaa

theorem nodup_len {α : Type} [DecidableEq α] : ∀ {l m : List α}, l.Nodup → m.Nodup → (∀ x, x ∈ l ↔ x ∈ m) → l.length = m.length
  | [], m, _, _, h => by
    cases m with
    | nil => rfl
    | cons y m => exact absurd ((h y).2 List.mem_cons_self) List.not_mem_nil
  | x :: l, m, h1, h2, h => by
    have hx := List.nodup_cons.1 h1
    have hm : x ∈ m := (h x).1 List.mem_cons_self
    have ih := nodup_len (l := l) (m := m.erase x) hx.2 (h2.erase x) fun y => by
      rw [h2.mem_erase_iff]
      constructor
      · intro hy
        exact ⟨fun e => hx.1 (e ▸ hy), (h y).1 (List.mem_cons_of_mem _ hy)⟩
      · rintro ⟨hne, hy⟩
        exact (List.mem_cons.1 ((h y).2 hy)).resolve_left hne
    rw [List.length_cons, ih, List.length_erase_of_mem hm]
    have : 0 < m.length := List.length_pos_of_mem hm
    omega
end Go.Proofs.Ytbfephekkfieaaa
