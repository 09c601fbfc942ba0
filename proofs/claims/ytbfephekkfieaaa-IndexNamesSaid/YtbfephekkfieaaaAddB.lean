/-
  The contract of index.Add.
-/
import Derived.Test.YtbfephekkfieaaaAddA
import Derived.Test.YtbfephekkfieaaaIdxPacks
import Derived.Deep.DeepCutAuto
namespace Go.Proofs.Ytbfephekkfieaaa
open Go.RowKit
attribute [local go_sem ↓] Go.wp_at_zero Go.wp_at_succ

theorem two_new (w : World) (o o' : Obj) : ((w.alloc o).alloc o').heap[w.heap.size]? = some o ∧ ((w.alloc o).alloc o').heap[w.heap.size + 1]? = some o' := by
  constructor
  · exact (Go.Deep.blk_alloc_lt _ _ _ (by simp)).trans (heap_alloc_new w _)
  · have h := heap_alloc_new (w.alloc o) o'
    rwa [World.size_alloc] at h

/-- What Add or Drop hands out: rows of the call's own. -/
structure AddOut (w0 w : World) (r : Rws) (s : St) : Prop where
  st : StAt w w.heap.size r s
  o2 : strE.Own w w0.heap.size (.slice r.A2 r.n2 r.c2) s.cs
  o3 : placeE.Own w w0.heap.size (.slice r.A3 r.n3 r.c3) s.ps
  below : Below w0.heap.size w0 w
theorem addOut_none {w0 w : World} (h : Below w0.heap.size w0 w) : AddOut w0 w ⟨none, 0, 0, none, 0, 0, none, 0, 0⟩ stNone :=
  ⟨⟨RowAt.none_, RowAt.none_, RowAt.none_, fun _ hp => absurd hp List.not_mem_nil⟩, Owns.nil_, Owns.nil_, h⟩

theorem AS.start {w0 w : World} {b base : Nat} {k nn next k' nn' next' : Int} {s1 c3 c4 c5 v4 v5 : Value} {D : List ByteArray} {P : List Place} (bx : BoxAt w b k' nn' next' c3 c4 c5) (bz : BoxAt w (b + 1) 0 0 0 (.slice none 0 0) (.slice none 0 0) (.slice none 0 0)) (o4 : strE.Own w base v4 D) (o5 : placeE.Own w base v5 P)
    (d : v4.ownBlock = none ∨ v4.ownBlock ≠ v5.ownBlock) (hb : b + 1 < base) (hs : base ≤ w.heap.size) (hbl : Below b w0 w) : AS w0 (st6 w b k nn next s1 v4 v5) b base k nn next s1 v4 v5 v4 v5 D P :=
  ⟨bx.st6 _ _ _ _ _ _, (((((bz.setOther _ (by omega)).setOther _ (by omega)).setOther _ (by omega)).setOther _ (by omega)).setOther _ (by omega)).setOther _ (by omega), o4.st6 (by omega) _ _ _ _ _ _, o5.st6 (by omega) _ _ _ _ _ _, d, hb, by rw [size_st6]; exact hs, below_st6 hbl (Nat.le_refl _) _ _ _ _ _ _⟩

section
variable {s : St} {ds : List ByteArray} {qs : List Place}
theorem addIdx_form (h : mayIdx s.cs s.ps = false) : addIdx s ds qs = (stNone, 4) := by simp [addIdx, h]
theorem addIdx_arg (h : mayIdx s.cs s.ps = true) (h1 : ¬ (ds.length = qs.length ∧ 0 < ds.length ∧ mayNew ds qs = true)) : addIdx s ds qs = (stNone, 1) := by
  unfold addIdx
  rw [if_pos h, if_neg h1]
theorem mayNew_no1 {j : Nat} {d : ByteArray} (h : ds[j]? = some d) (hd : d.size ≠ 32) : mayNew ds qs = false := by
  unfold mayNew
  rw [Bool.and_eq_false_iff]
  refine .inl (List.all_eq_false.2 ⟨d, List.mem_of_getElem? h, by simpa using hd⟩)
theorem mayNew_no2 {j : Nat} {p : Place} (h : qs[j]? = some p) (hp : mayPlace p = false) : mayNew ds qs = false := by
  unfold mayNew
  rw [Bool.and_eq_false_iff]
  refine .inr (List.all_eq_false.2 ⟨p, List.mem_of_getElem? h, by simp [hp]⟩)
theorem mayNew_yes {n : Nat} (h1 : ds.length = n) (h2 : qs.length = n) (h : ∀ (q : Nat) (d : ByteArray) (p : Place), q < n → ds[q]? = some d → qs[q]? = some p → d.size = 32 ∧ mayPlace p = true) : mayNew ds qs = true := by
  unfold mayNew
  rw [Bool.and_eq_true]
  constructor
  · refine List.all_eq_true.2 fun d hd => ?_
    obtain ⟨i, hi⟩ := List.getElem?_of_mem hd
    have hl := (List.getElem?_eq_some_iff.1 hi).1
    obtain ⟨p, hp⟩ := getElem_some (l := qs) (i := i) (by omega)
    simpa using (h i d p (by omega) hi hp).1
  · refine List.all_eq_true.2 fun p hp => ?_
    obtain ⟨i, hi⟩ := List.getElem?_of_mem hp
    have hl := (List.getElem?_eq_some_iff.1 hi).1
    obtain ⟨d, hd⟩ := getElem_some (l := ds) (i := i) (by omega)
    exact (h i d p (by omega) hd hi).2
theorem addIdx_none (h : mayIdx s.cs s.ps = true) (h1 : ds.length = qs.length) (h2 : 0 < ds.length) (h3 : mayNew ds qs = true) (h4 : addGo ds qs s.cs s.ps = none) : addIdx s ds qs = (stNone, 6) := by
  unfold addIdx
  rw [if_pos h, if_pos ⟨h1, h2, h3⟩, h4]
theorem addIdx_many {cs : List ByteArray} {ps : List Place} (h : mayIdx s.cs s.ps = true) (h1 : ds.length = qs.length) (h2 : 0 < ds.length) (h3 : mayNew ds qs = true) (h4 : addGo ds qs s.cs s.ps = some (cs, ps)) (h5 : 400 < cs.length) : addIdx s ds qs = (stNone, 40) := by
  unfold addIdx
  rw [if_pos h, if_pos ⟨h1, h2, h3⟩, h4]
  exact if_pos h5
theorem addIdx_apart {cs : List ByteArray} {ps : List Place} (h : mayIdx s.cs s.ps = true) (h1 : ds.length = qs.length) (h2 : 0 < ds.length) (h3 : mayNew ds qs = true) (h4 : addGo ds qs s.cs s.ps = some (cs, ps)) (h5 : ¬ 400 < cs.length) (h6 : apartB ps = false) : addIdx s ds qs = (stNone, 1) := by
  unfold addIdx
  rw [if_pos h, if_pos ⟨h1, h2, h3⟩, h4]
  refine (if_neg h5).trans (if_neg ?_)
  rw [h6]
  simp
theorem addIdx_ok {cs : List ByteArray} {ps : List Place} (h : mayIdx s.cs s.ps = true) (h1 : ds.length = qs.length) (h2 : 0 < ds.length) (h3 : mayNew ds qs = true) (h4 : addGo ds qs s.cs s.ps = some (cs, ps)) (h5 : ¬ 400 < cs.length) (h6 : apartB ps = true) : addIdx s ds qs = (⟨s.k, s.n, s.next, s.sn, cs, ps⟩, 0) := by
  unfold addIdx
  rw [if_pos h, if_pos ⟨h1, h2, h3⟩, h4]
  exact (if_neg h5).trans (if_pos h6)
theorem addGo_step {j : Nat} {d : ByteArray} {p : Place} {cs : List ByteArray} {ps : List Place} (hd : ds[j]? = some d) (hp : qs[j]? = some p) : addGo (ds.drop j) (qs.drop j) cs ps = if d ∈ cs then none else addGo (ds.drop (j + 1)) (qs.drop (j + 1)) (insAt (lowB cs d) d cs) (insAt (lowB cs d) p ps) := by
  rw [drop_cons hd, drop_cons hp, addGo]
theorem addGo_end {n : Nat} {cs : List ByteArray} {ps : List Place} (hd : ds.length = n) : addGo (ds.drop n) (qs.drop n) cs ps = some (cs, ps) := by
  rw [List.drop_eq_nil_of_le (by omega)]
  rfl
theorem placeOk_of {p : Place} (h : mayPlace p = true) : PlaceOk p := by
  have := mayPlace_bounds h
  unfold PlaceOk
  omega
end

set_option maxHeartbeats 4000000 in
set_option maxRecDepth 100000 in
theorem index_Add (v : Rws) (s : St) (A : Option Addr) (n c : Nat) (ds : List ByteArray) (A' : Option Addr) (n' c' : Nat) (qs : List Place) (w : World) (h : StAt w w.heap.size v s) (hd : StrsAt w w.heap.size A n ds) (hq : PlacesAt w w.heap.size A' n' qs) (hqok : ∀ p ∈ qs, PlaceOk p) (hn : n ≤ 1000) :
    Calls Try.prog 16 #[v.val s, .slice A n c, .slice A' n' c'] w fun e w' => ∃ r : Rws, e = .returned (.tuple #[r.val (addIdx s ds qs).1, .int .i64 (addIdx s ds qs).2]) ∧ AddOut w w' r (addIdx s ds qs).1 := by
  obtain ⟨k, nn, next, sn, cs, ps⟩ := s
  obtain ⟨A1, n1, c1, A2, n2, c2, A3, n3, c3⟩ := v
  obtain ⟨h1, h2, h3, hok⟩ := h
  dsimp only at h1 h2 h3 hok
  have hmay := fun W (hb : Below w.heap.size w W) => index_May k nn next A1 n1 c1 A2 n2 c2 A3 n3 c3 cs ps W (h2.to hb) (h3.to hb) hok
  have hown := fun W (hb : Below w.heap.size w W) => index_own k nn next A1 n1 c1 A2 n2 c2 A3 n3 c3 cs ps W (h2.to hb) (h3.to hb)
  unfold stv at hmay hown
  unfold Rws.val stv
  dsimp only
  replace hmay := Lib.hid hmay
  replace hown := Lib.hid hown
  have l2 := Lib.hid h2.1
  have l3 := Lib.hid h3.1
  have ld := Lib.hid hd.1
  have lq := Lib.hid hq.1
  have bq := hq.2.1
  have bx := Lib.hid ((BoxAt.new w k nn next (.slice A1 n1 c1) (.slice A2 n2 c2) (.slice A3 n3 c3)).alloc (.cells #[.int .i64 0, .int .i64 0, .int .i64 0, .slice none 0 0, .slice none 0 0, .slice none 0 0] 29))
  have bz : Hid (BoxAt ((w.alloc (.cells #[.int .i64 k, .int .i64 nn, .int .i64 next, .slice A1 n1 c1, .slice A2 n2 c2, .slice A3 n3 c3] 29)).alloc (.cells #[.int .i64 0, .int .i64 0, .int .i64 0, .slice none 0 0, .slice none 0 0, .slice none 0 0] 29)) (w.heap.size + 1) 0 0 0 (.slice none 0 0) (.slice none 0 0) (.slice none 0 0)) := by
    have := BoxAt.new (w.alloc (.cells #[.int .i64 k, .int .i64 nn, .int .i64 next, .slice A1 n1 c1, .slice A2 n2 c2, .slice A3 n3 c3] 29)) 0 0 0 (.slice none 0 0) (.slice none 0 0) (.slice none 0 0)
    exact Lib.hid (by simpa using this)
  have fb : Below w.heap.size w ((w.alloc (.cells #[.int .i64 k, .int .i64 nn, .int .i64 next, .slice A1 n1 c1, .slice A2 n2 c2, .slice A3 n3 c3] 29)).alloc (.cells #[.int .i64 0, .int .i64 0, .int .i64 0, .slice none 0 0, .slice none 0 0, .slice none 0 0] 29)) := ((Below.refl _ _).alloc (Nat.le_refl _) _).alloc (by simp) _
  have zz : Hid (((w.alloc (.cells #[.int .i64 k, .int .i64 nn, .int .i64 next, .slice A1 n1 c1, .slice A2 n2 c2, .slice A3 n3 c3] 29)).alloc (.cells #[.int .i64 0, .int .i64 0, .int .i64 0, .slice none 0 0, .slice none 0 0, .slice none 0 0] 29)).heap.size = w.heap.size + 2) := by unfold Hid; simp
  replace hok := Lib.hid hok
  replace hqok := Lib.hid hqok
  go_enter Try.func16, Try.ntmps16
  go_upto_region 1 with fail
  generalize (w.alloc (.cells #[.int .i64 k, .int .i64 nn, .int .i64 next, .slice A1 n1 c1, .slice A2 n2 c2, .slice A3 n3 c3] 29)).alloc (.cells #[.int .i64 0, .int .i64 0, .int .i64 0, .slice none 0 0, .slice none 0 0, .slice none 0 0] 29) = W0 at bx bz fb zz ⊢
  have hz0 : w.heap.size + 1 < W0.heap.size := by have := zz.out; omega
  replace zz := Lib.hid zz.out
  obtain ⟨x0, x1, x2, x3, x4, x5⟩ := bx.out.cells
  go_wp2_with fail
  refine (hmay.out W0 fb).mono ?_
  cases hm : mayIdx cs ps
  · rintro e w1 ⟨rfl, hb1⟩
    have hres : Hid (addIdx ⟨k, nn, next, sn, cs, ps⟩ ds qs = (stNone, 4)) := addIdx_form hm
    have bz1 := Lib.hid (bz.out.below hb1)
    have f1 := fb.trans (hb1.mono (by omega))
    (obtain ⟨g0, g1, g2, g3, g4, g5⟩ := (bz1.out).cells
     have e0 := (bz1.out).frozen 0
     have e1 := (bz1.out).frozen 1
     have e2 := (bz1.out).frozen 2
     have e3 := (bz1.out).frozen 3
     have e4 := (bz1.out).frozen 4
     have e5 := (bz1.out).frozen 5)
    have hl1 : w.heap.size + 1 < w1.heap.size := bz1.out.lt
    clear x0 x1 x2 x3 x4 x5
    go_wp2_with fail
    (obtain ⟨t0, t1, t2, t3, t4, t5⟩ := (BoxAt.st6 (bz1.out) 0 0 0 (.slice none 0 0) (.slice none 0 0) (.slice none 0 0)).cells
     clear g0 g1 g2 g3 g4 g5
     exact bodyPost_ret (v := .tuple #[.agg #[.int .i64 0, .int .i64 0, .int .i64 0, .slice none 0 0, .slice none 0 0, .slice none 0 0], .int .i64 4]) (by simp [results, Try.results16, go_sem, t0, t1, t2, t3, t4, t5]) rfl
       ⟨⟨none, 0, 0, none, 0, 0, none, 0, 0⟩, by rw [hres.out]; rfl, by rw [hres.out]; exact addOut_none (below_st6 (f1) (by omega) _ _ _ _ _ _)⟩)
  · rintro e w1 ⟨rfl, hb1⟩
    have hz1 := hb1.size
    have bz1 := Lib.hid (bz.out.below hb1)
    have bx1 := Lib.hid (bx.out.below hb1)
    have f1 := fb.trans (hb1.mono (by omega))
    have hl1 : w.heap.size + 1 < w1.heap.size := bz1.out.lt
    have hlen := mayIdx_len hm
    have h400 : n2 ≤ 400 := by have := l2.out; omega
    have hn23 : Hid (n2 = n3) := by have := l2.out; have := l3.out; unfold Hid; omega
    clear x0 x1 x2 x3 x4 x5 hb1
    by_cases hnn : n = n'
    · subst hnn
      have hb : ((n : Int) != (n : Int)) = false := by simp
      by_cases hn0 : n = 0
      · subst hn0
        have hres : Hid (addIdx ⟨k, nn, next, sn, cs, ps⟩ ds qs = (stNone, 1)) := addIdx_arg hm (fun h => by have := ld.out; omega)
        (obtain ⟨g0, g1, g2, g3, g4, g5⟩ := (bz1.out).cells
         have e0 := (bz1.out).frozen 0
         have e1 := (bz1.out).frozen 1
         have e2 := (bz1.out).frozen 2
         have e3 := (bz1.out).frozen 3
         have e4 := (bz1.out).frozen 4
         have e5 := (bz1.out).frozen 5)
        go_wp2_with fail
        (obtain ⟨t0, t1, t2, t3, t4, t5⟩ := (BoxAt.st6 (bz1.out) 0 0 0 (.slice none 0 0) (.slice none 0 0) (.slice none 0 0)).cells
         clear g0 g1 g2 g3 g4 g5
         exact bodyPost_ret (v := .tuple #[.agg #[.int .i64 0, .int .i64 0, .int .i64 0, .slice none 0 0, .slice none 0 0, .slice none 0 0], .int .i64 1]) (by simp [results, Try.results16, go_sem, t0, t1, t2, t3, t4, t5]) rfl
           ⟨⟨none, 0, 0, none, 0, 0, none, 0, 0⟩, by rw [hres.out]; rfl, by rw [hres.out]; exact addOut_none (below_st6 (f1) (by omega) _ _ _ _ _ _)⟩)
      · have hb0 : ((n : Int) == 0) = false := by simp; omega
        replace hn0 := Lib.hid hn0
        replace hlen := Lib.hid hlen
        replace hm := Lib.hid hm
        go_wp2_with fail
        go_loopw [8, 9, 32] (fun _ _ i wr => ∃ j : Nat, j ≤ n ∧ i = .int .i64 j ∧ Hid (∀ (q : Nat) (d : ByteArray) (p : Place), q < j → ds[q]? = some d → qs[q]? = some p → d.size = 32 ∧ mayPlace p = true) ∧ Below w1.heap.size w1 wr) (fun _ _ i _ => n - (intOf i).toNat)
        case atStart => exact ⟨0, Nat.zero_le _, rfl, fun q d p hq => absurd hq (by omega), (by repeat (first | exact Below.refl _ _ | assumption | refine Below.drew ?_ | refine below_drewN ?_ _ | refine Below.alloc ?_ (by first | omega | (simp; try omega)) _ | refine Below.setCell ?_ (by first | omega | (simp; try omega)) _ | (refine Below.trans ?_ (Below.mono (by assumption) (by first | omega | (simp; try omega))))))⟩
        case round =>
          obtain ⟨j, hj, rfl, hall, hbr⟩ := hrel
          have hzr := hbr.size
          have fr := f1.trans (hbr.mono (by omega))
          by_cases hlt : j < n
          · obtain ⟨b2, o2, d, rfl, hb2, hx2, y0⟩ := (hd.to fr).str hlt
            obtain ⟨b3, o3, p, rfl, hb3, hx3, z0, z1, z2⟩ := (hq.to fr).place hlt
            have bzr := Lib.hid (bz1.out.below hbr)
            have hlr : w.heap.size + 1 < wr.heap.size := by omega
            by_cases h32 : d.size = 32
            · have hd32 : ((d.size : Int) != 32) = false := by simp; omega
              have hmp := fun W => index_mayPlace p W (hqok.out p (List.mem_of_getElem? hx3))
              unfold Place.agg at hmp
              replace hmp := Lib.hid hmp
              replace h32 := Lib.hid h32
              replace hx2 := Lib.hid hx2
              go_wp2_with fail
              refine (hmp.out _).mono ?_
              cases hpl : mayPlace p
              · rintro e w2 ⟨rfl, hbw2⟩
                have hres : Hid (addIdx ⟨k, nn, next, sn, cs, ps⟩ ds qs = (stNone, 1)) := addIdx_arg hm.out (fun h => by rw [mayNew_no2 hx3 hpl] at h; cases h.2.2)
                have bzw := Lib.hid (bzr.out.below hbw2)
                have fw := fr.trans (hbw2.mono (by omega))
                have hlw := bzw.out.lt
                (obtain ⟨g0, g1, g2, g3, g4, g5⟩ := (bzw.out).cells
                 have e0 := (bzw.out).frozen 0
                 have e1 := (bzw.out).frozen 1
                 have e2 := (bzw.out).frozen 2
                 have e3 := (bzw.out).frozen 3
                 have e4 := (bzw.out).frozen 4
                 have e5 := (bzw.out).frozen 5)
                replace hx3 := Lib.hid hx3
                replace hpl := Lib.hid hpl
                clear y0 z0 z1 z2
                go_wp2_with fail
                (obtain ⟨t0, t1, t2, t3, t4, t5⟩ := (BoxAt.st6 (bzw.out) 0 0 0 (.slice none 0 0) (.slice none 0 0) (.slice none 0 0)).cells
                 clear g0 g1 g2 g3 g4 g5
                 exact bodyPost_ret (v := .tuple #[.agg #[.int .i64 0, .int .i64 0, .int .i64 0, .slice none 0 0, .slice none 0 0, .slice none 0 0], .int .i64 1]) (by simp [results, Try.results16, go_sem, t0, t1, t2, t3, t4, t5]) rfl
                   ⟨⟨none, 0, 0, none, 0, 0, none, 0, 0⟩, by rw [hres.out]; rfl, by rw [hres.out]; exact addOut_none (below_st6 (fw) (by omega) _ _ _ _ _ _)⟩)
              · rintro e w2 ⟨rfl, hbw2⟩
                have hall' : Hid (∀ (q : Nat) (d : ByteArray) (p : Place), q < j + 1 → ds[q]? = some d → qs[q]? = some p → d.size = 32 ∧ mayPlace p = true) := fun q d' p' hq h1 h2 => by
                  rcases Nat.lt_or_ge q j with h | h
                  · exact hall.out q d' p' h h1 h2
                  · obtain rfl : q = j := by omega
                    rw [hx2.out] at h1
                    rw [hx3] at h2
                    injection h1 with h1
                    injection h2 with h2
                    subst h1 h2
                    exact ⟨h32.out, hpl⟩
                replace hx3 := Lib.hid hx3
                replace hpl := Lib.hid hpl
                go_wp2_with fail
                go_roundw
                case rel => exact ⟨j + 1, by omega, by go_num, hall', hbr.trans (hbw2.mono hzr)⟩
                case measure => simp [intOf]; omega
            · have hd32 : ((d.size : Int) != 32) = true := by simp; omega
              have hres : Hid (addIdx ⟨k, nn, next, sn, cs, ps⟩ ds qs = (stNone, 1)) := addIdx_arg hm.out (fun h => by rw [mayNew_no1 hx2 h32] at h; cases h.2.2)
              (obtain ⟨g0, g1, g2, g3, g4, g5⟩ := (bzr.out).cells
               have e0 := (bzr.out).frozen 0
               have e1 := (bzr.out).frozen 1
               have e2 := (bzr.out).frozen 2
               have e3 := (bzr.out).frozen 3
               have e4 := (bzr.out).frozen 4
               have e5 := (bzr.out).frozen 5)
              replace h32 := Lib.hid h32
              replace hx2 := Lib.hid hx2
              replace hx3 := Lib.hid hx3
              go_wp2_with fail
              (obtain ⟨t0, t1, t2, t3, t4, t5⟩ := (BoxAt.st6 (bzr.out) 0 0 0 (.slice none 0 0) (.slice none 0 0) (.slice none 0 0)).cells
               clear g0 g1 g2 g3 g4 g5
               exact bodyPost_ret (v := .tuple #[.agg #[.int .i64 0, .int .i64 0, .int .i64 0, .slice none 0 0, .slice none 0 0, .slice none 0 0], .int .i64 1]) (by simp [results, Try.results16, go_sem, t0, t1, t2, t3, t4, t5]) rfl
                 ⟨⟨none, 0, 0, none, 0, 0, none, 0, 0⟩, by rw [hres.out]; rfl, by rw [hres.out]; exact addOut_none (below_st6 (fr) (by omega) _ _ _ _ _ _)⟩)
          · obtain rfl : j = n := by omega
            have hnew : Hid (mayNew ds qs = true) := mayNew_yes ld.out lq.out hall.out
            have bxr := Lib.hid (bx1.out.below hbr)
            have bzr := Lib.hid (bz1.out.below hbr)
            have hlr : w.heap.size + 1 < wr.heap.size := by omega
            have hn3 : n3 ≤ 1000000 := by have := hn23.out; omega
            obtain ⟨x0, x1, x2, x3, x4, x5⟩ := bxr.out.cells
            clear bx1 bz1
            go_wp2_with fail
            refine (hown.out wr fr (by omega) hn3).mono ?_
            rintro e w2 ⟨v4, v5, rfl, o4, o5, hd4, hb2⟩
            have hz2 := hb2.size
            have f2 := fr.trans (hb2.mono (by omega))
            have bx2 := bxr.out.below hb2
            have bz2 := bzr.out.below hb2
            clear x0 x1 x2 x3 x4 x5
            obtain ⟨x0, x1, x2, x3, x4, x5⟩ := bx2.cells
            have y0 := bx2.frozen 0
            have y1 := bx2.frozen 1
            have y2 := bx2.frozen 2
            have y3 := bx2.frozen 3
            have y4 := bx2.frozen 4
            have y5 := bx2.frozen 5
            have hs2 := Lib.hid (AS.start (w0 := w) (k := k) (nn := nn) (next := next) (s1 := .slice A1 n1 c1) bx2 bz2 o4 o5 hd4 hlr hz2 f2)
            obtain ⟨B4, q4, rfl⟩ := o4.form
            obtain ⟨B5, q5, rfl⟩ := o5.form
            obtain ⟨base, hbase⟩ : ∃ x, x = wr.heap.size := ⟨_, rfl⟩
            rw [← hbase] at hs2
            replace hbase := Lib.hid hbase
            have hris : Hid (RiseS cs) := mayIdx_rise hm.out
            have hmpl : Hid (∀ p ∈ ps, mayPlace p = true) := mayIdx_places hm.out
            replace o4 := Lib.hid o4
            replace o5 := Lib.hid o5
            replace bx2 := Lib.hid bx2
            replace bz2 := Lib.hid bz2
            replace hd4 := Lib.hid hd4
            clear bxr bzr
            go_wp2_with fail
            go_loopw [11, 12, 13, 14, 60, 65] (fun _ _ _ _ i _ wr => ∃ (q : Nat) (cs' : List ByteArray) (ps' : List Place) (u4 u5 : Value), q ≤ j ∧ i = .int .i64 q ∧ Hid (cs'.length = n2 + q) ∧ Hid (ps'.length = n2 + q) ∧ Hid (RiseS cs') ∧ Hid (∀ p ∈ ps', mayPlace p = true) ∧ Hid (addGo ds qs cs ps = addGo (ds.drop q) (qs.drop q) cs' ps') ∧ Hid (AS w wr w.heap.size base k nn next (.slice A1 n1 c1) u4 u5 u4 u5 cs' ps')) (fun _ _ _ _ i _ _ => j - (intOf i).toNat)
            case atStart => exact ⟨0, cs, ps, _, _, Nat.zero_le _, rfl, l2.out, by unfold Hid; rw [l3.out]; exact hn23.out.symm, hris, hmpl, rfl, hs2⟩
            case round =>
              obtain ⟨q, cs', ps', u4, u5, hq9, rfl, hl4, hl5, hri, hpl, hgo, hs⟩ := hrel
              have s := hs.out
              obtain ⟨B4', q4', rfl⟩ := s.o4.form
              obtain ⟨B5', q5', rfl⟩ := s.o5.form
              have fq := s.below
              have hzq := fq.size
              have hlq : w.heap.size + 1 < wr.heap.size := s.bz.lt
              obtain ⟨x0, x1, x2, x3, x4, x5⟩ := s.bx.cells
              by_cases hlt : q < j
              · obtain ⟨b2, o2, d, rfl, hb2, hx2, y0⟩ := (hd.to fq).str hlt
                obtain ⟨b3, o3, p, rfl, hb3, hx3, _⟩ := (hq.to fq).place hlt
                have hplp : mayPlace p = true := by
                  have := hnew.out
                  unfold mayNew at this
                  rw [Bool.and_eq_true] at this
                  exact List.all_eq_true.1 this.2 p (List.mem_of_getElem? hx3)
                have hfind := fun W (hb : Below wr.heap.size wr W) => index_find k nn next A1 n1 c1 B4' cs'.length q4' B5' ps'.length q5' cs' d W ((s.o4.row strCell_len).to hb) hri.out (by have := hl4.out; omega)
                unfold stv at hfind
                replace hfind := Lib.hid hfind
                replace s := Lib.hid s
                go_wp2_with fail
                refine (hfind.out wr (Below.refl _ _)).mono ?_
                rintro e w3 ⟨m, ok, rfl, hmn, hok, hlo, hhi, hb3w⟩
                have s3 := s.out.to hb3w
                cases ok
                · have hnin : d ∉ cs' := fun h => by
                    have h1 := (lowB_mem hri.out).2 h
                    have h2 : lowB cs' d = m := lowB_of hmn hlo (fun h => hhi m (Nat.le_refl _) h)
                    rw [h2] at h1
                    have := hok.2 h1
                    cases this
                  have hlow : lowB cs' d = m := lowB_of hmn hlo (fun h => hhi m (Nat.le_refl _) h)
                  have hl4' : Hid ((insAt m d cs').length = n2 + (q + 1)) := by unfold Hid; rw [insAt_len hmn, hl4.out]; omega
                  have hl5' : Hid ((insAt m p ps').length = n2 + (q + 1)) := by unfold Hid; rw [insAt_len (by have := hl4.out; have := hl5.out; omega), hl5.out]; omega
                  have hri' : Hid (RiseS (insAt m d cs')) := hlow ▸ rise_insAt hri.out hnin
                  have hpl' : Hid (∀ p' ∈ insAt m p ps', mayPlace p' = true) := fun p' hp' => by
                    rcases mem_insAt.1 hp' with rfl | h
                    · exact hplp
                    · exact hpl.out p' h
                  have hgo' : Hid (addGo ds qs cs ps = addGo (ds.drop (q + 1)) (qs.drop (q + 1)) (insAt m d cs') (insAt m p ps')) := by unfold Hid; rw [hgo.out, addGo_step hx2 hx3, if_neg hnin, hlow]
                  have hS : Hid (∀ (W : World) (v4 v5 : Value) (D : List ByteArray) (P : List Place), AS w W w.heap.size base k nn next (.slice A1 n1 c1) (.slice B4' cs'.length q4') (.slice B5' ps'.length q5') v4 v5 D P → (fun W : World => W.cell? ⟨w.heap.size, 4, none⟩ = some (.slice B4' cs'.length q4') ∧ W.cell? ⟨w.heap.size, 5, none⟩ = some (.slice B5' ps'.length q5') ∧ W.cell? ⟨b3, o3 + q * 3, none⟩ = some (.string p.pack) ∧ W.cell? ⟨b3, o3 + q * 3 + 1, none⟩ = some (.int .i64 p.at_) ∧ W.cell? ⟨b3, o3 + q * 3 + 2, none⟩ = some (.int .i64 p.len)) W) := fun W v4 v5 D P sa => by
                    have hpp := (hq.to sa.below).placeAt hx3
                    exact ⟨sa.bx.cells.2.2.2.2.1, sa.bx.cells.2.2.2.2.2, hpp.1, hpp.2.1, hpp.2.2⟩
                  have hn4 : Hid (∀ g, w3.heap.size ≤ g → (Value.slice B4' cs'.length q4').ownBlock ≠ some g) := fun g hg e => by have := (s3.o4.within e).2; omega
                  have hn5 : Hid (∀ g, w3.heap.size ≤ g → (Value.slice B5' ps'.length q5').ownBlock ≠ some g) := fun g hg e => by have := (s3.o5.within e).2; omega
                  have hqq : (q : Int) < (j : Int) := by omega
                  clear x0 x1 x2 x3 x4 x5 y0
                  replace hfind := Lib.hid hfind
                  replace hnin := Lib.hid hnin
                  replace hlow := Lib.hid hlow
                  replace hlo := Lib.hid hlo
                  replace hhi := Lib.hid hhi
                  replace hok := Lib.hid hok
                  replace hx2 := Lib.hid hx2
                  replace hx3 := Lib.hid hx3
                  replace hplp := Lib.hid hplp
                  go_wp2_with fail
                  refine region_held_tail 16 (fun W : World => W.cell? ⟨w.heap.size, 4, none⟩ = some (.slice B4' cs'.length q4') ∧ W.cell? ⟨w.heap.size, 5, none⟩ = some (.slice B5' ps'.length q5') ∧ W.cell? ⟨b3, o3 + q * 3, none⟩ = some (.string p.pack) ∧ W.cell? ⟨b3, o3 + q * 3 + 1, none⟩ = some (.int .i64 p.at_) ∧ W.cell? ⟨b3, o3 + q * 3 + 2, none⟩ = some (.int .i64 p.len)) (by kernel_rfl) (by kernel_rfl) ?_
                  have hHeld : (fun W : World => W.cell? ⟨w.heap.size, 4, none⟩ = some (.slice B4' cs'.length q4') ∧ W.cell? ⟨w.heap.size, 5, none⟩ = some (.slice B5' ps'.length q5') ∧ W.cell? ⟨b3, o3 + q * 3, none⟩ = some (.string p.pack) ∧ W.cell? ⟨b3, o3 + q * 3 + 1, none⟩ = some (.int .i64 p.at_) ∧ W.cell? ⟨b3, o3 + q * 3 + 2, none⟩ = some (.int .i64 p.len)) w3.drew := hS.out _ _ _ _ _ s3.drew
                  have sA := s3.drew.alloc (.cells #[.string d] 9)
                  have sB := s3.drew.alloc (.cells #[.string p.pack, .int .i64 p.at_, .int .i64 p.len] 35)
                  have sAB := sA.alloc (.cells #[.string p.pack, .int .i64 p.at_, .int .i64 p.len] 35)
                  have sBA := sB.alloc (.cells #[.string d] 9)
                  (refine HT.takeL (i := 0) (v := ?_) rfl (by kernel_rfl) (fun _ _ _ h => h) (Or.inl ⟨by rfl, ?_⟩) (by assumption) ?_
                   rotate_left
                   · (intro w hSw; (try dsimp only at hSw); go_simp; (try with_reducible rfl))
                   try simp only [Act.put, List.setIfInBounds_toArray, List.set_cons_zero, List.set_cons_succ])
                  (refine HT.takeL (i := 1) (v := ?_) rfl (by kernel_rfl) (fun _ _ _ h => h) (Or.inl ⟨by rfl, ?_⟩) (by assumption) ?_
                   rotate_left
                   · (intro w hSw; (try dsimp only at hSw); go_simp; (try with_reducible rfl))
                   try simp only [Act.put, List.setIfInBounds_toArray, List.set_cons_zero, List.set_cons_succ])
                  (refine HT.takeL (i := 2) (v := ?_) rfl (by kernel_rfl) (fun _ _ _ h => h) (Or.inl ⟨by rfl, ?_⟩) (by assumption) ?_
                   rotate_left
                   · (intro w hSw; (try dsimp only at hSw); go_simp; (try with_reducible rfl))
                   try simp only [Act.put, List.setIfInBounds_toArray, List.set_cons_zero, List.set_cons_succ])
                  (refine HT.takeL (i := 3) (v := ?_) rfl (by kernel_rfl) (fun _ _ _ h => h) (Or.inl ⟨by rfl, ?_⟩) (by assumption) ?_
                   rotate_left
                   · (intro w hSw; (try dsimp only at hSw); go_simp; (try with_reducible rfl))
                   try simp only [Act.put, List.setIfInBounds_toArray, List.set_cons_zero, List.set_cons_succ])
                  (refine HT.takeL (i := 6) (v := ?_) rfl (by kernel_rfl) (fun _ _ _ h => h) (Or.inl ⟨by rfl, ?_⟩) (by assumption) ?_
                   rotate_left
                   · (intro w hSw; (try dsimp only at hSw); go_simp; (try with_reducible rfl))
                   try simp only [Act.put, List.setIfInBounds_toArray, List.set_cons_zero, List.set_cons_succ])
                  (refine HT.takeL (i := 7) (v := ?_) rfl (by kernel_rfl) (fun _ _ _ h => h) (Or.inl ⟨by rfl, ?_⟩) (by assumption) ?_
                   rotate_left
                   · (intro w hSw; (try dsimp only at hSw); go_simp; (try with_reducible rfl))
                   try simp only [Act.put, List.setIfInBounds_toArray, List.set_cons_zero, List.set_cons_succ])
                  (refine HT.takeL (i := 8) (v := ?_) rfl (by kernel_rfl) (fun _ _ _ h => h) (Or.inl ⟨by rfl, ?_⟩) (by assumption) ?_
                   rotate_left
                   · (intro w hSw; (try dsimp only at hSw); go_simp; (try with_reducible rfl))
                   try simp only [Act.put, List.setIfInBounds_toArray, List.set_cons_zero, List.set_cons_succ])
                  (refine HT.takeL (i := 9) (v := ?_) rfl (by kernel_rfl) (fun _ _ _ h => h) (Or.inl ⟨by rfl, ?_⟩) (by assumption) ?_
                   rotate_left
                   · (intro w hSw; (try dsimp only at hSw); go_simp; (try with_reducible rfl))
                   try simp only [Act.put, List.setIfInBounds_toArray, List.set_cons_zero, List.set_cons_succ])
                  (refine HT.takeL (i := 10) (v := ?_) rfl (by kernel_rfl) (fun _ _ _ h => h) (Or.inl ⟨by rfl, ?_⟩) (by assumption) ?_
                   rotate_left
                   · (intro w hSw; (try dsimp only at hSw); go_simp; (try with_reducible rfl))
                   try simp only [Act.put, List.setIfInBounds_toArray, List.set_cons_zero, List.set_cons_succ])
                  (refine HT.takeL (i := 11) (v := ?_) rfl (by kernel_rfl) (fun _ _ _ h => h) (Or.inl ⟨by rfl, ?_⟩) (by assumption) ?_
                   rotate_left
                   · (intro w hSw; (try dsimp only at hSw); go_simp; (try with_reducible rfl))
                   try simp only [Act.put, List.setIfInBounds_toArray, List.set_cons_zero, List.set_cons_succ])
                  (refine HT.takeL (i := 12) (v := ?_) rfl (by kernel_rfl) (fun _ _ _ h => h) (Or.inl ⟨by rfl, ?_⟩) (by assumption) ?_
                   rotate_left
                   · (intro w hSw; (try dsimp only at hSw); go_simp; (try with_reducible rfl))
                   try simp only [Act.put, List.setIfInBounds_toArray, List.set_cons_zero, List.set_cons_succ])
                  refine HT.twoL (i := 4) (j := 13) rfl rfl (by kernel_rfl) (fun K hK => ?_) (fun K hK => ?_)
                  · (go_simp
                     refine hK.out _ _ ?_ (fun hHeld => ?_)
                     · (exact hS.out _ _ _ _ _ sA)
                     clear hK K
                     try simp only [Act.put, List.setIfInBounds_toArray, List.set_cons_zero, List.set_cons_succ])
                    refine HT.twoL (i := 5) (j := 13) rfl rfl (by kernel_rfl) (fun K hK => ?_) (fun K hK => ?_)
                    · (go_simp; (refine (insert_strs base (.slice B4' cs'.length q4') cs' _ _ 9 #[.string d] d m _ sA.o4 hmn (by have := hl4.out; omega) sA.hs (heap_alloc_new w3.drew _) rfl (hn4.out _ (by simp))).mono ?_; rintro e w5 ⟨v4', rfl, ho4, hgr4, hat4⟩; have s5 := AS.grow4 sA ho4 hgr4 hat4)
                       refine hK.out _ _ ?_ (fun hHeld => ?_)
                       · (exact hS.out _ _ _ _ _ s5)
                       clear hK K
                       try simp only [Act.put, List.setIfInBounds_toArray, List.set_cons_zero, List.set_cons_succ])
                      have s5B := s5.alloc (.cells #[.string p.pack, .int .i64 p.at_, .int .i64 p.len] 35)
                      (refine HT.takeL (i := 15) (v := ?_) rfl (by kernel_rfl) (fun _ _ _ h => h) (Or.inl ⟨by rfl, ?_⟩) (by assumption) ?_
                       rotate_left
                       · (intro w hSw; (try dsimp only at hSw); go_simp; (try with_reducible rfl))
                       try simp only [Act.put, List.setIfInBounds_toArray, List.set_cons_zero, List.set_cons_succ])
                      (refine HT.onlyL (i := 13) rfl (by kernel_rfl) (fun K hK => ?_)
                       go_simp
                       refine hK.out _ _ ?_ (fun hHeld => ?_)
                       · (exact hS.out _ _ _ _ _ s5B)
                       clear hK K
                       try simp only [Act.put, List.setIfInBounds_toArray, List.set_cons_zero, List.set_cons_succ])
                      (refine HT.onlyL (i := 14) rfl (by kernel_rfl) (fun K hK => ?_)
                       (go_simp; (refine (insert_places base (.slice B5' ps'.length q5') ps' _ _ 35 #[.string p.pack, .int .i64 p.at_, .int .i64 p.len] p m _ s5B.o5 (by have := hl4.out; have := hl5.out; omega) (by have := hl5.out; omega) s5B.hs (heap_alloc_new w5 _) rfl (hn5.out _ (by have := hgr4.size; simp at this; omega))).mono ?_; rintro e w6 ⟨v5', rfl, ho5, hgr5, hat5⟩; have s6 := AS.grow5 s5B ho5 hgr5 hat5))
                       refine hK.out _ _ ?_ (fun hHeld => ?_)
                       · (exact hS.out _ _ _ _ _ s6)
                       clear hK K
                       try simp only [Act.put, List.setIfInBounds_toArray, List.set_cons_zero, List.set_cons_succ])
                      refine HT.tail (by kernel_rfl) ?_
                      simp only [List.drop_succ_cons, List.drop_zero]
                      obtain ⟨B4n, q4n, rfl⟩ := s6.o4.form
                      obtain ⟨B5n, q5n, rfl⟩ := s6.o5.form
                      have hlast := Lib.hid ((s6.set4 (.slice B4n (insAt m d cs').length q4n)).set5 (.slice B5n (insAt m p ps').length q5n))
                      obtain ⟨_, _, _, _, r4, r5⟩ := s6.bx.cells
                      have rf4 := s6.bx.frozen 4
                      have rf5 := s6.bx.frozen 5
                      replace s6 := Lib.hid s6
                      replace s5 := Lib.hid s5
                      clear hgr4 hgr5 hat4 hat5 ho4 ho5 hHeld
                      go_wp2_with fail
                      go_roundw
                      case rel => exact ⟨q + 1, insAt m d cs', insAt m p ps', _, _, by omega, by go_num, hl4', hl5', hri', hpl', hgo', hlast⟩
                      case measure => simp [intOf]; omega
                    · (go_simp
                       refine hK.out _ _ ?_ (fun hHeld => ?_)
                       · (exact hS.out _ _ _ _ _ sAB)
                       clear hK K
                       try simp only [Act.put, List.setIfInBounds_toArray, List.set_cons_zero, List.set_cons_succ])
                      (refine HT.onlyL (i := 5) rfl (by kernel_rfl) (fun K hK => ?_)
                       (go_simp; (refine (insert_strs base (.slice B4' cs'.length q4') cs' _ _ 9 #[.string d] d m _ sAB.o4 hmn (by have := hl4.out; omega) sAB.hs (two_new w3.drew _ _).1 rfl (hn4.out _ (by simp))).mono ?_; rintro e w5 ⟨v4', rfl, ho4, hgr4, hat4⟩; have s5 := AS.grow4 sAB ho4 hgr4 hat4))
                       refine hK.out _ _ ?_ (fun hHeld => ?_)
                       · (exact hS.out _ _ _ _ _ s5)
                       clear hK K
                       try simp only [Act.put, List.setIfInBounds_toArray, List.set_cons_zero, List.set_cons_succ])
                      (refine HT.takeL (i := 15) (v := ?_) rfl (by kernel_rfl) (fun _ _ _ h => h) (Or.inl ⟨by rfl, ?_⟩) (by assumption) ?_
                       rotate_left
                       · (intro w hSw; (try dsimp only at hSw); go_simp; (try with_reducible rfl))
                       try simp only [Act.put, List.setIfInBounds_toArray, List.set_cons_zero, List.set_cons_succ])
                      (refine HT.onlyL (i := 14) rfl (by kernel_rfl) (fun K hK => ?_)
                       (go_simp; (refine (insert_places base (.slice B5' ps'.length q5') ps' _ _ 35 #[.string p.pack, .int .i64 p.at_, .int .i64 p.len] p m _ s5.o5 (by have := hl4.out; have := hl5.out; omega) (by have := hl5.out; omega) s5.hs ((hgr4.block _ (by first | (simp; done) | (simp; omega)) (fun e => hn4.out _ (by simp) e.symm)).trans (two_new w3.drew (.cells #[.string d] 9) (.cells #[.string p.pack, .int .i64 p.at_, .int .i64 p.len] 35)).2) rfl (hn5.out _ (by simp))).mono ?_; rintro e w6 ⟨v5', rfl, ho5, hgr5, hat5⟩; have s6 := AS.grow5 s5 ho5 hgr5 hat5))
                       refine hK.out _ _ ?_ (fun hHeld => ?_)
                       · (exact hS.out _ _ _ _ _ s6)
                       clear hK K
                       try simp only [Act.put, List.setIfInBounds_toArray, List.set_cons_zero, List.set_cons_succ])
                      refine HT.tail (by kernel_rfl) ?_
                      simp only [List.drop_succ_cons, List.drop_zero]
                      obtain ⟨B4n, q4n, rfl⟩ := s6.o4.form
                      obtain ⟨B5n, q5n, rfl⟩ := s6.o5.form
                      have hlast := Lib.hid ((s6.set4 (.slice B4n (insAt m d cs').length q4n)).set5 (.slice B5n (insAt m p ps').length q5n))
                      obtain ⟨_, _, _, _, r4, r5⟩ := s6.bx.cells
                      have rf4 := s6.bx.frozen 4
                      have rf5 := s6.bx.frozen 5
                      replace s6 := Lib.hid s6
                      replace s5 := Lib.hid s5
                      clear hgr4 hgr5 hat4 hat5 ho4 ho5 hHeld
                      go_wp2_with fail
                      go_roundw
                      case rel => exact ⟨q + 1, insAt m d cs', insAt m p ps', _, _, by omega, by go_num, hl4', hl5', hri', hpl', hgo', hlast⟩
                      case measure => simp [intOf]; omega
                  · (go_simp
                     refine hK.out _ _ ?_ (fun hHeld => ?_)
                     · (exact hS.out _ _ _ _ _ sB)
                     clear hK K
                     try simp only [Act.put, List.setIfInBounds_toArray, List.set_cons_zero, List.set_cons_succ])
                    (refine HT.onlyL (i := 4) rfl (by kernel_rfl) (fun K hK => ?_)
                     go_simp
                     refine hK.out _ _ ?_ (fun hHeld => ?_)
                     · (exact hS.out _ _ _ _ _ sBA)
                     clear hK K
                     try simp only [Act.put, List.setIfInBounds_toArray, List.set_cons_zero, List.set_cons_succ])
                    (refine HT.onlyL (i := 5) rfl (by kernel_rfl) (fun K hK => ?_)
                     (go_simp; (refine (insert_strs base (.slice B4' cs'.length q4') cs' _ _ 9 #[.string d] d m _ sBA.o4 hmn (by have := hl4.out; omega) sBA.hs (two_new w3.drew _ _).2 rfl (hn4.out _ (by simp))).mono ?_; rintro e w5 ⟨v4', rfl, ho4, hgr4, hat4⟩; have s5 := AS.grow4 sBA ho4 hgr4 hat4))
                     refine hK.out _ _ ?_ (fun hHeld => ?_)
                     · (exact hS.out _ _ _ _ _ s5)
                     clear hK K
                     try simp only [Act.put, List.setIfInBounds_toArray, List.set_cons_zero, List.set_cons_succ])
                    (refine HT.takeL (i := 15) (v := ?_) rfl (by kernel_rfl) (fun _ _ _ h => h) (Or.inl ⟨by rfl, ?_⟩) (by assumption) ?_
                     rotate_left
                     · (intro w hSw; (try dsimp only at hSw); go_simp; (try with_reducible rfl))
                     try simp only [Act.put, List.setIfInBounds_toArray, List.set_cons_zero, List.set_cons_succ])
                    (refine HT.onlyL (i := 14) rfl (by kernel_rfl) (fun K hK => ?_)
                     (go_simp; (refine (insert_places base (.slice B5' ps'.length q5') ps' _ _ 35 #[.string p.pack, .int .i64 p.at_, .int .i64 p.len] p m _ s5.o5 (by have := hl4.out; have := hl5.out; omega) (by have := hl5.out; omega) s5.hs ((hgr4.block _ (by first | (simp; done) | (simp; omega)) (fun e => hn4.out _ (by simp) e.symm)).trans (two_new w3.drew (.cells #[.string p.pack, .int .i64 p.at_, .int .i64 p.len] 35) (.cells #[.string d] 9)).1) rfl (hn5.out _ (by simp))).mono ?_; rintro e w6 ⟨v5', rfl, ho5, hgr5, hat5⟩; have s6 := AS.grow5 s5 ho5 hgr5 hat5))
                     refine hK.out _ _ ?_ (fun hHeld => ?_)
                     · (exact hS.out _ _ _ _ _ s6)
                     clear hK K
                     try simp only [Act.put, List.setIfInBounds_toArray, List.set_cons_zero, List.set_cons_succ])
                    refine HT.tail (by kernel_rfl) ?_
                    simp only [List.drop_succ_cons, List.drop_zero]
                    obtain ⟨B4n, q4n, rfl⟩ := s6.o4.form
                    obtain ⟨B5n, q5n, rfl⟩ := s6.o5.form
                    have hlast := Lib.hid ((s6.set4 (.slice B4n (insAt m d cs').length q4n)).set5 (.slice B5n (insAt m p ps').length q5n))
                    obtain ⟨_, _, _, _, r4, r5⟩ := s6.bx.cells
                    have rf4 := s6.bx.frozen 4
                    have rf5 := s6.bx.frozen 5
                    replace s6 := Lib.hid s6
                    replace s5 := Lib.hid s5
                    clear hgr4 hgr5 hat4 hat5 ho4 ho5 hHeld
                    go_wp2_with fail
                    go_roundw
                    case rel => exact ⟨q + 1, insAt m d cs', insAt m p ps', _, _, by omega, by go_num, hl4', hl5', hri', hpl', hgo', hlast⟩
                    case measure => simp [intOf]; omega
                · have hin : d ∈ cs' := List.mem_of_getElem? (hok.1 rfl)
                  have hres : Hid (addIdx ⟨k, nn, next, sn, cs, ps⟩ ds qs = (stNone, 6)) := addIdx_none hm.out (by rw [ld.out, lq.out]) (by rw [ld.out]; omega) hnew.out (by rw [hgo.out, addGo_step hx2 hx3, if_pos hin])
                  have hl3 : w.heap.size + 1 < w3.heap.size := s3.bz.lt
                  (obtain ⟨g0, g1, g2, g3, g4, g5⟩ := (s3.bz).cells
                   have e0 := (s3.bz).frozen 0
                   have e1 := (s3.bz).frozen 1
                   have e2 := (s3.bz).frozen 2
                   have e3 := (s3.bz).frozen 3
                   have e4 := (s3.bz).frozen 4
                   have e5 := (s3.bz).frozen 5)
                  clear x0 x1 x2 x3 x4 x5 y0
                  replace s3 := Lib.hid s3
                  replace hx2 := Lib.hid hx2
                  replace hx3 := Lib.hid hx3
                  replace hin := Lib.hid hin
                  replace hok := Lib.hid hok
                  replace hlo := Lib.hid hlo
                  replace hhi := Lib.hid hhi
                  replace hplp := Lib.hid hplp
                  go_wp2_with fail
                  (obtain ⟨t0, t1, t2, t3, t4, t5⟩ := (BoxAt.st6 (s3.out.bz) 0 0 0 (.slice none 0 0) (.slice none 0 0) (.slice none 0 0)).cells
                   clear g0 g1 g2 g3 g4 g5
                   exact bodyPost_ret (v := .tuple #[.agg #[.int .i64 0, .int .i64 0, .int .i64 0, .slice none 0 0, .slice none 0 0, .slice none 0 0], .int .i64 6]) (by simp [results, Try.results16, go_sem, t0, t1, t2, t3, t4, t5]) rfl
                     ⟨⟨none, 0, 0, none, 0, 0, none, 0, 0⟩, by rw [hres.out]; rfl, by rw [hres.out]; exact addOut_none (below_st6 (s3.out.below) (by omega) _ _ _ _ _ _)⟩)
              · obtain rfl : q = j := by omega
                have hfin : addGo ds qs cs ps = some (cs', ps') := by rw [hgo.out, addGo_end ld.out]
                by_cases hmany : 400 < n2 + q
                · have hres : Hid (addIdx ⟨k, nn, next, sn, cs, ps⟩ ds qs = (stNone, 40)) := addIdx_many hm.out (by rw [ld.out, lq.out]) (by rw [ld.out]; exact Nat.pos_of_ne_zero hn0.out) hnew.out hfin (by rw [hl4.out]; exact hmany)
                  have hg1 : decide ((400 : Int) < (n2 : Int) + (q : Int)) = true := by simp; omega
                  (obtain ⟨g0, g1, g2, g3, g4, g5⟩ := (s.bz).cells
                   have e0 := (s.bz).frozen 0
                   have e1 := (s.bz).frozen 1
                   have e2 := (s.bz).frozen 2
                   have e3 := (s.bz).frozen 3
                   have e4 := (s.bz).frozen 4
                   have e5 := (s.bz).frozen 5)
                  replace s := Lib.hid s
                  replace hfin := Lib.hid hfin
                  replace hmany := Lib.hid hmany
                  go_wp2_with fail
                  (obtain ⟨t0, t1, t2, t3, t4, t5⟩ := (BoxAt.st6 (s.out.bz) 0 0 0 (.slice none 0 0) (.slice none 0 0) (.slice none 0 0)).cells
                   clear g0 g1 g2 g3 g4 g5
                   exact bodyPost_ret (v := .tuple #[.agg #[.int .i64 0, .int .i64 0, .int .i64 0, .slice none 0 0, .slice none 0 0, .slice none 0 0], .int .i64 40]) (by simp [results, Try.results16, go_sem, t0, t1, t2, t3, t4, t5]) rfl
                     ⟨⟨none, 0, 0, none, 0, 0, none, 0, 0⟩, by rw [hres.out]; rfl, by rw [hres.out]; exact addOut_none (below_st6 (s.out.below) (by omega) _ _ _ _ _ _)⟩)
                · have hg1 : decide ((400 : Int) < (n2 : Int) + (q : Int)) = false := by simp; omega
                  have hap := Lib.hid (index_apart B5' ps'.length q5' ps' wr (s.o5.row Place.cells_len) (by have := hl5.out; omega) hpl.out)
                  replace s := Lib.hid s
                  go_wp2_with fail
                  refine hap.out.mono ?_
                  cases hapart : apartB ps'
                  · rintro e w3 ⟨rfl, hb3⟩
                    have hres : Hid (addIdx ⟨k, nn, next, sn, cs, ps⟩ ds qs = (stNone, 1)) := addIdx_apart hm.out (by rw [ld.out, lq.out]) (by rw [ld.out]; exact Nat.pos_of_ne_zero hn0.out) hnew.out hfin (by rw [hl4.out]; exact hmany) hapart
                    have s3 := s.out.to hb3
                    have hl3 : w.heap.size + 1 < w3.heap.size := s3.bz.lt
                    clear x0 x1 x2 x3 x4 x5
                    (obtain ⟨g0, g1, g2, g3, g4, g5⟩ := (s3.bz).cells
                     have e0 := (s3.bz).frozen 0
                     have e1 := (s3.bz).frozen 1
                     have e2 := (s3.bz).frozen 2
                     have e3 := (s3.bz).frozen 3
                     have e4 := (s3.bz).frozen 4
                     have e5 := (s3.bz).frozen 5)
                    replace s3 := Lib.hid s3
                    replace hfin := Lib.hid hfin
                    replace hmany := Lib.hid hmany
                    replace hap := Lib.hid hap
                    replace hapart := Lib.hid hapart
                    go_wp2_with fail
                    (obtain ⟨t0, t1, t2, t3, t4, t5⟩ := (BoxAt.st6 (s3.out.bz) 0 0 0 (.slice none 0 0) (.slice none 0 0) (.slice none 0 0)).cells
                     clear g0 g1 g2 g3 g4 g5
                     exact bodyPost_ret (v := .tuple #[.agg #[.int .i64 0, .int .i64 0, .int .i64 0, .slice none 0 0, .slice none 0 0, .slice none 0 0], .int .i64 1]) (by simp [results, Try.results16, go_sem, t0, t1, t2, t3, t4, t5]) rfl
                       ⟨⟨none, 0, 0, none, 0, 0, none, 0, 0⟩, by rw [hres.out]; rfl, by rw [hres.out]; exact addOut_none (below_st6 (s3.out.below) (by omega) _ _ _ _ _ _)⟩)
                  · rintro e w3 ⟨rfl, hb3⟩
                    have hres : Hid (addIdx ⟨k, nn, next, sn, cs, ps⟩ ds qs = (⟨k, nn, next, sn, cs', ps'⟩, 0)) := addIdx_ok hm.out (by rw [ld.out, lq.out]) (by rw [ld.out]; exact Nat.pos_of_ne_zero hn0.out) hnew.out hfin (by rw [hl4.out]; exact hmany) hapart
                    have s3 := s.out.to hb3
                    have hl3 : w.heap.size + 1 < w3.heap.size := s3.bz.lt
                    clear x0 x1 x2 x3 x4 x5
                    obtain ⟨x0, x1, x2, x3, x4, x5⟩ := s3.bx.cells
                    (obtain ⟨g0, g1, g2, g3, g4, g5⟩ := (s3.bz).cells
                     have e0 := (s3.bz).frozen 0
                     have e1 := (s3.bz).frozen 1
                     have e2 := (s3.bz).frozen 2
                     have e3 := (s3.bz).frozen 3
                     have e4 := (s3.bz).frozen 4
                     have e5 := (s3.bz).frozen 5)
                    have hfb := below_st6 s3.below (b := w.heap.size + 1) (by omega) k nn next (.slice A1 n1 c1) (.slice B4' cs'.length q4') (.slice B5' ps'.length q5')
                    have ho4 := s3.o4.st6 (b := w.heap.size + 1) s3.hb k nn next (.slice A1 n1 c1) (.slice B4' cs'.length q4') (.slice B5' ps'.length q5')
                    have ho5 := s3.o5.st6 (b := w.heap.size + 1) s3.hb k nn next (.slice A1 n1 c1) (.slice B4' cs'.length q4') (.slice B5' ps'.length q5')
                    have hout : Hid (AddOut w (st6 w3 (w.heap.size + 1) k nn next (.slice A1 n1 c1) (.slice B4' cs'.length q4') (.slice B5' ps'.length q5')) ⟨A1, n1, c1, B4', cs'.length, q4', B5', ps'.length, q5'⟩ ⟨k, nn, next, sn, cs', ps'⟩) :=
                      ⟨⟨h1.to hfb, ho4.row strCell_len, ho5.row Place.cells_len, fun p hp => placeOk_of (hpl.out p hp)⟩, ho4.from (by have := s3.hb; omega), ho5.from (by have := s3.hb; omega), hfb⟩
                    have bz9 := Lib.hid (s3.bz.st6 k nn next (.slice A1 n1 c1) (.slice B4' cs'.length q4') (.slice B5' ps'.length q5'))
                    replace s3 := Lib.hid s3
                    replace hfin := Lib.hid hfin
                    replace hmany := Lib.hid hmany
                    replace hap := Lib.hid hap
                    replace hapart := Lib.hid hapart
                    clear hfb ho4 ho5
                    go_wp2_with fail
                    clear g0 g1 g2 g3 g4 g5 x0 x1 x2 x3 x4 x5
                    obtain ⟨t0, t1, t2, t3, t4, t5⟩ := bz9.out.cells
                    exact bodyPost_ret (v := .tuple #[.agg #[.int .i64 k, .int .i64 nn, .int .i64 next, .slice A1 n1 c1, .slice B4' cs'.length q4', .slice B5' ps'.length q5'], .int .i64 0]) (by simp [results, Try.results16, go_sem, t0, t1, t2, t3, t4, t5]) rfl ⟨⟨A1, n1, c1, B4', cs'.length, q4', B5', ps'.length, q5'⟩, by rw [hres.out], by rw [hres.out]; exact hout.out⟩
    · have hb : ((n : Int) != (n' : Int)) = true := by simp; omega
      have hres : Hid (addIdx ⟨k, nn, next, sn, cs, ps⟩ ds qs = (stNone, 1)) := addIdx_arg hm (fun h => by have := ld.out; have := lq.out; omega)
      (obtain ⟨g0, g1, g2, g3, g4, g5⟩ := (bz1.out).cells
       have e0 := (bz1.out).frozen 0
       have e1 := (bz1.out).frozen 1
       have e2 := (bz1.out).frozen 2
       have e3 := (bz1.out).frozen 3
       have e4 := (bz1.out).frozen 4
       have e5 := (bz1.out).frozen 5)
      replace hnn := Lib.hid hnn
      go_wp2_with fail
      (obtain ⟨t0, t1, t2, t3, t4, t5⟩ := (BoxAt.st6 (bz1.out) 0 0 0 (.slice none 0 0) (.slice none 0 0) (.slice none 0 0)).cells
       clear g0 g1 g2 g3 g4 g5
       exact bodyPost_ret (v := .tuple #[.agg #[.int .i64 0, .int .i64 0, .int .i64 0, .slice none 0 0, .slice none 0 0, .slice none 0 0], .int .i64 1]) (by simp [results, Try.results16, go_sem, t0, t1, t2, t3, t4, t5]) rfl
         ⟨⟨none, 0, 0, none, 0, 0, none, 0, 0⟩, by rw [hres.out]; rfl, by rw [hres.out]; exact addOut_none (below_st6 (f1) (by omega) _ _ _ _ _ _)⟩)

/-- A contract that tells a state of rows of the call's own, spelled out. -/
theorem outs {f : FuncId} {args : Array Value} {W : World} {R : St} {z : Int} (h : Calls Try.prog f args W fun e w' => ∃ r : Rws, e = .returned (.tuple #[r.val R, .int .i64 z]) ∧ AddOut W w' r R) :
    Calls Try.prog f args W fun e w' => ∃ (A1 : Option Addr) (n1 c1 : Nat) (A2 : Option Addr) (n2 c2 : Nat) (A3 : Option Addr) (n3 c3 : Nat), e = .returned (.tuple #[.agg #[.int .i64 R.k, .int .i64 R.n, .int .i64 R.next, .slice A1 n1 c1, .slice A2 n2 c2, .slice A3 n3 c3], .int .i64 z]) ∧ AddOut W w' ⟨A1, n1, c1, A2, n2, c2, A3, n3, c3⟩ R :=
  h.mono fun e w' ⟨r, he, ho⟩ => ⟨r.A1, r.n1, r.c1, r.A2, r.n2, r.c2, r.A3, r.n3, r.c3, he, ho⟩
end Go.Proofs.Ytbfephekkfieaaa
