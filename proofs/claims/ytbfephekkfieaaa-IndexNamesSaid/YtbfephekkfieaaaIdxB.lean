/-
  The contracts of index.Find.
-/
import Derived.Test.YtbfephekkfieaaaIdxA
import Derived.Test.YtbfephekkfieaaaFindL
namespace Go.Proofs.Ytbfephekkfieaaa
open Go.RowKit
attribute [local go_sem ↓] Go.wp_at_zero Go.wp_at_succ

set_option maxHeartbeats 4000000 in
set_option maxRecDepth 100000 in
theorem index_Find (v : Rws) (s : St) (d : ByteArray) (w : World) (h : StAt w w.heap.size v s) :
    Calls Try.prog 19 #[v.val s, .string d] w fun e w' => e = .returned (.tuple #[(findP s d).1.agg, .int .i64 (findP s d).2]) ∧ Below w.heap.size w w' := by
  obtain ⟨k, n, next, sn, cs, ps⟩ := s
  obtain ⟨A1, n1, c1, A2, n2, c2, A3, n3, c3⟩ := v
  obtain ⟨-, h2, h3, hok⟩ := h
  dsimp only at h2 h3 hok
  unfold Rws.val stv
  dsimp only
  have l2 := Lib.hid h2.1
  have l3 := Lib.hid h3.1
  have hmay := fun W (hb : Below w.heap.size w W) => index_May k n next A1 n1 c1 A2 n2 c2 A3 n3 c3 cs ps W (h2.to hb) (h3.to hb) hok
  unfold stv at hmay
  replace hmay := Lib.hid hmay
  have bs := BoxAt.new w k n next (.slice A1 n1 c1) (.slice A2 n2 c2) (.slice A3 n3 c3)
  have bp := PBox.new (w.alloc (.cells #[.int .i64 k, .int .i64 n, .int .i64 next, .slice A1 n1 c1, .slice A2 n2 c2, .slice A3 n3 c3] 29)) Place.zero
  simp only [Place.zero, World.size_alloc] at bp
  have bs' := bs.alloc (.cells #[.string ⟨#[]⟩, .int .i64 0, .int .i64 0] 35)
  replace bp := Lib.hid bp
  replace bs' := Lib.hid bs'
  clear bs
  replace hok := Lib.hid hok
  cases hm : mayIdx cs ps
  · have hres : Hid (findP ⟨k, n, next, sn, cs, ps⟩ d = (Place.zero, 4)) := findP_form hm
    rw [hm] at hmay
    replace hm := Lib.hid hm
    go_enter Try.func19, Try.ntmps19
    go_wp2_with fail
    refine (hmay.out _ (by repeat (first | exact Below.refl _ _ | assumption | refine Below.drew ?_ | refine below_drewN ?_ _ | refine Below.alloc ?_ (by first | omega | (simp; try omega)) _ | refine Below.setCell ?_ (by first | omega | (simp; try omega)) _ | (refine Below.trans ?_ (Below.mono (by assumption) (by first | omega | (simp; try omega))))))).mono ?_
    rintro e w1 ⟨rfl, hb1⟩
    have hz1 := hb1.size
    simp at hz1
    have hb : Below w.heap.size w w1 := (by repeat (first | exact Below.refl _ _ | assumption | refine Below.drew ?_ | refine below_drewN ?_ _ | refine Below.alloc ?_ (by first | omega | (simp; try omega)) _ | refine Below.setCell ?_ (by first | omega | (simp; try omega)) _ | (refine Below.trans ?_ (Below.mono (by assumption) (by first | omega | (simp; try omega))))))
    have bp1 := bp.out.below hb1
    obtain ⟨k0, k1, k2⟩ := bp1.cells
    have e0 := bp1.frozen 0
    have e1 := bp1.frozen 1
    have e2 := bp1.frozen 2
    have hlt : w.heap.size + 1 < w1.heap.size := by omega
    clear hb1
    replace bp1 := Lib.hid bp1
    go_wp2_with fail
    exact bodyPost_ret (v := .tuple #[Place.zero.agg, .int .i64 4]) (by simp [results, Try.results19, go_sem, Place.agg, Place.zero, k0, k1, k2]) rfl ⟨by rw [hres.out], (by repeat (first | exact Below.refl _ _ | assumption | refine Below.drew ?_ | refine below_drewN ?_ _ | refine Below.alloc ?_ (by first | omega | (simp; try omega)) _ | refine Below.setCell ?_ (by first | omega | (simp; try omega)) _ | (refine Below.trans ?_ (Below.mono (by assumption) (by first | omega | (simp; try omega))))))⟩
  · have hr := mayIdx_rise hm
    obtain ⟨hlen, h400⟩ := mayIdx_len hm
    have hn2 : n2 = n3 := by have := l2.out; have := l3.out; omega
    have hfind := fun W (hb : Below w.heap.size w W) => index_find k n next A1 n1 c1 A2 n2 c2 A3 n3 c3 cs d W (h2.to hb) hr (by have := l2.out; omega)
    unfold stv at hfind
    replace hfind := Lib.hid hfind
    rw [hm] at hmay
    replace hm := Lib.hid hm
    replace hr := Lib.hid hr
    replace hn2 := Lib.hid hn2
    replace hlen := Lib.hid hlen
    clear h400
    go_enter Try.func19, Try.ntmps19
    go_wp2_with fail
    refine (hmay.out _ (by repeat (first | exact Below.refl _ _ | assumption | refine Below.drew ?_ | refine below_drewN ?_ _ | refine Below.alloc ?_ (by first | omega | (simp; try omega)) _ | refine Below.setCell ?_ (by first | omega | (simp; try omega)) _ | (refine Below.trans ?_ (Below.mono (by assumption) (by first | omega | (simp; try omega))))))).mono ?_
    rintro e w1 ⟨rfl, hb1⟩
    have hz1 := hb1.size
    simp at hz1
    have hb : Below w.heap.size w w1 := (by repeat (first | exact Below.refl _ _ | assumption | refine Below.drew ?_ | refine below_drewN ?_ _ | refine Below.alloc ?_ (by first | omega | (simp; try omega)) _ | refine Below.setCell ?_ (by first | omega | (simp; try omega)) _ | (refine Below.trans ?_ (Below.mono (by assumption) (by first | omega | (simp; try omega))))))
    have bp1 := bp.out.below hb1
    have bs1 := bs'.out.below hb1
    obtain ⟨x0, x1, x2, x3, x4, x5⟩ := bs1.cells
    replace bp1 := Lib.hid bp1
    replace bs1 := Lib.hid bs1
    clear hb1
    go_wp2_with fail
    refine (hfind.out _ (by repeat (first | exact Below.refl _ _ | assumption | refine Below.drew ?_ | refine below_drewN ?_ _ | refine Below.alloc ?_ (by first | omega | (simp; try omega)) _ | refine Below.setCell ?_ (by first | omega | (simp; try omega)) _ | (refine Below.trans ?_ (Below.mono (by assumption) (by first | omega | (simp; try omega))))))).mono ?_
    rintro e w2 ⟨m, ok, rfl, hmn, hokm, hlo, hhi, hb2⟩
    have hz2 := hb2.size
    have bp2 := bp1.out.below hb2
    have bs2 := bs1.out.below hb2
    clear x0 x1 x2 x3 x4 x5
    obtain ⟨x0, x1, x2, x3, x4, x5⟩ := bs2.cells
    obtain ⟨k0, k1, k2⟩ := bp2.cells
    have e0 := bp2.frozen 0
    have e1 := bp2.frozen 1
    have e2 := bp2.frozen 2
    replace bp2 := Lib.hid bp2
    have hb02 : Below w.heap.size w w2 := (by repeat (first | exact Below.refl _ _ | assumption | refine Below.drew ?_ | refine below_drewN ?_ _ | refine Below.alloc ?_ (by first | omega | (simp; try omega)) _ | refine Below.setCell ?_ (by first | omega | (simp; try omega)) _ | (refine Below.trans ?_ (Below.mono (by assumption) (by first | omega | (simp; try omega))))))
    cases ok
    · have hres : Hid (findP ⟨k, n, next, sn, cs, ps⟩ d = (Place.zero, 5)) := by
        refine findP_none hm.out (posOf_none.2 fun hd => ?_)
        obtain ⟨i, hi⟩ := List.getElem?_of_mem hd
        replace hi : cs[i]? = some d := hi
        have hin := (List.getElem?_eq_some_iff.1 hi).1
        have hne : i ≠ m := fun e => by subst e; exact absurd (hokm.2 hi) (by decide)
        rcases Nat.lt_or_ge i m with h' | h'
        · have := hlo i h'
          rw [geAt_eq hi, sLt_irrefl] at this
          cases this
        · have h1 := hhi m (Nat.le_refl _) (by have := l2.out; omega)
          obtain ⟨c, hc⟩ := getElem_some (l := cs) (i := m) (by omega)
          have := List.pairwise_iff_getElem.1 hr.out m i (by omega) hin (by omega)
          rw [(List.getElem?_eq_some_iff.1 hi).2, (List.getElem?_eq_some_iff.1 hc).2] at this
          rw [geAt_eq hc, this] at h1
          cases h1
      replace hokm := Lib.hid hokm
      clear hlo hhi
      go_wp2_with fail
      exact bodyPost_ret (v := .tuple #[Place.zero.agg, .int .i64 5]) (by simp [results, Try.results19, go_sem, Place.agg, Place.zero, k0, k1, k2]) rfl ⟨by rw [hres.out], (by repeat (first | exact Below.refl _ _ | assumption | refine Below.drew ?_ | refine below_drewN ?_ _ | refine Below.alloc ?_ (by first | omega | (simp; try omega)) _ | refine Below.setCell ?_ (by first | omega | (simp; try omega)) _ | (refine Below.trans ?_ (Below.mono (by assumption) (by first | omega | (simp; try omega))))))⟩
    · have hcm : cs[m]? = some d := hokm.1 rfl
      have hm2 : m < n2 := by have := (List.getElem?_eq_some_iff.1 hcm).1; have := l2.out; omega
      have hm3 : m < n3 := by have := hn2.out; omega
      obtain ⟨b, off, p, rfl, hbA, hp, y0, y1, y2⟩ := (h3.to hb02).place (i := m) (by have := hn2.out; omega)
      have hres : Hid (findP ⟨k, n, next, sn, cs, ps⟩ d = (p, 0)) := findP_some hm.out (posOf_of_at hr.out hcm) hp
      replace hokm := Lib.hid hokm
      replace hcm := Lib.hid hcm
      replace hp := Lib.hid hp
      clear hlo hhi
      go_wp2_with fail
      exact bodyPost_ret (v := .tuple #[p.agg, .int .i64 0]) (by simp [results, Try.results19, go_sem, Place.agg, k0, k1, k2]) rfl ⟨by rw [hres.out], (by repeat (first | exact Below.refl _ _ | assumption | refine Below.drew ?_ | refine below_drewN ?_ _ | refine Below.alloc ?_ (by first | omega | (simp; try omega)) _ | refine Below.setCell ?_ (by first | omega | (simp; try omega)) _ | (refine Below.trans ?_ (Below.mono (by assumption) (by first | omega | (simp; try omega))))))⟩
end Go.Proofs.Ytbfephekkfieaaa
