/-
  The contract of index.Drop.
-/
import Derived.Test.YtbfephekkfieaaaAddB
namespace Go.Proofs.Ytbfephekkfieaaa
open Go.RowKit Go.Maps
attribute [local go_sem ↓] Go.wp_at_zero Go.wp_at_succ

section
variable {s : St} {ds cs : List ByteArray} {ps : List Place} {c : ByteArray} {p : Place}
theorem dropGo_snoc : ∀ {cs : List ByteArray} {ps : List Place}, cs.length = ps.length → dropGo ds (cs ++ [c]) (ps ++ [p]) = if c ∈ ds then dropGo ds cs ps else ((dropGo ds cs ps).1 ++ [c], (dropGo ds cs ps).2 ++ [p])
  | [], [], _ => by by_cases h : c ∈ ds <;> simp [dropGo, h]
  | a :: cs, q :: ps, h => by
    have ih := dropGo_snoc (cs := cs) (ps := ps) (by simpa using h)
    simp only [List.cons_append, dropGo]
    by_cases ha : a ∈ ds
    · rw [if_pos ha, if_pos ha, ih]
    · rw [if_neg ha, if_neg ha, ih]
      by_cases hc : c ∈ ds <;> simp [hc]
theorem dropGo_take {i : Nat} (h : cs.length = ps.length) (hc : cs[i]? = some c) (hp : ps[i]? = some p) :
    dropGo ds (cs.take (i + 1)) (ps.take (i + 1)) = if c ∈ ds then dropGo ds (cs.take i) (ps.take i) else ((dropGo ds (cs.take i) (ps.take i)).1 ++ [c], (dropGo ds (cs.take i) (ps.take i)).2 ++ [p]) := by
  rw [List.take_add_one, hc, List.take_add_one, hp]
  exact dropGo_snoc (by rw [List.length_take, List.length_take, h])
theorem dropGo_len : ∀ {cs : List ByteArray} {ps : List Place}, (dropGo ds cs ps).1.length ≤ cs.length ∧ (dropGo ds cs ps).2.length ≤ cs.length
  | [], _ => by simp [dropGo]
  | _ :: _, [] => by simp [dropGo]
  | a :: cs, q :: ps => by
    have ih := dropGo_len (cs := cs) (ps := ps)
    simp only [dropGo]
    split
    · simp only [List.length_cons]; omega
    · simp only [List.length_cons]; omega
theorem dropGo_sub : ∀ {cs : List ByteArray} {ps : List Place}, ∀ x ∈ (dropGo ds cs ps).2, x ∈ ps
  | [], _, x, h => by simp [dropGo] at h
  | _ :: _, [], x, h => by simp [dropGo] at h
  | a :: cs, q :: ps, x, h => by
    simp only [dropGo] at h
    split at h
    · exact List.mem_cons_of_mem _ (dropGo_sub x h)
    · rcases List.mem_cons.1 h with rfl | h
      · exact List.mem_cons_self
      · exact List.mem_cons_of_mem _ (dropGo_sub x h)
theorem dropIdx_form (h : mayIdx s.cs s.ps = false) : dropIdx s ds = (stNone, 4) := by simp [dropIdx, h]
theorem dropIdx_none {i : Nat} (h : mayIdx s.cs s.ps = true) (hi : ds[i]? = some c) (hc : c ∉ s.cs) : dropIdx s ds = (stNone, 5) := by
  unfold dropIdx
  rw [if_pos h, if_neg]
  intro h1
  exact hc (of_decide_eq_true (List.all_eq_true.1 h1 c (List.mem_of_getElem? hi)))
theorem dropIdx_ok {n : Nat} (h : mayIdx s.cs s.ps = true) (hl : ds.length = n) (hc : ∀ (i : Nat) (c : ByteArray), i < n → ds[i]? = some c → c ∈ s.cs) : dropIdx s ds = (⟨s.k, s.n, s.next, s.sn, (dropGo ds s.cs s.ps).1, (dropGo ds s.cs s.ps).2⟩, 0) := by
  unfold dropIdx
  rw [if_pos h, if_pos]
  refine List.all_eq_true.2 fun x hx => ?_
  obtain ⟨i, hi⟩ := List.getElem?_of_mem hx
  exact decide_eq_true (hc i x (by have := (List.getElem?_eq_some_iff.1 hi).1; omega) hi)

theorem atI_in {d : ByteArray} {l : List ByteArray} (h : d ∈ l) : ∃ i : Nat, atI d l = (i : Int) := by
  unfold atI
  cases hp : posOf d l with
  | none => exact absurd h (posOf_none.1 hp)
  | some i => exact ⟨i, rfl⟩
theorem atI_out {d : ByteArray} {l : List ByteArray} (h : d ∉ l) : atI d l = -1 := by
  unfold atI
  rw [posOf_none.2 h]

theorem cnt_pos {n : Nat} (h : c ∈ ds) (hn : Hid (n = ds.count c)) : ((n : Int) == 0) = false := by
  have := List.count_pos_iff.2 h
  have := hn.out
  simp
  omega
theorem cnt_zero {n : Nat} (h : c ∉ ds) (hn : Hid (n = ds.count c)) : ((n : Int) == 0) = true := by
  have := List.count_eq_zero.2 h
  have := hn.out
  simp
  omega
end

theorem insAt_same {α β : Type} {i : Nat} {x : α} {y : β} {l : List α} {m : List β} (h : l.length = m.length) : (insAt i x l).length = (insAt i y m).length := by
  simp [insAt, h]
theorem addGo_lens : ∀ {ds : List ByteArray} {qs : List Place} {cs : List ByteArray} {ps : List Place} {cs' : List ByteArray} {ps' : List Place}, cs.length = ps.length → addGo ds qs cs ps = some (cs', ps') → cs'.length = ps'.length
  | [], _, cs, ps, cs', ps', h, e => by
    simp only [addGo, Option.some.injEq, Prod.mk.injEq] at e
    obtain ⟨rfl, rfl⟩ := e
    exact h
  | d :: ds, [], cs, ps, cs', ps', h, e => by
    simp only [addGo, Option.some.injEq, Prod.mk.injEq] at e
    obtain ⟨rfl, rfl⟩ := e
    exact h
  | d :: ds, q :: qs, cs, ps, cs', ps', h, e => by
    simp only [addGo] at e
    split at e
    · cases e
    · exact addGo_lens (insAt_same h) e
theorem addIdx_lens (s : St) (ds : List ByteArray) (qs : List Place) : (addIdx s ds qs).1.cs.length = (addIdx s ds qs).1.ps.length := by
  unfold addIdx
  split
  · rename_i hm
    split
    · cases hg : addGo ds qs s.cs s.ps with
      | none => rfl
      | some x =>
        obtain ⟨cs', ps'⟩ := x
        dsimp only
        split
        · rfl
        · split
          · exact addGo_lens (mayIdx_len hm).1 hg
          · rfl
    · rfl
  · rfl
theorem dropGo_lens (ds : List ByteArray) : ∀ (cs : List ByteArray) (ps : List Place), (dropGo ds cs ps).1.length = (dropGo ds cs ps).2.length
  | [], _ => by simp [dropGo]
  | _ :: _, [] => by simp [dropGo]
  | a :: cs, q :: ps => by
    have ih := dropGo_lens ds cs ps
    simp only [dropGo]
    split
    · exact ih
    · simp only [List.length_cons, ih]
theorem dropIdx_lens (s : St) (ds : List ByteArray) : (dropIdx s ds).1.cs.length = (dropIdx s ds).1.ps.length := by
  unfold dropIdx
  split
  · split
    · exact dropGo_lens _ _ _
    · rfl
  · rfl

/-- Block b9 is the box of the state that is being built: it holds c4, c5; v4, v5 are rows of the call's own, which read as D and P. -/
structure DS (w0 w : World) (b9 base : Nat) (k nn next : Int) (s1 c4 c5 v4 v5 : Value) (D : List ByteArray) (P : List Place) : Prop where
  bx : BoxAt w b9 k nn next s1 c4 c5
  o4 : strE.Own w base v4 D
  o5 : placeE.Own w base v5 P
  d : v4.ownBlock = none ∨ v4.ownBlock ≠ v5.ownBlock
  hb : b9 < base
  hs : base ≤ w.heap.size
  below : Below b9 w0 w
section
variable {w0 w w' : World} {b base : Nat} {k nn next : Int} {s1 c4 c5 v4 v5 v' : Value} {D D' : List ByteArray} {P P' : List Place}
theorem DS.drew (h : DS w0 w b base k nn next s1 c4 c5 v4 v5 D P) : DS w0 w.drew b base k nn next s1 c4 c5 v4 v5 D P := ⟨h.bx, h.o4, h.o5, h.d, h.hb, h.hs, h.below.drew⟩
theorem DS.alloc (h : DS w0 w b base k nn next s1 c4 c5 v4 v5 D P) (o : Obj) : DS w0 (w.alloc o) b base k nn next s1 c4 c5 v4 v5 D P :=
  ⟨h.bx.alloc o, Owns.alloc h.o4 o, Owns.alloc h.o5 o, h.d, h.hb, by have := h.hs; simp; omega, h.below.alloc (by have := h.hb; have := h.hs; omega) o⟩
theorem DS.to (h : DS w0 w b base k nn next s1 c4 c5 v4 v5 D P) (hb : Below w.heap.size w w') : DS w0 w' b base k nn next s1 c4 c5 v4 v5 D P :=
  ⟨h.bx.below hb, h.o4.below hb, h.o5.below hb, h.d, h.hb, Nat.le_trans h.hs hb.size, h.below.trans (hb.mono (by have := h.hb; have := h.hs; omega))⟩
theorem DS.grow4 (h : DS w0 w b base k nn next s1 c4 c5 v4 v5 D P) (ho : strE.Own w' base v' D') (hg : w.grownBy w' v4.ownBlock) (hat : v'.ownBlock = v4.ownBlock ∨ v'.ownBlock = some w.heap.size) : DS w0 w' b base k nn next s1 c4 c5 v' v5 D' P :=
  ⟨h.bx.grown hg (h.o4.ne_some h.hb), ho, h.o5.grown hg (ne_turn2 h.d), ne_turn2 (Owns.fresh_ne hat (ne_turn2 h.d) (fun i hi => (h.o5.within hi).2)), h.hb, Nat.le_trans h.hs hg.size,
    h.below.grown hg (by have := h.hb; have := h.hs; omega) (fun i hi => by have := (h.o4.within hi).1; have := h.hb; omega)⟩
theorem DS.grow5 (h : DS w0 w b base k nn next s1 c4 c5 v4 v5 D P) (ho : placeE.Own w' base v' P') (hg : w.grownBy w' v5.ownBlock) (hat : v'.ownBlock = v5.ownBlock ∨ v'.ownBlock = some w.heap.size) : DS w0 w' b base k nn next s1 c4 c5 v4 v' D P' :=
  ⟨h.bx.grown hg (h.o5.ne_some h.hb), h.o4.grown hg h.d, ho, Owns.fresh_ne hat h.d (fun i hi => (h.o4.within hi).2), h.hb, Nat.le_trans h.hs hg.size,
    h.below.grown hg (by have := h.hb; have := h.hs; omega) (fun i hi => by have := (h.o5.within hi).1; have := h.hb; omega)⟩
theorem DS.set4 (h : DS w0 w b base k nn next s1 c4 c5 v4 v5 D P) (u : Value) : DS w0 (w.setCell ⟨b, 4, none⟩ u) b base k nn next s1 u c5 v4 v5 D P :=
  ⟨h.bx.set4 u, h.o4.setOther u h.hb, h.o5.setOther u h.hb, h.d, h.hb, by simpa using h.hs, h.below.setCell (Nat.le_refl _) u⟩
theorem DS.set5 (h : DS w0 w b base k nn next s1 c4 c5 v4 v5 D P) (u : Value) : DS w0 (w.setCell ⟨b, 5, none⟩ u) b base k nn next s1 c4 u v4 v5 D P :=
  ⟨h.bx.set5 u, h.o4.setOther u h.hb, h.o5.setOther u h.hb, h.d, h.hb, by simpa using h.hs, h.below.setCell (Nat.le_refl _) u⟩
theorem DS.start (w : World) (k nn next : Int) (s1 : Value) : DS w (w.alloc (.cells #[.int .i64 k, .int .i64 nn, .int .i64 next, s1, .slice none 0 0, .slice none 0 0] 29)) w.heap.size (w.heap.size + 1) k nn next s1 (.slice none 0 0) (.slice none 0 0) (.slice none 0 0) (.slice none 0 0) [] [] :=
  ⟨BoxAt.new w k nn next _ _ _, Owns.nil_, Owns.nil_, .inl rfl, by omega, by simp, (Below.refl _ _).alloc (Nat.le_refl _) _⟩
end

set_option maxHeartbeats 4000000 in
set_option maxRecDepth 100000 in
theorem index_Drop (v : Rws) (s : St) (A : Option Addr) (n c : Nat) (ds : List ByteArray) (w : World) (h : StAt w w.heap.size v s) (hd : StrsAt w w.heap.size A n ds) (hn : n ≤ 1000) :
    Calls Try.prog 20 #[v.val s, .slice A n c] w fun e w' => ∃ r : Rws, e = .returned (.tuple #[r.val (dropIdx s ds).1, .int .i64 (dropIdx s ds).2]) ∧ AddOut w w' r (dropIdx s ds).1 := by
  obtain ⟨k, nn, next, sn, cs, ps⟩ := s
  obtain ⟨A1, n1, c1, A2, n2, c2, A3, n3, c3⟩ := v
  obtain ⟨h1, h2, h3, hok⟩ := h
  dsimp only at h1 h2 h3 hok
  have hmay := fun W (hb : Below w.heap.size w W) => index_May k nn next A1 n1 c1 A2 n2 c2 A3 n3 c3 cs ps W (h2.to hb) (h3.to hb) hok
  have hfind := fun (hr : RiseS cs) (hn2 : n2 ≤ 1000000) d W (hb : Below w.heap.size w W) => index_find k nn next A1 n1 c1 A2 n2 c2 A3 n3 c3 cs d W (h2.to hb) hr hn2
  unfold stv at hmay hfind
  unfold Rws.val stv
  dsimp only
  replace hmay := Lib.hid hmay
  have l2 := Lib.hid h2.1
  have l3 := Lib.hid h3.1
  have ld := Lib.hid hd.1
  have bx := Lib.hid ((BoxAt.new w k nn next (.slice A1 n1 c1) (.slice A2 n2 c2) (.slice A3 n3 c3)).alloc (.cells #[.int .i64 0, .int .i64 0, .int .i64 0, .slice none 0 0, .slice none 0 0, .slice none 0 0] 29))
  have bz : Hid (BoxAt ((w.alloc (.cells #[.int .i64 k, .int .i64 nn, .int .i64 next, .slice A1 n1 c1, .slice A2 n2 c2, .slice A3 n3 c3] 29)).alloc (.cells #[.int .i64 0, .int .i64 0, .int .i64 0, .slice none 0 0, .slice none 0 0, .slice none 0 0] 29)) (w.heap.size + 1) 0 0 0 (.slice none 0 0) (.slice none 0 0) (.slice none 0 0)) := by
    have := BoxAt.new (w.alloc (.cells #[.int .i64 k, .int .i64 nn, .int .i64 next, .slice A1 n1 c1, .slice A2 n2 c2, .slice A3 n3 c3] 29)) 0 0 0 (.slice none 0 0) (.slice none 0 0) (.slice none 0 0)
    exact Lib.hid (by simpa using this)
  have fb : Below w.heap.size w ((w.alloc (.cells #[.int .i64 k, .int .i64 nn, .int .i64 next, .slice A1 n1 c1, .slice A2 n2 c2, .slice A3 n3 c3] 29)).alloc (.cells #[.int .i64 0, .int .i64 0, .int .i64 0, .slice none 0 0, .slice none 0 0, .slice none 0 0] 29)) := ((Below.refl _ _).alloc (Nat.le_refl _) _).alloc (by simp) _
  have zz : Hid (((w.alloc (.cells #[.int .i64 k, .int .i64 nn, .int .i64 next, .slice A1 n1 c1, .slice A2 n2 c2, .slice A3 n3 c3] 29)).alloc (.cells #[.int .i64 0, .int .i64 0, .int .i64 0, .slice none 0 0, .slice none 0 0, .slice none 0 0] 29)).heap.size = w.heap.size + 2) := by unfold Hid; simp
  replace hok := Lib.hid hok
  replace hfind := Lib.hid hfind
  have hmm := @run_makeMap Try.prog
  go_enter Try.func20, Try.ntmps20
  go_upto_region 1 with fail
  generalize (w.alloc (.cells #[.int .i64 k, .int .i64 nn, .int .i64 next, .slice A1 n1 c1, .slice A2 n2 c2, .slice A3 n3 c3] 29)).alloc (.cells #[.int .i64 0, .int .i64 0, .int .i64 0, .slice none 0 0, .slice none 0 0, .slice none 0 0] 29) = W0 at bx bz fb zz ⊢
  have hz0 : w.heap.size + 1 < W0.heap.size := by have := zz.out; omega
  replace zz := Lib.hid zz.out
  obtain ⟨x0, x1, x2, x3, x4, x5⟩ := bx.out.cells
  go_wp2_with fail
  refine (hmay.out W0 fb).mono ?_
  cases hm : mayIdx cs ps
  · rintro e w1 ⟨rfl, hb1⟩
    have hres : Hid (dropIdx ⟨k, nn, next, sn, cs, ps⟩ ds = (stNone, 4)) := dropIdx_form hm
    have bz1 := Lib.hid (bz.out.below hb1)
    have f1 := fb.trans (hb1.mono (by omega))
    (obtain ⟨g0, g1, g2, g3, g4, g5⟩ := (bz1.out).cells
     have e0 := (bz1.out).frozen 0
     have e1 := (bz1.out).frozen 1
     have e2 := (bz1.out).frozen 2
     have e3 := (bz1.out).frozen 3
     have e4 := (bz1.out).frozen 4
     have e5 := (bz1.out).frozen 5)
    have hl1 : w.heap.size + 1 < w1.heap.size := bz1.out.lt
    clear x0 x1 x2 x3 x4 x5
    go_wp2_with fail
    (obtain ⟨t0, t1, t2, t3, t4, t5⟩ := (BoxAt.st6 (bz1.out) 0 0 0 (.slice none 0 0) (.slice none 0 0) (.slice none 0 0)).cells
     clear g0 g1 g2 g3 g4 g5
     exact bodyPost_ret (v := .tuple #[.agg #[.int .i64 0, .int .i64 0, .int .i64 0, .slice none 0 0, .slice none 0 0, .slice none 0 0], .int .i64 4]) (by simp [results, Try.results20, go_sem, t0, t1, t2, t3, t4, t5]) rfl
       ⟨⟨none, 0, 0, none, 0, 0, none, 0, 0⟩, by rw [hres.out]; rfl, by rw [hres.out]; exact addOut_none (below_st6 (f1) (by omega) _ _ _ _ _ _)⟩)
  · rintro e w1 ⟨rfl, hb1⟩
    have hz1 := hb1.size
    have bz1 := Lib.hid (bz.out.below hb1)
    have bx1 := Lib.hid (bx.out.below hb1)
    have f1 := fb.trans (hb1.mono (by omega))
    have hl1 : w.heap.size + 1 < w1.heap.size := bz1.out.lt
    have hlen := mayIdx_len hm
    have h400 : n2 ≤ 400 := by have := l2.out; omega
    have hn23 : Hid (n2 = n3) := by have := l2.out; have := l3.out; unfold Hid; omega
    have hris : Hid (RiseS cs) := mayIdx_rise hm
    have h32 : Hid (∀ c ∈ cs, c.size = 32) := mayIdx_size hm
    have hcp : Hid (cs.length = ps.length) := hlen.1
    clear x0 x1 x2 x3 x4 x5 hb1
    replace hlen := Lib.hid hlen
    replace hm := Lib.hid hm
    go_wp2_with fail
    go_loopw [8, 9, 10, 21] (fun _ _ _ i wr => ∃ j : Nat, j ≤ n ∧ i = .int .i64 j ∧ Hid (∀ (q : Nat) (d : ByteArray), q < j → ds[q]? = some d → d ∈ cs) ∧ Hid (CntAt wr w1.heap.size (ds.take j)) ∧ Below w1.heap.size w1 wr) (fun _ _ _ i _ => n - (intOf i).toNat)
    case atStart => exact ⟨0, Nat.zero_le _, rfl, fun q d hq => absurd hq (by omega), by simpa using Lib.hid (CntAt.made w1), (by repeat (first | exact Below.refl _ _ | assumption | refine Below.drew ?_ | refine below_drewN ?_ _ | refine Below.alloc ?_ (by first | omega | (simp; try omega)) _ | refine Below.setCell ?_ (by first | omega | (simp; try omega)) _ | (refine Below.trans ?_ (Below.mono (by assumption) (by first | omega | (simp; try omega))))))⟩
    case round =>
      obtain ⟨j, hj, rfl, hall, hcnt, hbr⟩ := hrel
      have hzr := hbr.size
      have fr := f1.trans (hbr.mono (by omega))
      have hlr : w.heap.size + 1 < wr.heap.size := by omega
      have bxr := Lib.hid (bx1.out.below hbr)
      have bzr := Lib.hid (bz1.out.below hbr)
      obtain ⟨x0, x1, x2, x3, x4, x5⟩ := bxr.out.cells
      have hgm : w1.heap.size < wr.heap.size := hcnt.out.lt
      by_cases hlt : j < n
      · obtain ⟨b2, o2, d, rfl, hb2, hx2, y0⟩ := (hd.to fr).str hlt
        have hlen9 : (ds.take j).length < 1000000000 := by rw [List.length_take]; omega
        have htk : Hid (ds.take (j + 1) = ds.take j ++ [d]) := by unfold Hid; rw [List.take_add_one, hx2]; rfl
        replace hx2 := Lib.hid hx2
        replace hlen9 := Lib.hid hlen9
        go_wp2_with fail
        refine (hfind.out hris.out (by omega) d wr fr).mono ?_
        rintro e w3 ⟨m, ok, rfl, hmn, hok9, hlo, hhi, hb3⟩
        have fw := fr.trans (hb3.mono (by omega))
        have hz3 := hb3.size
        cases ok
        · have hnin : d ∉ cs := fun h => by
            have h1 := (lowB_mem hris.out).2 h
            have h2 : lowB cs d = m := lowB_of (by have := l2.out; omega) hlo (fun h => hhi m (Nat.le_refl _) (by have := l2.out; omega))
            rw [h2] at h1
            have := hok9.2 h1
            cases this
          have hres : Hid (dropIdx ⟨k, nn, next, sn, cs, ps⟩ ds = (stNone, 5)) := dropIdx_none hm.out hx2.out hnin
          have bzw := Lib.hid (bzr.out.below hb3)
          have hlw := bzw.out.lt
          (obtain ⟨g0, g1, g2, g3, g4, g5⟩ := (bzw.out).cells
           have e0 := (bzw.out).frozen 0
           have e1 := (bzw.out).frozen 1
           have e2 := (bzw.out).frozen 2
           have e3 := (bzw.out).frozen 3
           have e4 := (bzw.out).frozen 4
           have e5 := (bzw.out).frozen 5)
          replace hnin := Lib.hid hnin
          replace hok9 := Lib.hid hok9
          replace hlo := Lib.hid hlo
          replace hhi := Lib.hid hhi
          clear x0 x1 x2 x3 x4 x5 y0
          go_wp2_with fail
          (obtain ⟨t0, t1, t2, t3, t4, t5⟩ := (BoxAt.st6 (bzw.out) 0 0 0 (.slice none 0 0) (.slice none 0 0) (.slice none 0 0)).cells
           clear g0 g1 g2 g3 g4 g5
           exact bodyPost_ret (v := .tuple #[.agg #[.int .i64 0, .int .i64 0, .int .i64 0, .slice none 0 0, .slice none 0 0, .slice none 0 0], .int .i64 5]) (by simp [results, Try.results20, go_sem, t0, t1, t2, t3, t4, t5]) rfl
             ⟨⟨none, 0, 0, none, 0, 0, none, 0, 0⟩, by rw [hres.out]; rfl, by rw [hres.out]; exact addOut_none (below_st6 (fw) (by omega) _ _ _ _ _ _)⟩)
        · have hin : d ∈ cs := List.mem_of_getElem? (hok9.1 rfl)
          have hsz : d.size ≤ maxLen := by rw [h32.out d hin]; decide
          have hall' : Hid (∀ (q : Nat) (d : ByteArray), q < j + 1 → ds[q]? = some d → d ∈ cs) := fun q d' hq h1 => by
            rcases Nat.lt_or_ge q j with h | h
            · exact hall.out q d' h h1
            · obtain rfl : q = j := by omega
              rw [hx2.out] at h1
              injection h1 with h1
              subst h1
              exact hin
          have hcnt3 := Lib.hid (hcnt.out.below hb3)
          replace hin := Lib.hid hin
          replace hok9 := Lib.hid hok9
          replace hlo := Lib.hid hlo
          replace hhi := Lib.hid hhi
          replace hsz := Lib.hid hsz
          clear x0 x1 x2 x3 x4 x5 y0
          go_wp2_with (first
            | (at_lookup; go_must (refine wpList_cnt_lookup _ rfl _ _ rfl w1.heap.size _ rfl hcnt3.out d rfl hsz.out ?_); intro c hc9 hc)
            | (at_mapUpdate; go_must (refine wpList_cnt_update _ rfl _ _ _ rfl w1.heap.size _ rfl hcnt3.out hlen9.out d rfl hsz.out c hc rfl ?_); intro w4 hcnt4 hg4))
          go_roundw
          case rel => exact ⟨j + 1, by omega, by go_num, hall', by rw [htk.out]; exact hcnt4, Below.grown (hbr.trans (hb3.mono hzr)) hg4 (by first | omega | (simp; try omega)) (fun _ hi => by cases hi; exact Nat.le_refl _)⟩
          case measure => simp [intOf]; omega
      · obtain rfl : j = n := by omega
        have htk : Hid (ds.take j = ds) := by unfold Hid; rw [List.take_of_length_le (by have := ld.out; omega)]
        rw [htk.out] at hcnt
        have hres : Hid (dropIdx ⟨k, nn, next, sn, cs, ps⟩ ds = (⟨k, nn, next, sn, (dropGo ds cs ps).1, (dropGo ds cs ps).2⟩, 0)) := dropIdx_ok hm.out ld.out hall.out
        obtain ⟨b9, hb9⟩ : ∃ x, x = wr.heap.size := ⟨_, rfl⟩
        obtain ⟨wo, rfl⟩ : ∃ wo : World, wo = wr := ⟨_, rfl⟩
        have hds : Hid (DS wo (wo.alloc (.cells #[.int .i64 k, .int .i64 nn, .int .i64 next, .slice A1 n1 c1, .slice none 0 0, .slice none 0 0] 29)) b9 (b9 + 1) k nn next (.slice A1 n1 c1) (.slice none 0 0) (.slice none 0 0) (.slice none 0 0) (.slice none 0 0) [] []) := by rw [hb9]; exact DS.start wo k nn next _
        have hl9 : w.heap.size < wo.heap.size := by omega
        have hlb : Hid (b9 = wo.heap.size) := hb9
        have hlb9 : w.heap.size + 1 < b9 := by omega
        have hfr := Lib.hid fr
        clear bx1 bz1
        replace hb9 := Lib.hid hb9
        go_wp2_with fail
        rw [← hb9.out]
        clear x0 x1 x2 x3 x4 x5
        go_loopw [12, 13, 45, 50] (fun _ _ i _ wv => ∃ (q : Nat) (u4 u5 : Value), q ≤ n2 ∧ i = .int .i64 q ∧ Hid (DS wo wv b9 (b9 + 1) k nn next (.slice A1 n1 c1) u4 u5 u4 u5 (dropGo ds (cs.take q) (ps.take q)).1 (dropGo ds (cs.take q) (ps.take q)).2)) (fun _ _ i _ _ => n2 - (intOf i).toNat)
        case atStart => exact ⟨0, _, _, Nat.zero_le _, rfl, by simpa [dropGo] using hds⟩
        case round =>
          clear hds
          obtain ⟨q, u4, u5, hq9, rfl, hs⟩ := hrel
          obtain ⟨wq, hwq⟩ : ∃ x : World, x = wr := ⟨_, rfl⟩
          rw [← hwq] at hs ⊢
          clear hwq
          have s := hs.out
          have hlo : Hid (Below wo.heap.size wo wq) := by unfold Hid; rw [← hlb.out]; exact s.below
          have fq : Below w.heap.size w wq := fr.trans (hlo.out.mono (by omega))
          have hzq := fq.size
          have hl8 : b9 < wq.heap.size := s.bx.lt
          have hlq : w.heap.size + 1 < wq.heap.size := by omega
          have hcntq := Lib.hid (hcnt.out.below hlo.out)
          obtain ⟨D, hD⟩ : ∃ D, D = (dropGo ds (cs.take q) (ps.take q)).1 := ⟨_, rfl⟩
          obtain ⟨P, hP⟩ : ∃ P, P = (dropGo ds (cs.take q) (ps.take q)).2 := ⟨_, rfl⟩
          have hDP := dropGo_len (ds := ds) (cs := cs.take q) (ps := ps.take q)
          rw [← hD, ← hP, List.length_take] at hDP
          have hDl : D.length ≤ 1000000000 := by omega
          have hPl : P.length ≤ 1000000000 := by omega
          rw [← hD, ← hP] at hs s
          obtain ⟨B4, q4, rfl⟩ := s.o4.form
          obtain ⟨B5, q5, rfl⟩ := s.o5.form
          by_cases hlt : q < n2
          · obtain ⟨b2, o2, ch, rfl, hb2, hx2, y0⟩ := (h2.to fq).str hlt
            obtain ⟨b3, o3, p, rfl, hb3, hx3, z0, z1, z2⟩ := (h3.to fq).place (i := q) (by have := hn23.out; omega)
            have hsz : Hid (ch.size ≤ maxLen) := by unfold Hid; rw [h32.out ch (List.mem_of_getElem? hx2)]; decide
            have htk := dropGo_take (ds := ds) hcp.out hx2 hx3
            obtain ⟨x0, x1, x2, x3, x4, x5⟩ := (bxr.out.below hlo.out).cells
            clear hDP
            by_cases hin : ch ∈ ds
            · have hgo : Hid (dropGo ds (cs.take (q + 1)) (ps.take (q + 1)) = dropGo ds (cs.take q) (ps.take q)) := by unfold Hid; rw [htk, if_pos hin]
              replace hin := Lib.hid hin
              replace hx2 := Lib.hid hx2
              replace hx3 := Lib.hid hx3
              replace s := Lib.hid s
              replace hD := Lib.hid hD
              replace hP := Lib.hid hP
              clear htk
              go_wp2_with (at_lookup; go_must (refine wpList_cnt_lookup _ rfl _ _ rfl w1.heap.size _ rfl hcntq.out ch rfl hsz.out ?_); intro c9 hc9 hc; have hg := cnt_pos hin.out hc)
              go_roundw
              case rel => exact ⟨q + 1, _, _, by omega, by go_num, by rw [hgo.out, ← hD.out, ← hP.out]; exact s⟩
              case measure => simp [intOf]; omega
            · have hgo : Hid (dropGo ds (cs.take (q + 1)) (ps.take (q + 1)) = (D ++ [ch], P ++ [p])) := by unfold Hid; rw [htk, if_neg hin, ← hD, ← hP]
              replace hin := Lib.hid hin
              have hS : Hid (∀ (W : World) (v4 v5 : Value) (D' : List ByteArray) (P' : List Place), DS wo W b9 (b9 + 1) k nn next (.slice A1 n1 c1) (.slice B4 D.length q4) (.slice B5 P.length q5) v4 v5 D' P' → (fun W : World => W.cell? ⟨b9, 4, none⟩ = some (.slice B4 D.length q4) ∧ W.cell? ⟨b9, 5, none⟩ = some (.slice B5 P.length q5) ∧ W.cell? ⟨w.heap.size, 5, none⟩ = some (.slice (some ⟨b3, o3, none⟩) n3 c3) ∧ W.cell? ⟨b3, o3 + q * 3, none⟩ = some (.string p.pack) ∧ W.cell? ⟨b3, o3 + q * 3 + 1, none⟩ = some (.int .i64 p.at_) ∧ W.cell? ⟨b3, o3 + q * 3 + 2, none⟩ = some (.int .i64 p.len)) W) := fun W v4 v5 D' P' sa => by
                have hlo' : Below wo.heap.size wo W := by rw [← hlb.out]; exact sa.below
                have hpp := ((h3.to fr).to hlo').placeAt hx3
                exact ⟨sa.bx.cells.2.2.2.2.1, sa.bx.cells.2.2.2.2.2, (bxr.out.below hlo').cells.2.2.2.2.2, hpp.1, hpp.2.1, hpp.2.2⟩
              have hn4 : Hid (∀ g, wq.heap.size ≤ g → (Value.slice B4 D.length q4).ownBlock ≠ some g) := fun g hg e => by have := (s.o4.within e).2; omega
              have hn5 : Hid (∀ g, wq.heap.size ≤ g → (Value.slice B5 P.length q5).ownBlock ≠ some g) := fun g hg e => by have := (s.o5.within e).2; omega
              replace hx2 := Lib.hid hx2
              replace hx3 := Lib.hid hx3
              replace s := Lib.hid s
              replace hD := Lib.hid hD
              replace hP := Lib.hid hP
              have hqn : (q : Int) < (n3 : Int) := by have := hn23.out; omega
              clear htk x0 x1 x2 x3 x4 x5 z0 z1 z2
              go_wp2_with (at_lookup; go_must (refine wpList_cnt_lookup _ rfl _ _ rfl w1.heap.size _ rfl hcntq.out ch rfl hsz.out ?_); intro c9 hc9 hc; have hg := cnt_zero hin.out hc)
              refine region_held_tail 15 (fun W : World => W.cell? ⟨b9, 4, none⟩ = some (.slice B4 D.length q4) ∧ W.cell? ⟨b9, 5, none⟩ = some (.slice B5 P.length q5) ∧ W.cell? ⟨w.heap.size, 5, none⟩ = some (.slice (some ⟨b3, o3, none⟩) n3 c3) ∧ W.cell? ⟨b3, o3 + q * 3, none⟩ = some (.string p.pack) ∧ W.cell? ⟨b3, o3 + q * 3 + 1, none⟩ = some (.int .i64 p.at_) ∧ W.cell? ⟨b3, o3 + q * 3 + 2, none⟩ = some (.int .i64 p.len)) (by kernel_rfl) (by kernel_rfl) ?_
              have hHeld : (fun W : World => W.cell? ⟨b9, 4, none⟩ = some (.slice B4 D.length q4) ∧ W.cell? ⟨b9, 5, none⟩ = some (.slice B5 P.length q5) ∧ W.cell? ⟨w.heap.size, 5, none⟩ = some (.slice (some ⟨b3, o3, none⟩) n3 c3) ∧ W.cell? ⟨b3, o3 + q * 3, none⟩ = some (.string p.pack) ∧ W.cell? ⟨b3, o3 + q * 3 + 1, none⟩ = some (.int .i64 p.at_) ∧ W.cell? ⟨b3, o3 + q * 3 + 2, none⟩ = some (.int .i64 p.len)) wq.drew := hS.out _ _ _ _ _ s.out.drew
              have sA := s.out.drew.alloc (.cells #[.string ch] 9)
              have sB := s.out.drew.alloc (.cells #[.string p.pack, .int .i64 p.at_, .int .i64 p.len] 35)
              have sAB := sA.alloc (.cells #[.string p.pack, .int .i64 p.at_, .int .i64 p.len] 35)
              have sBA := sB.alloc (.cells #[.string ch] 9)
              have hs0 := s.out.hs
              have hsA := sA.hs
              have hsB := sB.hs
              have hsAB := sAB.hs
              have hsBA := sBA.hs
              (refine HT.takeL (i := 0) (v := ?_) rfl (by kernel_rfl) (fun _ _ _ h => h) (Or.inl ⟨by rfl, ?_⟩) (by assumption) ?_
               rotate_left
               · (intro w hSw; (try dsimp only at hSw); go_simp; (try with_reducible rfl))
               try simp only [Act.put, List.setIfInBounds_toArray, List.set_cons_zero, List.set_cons_succ])
              (refine HT.takeL (i := 1) (v := ?_) rfl (by kernel_rfl) (fun _ _ _ h => h) (Or.inl ⟨by rfl, ?_⟩) (by assumption) ?_
               rotate_left
               · (intro w hSw; (try dsimp only at hSw); go_simp; (try with_reducible rfl))
               try simp only [Act.put, List.setIfInBounds_toArray, List.set_cons_zero, List.set_cons_succ])
              (refine HT.takeL (i := 2) (v := ?_) rfl (by kernel_rfl) (fun _ _ _ h => h) (Or.inl ⟨by rfl, ?_⟩) (by assumption) ?_
               rotate_left
               · (intro w hSw; (try dsimp only at hSw); go_simp; (try with_reducible rfl))
               try simp only [Act.put, List.setIfInBounds_toArray, List.set_cons_zero, List.set_cons_succ])
              (refine HT.takeL (i := 5) (v := ?_) rfl (by kernel_rfl) (fun _ _ _ h => h) (Or.inl ⟨by rfl, ?_⟩) (by assumption) ?_
               rotate_left
               · (intro w hSw; (try dsimp only at hSw); go_simp; (try with_reducible rfl))
               try simp only [Act.put, List.setIfInBounds_toArray, List.set_cons_zero, List.set_cons_succ])
              (refine HT.takeL (i := 6) (v := ?_) rfl (by kernel_rfl) (fun _ _ _ h => h) (Or.inl ⟨by rfl, ?_⟩) (by assumption) ?_
               rotate_left
               · (intro w hSw; (try dsimp only at hSw); go_simp; (try with_reducible rfl))
               try simp only [Act.put, List.setIfInBounds_toArray, List.set_cons_zero, List.set_cons_succ])
              (refine HT.takeL (i := 7) (v := ?_) rfl (by kernel_rfl) (fun _ _ _ h => h) (Or.inl ⟨by rfl, ?_⟩) (by assumption) ?_
               rotate_left
               · (intro w hSw; (try dsimp only at hSw); go_simp; (try with_reducible rfl))
               try simp only [Act.put, List.setIfInBounds_toArray, List.set_cons_zero, List.set_cons_succ])
              (refine HT.takeL (i := 8) (v := ?_) rfl (by kernel_rfl) (fun _ _ _ h => h) (Or.inl ⟨by rfl, ?_⟩) (by assumption) ?_
               rotate_left
               · (intro w hSw; (try dsimp only at hSw); go_simp; (try with_reducible rfl))
               try simp only [Act.put, List.setIfInBounds_toArray, List.set_cons_zero, List.set_cons_succ])
              (refine HT.takeL (i := 9) (v := ?_) rfl (by kernel_rfl) (fun _ _ _ h => h) (Or.inl ⟨by rfl, ?_⟩) (by assumption) ?_
               rotate_left
               · (intro w hSw; (try dsimp only at hSw); go_simp; (try with_reducible rfl))
               try simp only [Act.put, List.setIfInBounds_toArray, List.set_cons_zero, List.set_cons_succ])
              (refine HT.takeL (i := 10) (v := ?_) rfl (by kernel_rfl) (fun _ _ _ h => h) (Or.inl ⟨by rfl, ?_⟩) (by assumption) ?_
               rotate_left
               · (intro w hSw; (try dsimp only at hSw); go_simp; (try with_reducible rfl))
               try simp only [Act.put, List.setIfInBounds_toArray, List.set_cons_zero, List.set_cons_succ])
              (refine HT.takeL (i := 11) (v := ?_) rfl (by kernel_rfl) (fun _ _ _ h => h) (Or.inl ⟨by rfl, ?_⟩) (by assumption) ?_
               rotate_left
               · (intro w hSw; (try dsimp only at hSw); go_simp; (try with_reducible rfl))
               try simp only [Act.put, List.setIfInBounds_toArray, List.set_cons_zero, List.set_cons_succ])
              refine HT.twoL (i := 3) (j := 12) rfl rfl (by kernel_rfl) (fun K hK => ?_) (fun K hK => ?_)
              · (go_simp
                 refine hK.out _ _ ?_ (fun hHeld => ?_)
                 · (exact hS.out _ _ _ _ _ sA)
                 clear hK K
                 try simp only [Act.put, List.setIfInBounds_toArray, List.set_cons_zero, List.set_cons_succ])
                refine HT.twoL (i := 4) (j := 12) rfl rfl (by kernel_rfl) (fun K hK => ?_) (fun K hK => ?_)
                · (((apply Elem.step_one strE (s := .tmp 55) (x := .tmp 57) (base := b9 + 1) (l := D) (y := ch); (case' hgd => rfl); (case' ho => rfl); (case' hs => rfl); (case' hx => rfl); (case' hown => exact (sA.o4)); (case' hy => exact (fun j u hu => by rcases j with _ | j <;> simp [strE, strCell] at hu; subst hu; first | (go_simp; done) | exact newCell _ _ _ _ _)); (case' hl => exact hDl); (case' hbase => exact (by first | omega | (simp; try omega)))); intro v4' w5 ho4 hgr4 hat4; have s5 := DS.grow4 sA ho4 hgr4 hat4; have hs5 := s5.hs)
                   refine hK.out _ _ ?_ (fun hHeld => ?_)
                   · (exact hS.out _ _ _ _ _ s5)
                   clear hK K
                   try simp only [Act.put, List.setIfInBounds_toArray, List.set_cons_zero, List.set_cons_succ])
                  have s5B := s5.alloc (.cells #[.string p.pack, .int .i64 p.at_, .int .i64 p.len] 35)
                  have hs5B := s5B.hs
                  (refine HT.takeL (i := 14) (v := ?_) rfl (by kernel_rfl) (fun _ _ _ h => h) (Or.inl ⟨by rfl, ?_⟩) (by assumption) ?_
                   rotate_left
                   · (intro w hSw; (try dsimp only at hSw); go_simp; (try with_reducible rfl))
                   try simp only [Act.put, List.setIfInBounds_toArray, List.set_cons_zero, List.set_cons_succ])
                  (refine HT.onlyL (i := 12) rfl (by kernel_rfl) (fun K hK => ?_)
                   go_simp
                   refine hK.out _ _ ?_ (fun hHeld => ?_)
                   · (exact hS.out _ _ _ _ _ s5B)
                   clear hK K
                   try simp only [Act.put, List.setIfInBounds_toArray, List.set_cons_zero, List.set_cons_succ])
                  (refine HT.onlyL (i := 13) rfl (by kernel_rfl) (fun K hK => ?_)
                   ((apply Elem.step_one placeE (s := .tmp 60) (x := .tmp 66) (base := b9 + 1) (l := P) (y := p); (case' hgd => rfl); (case' ho => rfl); (case' hs => rfl); (case' hx => rfl); (case' hown => exact (s5B.o5)); (case' hy => exact (fun j u hu => by rcases j with _ | _ | _ | j <;> simp [placeE, Place.cells] at hu <;> subst hu <;> first | (go_simp; done) | exact newCell _ _ _ _ _)); (case' hl => exact hPl); (case' hbase => exact (by first | omega | (simp; try omega)))); intro v5' w6 ho5 hgr5 hat5; have s6 := DS.grow5 s5B ho5 hgr5 hat5)
                   refine hK.out _ _ ?_ (fun hHeld => ?_)
                   · (exact hS.out _ _ _ _ _ s6)
                   clear hK K
                   try simp only [Act.put, List.setIfInBounds_toArray, List.set_cons_zero, List.set_cons_succ])
                  refine HT.tail (by kernel_rfl) ?_
                  simp only [List.drop_succ_cons, List.drop_zero]
                  obtain ⟨B4n, q4n, rfl⟩ := s6.o4.form
                  obtain ⟨B5n, q5n, rfl⟩ := s6.o5.form
                  rw [show (D ++ [ch]).length = D.length + 1 from by simp, show (P ++ [p]).length = P.length + 1 from by simp] at s6
                  have hlast := Lib.hid ((s6.set4 (.slice B4n (D.length + 1) q4n)).set5 (.slice B5n (P.length + 1) q5n))
                  obtain ⟨_, _, _, _, r4, r5⟩ := s6.bx.cells
                  have rf4 := s6.bx.frozen 4
                  have rf5 := s6.bx.frozen 5
                  replace s6 := Lib.hid s6
                  replace s5 := Lib.hid s5
                  clear hgr4 hgr5 hat4 hat5 ho4 ho5 hHeld
                  go_wp2_with fail
                  go_roundw
                  case rel => exact ⟨q + 1, _, _, by omega, by go_num, by rw [hgo.out]; exact hlast⟩
                  case measure => simp [intOf]; omega
                · (go_simp
                   refine hK.out _ _ ?_ (fun hHeld => ?_)
                   · (exact hS.out _ _ _ _ _ sAB)
                   clear hK K
                   try simp only [Act.put, List.setIfInBounds_toArray, List.set_cons_zero, List.set_cons_succ])
                  (refine HT.onlyL (i := 4) rfl (by kernel_rfl) (fun K hK => ?_)
                   ((apply Elem.step_one strE (s := .tmp 55) (x := .tmp 57) (base := b9 + 1) (l := D) (y := ch); (case' hgd => rfl); (case' ho => rfl); (case' hs => rfl); (case' hx => rfl); (case' hown => exact (sAB.o4)); (case' hy => exact (fun j u hu => by rcases j with _ | j <;> simp [strE, strCell] at hu; subst hu; first | (go_simp; done) | exact newCell _ _ _ _ _)); (case' hl => exact hDl); (case' hbase => exact (by first | omega | (simp; try omega)))); intro v4' w5 ho4 hgr4 hat4; have s5 := DS.grow4 sAB ho4 hgr4 hat4; have hs5 := s5.hs)
                   refine hK.out _ _ ?_ (fun hHeld => ?_)
                   · (exact hS.out _ _ _ _ _ s5)
                   clear hK K
                   try simp only [Act.put, List.setIfInBounds_toArray, List.set_cons_zero, List.set_cons_succ])
                  (refine HT.takeL (i := 14) (v := ?_) rfl (by kernel_rfl) (fun _ _ _ h => h) (Or.inl ⟨by rfl, ?_⟩) (by assumption) ?_
                   rotate_left
                   · (intro w hSw; (try dsimp only at hSw); go_simp; (try with_reducible rfl))
                   try simp only [Act.put, List.setIfInBounds_toArray, List.set_cons_zero, List.set_cons_succ])
                  (refine HT.onlyL (i := 13) rfl (by kernel_rfl) (fun K hK => ?_)
                   ((apply Elem.step_one placeE (s := .tmp 60) (x := .tmp 66) (base := b9 + 1) (l := P) (y := p); (case' hgd => rfl); (case' ho => rfl); (case' hs => rfl); (case' hx => rfl); (case' hown => exact (s5.o5)); (case' hy => exact (fun j u hu => by rcases j with _ | _ | _ | j <;> simp [placeE, Place.cells] at hu <;> subst hu <;> first | (go_simp; done) | exact hgr4.cell (by go_simp) (fun e => absurd ((s.out.o4).within e.symm).2 (by first | omega | (simp; done) | (simp; omega))))); (case' hl => exact hPl); (case' hbase => exact (by first | omega | (simp; try omega)))); intro v5' w6 ho5 hgr5 hat5; have s6 := DS.grow5 s5 ho5 hgr5 hat5)
                   refine hK.out _ _ ?_ (fun hHeld => ?_)
                   · (exact hS.out _ _ _ _ _ s6)
                   clear hK K
                   try simp only [Act.put, List.setIfInBounds_toArray, List.set_cons_zero, List.set_cons_succ])
                  refine HT.tail (by kernel_rfl) ?_
                  simp only [List.drop_succ_cons, List.drop_zero]
                  obtain ⟨B4n, q4n, rfl⟩ := s6.o4.form
                  obtain ⟨B5n, q5n, rfl⟩ := s6.o5.form
                  rw [show (D ++ [ch]).length = D.length + 1 from by simp, show (P ++ [p]).length = P.length + 1 from by simp] at s6
                  have hlast := Lib.hid ((s6.set4 (.slice B4n (D.length + 1) q4n)).set5 (.slice B5n (P.length + 1) q5n))
                  obtain ⟨_, _, _, _, r4, r5⟩ := s6.bx.cells
                  have rf4 := s6.bx.frozen 4
                  have rf5 := s6.bx.frozen 5
                  replace s6 := Lib.hid s6
                  replace s5 := Lib.hid s5
                  clear hgr4 hgr5 hat4 hat5 ho4 ho5 hHeld
                  go_wp2_with fail
                  go_roundw
                  case rel => exact ⟨q + 1, _, _, by omega, by go_num, by rw [hgo.out]; exact hlast⟩
                  case measure => simp [intOf]; omega
              · (go_simp
                 refine hK.out _ _ ?_ (fun hHeld => ?_)
                 · (exact hS.out _ _ _ _ _ sB)
                 clear hK K
                 try simp only [Act.put, List.setIfInBounds_toArray, List.set_cons_zero, List.set_cons_succ])
                (refine HT.onlyL (i := 3) rfl (by kernel_rfl) (fun K hK => ?_)
                 go_simp
                 refine hK.out _ _ ?_ (fun hHeld => ?_)
                 · (exact hS.out _ _ _ _ _ sBA)
                 clear hK K
                 try simp only [Act.put, List.setIfInBounds_toArray, List.set_cons_zero, List.set_cons_succ])
                (refine HT.onlyL (i := 4) rfl (by kernel_rfl) (fun K hK => ?_)
                 ((apply Elem.step_one strE (s := .tmp 55) (x := .tmp 57) (base := b9 + 1) (l := D) (y := ch); (case' hgd => rfl); (case' ho => rfl); (case' hs => rfl); (case' hx => rfl); (case' hown => exact (sBA.o4)); (case' hy => exact (fun j u hu => by rcases j with _ | j <;> simp [strE, strCell] at hu; subst hu; first | (go_simp; done) | exact newCell _ _ _ _ _)); (case' hl => exact hDl); (case' hbase => exact (by first | omega | (simp; try omega)))); intro v4' w5 ho4 hgr4 hat4; have s5 := DS.grow4 sBA ho4 hgr4 hat4; have hs5 := s5.hs)
                 refine hK.out _ _ ?_ (fun hHeld => ?_)
                 · (exact hS.out _ _ _ _ _ s5)
                 clear hK K
                 try simp only [Act.put, List.setIfInBounds_toArray, List.set_cons_zero, List.set_cons_succ])
                (refine HT.takeL (i := 14) (v := ?_) rfl (by kernel_rfl) (fun _ _ _ h => h) (Or.inl ⟨by rfl, ?_⟩) (by assumption) ?_
                 rotate_left
                 · (intro w hSw; (try dsimp only at hSw); go_simp; (try with_reducible rfl))
                 try simp only [Act.put, List.setIfInBounds_toArray, List.set_cons_zero, List.set_cons_succ])
                (refine HT.onlyL (i := 13) rfl (by kernel_rfl) (fun K hK => ?_)
                 ((apply Elem.step_one placeE (s := .tmp 60) (x := .tmp 66) (base := b9 + 1) (l := P) (y := p); (case' hgd => rfl); (case' ho => rfl); (case' hs => rfl); (case' hx => rfl); (case' hown => exact (s5.o5)); (case' hy => exact (fun j u hu => by rcases j with _ | _ | _ | j <;> simp [placeE, Place.cells] at hu <;> subst hu <;> first | (go_simp; done) | exact hgr4.cell (by go_simp) (fun e => absurd ((s.out.o4).within e.symm).2 (by first | omega | (simp; done) | (simp; omega))))); (case' hl => exact hPl); (case' hbase => exact (by first | omega | (simp; try omega)))); intro v5' w6 ho5 hgr5 hat5; have s6 := DS.grow5 s5 ho5 hgr5 hat5)
                 refine hK.out _ _ ?_ (fun hHeld => ?_)
                 · (exact hS.out _ _ _ _ _ s6)
                 clear hK K
                 try simp only [Act.put, List.setIfInBounds_toArray, List.set_cons_zero, List.set_cons_succ])
                refine HT.tail (by kernel_rfl) ?_
                simp only [List.drop_succ_cons, List.drop_zero]
                obtain ⟨B4n, q4n, rfl⟩ := s6.o4.form
                obtain ⟨B5n, q5n, rfl⟩ := s6.o5.form
                rw [show (D ++ [ch]).length = D.length + 1 from by simp, show (P ++ [p]).length = P.length + 1 from by simp] at s6
                have hlast := Lib.hid ((s6.set4 (.slice B4n (D.length + 1) q4n)).set5 (.slice B5n (P.length + 1) q5n))
                obtain ⟨_, _, _, _, r4, r5⟩ := s6.bx.cells
                have rf4 := s6.bx.frozen 4
                have rf5 := s6.bx.frozen 5
                replace s6 := Lib.hid s6
                replace s5 := Lib.hid s5
                clear hgr4 hgr5 hat4 hat5 ho4 ho5 hHeld
                go_wp2_with fail
                go_roundw
                case rel => exact ⟨q + 1, _, _, by omega, by go_num, by rw [hgo.out]; exact hlast⟩
                case measure => simp [intOf]; omega
          · obtain rfl : q = n2 := by omega
            have htkc : cs.take q = cs := List.take_of_length_le (by have := l2.out; omega)
            have htkp : ps.take q = ps := List.take_of_length_le (by have := l3.out; have := hn23.out; omega)
            rw [htkc, htkp] at hD hP
            have hfb := below_st6 fq (b := w.heap.size + 1) (by omega) k nn next (.slice A1 n1 c1) (.slice B4 D.length q4) (.slice B5 P.length q5)
            have ho4 := s.o4.st6 (b := w.heap.size + 1) (by omega) k nn next (.slice A1 n1 c1) (.slice B4 D.length q4) (.slice B5 P.length q5)
            have ho5 := s.o5.st6 (b := w.heap.size + 1) (by omega) k nn next (.slice A1 n1 c1) (.slice B4 D.length q4) (.slice B5 P.length q5)
            have hout : Hid (AddOut w (st6 wq (w.heap.size + 1) k nn next (.slice A1 n1 c1) (.slice B4 D.length q4) (.slice B5 P.length q5)) ⟨A1, n1, c1, B4, D.length, q4, B5, P.length, q5⟩ ⟨k, nn, next, sn, D, P⟩) :=
              ⟨⟨h1.to hfb, ho4.row strCell_len, ho5.row Place.cells_len, fun x hx => hok.out x (dropGo_sub x (hP ▸ hx))⟩, ho4.from (by omega), ho5.from (by omega), hfb⟩
            have hres' : Hid (dropIdx ⟨k, nn, next, sn, cs, ps⟩ ds = (⟨k, nn, next, sn, D, P⟩, 0)) := by unfold Hid; rw [hres.out, hD, hP]
            obtain ⟨x0, x1, x2, x3, x4, x5⟩ := s.bx.cells
            have bzq := bzr.out.below hlo.out
            (obtain ⟨g0, g1, g2, g3, g4, g5⟩ := (bzq).cells
             have e0 := (bzq).frozen 0
             have e1 := (bzq).frozen 1
             have e2 := (bzq).frozen 2
             have e3 := (bzq).frozen 3
             have e4 := (bzq).frozen 4
             have e5 := (bzq).frozen 5)
            have bz9 := Lib.hid (bzq.st6 k nn next (.slice A1 n1 c1) (.slice B4 D.length q4) (.slice B5 P.length q5))
            replace s := Lib.hid s
            replace hD := Lib.hid hD
            replace hP := Lib.hid hP
            replace bzq := Lib.hid bzq
            clear hfb ho4 ho5 htkc htkp hDP
            go_wp2_with fail
            clear g0 g1 g2 g3 g4 g5 x0 x1 x2 x3 x4 x5
            obtain ⟨t0, t1, t2, t3, t4, t5⟩ := bz9.out.cells
            exact bodyPost_ret (v := .tuple #[.agg #[.int .i64 k, .int .i64 nn, .int .i64 next, .slice A1 n1 c1, .slice B4 D.length q4, .slice B5 P.length q5], .int .i64 0]) (by simp [results, Try.results20, go_sem, t0, t1, t2, t3, t4, t5]) rfl ⟨⟨A1, n1, c1, B4, D.length, q4, B5, P.length, q5⟩, by rw [hres'.out], by rw [hres'.out]; exact hout.out⟩
end Go.Proofs.Ytbfephekkfieaaa
