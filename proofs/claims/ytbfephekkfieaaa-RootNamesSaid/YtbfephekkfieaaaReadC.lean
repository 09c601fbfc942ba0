/-
  The contract of root.Read.
-/
import Derived.Test.YtbfephekkfieaaaReadB
import Derived.Test.YtbfephekkfieaaaHeld
import Derived.Deep.DeepCutAuto
import Derived.Deep.CutBlock
import Derived.Laws.EntriesVeiled
namespace Go.Proofs.Ytbfephekkfieaaa
open Go.RowKit
attribute [local go_sem ↓] Go.wp_at_zero Go.wp_at_succ

theorem tk_len (n : Nat) (p : Pst) : (tk n p).1.length ≤ n := by
  unfold tk
  split
  · simp
    omega
  · simp
theorem gt_small {m : Nat} (hm : m ≤ 4) (p : Pst) : 0 ≤ (gt m p).1 ∧ (gt m p).1.toNat < 256 ^ m := by
  have h := tk_len m p
  unfold gt
  dsimp only
  rw [sval_small (by omega)]
  have h1 := val_lt (tk m p).1
  have h2 : 256 ^ (tk m p).1.length ≤ 256 ^ m := Nat.pow_le_pow_right (by omega) h
  omega
theorem rdPlace_ok (p : Pst) : PlaceOk (rdPlace p).1 := by
  unfold rdPlace PlaceOk
  dsimp only
  have h1 := gt_small (m := 4) (by omega) (tk 32 p).2
  have h2 := gt_small (m := 4) (by omega) (gt 4 (tk 32 p).2).2
  omega
theorem but_set5 {b4 b5 : Nat} (w : World) (v : Value) : But b4 b5 w (w.setCell ⟨b5, 0, none⟩ v) := (But.refl _ _ _).set5 v

/-- What holds before the state's box is there. -/
structure R0 (w0 w : World) (b4 b5 b6 : Nat) (p : Pst) : Prop where
  rp : RP w b4 b5 p
  fn : w.cell? ⟨b6, 0, none⟩ = some (takeV b4 b5)
  z : BoxAt w w0.heap.size 0 0 0 (.slice none 0 0) (.slice none 0 0) (.slice none 0 0)
  lt : w0.heap.size < b4 ∧ b4 < b5 ∧ b5 < b6 ∧ b6 < w.heap.size
  below : Below w0.heap.size w0 w
section
variable {w0 w w' : World} {b4 b5 b6 : Nat} {p p' : Pst}
theorem R0.but (h : R0 w0 w b4 b5 b6 p) (hb : But b4 b5 w w') (hp : RP w' b4 b5 p') : R0 w0 w' b4 b5 b6 p' := by
  obtain ⟨rp, fn, z, ⟨l1, l2, l3, l4⟩, below⟩ := h
  have hz0 := z.lt
  have hs := hb.size
  exact ⟨hp, (hb.cell 0 (by omega) (by omega) (by omega)).trans fn, z.block (hb.block _ hz0 (by omega) (by omega)), ⟨l1, l2, l3, by omega⟩, below.trans (hb.below (by omega) (by omega) (by omega))⟩
theorem R0.start (h : R0 w0 w b4 b5 b6 p) (k n x : Int) : RS w0 (w.alloc (.cells #[.int .i64 k, .int .i64 n, .int .i64 x, .slice none 0 0, .slice none 0 0, .slice none 0 0] 29)) b4 b5 b6 w.heap.size p k n x (.slice none 0 0) (.slice none 0 0) (.slice none 0 0) [] [] [] := by
  have hb : Below w.heap.size w (w.alloc (.cells #[.int .i64 k, .int .i64 n, .int .i64 x, .slice none 0 0, .slice none 0 0, .slice none 0 0] 29)) := (Below.refl _ _).alloc (Nat.le_refl _) _
  have h' := h.but (But.of hb) (h.rp.below hb (by have := h.rp.lt; omega))
  exact ⟨h'.rp, h'.fn, h'.z, BoxAt.new w _ _ _ _ _ _, Owns.nil_, Owns.nil_, Owns.nil_, .inl rfl, .inl rfl, .inl rfl, ⟨h.lt.1, h.lt.2.1, h.lt.2.2.1, h.lt.2.2.2⟩, h'.below⟩
end

abbrev set6 (w : World) (b : Nat) (k n x : Int) (v4 v5 v6 : Value) : World :=
  (((((w.setCell ⟨b, 0, none⟩ (.int .i64 k)).setCell ⟨b, 1, none⟩ (.int .i64 n)).setCell ⟨b, 2, none⟩ (.int .i64 x)).setCell ⟨b, 3, none⟩ v4).setCell ⟨b, 4, none⟩ v5).setCell ⟨b, 5, none⟩ v6
theorem BoxAt.set6 {w : World} {b : Nat} {k n x : Int} {v4 v5 v6 : Value} (h : BoxAt w b k n x v4 v5 v6) (k' n' x' : Int) (v4' v5' v6' : Value) : BoxAt (set6 w b k' n' x' v4' v5' v6') b k' n' x' v4' v5' v6' :=
  (heap_setCell (heap_setCell (heap_setCell (heap_setCell (heap_setCell (heap_setCell h _) _) _) _) _) _).trans rfl
theorem Owns.set6 {α : Type} {c : Nat} {enc : α → List Value} {T : TypeId} {w : World} {base : Nat} {v : Value} {l : List α} (h : Owns c enc T w base v l) {b : Nat} (hb : b < base) (k n x : Int) (v4 v5 v6 : Value) : Owns c enc T (Go.Proofs.Ytbfephekkfieaaa.set6 w b k n x v4 v5 v6) base v l :=
  (((((h.setOther _ hb).setOther _ hb).setOther _ hb).setOther _ hb).setOther _ hb).setOther _ hb
theorem below_set6 {B : Nat} {w0 w : World} (h : Below B w0 w) {b : Nat} (hb : B ≤ b) (k n x : Int) (v4 v5 v6 : Value) : Below B w0 (Go.Proofs.Ytbfephekkfieaaa.set6 w b k n x v4 v5 v6) :=
  (((((h.setCell hb _).setCell hb _).setCell hb _).setCell hb _).setCell hb _).setCell hb _

theorem rd_chain {b : List UInt8} {k n x c d : Int} {pk pn px pc p5 pd pe : Pst} {sn : List Snap} {cs : List ByteArray} {ps : List Place} (hk : gt 1 (rdHead b) = (k, pk)) (hn : gt 1 pk = (n, pn)) (hx : gt 4 pn = (x, px)) (hc : gt 1 px = (c, pc))
    (hs : rdSnaps c.toNat pc [] = (sn, p5)) (hd : gt 2 p5 = (d, pd)) (he : rdChunks d.toNat pd [] [] = ((cs, ps), pe)) : rd b = (⟨k, n, x, sn, cs, ps⟩, pe) := by
  have eK : rdK b = (k, pk) := by rw [rdK, hk]
  have eN : rdN b = (n, pn) := by rw [rdN, eK, hn]
  have eX : rdX b = (x, px) := by rw [rdX, eN, hx]
  have eC : rdC b = (c, pc) := by rw [rdC, eX, hc]
  have eS : rdS b = (sn, p5) := by rw [rdS, eC, hs]
  have eD : rdD b = (d, pd) := by rw [rdD, eS, hd]
  have eE : rdE b = ((cs, ps), pe) := by rw [rdE, eD, he]
  unfold rd
  rw [eK, eN, eX, eS, eE]

set_option maxHeartbeats 4000000 in
set_option maxRecDepth 100000 in
theorem root_Read (b : List UInt8) (w : World) (hb : b.length ≤ 100000) :
    Calls Try.prog 9 #[.string (str b)] w fun e w' => ∃ r : Rws, e = .returned (.tuple #[r.val (readRes b).1, .int .i64 (readRes b).2]) ∧
      snapE.Own w' w.heap.size (.slice r.A1 r.n1 r.c1) (readRes b).1.sn ∧ strE.Own w' w.heap.size (.slice r.A2 r.n2 r.c2) (readRes b).1.cs ∧ placeE.Own w' w.heap.size (.slice r.A3 r.n3 r.c3) (readRes b).1.ps ∧
      (∀ p ∈ (readRes b).1.ps, PlaceOk p) ∧ Below w.heap.size w w' := by
  obtain ⟨W0, hW0⟩ : ∃ W0, W0 = w.alloc (stBox 0 0 0 none 0 0 none 0 0 none 0 0) := ⟨_, rfl⟩
  have hz0 : W0.heap.size = w.heap.size + 1 := by rw [hW0]; simp
  have hsz : (str b).size = b.length := str_size b
  have hcv := Lib.run_convert_string_bytes (P := Try.prog) W0 9 56 5 (str b) Try.underlying9 Try.underlying56 Try.underlying5
  have hrow := bytes_row W0 5 (str b) (by omega)
  have hbb := below_bytes W0 5 (str b)
  have hz1 : (Lib.bytesWorld W0 5 (str b)).heap.size = W0.heap.size + 1 := Lib.bytesWorld_size _ _ _
  have hcap := grownCap_ge W0 b.length 0 5
  have hcap2 := grownCap_le_maxLen W0 b.length 0 5 (by unfold maxLen; omega)
  rw [hsz] at hcv hrow
  rw [show bl (str b) = b by simp [bl, str]] at hrow
  obtain ⟨cap, hc⟩ : ∃ cap, cap = grownCap W0 b.length 0 5 := ⟨_, rfl⟩
  rw [← hc] at hcv hcap hcap2
  have hzb : BoxAt W0 w.heap.size 0 0 0 (.slice none 0 0) (.slice none 0 0) (.slice none 0 0) := by rw [hW0]; exact BoxAt.new w _ _ _ _ _ _
  have hB0 : Below w.heap.size w W0 := by rw [hW0]; exact (Below.refl _ _).alloc (Nat.le_refl _) _
  obtain ⟨W1, hW1⟩ : ∃ W1, W1 = Lib.bytesWorld W0 5 (str b) := ⟨_, rfl⟩
  rw [← hW1] at hcv hrow hbb hz1
  rw [hz0] at hrow
  rw [hz0, hW0] at hcv
  unfold stBox at hcv
  have hB1 : Below w.heap.size w W1 := hB0.trans (hbb.mono (by omega))
  have hzb1 := hzb.below hbb
  replace hrow := Lib.hid hrow
  replace hbb := Lib.hid hbb
  replace hzb := Lib.hid hzb
  replace hzb1 := Lib.hid hzb1
  clear hW0 hW1 hc
  have hz1' : W1.heap.size = w.heap.size + 2 := by omega
  replace hz1 := Lib.hid hz1
  replace hz0 := Lib.hid hz0
  go_enter Try.func9, Try.ntmps9
  go_wp2_with fail
  have r0 : R0 w (((W1.alloc (.cells #[.slice (some ⟨w.heap.size + 1, 0, none⟩) b.length cap] 56)).alloc (.cells #[.bool false] 4)).alloc (.cells #[takeV (w.heap.size + 2) (w.heap.size + 2 + 1)] 67)) (w.heap.size + 2) (w.heap.size + 2 + 1) (w.heap.size + 2 + 1 + 1) (false, b) := by
    refine ⟨⟨⟨by omega, by simp; omega⟩, by go_simp, by go_simp, ⟨some ⟨w.heap.size + 1, 0, none⟩, b.length, cap, by go_simp, ?_, hcap, by simp only [maxLen] at hcap2; omega⟩, by go_simp⟩, by go_simp, ?_, ⟨by omega, by omega, by omega, by simp; omega⟩, (by repeat (first | exact Below.refl _ _ | assumption | refine Below.drew ?_ | refine below_drewN ?_ _ | refine Below.alloc ?_ (by first | omega | (simp; try omega)) _ | refine Below.setCell ?_ (by first | omega | (simp; try omega)) _ | (refine Below.trans ?_ (Below.mono (by assumption) (by first | omega | (simp; try omega))))))⟩
    · exact (((hrow.out.more (by omega)).alloc (by omega) _).alloc (by simp; omega) _).alloc (by simp; omega) _
    · exact ((hzb1.out.alloc _).alloc _).alloc _
  generalize ((W1.alloc (.cells #[.slice (some ⟨w.heap.size + 1, 0, none⟩) b.length cap] 56)).alloc (.cells #[.bool false] 4)).alloc (.cells #[takeV (w.heap.size + 2) (w.heap.size + 2 + 1)] 67) = W4 at r0 ⊢
  obtain ⟨b4, hb4⟩ : ∃ x, w.heap.size + 2 = x := ⟨_, rfl⟩
  rw [hb4] at r0 ⊢
  obtain ⟨b5, hb5⟩ : ∃ x, b4 + 1 = x := ⟨_, rfl⟩
  rw [hb5] at r0 ⊢
  obtain ⟨b6, hb6⟩ : ∃ x, b5 + 1 = x := ⟨_, rfl⟩
  rw [hb6] at r0 ⊢
  have hb4' := Lib.hid hb4
  clear hcv hrow hbb hzb hzb1 hB0 hB1 hz0 hz1 hz1' hcap hcap2 hb4 hb5 hb6 hsz
  refine (read_take 4 (by omega) (by omega) _ b4 b5 _ r0.rp).mono ?_
  rintro e w5 ⟨rfl, hp5, hbut5⟩
  have r5 := r0.but hbut5 hp5
  obtain ⟨l4, hl4⟩ : ∃ l, l = (tk 4 (false, b)).1 := ⟨_, rfl⟩
  obtain ⟨c, hcc⟩ : ∃ c, c = decide (l4 ≠ [115, 116, 97, 49]) := ⟨_, rfl⟩
  have hc1 : ((str l4).toList == [115, 116, 97, 49]) = !c := by
    rw [hcc, toList_bl, bl_str]
    by_cases h : l4 = [115, 116, 97, 49] <;> simp [h]
  have hhd : Hid (rdHead b = (c, (tk 4 (false, b)).2.2)) := by
    unfold Hid rdHead
    rw [hcc, hl4]
  rw [← hl4]
  obtain ⟨q5, hq5⟩ : ∃ q, q = (tk 4 (false, b)).2 := ⟨_, rfl⟩
  rw [← hq5] at r5 hhd
  have x5 := r5.fn
  have y5 := r5.rp.bad
  have u5 := r5.rp.fb
  have hz5 := hbut5.size
  replace r5 := Lib.hid r5
  clear hl4 hq5 hcc r0 hp5 hbut5
  go_wp2_with fail
  have r6 : R0 w (w5.setCell ⟨b5, 0, none⟩ (.bool c)) b4 b5 b6 (rdHead b) := by
    rw [hhd.out]
    exact r5.out.but (but_set5 _ _) (r5.out.rp.setBad c)
  generalize w5.setCell ⟨b5, 0, none⟩ (.bool c) = w6 at r6 ⊢
  clear r5 x5 y5 u5 hz5 hhd hc1
  obtain ⟨kk, pk, hk⟩ : ∃ k p, gt 1 (rdHead b) = (k, p) := ⟨_, _, rfl⟩
  have ct := read_get 1 (by omega) w6 b4 b5 b6 _ r6.rp ⟨r6.lt.2.2.2, by have := r6.lt; omega, by have := r6.lt; omega⟩ r6.fn
  rw [hk] at ct
  refine ct.mono ?_
  clear ct
  rintro e w7 ⟨rfl, hp, hbut⟩
  have r7 := r6.but hbut hp
  have hzw7 := hbut.size
  clear hp hbut
  dsimp only at r7
  replace hk := Lib.hid hk
  clear r6
  go_wp2_with fail
  obtain ⟨nn, pn, hn⟩ : ∃ k p, gt 1 pk = (k, p) := ⟨_, _, rfl⟩
  have ct := read_get 1 (by omega) w7 b4 b5 b6 _ r7.rp ⟨r7.lt.2.2.2, by have := r7.lt; omega, by have := r7.lt; omega⟩ r7.fn
  rw [hn] at ct
  refine ct.mono ?_
  clear ct
  rintro e w8 ⟨rfl, hp, hbut⟩
  have r8 := r7.but hbut hp
  have hzw8 := hbut.size
  clear hp hbut
  dsimp only at r8
  replace hn := Lib.hid hn
  clear r7
  go_wp2_with fail
  obtain ⟨xx, px, hx⟩ : ∃ k p, gt 4 pn = (k, p) := ⟨_, _, rfl⟩
  have ct := read_get 4 (by omega) w8 b4 b5 b6 _ r8.rp ⟨r8.lt.2.2.2, by have := r8.lt; omega, by have := r8.lt; omega⟩ r8.fn
  rw [hx] at ct
  refine ct.mono ?_
  clear ct
  rintro e w9 ⟨rfl, hp, hbut⟩
  have r9 := r8.but hbut hp
  have hzw9 := hbut.size
  clear hp hbut
  dsimp only at r9
  replace hx := Lib.hid hx
  clear r8
  have x9 := r9.fn
  go_wp2_with fail
  have s10 := r9.start kk nn xx
  generalize w9.alloc (.cells #[.int .i64 kk, .int .i64 nn, .int .i64 xx, .slice none 0 0, .slice none 0 0, .slice none 0 0] 29) = w10 at s10 ⊢
  obtain ⟨b8, hb8⟩ : ∃ x, w9.heap.size = x := ⟨_, rfl⟩
  rw [hb8] at s10 ⊢
  clear r9 x9 hb8 hzw7 hzw8 hzw9
  obtain ⟨cc, pc, hc⟩ : ∃ k p, gt 1 px = (k, p) := ⟨_, _, rfl⟩
  have hlt := s10.lt
  have hbx := s10.bx.lt
  have ct := read_get 1 (by omega) w10 b4 b5 b6 _ s10.rp ⟨by omega, by omega, by omega⟩ s10.fn
  rw [hc] at ct
  have hcr := gt_small (m := 1) (by omega) px
  rw [hc] at hcr
  obtain ⟨m1, rfl⟩ : ∃ m : Nat, cc = m := ⟨cc.toNat, by have := hcr.1; dsimp only at this; omega⟩
  have hm1 : m1 < 256 := by have := hcr.2; simp at this; omega
  refine ct.mono ?_
  clear ct hcr
  rintro e w11 ⟨rfl, hp, hbut⟩
  have s11 := s10.but hbut hp
  clear hp hbut s10 hbx
  dsimp only at s11
  replace hc := Lib.hid hc
  replace s11 := Lib.hid s11
  go_upto_block 0 with fail
  go_cut [26] (fun _ wc => ∃ v4 sn p, rdSnaps m1 pc [] = (sn, p) ∧ sn.length ≤ m1 ∧ RS w wc b4 b5 b6 b8 p kk nn xx v4 (.slice none 0 0) (.slice none 0 0) sn [] [])
  case first =>
    go_wp2_with fail
    go_loopw [26] (fun i wr => ∃ j : Nat, j ≤ m1 ∧ i = .int .i64 j ∧ Hid (∃ v4 sn p, rdSnaps m1 pc [] = rdSnaps (m1 - j) p sn ∧ sn.length ≤ j ∧ RS w wr b4 b5 b6 b8 p kk nn xx v4 (.slice none 0 0) (.slice none 0 0) sn [] [])) (fun i _ => m1 - (intOf i).toNat)
    case atStart => exact ⟨0, Nat.zero_le _, rfl, _, _, _, rfl, Nat.le_refl _, s11.out⟩
    case round =>
      obtain ⟨j, hj, rfl, hinv⟩ := hrel
      obtain ⟨v4, sn, p, hres, hsl, s⟩ := hinv.out
      clear hinv
      have y0 := s.rp.bad
      have hbx := s.bx.lt
      by_cases hjm : j < m1
      · cases hp : p.1
        · rw [hp] at y0
          obtain ⟨A4, c4, rfl⟩ := s.o4.form
          obtain ⟨i1, p1, h1⟩ : ∃ k q, gt 4 p = (k, q) := ⟨_, _, rfl⟩
          obtain ⟨t1, p2, h2⟩ : ∃ k q, gt 8 p1 = (k, q) := ⟨_, _, rfl⟩
          obtain ⟨l3, p3, h3⟩ : ∃ k q, tk 32 p2 = (k, q) := ⟨_, _, rfl⟩
          have hstep : Hid (rdSnaps m1 pc [] = rdSnaps (m1 - (j + 1)) p3 (sn ++ [⟨i1, t1, str l3⟩])) := by
            unfold Hid
            have hr : rdSnap p = (⟨i1, t1, str l3⟩, p3) := by
              unfold rdSnap
              rw [h1]
              dsimp only
              rw [h2]
              dsimp only
              rw [h3]
            rw [hres, show m1 - j = (m1 - (j + 1)) + 1 by omega, rdSnaps, if_neg (by rw [hp]; simp), hr]
          have sd := s.drew
          have hk1 := read_get 4 (by omega) wr.drew b4 b5 b6 _ sd.rp ⟨by simpa using (by omega : b6 < wr.heap.size), by omega, by omega⟩ sd.fn
          rw [h1] at hk1
          have hk2 : ∀ W, RP W b4 b5 p1 → b6 < W.heap.size → W.cell? ⟨b6, 0, none⟩ = some (takeV b4 b5) → Calls Try.prog 30 #[.int .i64 8, .pointer (some ⟨b6, 0, none⟩)] W fun e w' => e = .returned (.int .i64 t1) ∧ RP w' b4 b5 p2 ∧ But b4 b5 W w' := fun W hr hl hf => by
            have := read_get 8 (by omega) W b4 b5 b6 _ hr ⟨hl, by omega, by omega⟩ hf
            rwa [h2] at this
          have hk3 : ∀ W, RP W b4 b5 p2 → Calls Try.prog 29 #[.int .i64 32, .pointer (some ⟨b4, 0, none⟩), .pointer (some ⟨b5, 0, none⟩)] W fun e w' => e = .returned (.string (str l3)) ∧ RP w' b4 b5 p3 ∧ But b4 b5 W w' := fun W hr => by
            have := read_take 32 (by omega) (by omega) W b4 b5 _ hr
            rwa [h3] at this
          have x0 := s.fn
          have z0 := s.bx.cells.2.2.2.1
          have hb68 : b6 ≠ b8 := by omega
          have hb86 : b8 ≠ b6 := by omega
          have hb6 : b6 < wr.heap.size := by omega
          replace sd := Lib.hid sd
          replace s := Lib.hid s
          replace hk1 := Lib.hid hk1
          replace hk2 := Lib.hid hk2
          replace hk3 := Lib.hid hk3
          replace hres := Lib.hid hres
          replace h1 := Lib.hid h1
          replace h2 := Lib.hid h2
          replace h3 := Lib.hid h3
          replace hp := Lib.hid hp
          go_wp2_with fail
          refine region_held_tail 11 (fun W : World => W.cell? ⟨b8, 3, none⟩ = some (.slice A4 sn.length c4) ∧ W.cell? ⟨b6, 0, none⟩ = some (.func (.func 29) #[] #[.pointer (some ⟨b4, 0, none⟩), .pointer (some ⟨b5, 0, none⟩)])) (by kernel_rfl) (by kernel_rfl) ?_
          have hHeld : (fun W : World => W.cell? ⟨b8, 3, none⟩ = some (.slice A4 sn.length c4) ∧ W.cell? ⟨b6, 0, none⟩ = some (.func (.func 29) #[] #[.pointer (some ⟨b4, 0, none⟩), .pointer (some ⟨b5, 0, none⟩)])) wr.drew := ⟨z0, x0⟩
          (refine HT.take (i := 0) (v := ?_) rfl (by kernel_rfl) (fun _ _ _ h => h) (Or.inl ⟨by rfl, ?_⟩) (by assumption) ?_
           rotate_left
           · (intro w hSw; (try dsimp only at hSw); go_simp; (try with_reducible rfl))
           try simp only [Act.put, List.setIfInBounds_toArray, List.set_cons_zero, List.set_cons_succ])
          (refine HT.take (i := 1) (v := ?_) rfl (by kernel_rfl) (fun _ _ _ h => h) (Or.inl ⟨by rfl, ?_⟩) (by assumption) ?_
           rotate_left
           · (intro w hSw; (try dsimp only at hSw); go_simp; (try with_reducible rfl))
           try simp only [Act.put, List.setIfInBounds_toArray, List.set_cons_zero, List.set_cons_succ])
          (refine HT.take (i := 2) (v := ?_) rfl (by kernel_rfl) (fun _ _ _ h => h) (Or.inl ⟨by rfl, ?_⟩) (by assumption) ?_
           rotate_left
           · (intro w hSw; (try dsimp only at hSw); go_simp; (try with_reducible rfl))
           try simp only [Act.put, List.setIfInBounds_toArray, List.set_cons_zero, List.set_cons_succ])
          (refine HT.take (i := 4) (v := ?_) rfl (by kernel_rfl) (fun _ _ _ h => h) (Or.inl ⟨by rfl, ?_⟩) (by assumption) ?_
           rotate_left
           · (intro w hSw; (try dsimp only at hSw); go_simp; (try with_reducible rfl))
           try simp only [Act.put, List.setIfInBounds_toArray, List.set_cons_zero, List.set_cons_succ])
          (refine HT.take (i := 6) (v := ?_) rfl (by kernel_rfl) (fun _ _ _ h => h) (Or.inl ⟨by rfl, ?_⟩) (by assumption) ?_
           rotate_left
           · (intro w hSw; (try dsimp only at hSw); go_simp; (try with_reducible rfl))
           try simp only [Act.put, List.setIfInBounds_toArray, List.set_cons_zero, List.set_cons_succ])
          (refine HT.only (i := 3) rfl (by kernel_rfl) (fun K hK => ?_)
           (go_simp; (go_at_call_of 30 (Value.int IntKind.i64 4); refine hk1.out.mono ?_; rintro e w1 ⟨rfl, hp1, hb1⟩; have s1 := sd.out.but hb1 hp1; have x1 := s1.fn; have z1 := s1.bx.cells.2.2.2.1; have hz1 := s1.bx.lt; have hz1' : b6 < w1.heap.size := by omega))
           refine hK.out _ _ ?_ (fun hHeld => ?_)
           · (exact ⟨z1, x1⟩)
           clear hK K
           try simp only [Act.put, List.setIfInBounds_toArray, List.set_cons_zero, List.set_cons_succ])
          (refine HT.only (i := 5) rfl (by kernel_rfl) (fun K hK => ?_)
           (go_simp; (go_at_call_of 30 (Value.int IntKind.i64 8); refine (hk2.out w1 s1.rp hz1' x1).mono ?_; rintro e w2 ⟨rfl, hp2, hb2⟩; have s2 := s1.but hb2 hp2; have x2 := s2.fn; have z2 := s2.bx.cells.2.2.2.1; have hz2 := s2.bx.lt; have hz2' : b6 < w2.heap.size := by omega))
           refine hK.out _ _ ?_ (fun hHeld => ?_)
           · (exact ⟨z2, x2⟩)
           clear hK K
           try simp only [Act.put, List.setIfInBounds_toArray, List.set_cons_zero, List.set_cons_succ])
          (refine HT.only (i := 7) rfl (by kernel_rfl) (fun K hK => ?_)
           (go_simp; (go_at_call_of 29 (Value.int IntKind.i64 32); refine (hk3.out w2 s2.rp).mono ?_; rintro e w3 ⟨rfl, hp3, hb3⟩; have s3 := s2.but hb3 hp3; have x3 := s3.fn; have z3 := s3.bx.cells.2.2.2.1; have hz3 := s3.bx.lt; have hz3' : b6 < w3.heap.size := by omega))
           refine hK.out _ _ ?_ (fun hHeld => ?_)
           · (exact ⟨z3, x3⟩)
           clear hK K
           try simp only [Act.put, List.setIfInBounds_toArray, List.set_cons_zero, List.set_cons_succ])
          (refine HT.take (i := 8) (v := ?_) rfl (by kernel_rfl) (fun _ _ _ h => h) (Or.inl ⟨by rfl, ?_⟩) (by assumption) ?_
           rotate_left
           · (intro w hSw; (try dsimp only at hSw); go_simp; (try with_reducible rfl))
           try simp only [Act.put, List.setIfInBounds_toArray, List.set_cons_zero, List.set_cons_succ])
          (refine HT.only (i := 9) rfl (by kernel_rfl) (fun K hK => ?_)
           go_simp
           refine hK.out _ _ ?_ (fun hHeld => ?_)
           · (exact ⟨(s3.alloc _).bx.cells.2.2.2.1, (s3.alloc _).fn⟩)
           clear hK K
           try simp only [Act.put, List.setIfInBounds_toArray, List.set_cons_zero, List.set_cons_succ])
          (refine HT.only (i := 10) rfl (by kernel_rfl) (fun K hK => ?_)
           (refine Elem.step_one snapE (by rfl) (.tmp 30) (.tmp 38) (by rfl) (b8 + 1) (.slice A4 sn.length c4) sn (by rfl) _ _ ⟨i1, t1, str l3⟩ (by rfl) (by exact (s3.alloc _).o4) (by intro j u hu; rcases j with _ | _ | _ | j <;> simp [snapE, Snap.cells] at hu <;> subst hu <;> go_simp) (by omega) (by first | omega | (simp; try omega)) ?_; intro v5 w5 hown hg hat; obtain ⟨A5, c5, rfl⟩ := hown.form; have bx5 := (s3.alloc _).bx.grown hg (s3.o4.ne_some (by omega)); have z5 := bx5.cells.2.2.2.1; have fz5 := bx5.frozen 3; have x5 := (hg.cell_far ⟨b6, 0, none⟩ (by show b6 < _; simp; omega) (fun e => by have := (s3.o4.within (i := b6) e.symm).1; omega)).trans (s3.alloc _).fn; have s5 := (s3.alloc _).grow4 hown hg hat)
           refine hK.out _ _ ?_ (fun hHeld => ?_)
           · (exact ⟨z5, x5⟩)
           clear hK K
           try simp only [Act.put, List.setIfInBounds_toArray, List.set_cons_zero, List.set_cons_succ])
          refine HT.tail (by kernel_rfl) ?_
          simp only [List.drop_succ_cons, List.drop_zero]
          replace s5 := Lib.hid s5
          clear hg hat hown
          go_wp2_with fail
          go_roundw
          case rel => exact ⟨j + 1, by omega, by go_num, ⟨_, _, _, hstep.out, by simp; omega, by have := s5.out; simp only [List.length_append, List.length_cons, List.length_nil, Nat.zero_add] at this; exact this⟩⟩
          case measure => simp [intOf]; omega
        · rw [hp] at y0
          have hdone : Hid (rdSnaps m1 pc [] = (sn, p)) := by
            unfold Hid
            rw [hres]
            cases m1 - j with
            | zero => rfl
            | succ q => rw [rdSnaps, if_pos hp]
          replace s := Lib.hid s
          replace hres := Lib.hid hres
          replace hp := Lib.hid hp
          go_wp2_with fail
          go_meet
          exact ⟨_, _, _, hdone.out, by omega, s.out⟩
      · obtain rfl : j = m1 := by omega
        have hdone : Hid (rdSnaps j pc [] = (sn, p)) := by
          unfold Hid
          rw [hres, Nat.sub_self, rdSnaps]
        replace s := Lib.hid s
        replace hres := Lib.hid hres
        go_wp2_with fail
        go_meet
        exact ⟨_, _, _, hdone.out, hsl, s.out⟩
  case rest =>
    obtain ⟨v4, sn, p5, hsn, hsl, s12⟩ := hcut
    obtain ⟨A4, c4, rfl⟩ := s12.o4.form
    obtain ⟨dd, pd, hd⟩ : ∃ k p, gt 2 p5 = (k, p) := ⟨_, _, rfl⟩
    have hbx := s12.bx.lt
    have ct := read_get 2 (by omega) wc b4 b5 b6 _ s12.rp ⟨by omega, by omega, by omega⟩ s12.fn
    rw [hd] at ct
    have hdr := gt_small (m := 2) (by omega) p5
    rw [hd] at hdr
    obtain ⟨m2, rfl⟩ : ∃ m : Nat, dd = m := ⟨dd.toNat, by have := hdr.1; dsimp only at this; omega⟩
    have hm2 : m2 < 65536 := by have := hdr.2; simp at this; omega
    replace hsn := Lib.hid hsn
    replace hd := Lib.hid hd
    go_wp2_with fail
    refine ct.mono ?_
    clear ct hdr
    rintro e w13 ⟨rfl, hp, hbut⟩
    have s13 := s12.but hbut hp
    clear hp hbut s12 hbx s11
    (try dsimp only at s13)
    replace s13 := Lib.hid s13
    go_upto_block 2 with fail
    go_cut [44] (fun _ wc => ∃ v5 v6 cs ps p, rdChunks m2 pd [] [] = ((cs, ps), p) ∧ (∀ q ∈ ps, PlaceOk q) ∧ RS w wc b4 b5 b6 b8 p kk nn xx (.slice A4 sn.length c4) v5 v6 sn cs ps)
    case first =>
      go_wp2_with fail
      go_loopw [44] (fun i wr => ∃ j : Nat, j ≤ m2 ∧ i = .int .i64 j ∧ Hid (∃ v5 v6 cs ps p, rdChunks m2 pd [] [] = rdChunks (m2 - j) p cs ps ∧ cs.length ≤ j ∧ ps.length ≤ j ∧ (∀ q ∈ ps, PlaceOk q) ∧ RS w wr b4 b5 b6 b8 p kk nn xx (.slice A4 sn.length c4) v5 v6 sn cs ps)) (fun i _ => m2 - (intOf i).toNat)
      case atStart => exact ⟨0, Nat.zero_le _, rfl, _, _, _, _, _, rfl, Nat.le_refl _, Nat.le_refl _, by simp, s13.out⟩
      case round =>
        obtain ⟨j, hj, rfl, hinv⟩ := hrel
        obtain ⟨v5, v6, cs, ps, p, hres, hcl, hpl, hok, s⟩ := hinv.out
        clear hinv
        have y0 := s.rp.bad
        have hbx := s.bx.lt
        by_cases hjm : j < m2
        · cases hp : p.1
          · rw [hp] at y0
            obtain ⟨A5, c5, rfl⟩ := s.o5.form
            obtain ⟨A6, c6, rfl⟩ := s.o6.form
            obtain ⟨l1, p1, h1⟩ : ∃ k q, tk 32 p = (k, q) := ⟨_, _, rfl⟩
            obtain ⟨l2, p2, h2⟩ : ∃ k q, tk 32 p1 = (k, q) := ⟨_, _, rfl⟩
            obtain ⟨a3, p3, h3⟩ : ∃ k q, gt 4 p2 = (k, q) := ⟨_, _, rfl⟩
            obtain ⟨n4, p4, h4⟩ : ∃ k q, gt 4 p3 = (k, q) := ⟨_, _, rfl⟩
            have hrp : rdPlace p1 = (⟨str l2, a3, n4⟩, p4) := by
              unfold rdPlace
              rw [h2]
              dsimp only
              rw [h3]
              dsimp only
              rw [h4]
            have hok' : Hid (∀ q ∈ ps ++ [(⟨str l2, a3, n4⟩ : Place)], PlaceOk q) := fun q hq => by
              rcases List.mem_append.1 hq with h | h
              · exact hok q h
              · have := rdPlace_ok p1
                rw [hrp] at this
                rw [List.mem_singleton.1 h]
                exact this
            have hstep : Hid (rdChunks m2 pd [] [] = rdChunks (m2 - (j + 1)) p4 (cs ++ [str l1]) (ps ++ [⟨str l2, a3, n4⟩])) := by
              unfold Hid
              have hr : rdChunk p = (str l1, p1) := by
                unfold rdChunk
                rw [h1]
              rw [hres, show m2 - j = (m2 - (j + 1)) + 1 by omega, rdChunks, if_neg (by rw [hp]; simp), hr]
              dsimp only
              rw [hrp]
            have sd := s.drew
            have hk1 := read_take 32 (by omega) (by omega) wr.drew b4 b5 _ sd.rp
            rw [h1] at hk1
            have hk2 : ∀ W, RP W b4 b5 p1 → Calls Try.prog 29 #[.int .i64 32, .pointer (some ⟨b4, 0, none⟩), .pointer (some ⟨b5, 0, none⟩)] W fun e w' => e = .returned (.string (str l2)) ∧ RP w' b4 b5 p2 ∧ But b4 b5 W w' := fun W hr => by
              have := read_take 32 (by omega) (by omega) W b4 b5 _ hr
              rwa [h2] at this
            have hk3 : ∀ W, RP W b4 b5 p2 → b6 < W.heap.size → W.cell? ⟨b6, 0, none⟩ = some (takeV b4 b5) → Calls Try.prog 30 #[.int .i64 4, .pointer (some ⟨b6, 0, none⟩)] W fun e w' => e = .returned (.int .i64 a3) ∧ RP w' b4 b5 p3 ∧ But b4 b5 W w' := fun W hr hl hf => by
              have := read_get 4 (by omega) W b4 b5 b6 _ hr ⟨hl, by omega, by omega⟩ hf
              rwa [h3] at this
            have hk4 : ∀ W, RP W b4 b5 p3 → b6 < W.heap.size → W.cell? ⟨b6, 0, none⟩ = some (takeV b4 b5) → Calls Try.prog 30 #[.int .i64 4, .pointer (some ⟨b6, 0, none⟩)] W fun e w' => e = .returned (.int .i64 n4) ∧ RP w' b4 b5 p4 ∧ But b4 b5 W w' := fun W hr hl hf => by
              have := read_get 4 (by omega) W b4 b5 b6 _ hr ⟨hl, by omega, by omega⟩ hf
              rwa [h4] at this
            have x0 := s.fn
            have z0 := s.bx.cells.2.2.2.2.1
            have hb68 : b6 ≠ b8 := by omega
            have hb86 : b8 ≠ b6 := by omega
            have hb6 : b6 < wr.heap.size := by omega
            replace sd := Lib.hid sd
            replace s := Lib.hid s
            replace hk1 := Lib.hid hk1
            replace hk2 := Lib.hid hk2
            replace hk3 := Lib.hid hk3
            replace hk4 := Lib.hid hk4
            replace hres := Lib.hid hres
            replace h1 := Lib.hid h1
            replace h2 := Lib.hid h2
            replace h3 := Lib.hid h3
            replace h4 := Lib.hid h4
            replace hp := Lib.hid hp
            replace hrp := Lib.hid hrp
            replace hok := Lib.hid hok
            go_wp2_with fail
            refine region_held_tail 6 (fun W : World => W.cell? ⟨b8, 4, none⟩ = some (.slice A5 cs.length c5) ∧ W.cell? ⟨b6, 0, none⟩ = some (.func (.func 29) #[] #[.pointer (some ⟨b4, 0, none⟩), .pointer (some ⟨b5, 0, none⟩)])) (by kernel_rfl) (by kernel_rfl) ?_
            have hHeld : (fun W : World => W.cell? ⟨b8, 4, none⟩ = some (.slice A5 cs.length c5) ∧ W.cell? ⟨b6, 0, none⟩ = some (.func (.func 29) #[] #[.pointer (some ⟨b4, 0, none⟩), .pointer (some ⟨b5, 0, none⟩)])) wr.drew := ⟨z0, x0⟩
            (refine HT.take (i := 0) (v := ?_) rfl (by kernel_rfl) (fun _ _ _ h => h) (Or.inl ⟨by rfl, ?_⟩) (by assumption) ?_
             rotate_left
             · (intro w hSw; (try dsimp only at hSw); go_simp; (try with_reducible rfl))
             try simp only [Act.put, List.setIfInBounds_toArray, List.set_cons_zero, List.set_cons_succ])
            (refine HT.take (i := 1) (v := ?_) rfl (by kernel_rfl) (fun _ _ _ h => h) (Or.inl ⟨by rfl, ?_⟩) (by assumption) ?_
             rotate_left
             · (intro w hSw; (try dsimp only at hSw); go_simp; (try with_reducible rfl))
             try simp only [Act.put, List.setIfInBounds_toArray, List.set_cons_zero, List.set_cons_succ])
            (refine HT.take (i := 2) (v := ?_) rfl (by kernel_rfl) (fun _ _ _ h => h) (Or.inl ⟨by rfl, ?_⟩) (by assumption) ?_
             rotate_left
             · (intro w hSw; (try dsimp only at hSw); go_simp; (try with_reducible rfl))
             try simp only [Act.put, List.setIfInBounds_toArray, List.set_cons_zero, List.set_cons_succ])
            (refine HT.only (i := 3) rfl (by kernel_rfl) (fun K hK => ?_)
             (go_simp; (go_at_call_of 29 (Value.int IntKind.i64 32); refine hk1.out.mono ?_; rintro e w1 ⟨rfl, hp1, hb1⟩; have s1 := sd.out.but hb1 hp1; have x1 := s1.fn; have z1 := s1.bx.cells.2.2.2.2.1; have hz1 := s1.bx.lt; have hz1' : b6 < w1.heap.size := by omega))
             refine hK.out _ _ ?_ (fun hHeld => ?_)
             · (exact ⟨z1, x1⟩)
             clear hK K
             try simp only [Act.put, List.setIfInBounds_toArray, List.set_cons_zero, List.set_cons_succ])
            (refine HT.only (i := 4) rfl (by kernel_rfl) (fun K hK => ?_)
             go_simp
             refine hK.out _ _ ?_ (fun hHeld => ?_)
             · (exact ⟨(s1.alloc _).bx.cells.2.2.2.2.1, (s1.alloc _).fn⟩)
             clear hK K
             try simp only [Act.put, List.setIfInBounds_toArray, List.set_cons_zero, List.set_cons_succ])
            (refine HT.only (i := 5) rfl (by kernel_rfl) (fun K hK => ?_)
             (refine Elem.step_one strE (by rfl) (.tmp 48) (.tmp 51) (by rfl) (b8 + 1) (.slice A5 cs.length c5) cs (by rfl) _ _ (str l1) (by rfl) (by exact (s1.alloc _).o5) (by intro j u hu; rcases j with _ | j <;> simp [strE, strCell] at hu <;> subst hu <;> go_simp) (by omega) (by first | omega | (simp; try omega)) ?_; intro v7 w7 hown hg hat; obtain ⟨A7, c7, rfl⟩ := hown.form; have bx7 := (s1.alloc _).bx.grown hg (s1.o5.ne_some (by omega)); have z7 := bx7.cells.2.2.2.2.1; have fz7 := bx7.frozen 4; have x7 := (hg.cell_far ⟨b6, 0, none⟩ (by show b6 < _; simp; omega) (fun e => by have := (s1.o5.within (i := b6) e.symm).1; omega)).trans (s1.alloc _).fn; have s7 := (s1.alloc _).grow5 hown hg hat)
             refine hK.out _ _ ?_ (fun hHeld => ?_)
             · (exact ⟨z7, x7⟩)
             clear hK K
             try simp only [Act.put, List.setIfInBounds_toArray, List.set_cons_zero, List.set_cons_succ])
            refine HT.tail (by kernel_rfl) ?_
            simp only [List.drop_succ_cons, List.drop_zero]
            clear hg hat hown x0 z0 x1 z1 hHeld bx7
            have hlen7 : (cs ++ [str l1]).length = cs.length + 1 := by simp
            rw [hlen7] at s7
            go_wp2_with fail
            generalize w7.setCell ⟨b8, 4, none⟩ (.slice A7 (cs.length + 1) c7) = w8 at s7 ⊢
            clear x7 z7 fz7 hlen7
            have sd8 := s7.drew
            have x8 := s7.fn
            have z8 := s7.bx.cells.2.2.2.2.2
            have hz8 := s7.bx.lt
            replace sd8 := Lib.hid sd8
            replace s7 := Lib.hid s7
            go_wp2_with fail
            refine region_held_tail 11 (fun W : World => W.cell? ⟨b8, 5, none⟩ = some (.slice A6 ps.length c6) ∧ W.cell? ⟨b6, 0, none⟩ = some (.func (.func 29) #[] #[.pointer (some ⟨b4, 0, none⟩), .pointer (some ⟨b5, 0, none⟩)])) (by kernel_rfl) (by kernel_rfl) ?_
            have hHeld : (fun W : World => W.cell? ⟨b8, 5, none⟩ = some (.slice A6 ps.length c6) ∧ W.cell? ⟨b6, 0, none⟩ = some (.func (.func 29) #[] #[.pointer (some ⟨b4, 0, none⟩), .pointer (some ⟨b5, 0, none⟩)])) w8.drew := ⟨z8, x8⟩
            (refine HT.take (i := 0) (v := ?_) rfl (by kernel_rfl) (fun _ _ _ h => h) (Or.inl ⟨by rfl, ?_⟩) (by assumption) ?_
             rotate_left
             · (intro w hSw; (try dsimp only at hSw); go_simp; (try with_reducible rfl))
             try simp only [Act.put, List.setIfInBounds_toArray, List.set_cons_zero, List.set_cons_succ])
            (refine HT.take (i := 1) (v := ?_) rfl (by kernel_rfl) (fun _ _ _ h => h) (Or.inl ⟨by rfl, ?_⟩) (by assumption) ?_
             rotate_left
             · (intro w hSw; (try dsimp only at hSw); go_simp; (try with_reducible rfl))
             try simp only [Act.put, List.setIfInBounds_toArray, List.set_cons_zero, List.set_cons_succ])
            (refine HT.take (i := 2) (v := ?_) rfl (by kernel_rfl) (fun _ _ _ h => h) (Or.inl ⟨by rfl, ?_⟩) (by assumption) ?_
             rotate_left
             · (intro w hSw; (try dsimp only at hSw); go_simp; (try with_reducible rfl))
             try simp only [Act.put, List.setIfInBounds_toArray, List.set_cons_zero, List.set_cons_succ])
            (refine HT.take (i := 4) (v := ?_) rfl (by kernel_rfl) (fun _ _ _ h => h) (Or.inl ⟨by rfl, ?_⟩) (by assumption) ?_
             rotate_left
             · (intro w hSw; (try dsimp only at hSw); go_simp; (try with_reducible rfl))
             try simp only [Act.put, List.setIfInBounds_toArray, List.set_cons_zero, List.set_cons_succ])
            (refine HT.take (i := 6) (v := ?_) rfl (by kernel_rfl) (fun _ _ _ h => h) (Or.inl ⟨by rfl, ?_⟩) (by assumption) ?_
             rotate_left
             · (intro w hSw; (try dsimp only at hSw); go_simp; (try with_reducible rfl))
             try simp only [Act.put, List.setIfInBounds_toArray, List.set_cons_zero, List.set_cons_succ])
            (refine HT.only (i := 3) rfl (by kernel_rfl) (fun K hK => ?_)
             (go_simp; (go_at_call_of 29 (Value.int IntKind.i64 32); refine (hk2.out _ sd8.out.rp).mono ?_; rintro e w9 ⟨rfl, hp9, hb9⟩; have s9 := sd8.out.but hb9 hp9; have x9 := s9.fn; have z9 := s9.bx.cells.2.2.2.2.2; have hz9 := s9.bx.lt; have hz9' : b6 < w9.heap.size := by omega))
             refine hK.out _ _ ?_ (fun hHeld => ?_)
             · (exact ⟨z9, x9⟩)
             clear hK K
             try simp only [Act.put, List.setIfInBounds_toArray, List.set_cons_zero, List.set_cons_succ])
            (refine HT.only (i := 5) rfl (by kernel_rfl) (fun K hK => ?_)
             (go_simp; (go_at_call_of 30 (Value.int IntKind.i64 4); refine (hk3.out w9 s9.rp hz9' x9).mono ?_; rintro e w10 ⟨rfl, hp10, hb10⟩; have s10 := s9.but hb10 hp10; have x10 := s10.fn; have z10 := s10.bx.cells.2.2.2.2.2; have hz10 := s10.bx.lt; have hz10' : b6 < w10.heap.size := by omega))
             refine hK.out _ _ ?_ (fun hHeld => ?_)
             · (exact ⟨z10, x10⟩)
             clear hK K
             try simp only [Act.put, List.setIfInBounds_toArray, List.set_cons_zero, List.set_cons_succ])
            (refine HT.only (i := 7) rfl (by kernel_rfl) (fun K hK => ?_)
             (go_simp; (go_at_call_of 30 (Value.int IntKind.i64 4); refine (hk4.out w10 s10.rp hz10' x10).mono ?_; rintro e w11 ⟨rfl, hp11, hb11⟩; have s11 := s10.but hb11 hp11; have x11 := s11.fn; have z11 := s11.bx.cells.2.2.2.2.2; have hz11 := s11.bx.lt; have hz11' : b6 < w11.heap.size := by omega))
             refine hK.out _ _ ?_ (fun hHeld => ?_)
             · (exact ⟨z11, x11⟩)
             clear hK K
             try simp only [Act.put, List.setIfInBounds_toArray, List.set_cons_zero, List.set_cons_succ])
            (refine HT.take (i := 8) (v := ?_) rfl (by kernel_rfl) (fun _ _ _ h => h) (Or.inl ⟨by rfl, ?_⟩) (by assumption) ?_
             rotate_left
             · (intro w hSw; (try dsimp only at hSw); go_simp; (try with_reducible rfl))
             try simp only [Act.put, List.setIfInBounds_toArray, List.set_cons_zero, List.set_cons_succ])
            (refine HT.only (i := 9) rfl (by kernel_rfl) (fun K hK => ?_)
             go_simp
             refine hK.out _ _ ?_ (fun hHeld => ?_)
             · (exact ⟨(s11.alloc _).bx.cells.2.2.2.2.2, (s11.alloc _).fn⟩)
             clear hK K
             try simp only [Act.put, List.setIfInBounds_toArray, List.set_cons_zero, List.set_cons_succ])
            (refine HT.only (i := 10) rfl (by kernel_rfl) (fun K hK => ?_)
             (refine Elem.step_one placeE (by rfl) (.tmp 55) (.tmp 63) (by rfl) (b8 + 1) (.slice A6 ps.length c6) ps (by rfl) _ _ ⟨str l2, a3, n4⟩ (by rfl) (by exact (s11.alloc _).o6) (by intro j u hu; rcases j with _ | _ | _ | j <;> simp [placeE, Place.cells] at hu <;> subst hu <;> go_simp) (by omega) (by first | omega | (simp; try omega)) ?_; intro v12 w12 hown hg hat; obtain ⟨A12, c12, rfl⟩ := hown.form; have bx12 := (s11.alloc _).bx.grown hg (s11.o6.ne_some (by omega)); have z12 := bx12.cells.2.2.2.2.2; have fz12 := bx12.frozen 5; have x12 := (hg.cell_far ⟨b6, 0, none⟩ (by show b6 < _; simp; omega) (fun e => by have := (s11.o6.within (i := b6) e.symm).1; omega)).trans (s11.alloc _).fn; have s12 := (s11.alloc _).grow6 hown hg hat)
             refine hK.out _ _ ?_ (fun hHeld => ?_)
             · (exact ⟨z12, x12⟩)
             clear hK K
             try simp only [Act.put, List.setIfInBounds_toArray, List.set_cons_zero, List.set_cons_succ])
            refine HT.tail (by kernel_rfl) ?_
            simp only [List.drop_succ_cons, List.drop_zero]
            replace s12 := Lib.hid s12
            clear hg hat hown
            go_wp2_with fail
            go_roundw
            case rel => exact ⟨j + 1, by omega, by go_num, ⟨_, _, _, _, _, hstep.out, by simp; omega, by simp; omega, hok'.out, by have := s12.out; simp only [List.length_append, List.length_cons, List.length_nil, Nat.zero_add] at this; exact this⟩⟩
            case measure => simp [intOf]; omega
          · rw [hp] at y0
            have hdone : Hid (rdChunks m2 pd [] [] = ((cs, ps), p)) := by
              unfold Hid
              rw [hres]
              cases m2 - j with
              | zero => rfl
              | succ q => rw [rdChunks, if_pos hp]
            replace s := Lib.hid s
            replace hres := Lib.hid hres
            replace hp := Lib.hid hp
            replace hok := Lib.hid hok
            go_wp2_with fail
            go_meet
            exact ⟨_, _, _, _, _, hdone.out, hok.out, s.out⟩
        · obtain rfl : j = m2 := by omega
          have hdone : Hid (rdChunks j pd [] [] = ((cs, ps), p)) := by
            unfold Hid
            rw [hres, Nat.sub_self, rdChunks]
          replace s := Lib.hid s
          replace hres := Lib.hid hres
          replace hok := Lib.hid hok
          go_wp2_with fail
          go_meet
          exact ⟨_, _, _, _, _, hdone.out, hok.out, s.out⟩
    case rest =>
      obtain ⟨v5, v6, cs, ps, pe, hch, hok, s14⟩ := hcut
      have hrd : rd b = (⟨kk, nn, xx, sn, cs, ps⟩, pe) := rd_chain hk.out hn.out hx.out hc.out (by rw [Int.toNat_natCast]; exact hsn.out) hd.out (by rw [Int.toNat_natCast]; exact hch)
      clear hch hsn hsl hk hn hx hc hd s13
      obtain ⟨A5, c5, rfl⟩ := s14.o5.form
      obtain ⟨A6, c6, rfl⟩ := s14.o6.form
      obtain ⟨-, y0, -, ⟨Ar, nr, cr, yr, hrow, -, -⟩, -⟩ := s14.rp
      have hnr := hrow.1
      have hnb := hrow.2.1
      clear hrow
      obtain ⟨g0, g1, g2, g3, g4, g5⟩ := s14.z.cells
      have e0 := s14.z.frozen 0
      have e1 := s14.z.frozen 1
      have e2 := s14.z.frozen 2
      have e3 := s14.z.frozen 3
      have e4 := s14.z.frozen 4
      have e5 := s14.z.frozen 5
      obtain ⟨q0, q1, q2, q3, q4, q5⟩ := s14.bx.cells
      have hne8 : b8 ≠ w.heap.size := by have := s14.lt; omega
      have hne8' : w.heap.size ≠ b8 := by have := s14.lt; omega
      have hzl := s14.z.lt
      by_cases hbad : pe.1 = true
      · rw [hbad] at y0
        have hres : Hid (readRes b = (stZero, 4)) := readRes_neg (by unfold rdOk; rw [hrd]; simp [hbad])
        replace hrd := Lib.hid hrd
        replace hbad := Lib.hid hbad
        replace s14 := Lib.hid s14
        replace hok := Lib.hid hok
        replace hnr := Lib.hid hnr
        go_wp2_with fail
        obtain ⟨t0, t1, t2, t3, t4, t5⟩ := (s14.out.z.set6 0 0 0 (.slice none 0 0) (.slice none 0 0) (.slice none 0 0)).cells
        clear g0 g1 g2 g3 g4 g5
        exact bodyPost_ret (v := .tuple #[.agg #[.int .i64 0, .int .i64 0, .int .i64 0, .slice none 0 0, .slice none 0 0, .slice none 0 0], .int .i64 4]) (by simp [results, Try.results9, go_sem, t0, t1, t2, t3, t4, t5]) rfl
          ⟨⟨none, 0, 0, none, 0, 0, none, 0, 0⟩, by rw [hres.out]; rfl, by rw [hres.out]; exact Owns.nil_, by rw [hres.out]; exact Owns.nil_, by rw [hres.out]; exact Owns.nil_, by rw [hres.out]; simp [stZero], below_set6 s14.out.below (Nat.le_refl _) _ _ _ _ _ _⟩
      · replace hbad : pe.1 = false := by simpa using hbad
        rw [hbad] at y0
        by_cases hr0 : 0 < nr
        · have hres : Hid (readRes b = (stZero, 4)) := readRes_neg (by unfold rdOk; rw [hrd]; dsimp only; rw [decide_eq_false (by omega)]; simp)
          have hgt : decide ((0 : Int) < (nr : Int)) = true := by simp; omega
          have hgt2 : decide (0 < nr) = true := by simp; omega
          replace hrd := Lib.hid hrd
          replace hbad := Lib.hid hbad
          replace s14 := Lib.hid s14
          replace hok := Lib.hid hok
          replace hnr := Lib.hid hnr
          go_wp2_with fail
          obtain ⟨t0, t1, t2, t3, t4, t5⟩ := (s14.out.z.set6 0 0 0 (.slice none 0 0) (.slice none 0 0) (.slice none 0 0)).cells
          clear g0 g1 g2 g3 g4 g5
          exact bodyPost_ret (v := .tuple #[.agg #[.int .i64 0, .int .i64 0, .int .i64 0, .slice none 0 0, .slice none 0 0, .slice none 0 0], .int .i64 4]) (by simp [results, Try.results9, go_sem, t0, t1, t2, t3, t4, t5]) rfl
            ⟨⟨none, 0, 0, none, 0, 0, none, 0, 0⟩, by rw [hres.out]; rfl, by rw [hres.out]; exact Owns.nil_, by rw [hres.out]; exact Owns.nil_, by rw [hres.out]; exact Owns.nil_, by rw [hres.out]; simp [stZero], below_set6 s14.out.below (Nat.le_refl _) _ _ _ _ _ _⟩
        · obtain rfl : nr = 0 := by omega
          have hst : StAt wc wc.heap.size ⟨A4, sn.length, c4, A5, cs.length, c5, A6, ps.length, c6⟩ ⟨kk, nn, xx, sn, cs, ps⟩ := ⟨s14.o4.row Snap.len, s14.o5.row strCell_len, s14.o6.row Place.cells_len, hok⟩
          have hMay := root_May _ _ wc hst
          obtain ⟨mb, hmb⟩ : ∃ mb, mb = mayState ⟨kk, nn, xx, sn, cs, ps⟩ := ⟨_, rfl⟩
          have hro : rdOk b = mb := by
            unfold rdOk
            rw [hrd]
            dsimp only
            rw [hbad, hnr, hmb]
            simp
          rw [← hmb] at hMay
          unfold Rws.val stv at hMay
          dsimp only at hMay
          have hrd1 : (rd b).1 = ⟨kk, nn, xx, sn, cs, ps⟩ := by rw [hrd]
          replace hrd := Lib.hid hrd
          replace hrd1 := Lib.hid hrd1
          replace hbad := Lib.hid hbad
          replace s14 := Lib.hid s14
          replace hok := Lib.hid hok
          replace hnr := Lib.hid hnr
          replace hMay := Lib.hid hMay
          clear hmb hst
          cases mb
          · have hres : Hid (readRes b = (stZero, 4)) := readRes_neg hro
            replace hro := Lib.hid hro
            go_wp2_with fail
            refine hMay.out.mono ?_
            rintro e w15 ⟨rfl, hb15⟩
            have hz15 := hb15.size
            have z15 := s14.out.z.below hb15
            have bl15 := s14.out.below.trans (hb15.mono (by omega))
            clear g0 g1 g2 g3 g4 g5 e0 e1 e2 e3 e4 e5
            obtain ⟨g0, g1, g2, g3, g4, g5⟩ := z15.cells
            have e0 := z15.frozen 0
            have e1 := z15.frozen 1
            have e2 := z15.frozen 2
            have e3 := z15.frozen 3
            have e4 := z15.frozen 4
            have e5 := z15.frozen 5
            replace z15 := Lib.hid z15
            go_wp2_with fail
            obtain ⟨t0, t1, t2, t3, t4, t5⟩ := (z15.out.set6 0 0 0 (.slice none 0 0) (.slice none 0 0) (.slice none 0 0)).cells
            clear g0 g1 g2 g3 g4 g5
            exact bodyPost_ret (v := .tuple #[.agg #[.int .i64 0, .int .i64 0, .int .i64 0, .slice none 0 0, .slice none 0 0, .slice none 0 0], .int .i64 4]) (by simp [results, Try.results9, go_sem, t0, t1, t2, t3, t4, t5]) rfl
              ⟨⟨none, 0, 0, none, 0, 0, none, 0, 0⟩, by rw [hres.out]; rfl, by rw [hres.out]; exact Owns.nil_, by rw [hres.out]; exact Owns.nil_, by rw [hres.out]; exact Owns.nil_, by rw [hres.out]; simp [stZero], below_set6 bl15 (Nat.le_refl _) _ _ _ _ _ _⟩
          · have hres : Hid (readRes b = (⟨kk, nn, xx, sn, cs, ps⟩, 0)) := by
              unfold Hid
              rw [readRes_pos hro, hrd1.out]
            replace hro := Lib.hid hro
            go_wp2_with fail
            refine hMay.out.mono ?_
            rintro e w15 ⟨rfl, hb15⟩
            have hz15 := hb15.size
            have z15 := s14.out.z.below hb15
            have bl15 := s14.out.below.trans (hb15.mono (by omega))
            have o4 := (s14.out.o4.below hb15).from (B' := w.heap.size + 1) (by have := s14.out.lt; omega)
            have o5 := (s14.out.o5.below hb15).from (B' := w.heap.size + 1) (by have := s14.out.lt; omega)
            have o6 := (s14.out.o6.below hb15).from (B' := w.heap.size + 1) (by have := s14.out.lt; omega)
            clear g0 g1 g2 g3 g4 g5 e0 e1 e2 e3 e4 e5 q0 q1 q2 q3 q4 q5
            obtain ⟨g0, g1, g2, g3, g4, g5⟩ := z15.cells
            obtain ⟨q0, q1, q2, q3, q4, q5⟩ := (s14.out.bx.below hb15).cells
            have e0 := z15.frozen 0
            have e1 := z15.frozen 1
            have e2 := z15.frozen 2
            have e3 := z15.frozen 3
            have e4 := z15.frozen 4
            have e5 := z15.frozen 5
            replace z15 := Lib.hid z15
            replace o4 := Lib.hid o4
            replace o5 := Lib.hid o5
            replace o6 := Lib.hid o6
            go_wp2_with fail
            obtain ⟨t0, t1, t2, t3, t4, t5⟩ := (z15.out.set6 kk nn xx (.slice A4 sn.length c4) (.slice A5 cs.length c5) (.slice A6 ps.length c6)).cells
            clear g0 g1 g2 g3 g4 g5 q0 q1 q2 q3 q4 q5
            exact bodyPost_ret (v := .tuple #[.agg #[.int .i64 kk, .int .i64 nn, .int .i64 xx, .slice A4 sn.length c4, .slice A5 cs.length c5, .slice A6 ps.length c6], .int .i64 0]) (by simp [results, Try.results9, go_sem, t0, t1, t2, t3, t4, t5]) rfl
              ⟨⟨A4, sn.length, c4, A5, cs.length, c5, A6, ps.length, c6⟩, by rw [hres.out], by rw [hres.out]; exact (o4.out.set6 (by omega) _ _ _ _ _ _).from (by omega), by rw [hres.out]; exact (o5.out.set6 (by omega) _ _ _ _ _ _).from (by omega), by rw [hres.out]; exact (o6.out.set6 (by omega) _ _ _ _ _ _).from (by omega), by rw [hres.out]; exact hok.out, below_set6 bl15 (Nat.le_refl _) _ _ _ _ _ _⟩
end Go.Proofs.Ytbfephekkfieaaa
