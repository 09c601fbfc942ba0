/-
  The walk of StoreLasts.
-/
import Derived.Test.YtcepdigeimedoaaFromW
import Derived.Test.YtcepdigeimedoaaObjs
import Derived.Laws.MakeOwn
namespace Go.Proofs.Ytcepdigeimedoaa
open Go.RowKit
attribute [local go_sem ↓] Go.wp_at_zero Go.wp_at_succ

/-- The slice's cells lie in none of the blocks F. -/
def Away (A : Option Addr) (n : Nat) (F : List Nat) : Prop := 0 < n → ∀ b off, A = some ⟨b, off, none⟩ → b ∉ F
/-- A row beside a store. -/
structure Rw {α : Type} (k : Nat) (enc : α → List Value) (w : World) (A : Option Addr) (n : Nat) (l : List α) (F : List Nat) : Prop where
  row : RowAt k enc w w.heap.size A n l
  away : Away A n F
section
variable {α : Type} {k : Nat} {enc : α → List Value} {w w' : World} {A : Option Addr} {n : Nat} {l : List α} {F F' : List Nat}
theorem Rw.below (h : Rw k enc w A n l F) (hb : Below w.heap.size w w') : Rw k enc w' A n l F := ⟨h.row.to hb, h.away⟩
theorem Rw.but {G : List Nat} (h : Rw k enc w A n l F) (hg : Away A n G) (hb : But G w w') (hs : ∀ i ∈ F', i ∈ F ∨ w.heap.size ≤ i) : Rw k enc w' A n l F' := by
  refine ⟨⟨h.row.1, h.row.2.1, fun hn => ?_⟩, fun hn b off e hf => ?_⟩
  · obtain ⟨b, off, e, hB, hc⟩ := h.row.2.2 hn
    exact ⟨b, off, e, Nat.lt_of_lt_of_le hB hb.size, fun i x hx j v hv => (World.cell?_of_block (a := ⟨b, off + i * k + j, none⟩) (hb.block b hB (hg hn b off e))).trans (hc i x hx j v hv)⟩
  · obtain ⟨b', off', e', hB, _⟩ := h.row.2.2 hn
    rw [e] at e'
    cases e'
    rcases hs b hf with h1 | h1
    · exact h.away hn b off e h1
    · omega
theorem Rw.next {B b N : Nat} {s : Sto} (h : Rw k enc w A n l F) (x : Next B b F N s w w' F') : Rw k enc w' A n l F' := h.but h.away x.but x.sub
/-- A row from below the call, beside the call's own blocks. -/
theorem Rw.arg {w0 : World} (h : RowAt k enc w0 w0.heap.size A n l) (hb : Below w0.heap.size w0 w) (hF : ∀ i ∈ F, w0.heap.size ≤ i) : Rw k enc w A n l F := ⟨h.to hb, fun hn b off e hf => by
  obtain ⟨b', off', e', hB, _⟩ := h.2.2 hn
  rw [e] at e'
  cases e'
  have := hF b hf
  omega⟩
end
theorem Rw.own {w : World} {base n c : Nat} {A : Option Addr} {l : List Ob} {F : List Nat} (h : objE.Own w base (.slice A n c) l) (hF : ∀ i ∈ F, i < base) : Rw 2 obCells w A n l F :=
  ⟨Owns.row (k := 2) (fun x => objE.len x) h, fun _ => own_apart h hF⟩

theorem make_ints (n : Nat) (hn : n ≤ 1000000) : ∃ cs : Array Value, cs.size = n ∧ ∀ W : World, (Instr.makeSlice 24 (.int .i64 (n : Int)) (.int .i64 (n : Int))).run Try.prog W = .ok (.slice (some ⟨W.heap.size, 0, none⟩) n n) (W.alloc (.cells cs 3)) := by
  obtain ⟨i, hi, hz, hsz, hby⟩ := infoOf (P := Try.prog) (e := 3) (z := .int .i64 0) (a := 1) (b := 8) (by kernel_rfl)
  refine ⟨madeCells (Value.int .i64 0).cells (n * 1), by rw [size_madeCells]; omega, fun W => ?_⟩
  have hbb : (i.bytes : Int) * (n : Int) ≤ 281474976710656 := by rw [hby]; omega
  have h := Go.run_make (P := Try.prog) W 24 3 i (.int .i64 0) Try.underlying24 hi hz .i64 .i64 (n : Int) (n : Int) (by omega) (Int.le_refl _) hbb (by omega)
  rw [hsz] at h
  simpa using h
/-- A block of numbers, the first q of them 65536. -/
def BigAt (w : World) (eb n q : Nat) : Prop := ∃ cs : Array Value, w.heap[eb]? = some (.cells cs 3) ∧ cs.size = n ∧ ∀ i, i < q → cs[i]? = some (.int .i64 65536)
theorem BigAt.cell {w : World} {eb n q i : Nat} (h : BigAt w eb n q) (hi : i < n) : (∃ u, w.cell? ⟨eb, i, none⟩ = some u) ∧ w.frozen? ⟨eb, i, none⟩ = false := by
  obtain ⟨cs, h1, h2, _⟩ := h
  exact ⟨⟨cs[i]'(by omega), (cell_of_row w eb i _ _ _ h1).trans (Array.getElem?_eq_getElem (by omega))⟩, by unfold World.frozen?; simp [h1]⟩
theorem BigAt.step {w : World} {eb n q : Nat} (h : BigAt w eb n q) (hq : q < n) : BigAt (w.setCell ⟨eb, q, none⟩ (.int .i64 65536)) eb n (q + 1) := by
  obtain ⟨cs, h1, h2, h3⟩ := h
  refine ⟨_, heap_setCellS h1 _, by simp [h2], fun i hi => ?_⟩
  by_cases e : i = q
  · subst e
    rw [Array.getElem?_setIfInBounds_self_of_lt (by omega)]
  · rw [Array.getElem?_setIfInBounds_ne (fun e' => e e'.symm)]
    exact h3 i (by omega)
theorem BigAt.ints {w : World} {eb n : Nat} (h : BigAt w eb n n) (hn : n ≤ 1000000) : IntsAt w w.heap.size (some ⟨eb, 0, none⟩) n (List.replicate n 65536) := by
  obtain ⟨cs, h1, h2, h3⟩ := h
  refine ⟨List.length_replicate, by omega, fun _ => ⟨eb, 0, rfl, (Array.getElem?_eq_some_iff.1 h1).1, fun i x hx j v hv => ?_⟩⟩
  have hi : i < n := by have := (List.getElem?_eq_some_iff.1 hx).1; simpa using this
  obtain rfl : j = 0 := by have := (List.getElem?_eq_some_iff.1 hv).1; simpa [intCell] using this
  rw [List.getElem?_replicate, if_pos hi] at hx
  cases hx
  simp [intCell] at hv
  subst hv
  rw [show 0 + i * 1 + 0 = i by omega, cell_of_row w eb i _ _ _ h1]
  exact h3 i hi

set_option maxHeartbeats 8000000 in
set_option maxRecDepth 100000 in
theorem storeLasts_walk (A0 : Option Addr) (n0 c0 : Nat) (fs : List Ob) (A : Option Addr) (n c : Nat) (l : List Actx) (A2 : Option Addr) (n2 c2 : Nat) (ks : List Int) (w : World)
    (h0 : ObsAt w w.heap.size A0 n0 fs) (hf0 : ∀ o ∈ fs, o.1.size ≤ reachBytes ∧ o.2.size ≤ reachBytes) (h : ActsAt w w.heap.size A n l) (hn : n ≤ reachBytes) (hf : ∀ a ∈ l, ActFit a) (ho : ∀ a ∈ l, ActOk w a) (h2 : IntsAt w w.heap.size A2 n2 ks) :
    Calls Try.prog 3 #[.slice A0 n0 c0, .slice A n c, .slice A2 n2 c2] w fun e w' => e = .returned (.bool true) ∧ Below w.heap.size w w' := by
  have hL := fun W (hW : Below w.heap.size w W) => law07_large A n c l W (h.to hW) hn hf
  replace hL := Lib.hid hL
  replace ho := Lib.hid ho
  replace hf0 := Lib.hid hf0
  have n09 := h0.2.1
  have n29 := h2.2.1
  go_enter Try.func3, Try.ntmps3
  go_wp2_with fail
  refine (law07_works w).mono ?_
  rintro e w1 ⟨rfl, b1⟩
  go_wp2_with fail
  refine (hL.out w1 b1).mono ?_
  rintro e w2 ⟨he, b2⟩
  have c2' := b1.trans (b2.mono b1.size)
  rcases he with ⟨rfl, hsm⟩ | rfl
  · by_cases g60 : 60 < n0
    · have i60 : (60 : Int) < (n0 : Int) := by omega
      go_wp2_with fail
      refine (law07_works w2).mono ?_
      rintro e w3 ⟨rfl, b3⟩
      go_wp2_with fail
      go_ret
      exact ⟨rfl, c2'.trans (b3.mono c2'.size)⟩
    have i60 : ¬ (60 : Int) < (n0 : Int) := by omega
    by_cases g2k : 2000 < n2
    · have i2k : (2000 : Int) < (n2 : Int) := by omega
      go_wp2_with fail
      refine (law07_works w2).mono ?_
      rintro e w3 ⟨rfl, b3⟩
      go_wp2_with fail
      go_ret
      exact ⟨rfl, c2'.trans (b3.mono c2'.size)⟩
    have i2k : ¬ (2000 : Int) < (n2 : Int) := by omega
    go_wp2_with fail
    refine (store_New w2).mono ?_
    rintro e w3 ⟨rfl, h3, b3⟩
    have c3 := c2'.trans (b3.mono c2'.size)
    have z2 := c2'.size
    have k3 : ∀ i ∈ [w2.heap.size + 2, w2.heap.size, w2.heap.size + 1], w.heap.size ≤ i := by simp; omega
    generalize [w2.heap.size + 2, w2.heap.size, w2.heap.size + 1] = F3 at h3 k3
    generalize w2.heap.size + 2 = b at h3 ⊢
    have hl9 : n ≤ 1000 := by have := hsm.1; have := h.1; omega
    replace hsm := Lib.hid hsm
    clear b1 b2 b3 i60 i2k
    go_wp2_with fail
    go_loopw [8, 9] (fun tu ti wr => ∃ (j u : Nat) (F : List Nat) (s : Sto), j ≤ n0 ∧ ti = .int .i64 j ∧ tu = .int .i64 u ∧ u ≤ j * 140737488351232 ∧ StoAt wr b F j s ∧ (∀ i ∈ F, w.heap.size ≤ i) ∧ Hid (s.down = false) ∧ Below w.heap.size w wr) (fun _ ti _ => n0 - (intOf ti).toNat)
    case atStart => exact ⟨0, 0, F3, _, Nat.zero_le _, rfl, rfl, by omega, h3, k3, rfl, c3⟩
    case round =>
      obtain ⟨j, u, F, s, hj, rfl, rfl, hu, hst, hlo, hdn, hbr⟩ := hrel
      obtain ⟨wp, rfl⟩ : ∃ x : World, x = wr := ⟨_, rfl⟩
      have hzp := hbr.size
      by_cases hlt : j < n0
      · obtain ⟨b0, off, p, rfl, hb0, hx, q0, q1⟩ := (h0.to hbr).ob hlt
        have hps := hf0.out p (List.mem_of_getElem? hx)
        have p1 : p.1.size ≤ maxLen := Nat.le_trans hps.1 (by decide)
        have p2 : p.2.size ≤ 140737488351232 := by simpa [reachBytes] using hps.2
        have p2' : p.2.size ≤ maxLen := Nat.le_trans p2 (by decide)
        have hun : u + p.2.size ≤ (j + 1) * 140737488351232 := by omega
        have hu9 : u ≤ 9000000000000000 := by omega
        replace hx := Lib.hid hx
        replace hps := Lib.hid hps
        replace hu := Lib.hid hu
        have hP := store_Put b F j s p p1 p2' (by omega) wp hst
        by_cases hlt2 : u + p.2.size < 20000
        · have i3 : (u : Int) + (p.2.size : Int) < 20000 := by omega
          go_wp2_with fail
          refine hP.mono ?_
          rintro e w4 ⟨rfl, hto⟩
          obtain ⟨F4, x4⟩ := hto.next hlo hzp
          have h4 := x4.at_
          have k4 := x4.lo
          have c4 := hbr.trans x4.below
          have d4 : Hid ((s.put p).1.down = false) := by unfold Hid; rw [put_down]; exact hdn.out
          clear x4 hto
          go_wp2_with fail
          go_roundw
          case rel => exact ⟨j + 1, u + p.2.size, F4, _, by omega, by go_num, by go_num, hun, h4, k4, d4, c4⟩
          case measure => simp [intOf]; omega
        · have i3 : ¬ (u : Int) + (p.2.size : Int) < 20000 := by omega
          clear hP
          go_wp2_with fail
          go_roundw
          case rel => exact ⟨j + 1, u + p.2.size, F, s, by omega, by go_num, by go_num, hun, hst.more (Nat.le_succ _) (by omega), hlo, hdn, hbr⟩
          case measure => simp [intOf]; omega
      · obtain rfl : j = n0 := by omega
        have hst60 := hst.more (M := 60) (by omega) (by omega)
        have hsy := store_Sync b F 60 s wp hst60
        have hse : s.sync = (s.settled, 0) := by unfold Sto.sync; rw [if_neg (by rw [hdn.out]; decide)]
        rw [hse] at hsy
        replace hse := Lib.hid hse
        replace hu := Lib.hid hu
        clear hst
        go_wp2_with fail
        refine hsy.mono ?_
        rintro e w4 ⟨rfl, hto⟩
        obtain ⟨F4, x4⟩ := hto.next hlo hzp
        have h4 := x4.at_
        have k4 := x4.lo
        have c4 := hbr.trans x4.below
        obtain ⟨was, hwas⟩ : ∃ was, was = s.seen := ⟨_, rfl⟩
        have v4 : Hid (LInv was l s.settled) := ⟨hwas.symm, hwas.symm, by simp [Sto.settled]⟩
        have wr4 : Hid (s.settled.writes = []) := rfl
        have hw4 : s.settled.seen = was := hwas.symm
        generalize s.settled = s4 at h4 v4 wr4 hw4
        replace hwas := Lib.hid hwas
        clear x4 hto hst60 hsy hse hdn hlo
        go_wp2_with fail
        refine (store_Objects b F4 60 s4 w4 h4).mono ?_
        rintro e w5 ⟨v5, rfl, o5, b5⟩
        obtain ⟨A5, m5, c5, rfl⟩ : ∃ A m c, v5 = .slice A m c := by obtain ⟨A, c, e⟩ := Owns.form o5; exact ⟨A, _, c, e⟩
        have r5 := Rw.own o5 h4.lt
        rw [hw4] at r5
        have h5 := h4.below b5
        have d5 := c4.trans (b5.mono c4.size)
        replace r5 := Lib.hid r5
        replace hw4 := Lib.hid hw4
        clear o5 h4 b5
        go_wp2_with fail
        go_loopw [11] (fun ti wr => ∃ (j2 : Nat) (F : List Nat) (s : Sto), j2 ≤ n ∧ ti = .int .i64 j2 ∧ StoAt wr b F (60 + j2) s ∧ (∀ i ∈ F, w.heap.size ≤ i) ∧ Hid (LInv was l s) ∧ s.writes.length ≤ j2 ∧ Rw 2 obCells wr A5 m5 was F ∧ Below w.heap.size w wr) (fun ti _ => n - (intOf ti).toNat)
        case atStart => exact ⟨0, F4, s4, Nat.zero_le _, rfl, h5, k4, v4, by rw [wr4.out]; exact Nat.le_refl _, r5.out, d5⟩
        case round =>
          obtain ⟨j2, F, s, hj2, rfl, hst, hlo, hinv, hwl, hrw, hbr⟩ := hrel
          obtain ⟨wq, rfl⟩ : ∃ x : World, x = wr := ⟨_, rfl⟩
          have hzp := hbr.size
          by_cases hlt2 : j2 < n
          · obtain ⟨b0, off, x, rfl, hb0, hx, q0, q1, q2, _⟩ := (h.to hbr).act hlt2
            have hxs := hsm.out.2 x (List.mem_of_getElem? hx)
            have hk0 := (ho.out x (List.mem_of_getElem? hx)).kind.1
            have hn1 : x.name.size ≤ maxLen := Nat.le_trans hxs.1 (by decide)
            have hd1 : x.data.size ≤ maxLen := Nat.le_trans hxs.2.1 (by decide)
            replace hx := Lib.hid hx
            by_cases hkd : x.kind % 2 = 0
            · have hkv : Value.int .u8 (x.kind.tmod 2) = .int .u8 0 := by rw [Int.tmod_eq_emod_of_nonneg hk0, hkd]
              replace hkd := Lib.hid hkd
              replace hk0 := Lib.hid hk0
              go_wp2_with fail
              refine (store_Put b F (60 + j2) s (x.name, x.data) hn1 hd1 (by omega) wq hst).mono ?_
              rintro e w6 ⟨rfl, hto⟩
              obtain ⟨F6, x6⟩ := hto.next hlo hzp
              have h6 := x6.at_
              have k6 := x6.lo
              have c6 := hbr.trans x6.below
              have r6 := hrw.next x6
              obtain ⟨v6, l6⟩ := lInv_put hinv.out (List.mem_of_getElem? hx.out) hkd.out
              replace v6 := Lib.hid v6
              clear x6 hto
              go_wp2_with fail
              go_roundw
              case rel => exact ⟨j2 + 1, F6, _, by omega, by go_num, h6, k6, v6, by omega, r6, c6⟩
              case measure => simp [intOf]; omega
            · have hk1 : x.kind % 2 = 1 := by omega
              have hkv : Value.int .u8 (x.kind.tmod 2) = .int .u8 1 := by rw [Int.tmod_eq_emod_of_nonneg hk0, hk1]
              replace hkd := Lib.hid hk1
              replace hk0 := Lib.hid hk0
              clear hk1
              go_wp2_with fail
              refine (store_Del b F (60 + j2) s x.name hn1 (by omega) wq hst).mono ?_
              rintro e w6 ⟨rfl, hto⟩
              obtain ⟨F6, x6⟩ := hto.next hlo hzp
              have h6 := x6.at_
              have k6 := x6.lo
              have c6 := hbr.trans x6.below
              have r6 := hrw.next x6
              obtain ⟨v6, l6⟩ := lInv_del hinv.out (List.mem_of_getElem? hx.out) hkd.out
              replace v6 := Lib.hid v6
              clear x6 hto
              go_wp2_with fail
              go_roundw
              case rel => exact ⟨j2 + 1, F6, _, by omega, by go_num, h6, k6, v6, by omega, r6, c6⟩
              case measure => simp [intOf]; omega
          · obtain rfl : j2 = n := by omega
            clear r5 h5 k4 v4 wr4 d5
            have hst9 := hst.more (M := 2000) (by omega) (by omega)
            clear hst
            go_wp2_with fail
            refine (store_Objects b F 2000 s wq hst9).mono ?_
            rintro e w6 ⟨v6, rfl, o6, b6⟩
            obtain ⟨A6, m6, c6, rfl⟩ : ∃ A m c, v6 = .slice A m c := by obtain ⟨A, c, e⟩ := Owns.form o6; exact ⟨A, _, c, e⟩
            have r6 := Lib.hid (Rw.own o6 hst9.lt)
            have h6 := hst9.below b6
            have d6 := hbr.trans (b6.mono hzp)
            have rw6 := Lib.hid (hrw.below b6)
            clear o6 hst9 hrw
            go_wp2_with fail
            refine (store_Copy b F 2000 s w6 h6).mono ?_
            rintro e w7 ⟨rfl, G7, t7, b7, g7⟩
            have h7 := h6.below b7
            have r7 := Lib.hid (r6.out.below b7)
            have rw7 := Lib.hid (rw6.out.below b7)
            have d7 := d6.trans (b7.mono d6.size)
            have sep7 : Sep G7 F := fun i hi hf => by have := g7 i hi; have := h6.lt i hf; omega
            have awL7 : Away A6 m6 G7 := fun hm b off e hi => by
              obtain ⟨b', off', e', hB, _⟩ := r6.out.row.2.2 hm
              rw [e] at e'; cases e'
              have := g7 _ hi; omega
            have awW7 : Away A5 m5 G7 := fun hm b off e hi => by
              obtain ⟨b', off', e', hB, _⟩ := rw6.out.row.2.2 hm
              rw [e] at e'; cases e'
              have := g7 _ hi; omega
            have kg7 : ∀ i ∈ G7, w.heap.size ≤ i := fun i hi => Nat.le_trans d6.size (g7 i hi)
            generalize w6.heap.size = cb at t7 ⊢
            clear h6 b6 g7
            go_wp2_with fail
            refine (store_Copy b F 2000 s w7 h7).mono ?_
            rintro e w8 ⟨rfl, H8, u8, b8, g8⟩
            have h8 := h7.below b8
            have t8 := t7.below b8
            have r8 := Lib.hid (r7.out.below b8)
            have rw8 := Lib.hid (rw7.out.below b8)
            have d8 := d7.trans (b8.mono d7.size)
            have sepF8 : Sep H8 F := fun i hi hf => by have := g8 i hi; have := h7.lt i hf; omega
            have sepG8 : Sep H8 G7 := fun i hi hf => by have := g8 i hi; have := t7.lt i hf; omega
            have awL8 : Away A6 m6 H8 := fun hm b off e hi => by
              obtain ⟨b', off', e', hB, _⟩ := r7.out.row.2.2 hm
              rw [e] at e'; cases e'
              have := g8 _ hi; omega
            have awW8 : Away A5 m5 H8 := fun hm b off e hi => by
              obtain ⟨b', off', e', hB, _⟩ := rw7.out.row.2.2 hm
              rw [e] at e'; cases e'
              have := g8 _ hi; omega
            have kh8 : ∀ i ∈ H8, w.heap.size ≤ i := fun i hi => Nat.le_trans d7.size (g8 i hi)
            generalize w7.heap.size = cc at u8 ⊢
            obtain ⟨cs, hcs, hmk⟩ := make_ints j2 (by omega)
            have bA : Below w8.heap.size w8 (w8.alloc (.cells cs 3)) := (Below.refl _ _).alloc (Nat.le_refl _) _
            have hbig : BigAt (w8.alloc (.cells cs 3)) w8.heap.size j2 0 := ⟨cs, heap_alloc_new _ _, hcs, by simp⟩
            clear h7 t7 b7 b8 g8 r7 rw7 d7 d6 r6 rw6
            replace h8 := Lib.hid h8
            replace t8 := Lib.hid t8
            replace u8 := Lib.hid u8
            replace hbig := Lib.hid hbig
            go_wp2_with fail
            go_loopw [16] (fun ti wr => ∃ q : Nat, q ≤ j2 ∧ ti = .int .i64 q ∧ BigAt wr w8.heap.size j2 q ∧ Below w8.heap.size w8 wr) (fun ti _ => j2 - (intOf ti).toNat)
            case atStart => exact ⟨0, Nat.zero_le _, rfl, hbig.out, bA⟩
            case round =>
              obtain ⟨q, hq, rfl, hbg, hbq⟩ := hrel
              obtain ⟨wz, rfl⟩ : ∃ x : World, x = wr := ⟨_, rfl⟩
              by_cases hlq : q < j2
              · obtain ⟨⟨u0, e0⟩, e1⟩ := hbg.cell hlq
                have hb2 := hbg.step hlq
                have hz := hbq.size
                replace hbg := Lib.hid hbg
                replace hb2 := Lib.hid hb2
                go_wp2_with fail
                go_roundw
                case rel => exact ⟨q + 1, by omega, by go_num, hb2.out, hbq.setCell (p := ⟨w8.heap.size, q, none⟩) (Nat.le_refl _) _⟩
                case measure => simp [intOf]; omega
              · obtain rfl : q = j2 := by omega
                have hiv := Lib.hid (hbg.ints (by omega))
                have hqz : w8.heap.size < wz.heap.size := by obtain ⟨cs, h1, _⟩ := hbg; exact (Array.getElem?_eq_some_iff.1 h1).1
                have hnw : ∀ x ∈ s.writes, x.data.size ≤ 65536 := by obtain ⟨_, _, _, _, hh⟩ := h8.out; exact fun x hx => (hh.nw x hx).2
                have hN : Hid ((s.crash []).seen = was) := by unfold Hid; show crashGo s.writes [] s.good = was; rw [crashGo_none]; exact hinv.out.good
                have hA : Hid ((s.crash (List.replicate q 65536)).seen = s.seen) := by
                  unfold Hid
                  show crashGo s.writes (List.replicate q 65536) s.good = s.seen
                  rw [crashGo_big _ _ _ hnw hwl, hinv.out.good]
                  exact hinv.out.full.symm
                have hS : Hid ((s.crash ks).seen = crashGo s.writes ks was) := by unfold Hid; show crashGo s.writes ks s.good = _; rw [hinv.out.good]
                have hb9 := h8.out.below hbq
                have tb9 := t8.out.below hbq
                have ub9 := u8.out.below hbq
                have rl9 := r8.out.below hbq
                have rw9 := rw8.out.below hbq
                have d9 := d8.trans (hbq.mono d8.size)
                have awE : ∀ X : List Nat, (∀ i ∈ X, i < w8.heap.size) → Away (some ⟨w8.heap.size, 0, none⟩) q X := fun X hX _ b off e hi => by
                  cases e
                  have := hX _ hi; omega
                have eG : Rw 1 intCell wz (some ⟨w8.heap.size, 0, none⟩) q (List.replicate q 65536) H8 := ⟨hiv.out, awE _ u8.out.lt⟩
                have aEG := awE G7 t8.out.lt
                have z9 := d9.size
                clear hbig bA hmk hbg hb9 tb9 ub9 rl9 rw9 hnw
                have hb9 := Lib.hid (h8.out.below hbq)
                have tb9 := Lib.hid (t8.out.below hbq)
                have ub9 := Lib.hid (u8.out.below hbq)
                have rl9 := Lib.hid (r8.out.below hbq)
                have rw9 := Lib.hid (rw8.out.below hbq)
                replace eG := Lib.hid eG
                clear h8 t8 u8 r8 rw8 awE
                go_wp2_with fail
                refine (store_Crash cb G7 2000 s none 0 0 [] wz tb9.out (IntsAt.none_ wz)).mono ?_
                rintro e wa ⟨rfl, hto⟩
                obtain ⟨G1, xa⟩ := hto.next kg7 z9
                have ta := xa.at_
                obtain ⟨ha, sa⟩ := xa.beside hb9.out sep7.symm
                obtain ⟨ua, sua⟩ := xa.beside ub9.out sepG8
                have ra := rl9.out.but awL7 xa.but (fun i hi => .inl hi)
                have rwa := rw9.out.but awW7 xa.but (fun i hi => .inl hi)
                have ea := eG.out.but aEG xa.but (fun i hi => .inl hi)
                have da := d9.trans xa.below
                clear hto xa hb9 tb9 ub9 rl9 rw9 eG
                replace ta := Lib.hid ta
                replace ha := Lib.hid ha
                go_wp2_with fail
                refine (store_Crash cc H8 2000 s (some ⟨w8.heap.size, 0, none⟩) q q (List.replicate q 65536) wa ua ea.row).mono ?_
                rintro e wb ⟨rfl, hto⟩
                obtain ⟨H1, xb⟩ := hto.next kh8 da.size
                have ub := xb.at_
                obtain ⟨hb, sb⟩ := xb.beside ha.out sepF8.symm
                obtain ⟨tb, stb⟩ := xb.beside ta.out sua.symm
                have rb := ra.but awL8 xb.but (fun i hi => .inl hi)
                have rwb := rwa.but awW8 xb.but (fun i hi => .inl hi)
                have db := da.trans xb.below
                clear hto xb ha ta ua ra rwa ea
                replace ub := Lib.hid ub
                replace tb := Lib.hid tb
                have hkeep := h2.to db
                go_wp2_with fail
                refine (store_Crash b F 2000 s A2 n2 c2 ks wb hb hkeep).mono ?_
                rintro e wc ⟨rfl, hto⟩
                obtain ⟨F1, xc⟩ := hto.next hlo db.size
                have hc := xc.at_
                obtain ⟨tc, stc⟩ := xc.beside tb.out sa.symm
                obtain ⟨uc, suc⟩ := xc.beside ub.out sb.symm
                have rc := Lib.hid (rb.next xc)
                have rwc := Lib.hid (rwb.next xc)
                have dc := db.trans xc.below
                have kf1 := xc.lo
                clear hto xc hb tb ub rb rwb hkeep
                replace hc := Lib.hid hc
                replace uc := Lib.hid uc
                go_wp2_with fail
                refine (store_Objects cb G1 2000 _ wc tc).mono ?_
                rintro e wd ⟨vd, rfl, od, bd⟩
                rw [hN.out] at od
                obtain ⟨Ad, md, cd, rfl⟩ : ∃ A m c, vd = .slice A m c := by obtain ⟨A, c, e⟩ := Owns.form od; exact ⟨A, _, c, e⟩
                have rd := Owns.row (k := 2) (fun x => objE.len x) od
                go_wp2_with fail
                refine (ref07_SameObjects Ad md cd A5 m5 c5 was wd rd (rwc.out.below bd).row).mono ?_
                rintro e we ⟨rfl, be⟩
                have bde := bd.trans (be.mono bd.size)
                clear od rd
                go_wp2_with fail
                refine (store_Objects cc H1 2000 _ we (uc.out.below bde)).mono ?_
                rintro e wf ⟨vf, rfl, of_, bf⟩
                rw [hA.out] at of_
                obtain ⟨Af, mf, cf, rfl⟩ : ∃ A m c, vf = .slice A m c := by obtain ⟨A, c, e⟩ := Owns.form of_; exact ⟨A, _, c, e⟩
                have rf := Owns.row (k := 2) (fun x => objE.len x) of_
                have bdf := bde.trans (bf.mono bde.size)
                go_wp2_with fail
                refine (ref07_SameObjects Af mf cf A6 m6 c6 s.seen wf rf (rc.out.below bdf).row).mono ?_
                rintro e wg ⟨rfl, bg⟩
                have bdg := bdf.trans (bg.mono bdf.size)
                have hg := hc.out.below bdg
                have dg := dc.trans (bdg.mono dc.size)
                have rwg := Lib.hid (rwc.out.below bdg)
                clear of_ rf bd be bf bg bde bdf tc uc hc rc rwc
                go_wp2_with fail
                refine (store_Objects b F1 2000 _ wg hg).mono ?_
                rintro e wh ⟨vh, rfl, oh, bh⟩
                rw [hS.out] at oh
                obtain ⟨mh, hmh⟩ : ∃ m, m = (crashGo s.writes ks was).length := ⟨_, rfl⟩
                obtain ⟨Ah, ch, rfl⟩ : ∃ A c, vh = .slice A mh c := by obtain ⟨A, c, e⟩ := Owns.form oh; exact ⟨A, c, by rw [e, hmh]⟩
                have rh := Lib.hid (Rw.own oh hg.lt)
                have hh := Lib.hid (hg.below bh)
                have dh := dg.trans (bh.mono dg.size)
                have rwh := Lib.hid (rwg.out.below bh)
                replace hmh := Lib.hid hmh
                clear oh hg rwg bdg dg bh
                have hk0 : Hid (∀ a ∈ l, 0 ≤ a.kind) := fun a ha => (ho.out a ha).kind.1
                have m5b := rwh.out.row.2.1
                have mhb := rh.out.row.2.1
                go_wp2_with fail
                go_loopw [18] (fun ti wr => ∃ k : Nat, k ≤ mh ∧ ti = .int .i64 k ∧ Below wh.heap.size wh wr) (fun ti _ => mh - (intOf ti).toNat)
                case atStart => exact ⟨0, Nat.zero_le _, rfl, Below.refl _ _⟩
                case round =>
                  obtain ⟨k, hk, rfl, hbk⟩ := hrel
                  obtain ⟨wi, rfl⟩ : ∃ x : World, x = wr := ⟨_, rfl⟩
                  have hzk := hbk.size
                  by_cases hlk : k < mh
                  · obtain ⟨b9, o9, p, rfl, hb9, hp, r0, r1⟩ := (rh.out.below hbk).row.ob hlk
                    have hfr := lInv_from hinv.out (keep := ks) (List.mem_of_getElem? hp)
                    have hF := law07_from p A5 m5 c5 was A _ c l wi (rwh.out.below hbk).row (h.to (dh.trans (hbk.mono dh.size))) hk0.out hfr
                    replace hp := Lib.hid hp
                    replace hF := Lib.hid hF
                    clear hfr
                    go_wp2_with fail
                    refine hF.out.mono ?_
                    rintro e wj ⟨rfl, bj⟩
                    have hbj := hbk.trans (bj.mono hzk)
                    go_wp2_with fail
                    go_roundw
                    case rel => exact ⟨k + 1, by omega, by go_num, hbj⟩
                    case measure => simp [intOf]; omega
                  · obtain rfl : k = mh := by omega
                    have rhk := Lib.hid (rh.out.below hbk)
                    have rwk := Lib.hid (rwh.out.below hbk)
                    have hhk := Lib.hid (hh.out.below hbk)
                    have dk := dh.trans (hbk.mono dh.size)
                    clear rh rwh hh
                    go_wp2_with fail
                    go_loopw [19, 20, 21, 22] (fun ti _ _ _ wr => ∃ z : Nat, z ≤ m5 ∧ ti = .int .i64 z ∧ Below wi.heap.size wi wr) (fun ti _ _ _ _ => m5 - (intOf ti).toNat)
                    case atStart => exact ⟨0, Nat.zero_le _, rfl, Below.refl _ _⟩
                    case round =>
                      obtain ⟨z, hz, rfl, hbz⟩ := hrel
                      obtain ⟨wm, rfl⟩ : ∃ x : World, x = wr := ⟨_, rfl⟩
                      have hzz := hbz.size
                      by_cases hlz : z < m5
                      · obtain ⟨b9, o9, p, rfl, hb9, hp, r0, r1⟩ := (rwk.out.below hbz).row.ob hlz
                        have hgone := Lib.hid (lInv_gone hinv.out ks (List.mem_of_getElem? hp))
                        have rhz := Lib.hid (rhk.out.below hbz)
                        replace hp := Lib.hid hp
                        go_wp2_with fail
                        go_loopw [20, 21] (fun tg ti wr => ∃ (i : Nat) (B : Bool), i ≤ k ∧ ti = .int .i64 i ∧ tg = .bool B ∧ Hid (B = true → ∀ y ∈ (crashGo s.writes ks was).take i, y.1 ≠ p.1) ∧ Below wm.heap.size wm wr) (fun _ ti _ => k - (intOf ti).toNat)
                        case atStart => exact ⟨0, true, Nat.zero_le _, rfl, rfl, by unfold Hid; simp, Below.refl _ _⟩
                        case round =>
                          obtain ⟨i, B, hi, rfl, rfl, hB, hbi⟩ := hrel
                          obtain ⟨wn, rfl⟩ : ∃ x : World, x = wr := ⟨_, rfl⟩
                          by_cases hli : i < k
                          · obtain ⟨b7, o7, y, rfl, hb7, hy, s0, s1⟩ := (rhz.out.below hbi).row.ob hli
                            have t0 := (hbi.cell (p := ⟨b9, o9 + z * 2, none⟩) hb9).trans r0
                            have hzi := hbi.size
                            have hb9' : b9 < wn.heap.size := by omega
                            cases B
                            · replace hy := Lib.hid hy
                              go_upto_region 43 with fail
                              go_quiet (fail)
                              have hbn : Below wm.heap.size wm (wn.drewN nq) := below_drewN hbi nq
                              go_wp2_with fail
                              go_roundw
                              case rel => exact ⟨i + 1, false, by omega, by go_num, rfl, by unfold Hid; simp, hbn⟩
                              case measure => simp [intOf]; omega
                            · by_cases e1 : y.1 = p.1
                              · have i1 := str_eq e1
                                replace hy := Lib.hid hy
                                replace e1 := Lib.hid e1
                                go_upto_region 43 with fail
                                go_quiet (fail)
                                have hbn : Below wm.heap.size wm (wn.drewN nq) := below_drewN hbi nq
                                go_wp2_with fail
                                go_roundw
                                case rel => exact ⟨i + 1, false, by omega, by go_num, rfl, by unfold Hid; simp, hbn⟩
                                case measure => simp [intOf]; omega
                              · have i1 := str_ne e1
                                have hB2 : Hid (true = true → ∀ x ∈ (crashGo s.writes ks was).take (i + 1), x.1 ≠ p.1) := fun _ x hx => by
                                  rw [List.take_add_one, hy] at hx
                                  rcases List.mem_append.1 hx with hx | hx
                                  · exact hB.out rfl x hx
                                  · simp at hx; subst hx; exact e1
                                replace hy := Lib.hid hy
                                replace e1 := Lib.hid e1
                                go_upto_region 43 with fail
                                go_quiet (fail)
                                have hbn : Below wm.heap.size wm (wn.drewN nq) := below_drewN hbi nq
                                go_wp2_with fail
                                go_roundw
                                case rel => exact ⟨i + 1, true, by omega, by go_num, rfl, hB2, hbn⟩
                                case measure => simp [intOf]; omega
                          · obtain rfl : i = k := by omega
                            have hB3 : Hid (B = true → ∃ a ∈ l, a.kind % 2 = 1 ∧ a.name = p.1) := fun hb => by
                              rcases hgone.out with ⟨y, hy, he⟩ | hx
                              · exact absurd he (hB.out hb y (by rw [List.take_of_length_le (by have := hmh.out; omega)]; exact hy))
                              · exact hx
                            clear hB
                            go_wp2_with fail
                            go_loopw [20, 22] (fun tg ti wr => ∃ (a7 : Nat) (B7 : Bool), a7 ≤ q ∧ ti = .int .i64 a7 ∧ tg = .bool B7 ∧ Hid (B7 = true → B = true ∧ ∀ x ∈ l.take a7, ¬ (x.kind % 2 = 1 ∧ x.name = p.1)) ∧ Below wn.heap.size wn wr) (fun _ ti _ => q - (intOf ti).toNat)
                            case atStart => exact ⟨0, B, Nat.zero_le _, rfl, rfl, by unfold Hid; simp, Below.refl _ _⟩
                            case round =>
                              obtain ⟨a7, B7, ha7, rfl, rfl, hB7, hba⟩ := hrel
                              obtain ⟨wo, rfl⟩ : ∃ x : World, x = wr := ⟨_, rfl⟩
                              have hza := hba.size
                              have hzi := hbi.size
                              cases B7
                              · have hfin : Below wi.heap.size wi wo := (hbz.trans (hbi.mono hzz)).trans (hba.mono (Nat.le_trans hzz hzi))
                                by_cases hla : a7 < q
                                · go_wp2_with fail
                                  go_roundw
                                  case rel => exact ⟨z + 1, by omega, by go_num, hfin⟩
                                  case measure => simp [intOf]; omega
                                · obtain rfl : a7 = q := by omega
                                  go_wp2_with fail
                                  go_roundw
                                  case rel => exact ⟨z + 1, by omega, by go_num, hfin⟩
                                  case measure => simp [intOf]; omega
                              · by_cases hla : a7 < q
                                · obtain ⟨b7, o7, x, rfl, hb7, hx, s0, s1, _⟩ := (h.to (dk.trans ((hbz.trans (hbi.mono hzz)).trans (hba.mono (Nat.le_trans hzz hzi)) |>.mono dk.size))).act hla
                                  have hx0 := hk0.out x (List.mem_of_getElem? hx)
                                  have t0 := (hba.cell (p := ⟨b9, o9 + z * 2, none⟩) (by simp; omega)).trans ((hbi.cell (p := ⟨b9, o9 + z * 2, none⟩) hb9).trans r0)
                                  have hb9' : b9 < wo.heap.size := by omega
                                  have hnext : Hid (¬ (x.kind % 2 = 1 ∧ x.name = p.1) → Hid (true = true → B = true ∧ ∀ y ∈ l.take (a7 + 1), ¬ (y.kind % 2 = 1 ∧ y.name = p.1))) := fun hno _ => ⟨(hB7.out rfl).1, fun y hy => by
                                    rw [List.take_add_one, hx] at hy
                                    rcases List.mem_append.1 hy with hy | hy
                                    · exact (hB7.out rfl).2 y hy
                                    · simp at hy; subst hy; exact hno⟩
                                  replace hx := Lib.hid hx
                                  by_cases hod : x.kind % 2 = 1
                                  · have hkv : Value.int .u8 (x.kind.tmod 2) = .int .u8 1 := by rw [Int.tmod_eq_emod_of_nonneg hx0, hod]
                                    by_cases e1 : x.name = p.1
                                    · have i1 := str_eq e1
                                      replace hod := Lib.hid hod
                                      replace hx0 := Lib.hid hx0
                                      replace e1 := Lib.hid e1
                                      go_upto_region 47 with fail
                                      go_quiet (fail)
                                      have hbn : Below wn.heap.size wn (wo.drewN nq) := below_drewN hba nq
                                      go_wp2_with fail
                                      go_roundw
                                      case rel => exact ⟨a7 + 1, false, by omega, by go_num, rfl, by unfold Hid; simp, hbn⟩
                                      case measure => simp [intOf]; omega
                                    · have i1 := str_ne e1
                                      have hn2 := hnext.out fun hh => e1 hh.2
                                      replace hod := Lib.hid hod
                                      replace hx0 := Lib.hid hx0
                                      replace e1 := Lib.hid e1
                                      go_upto_region 47 with fail
                                      go_quiet (fail)
                                      have hbn : Below wn.heap.size wn (wo.drewN nq) := below_drewN hba nq
                                      go_wp2_with fail
                                      go_roundw
                                      case rel => exact ⟨a7 + 1, true, by omega, by go_num, rfl, hn2, hbn⟩
                                      case measure => simp [intOf]; omega
                                  · have hev : x.kind % 2 = 0 := by omega
                                    have hkv : Value.int .u8 (x.kind.tmod 2) = .int .u8 0 := by rw [Int.tmod_eq_emod_of_nonneg hx0, hev]
                                    have hn2 := hnext.out fun hh => hod hh.1
                                    replace hod := Lib.hid hod
                                    replace hev := Lib.hid hev
                                    replace hx0 := Lib.hid hx0
                                    go_upto_region 47 with fail
                                    go_quiet (fail)
                                    have hbn : Below wn.heap.size wn (wo.drewN nq) := below_drewN hba nq
                                    go_wp2_with fail
                                    go_roundw
                                    case rel => exact ⟨a7 + 1, true, by omega, by go_num, rfl, hn2, hbn⟩
                                    case measure => simp [intOf]; omega
                                · obtain rfl : a7 = q := by omega
                                  exfalso
                                  obtain ⟨hb1, hno⟩ := hB7.out rfl
                                  obtain ⟨x, hx, hh⟩ := hB3.out hb1
                                  exact hno x (by rw [List.take_of_length_le (by have := h.1; omega)]; exact hx) hh
                      · obtain rfl : z = m5 := by omega
                        have hfk := hhk.out.below hbz
                        have dz := dk.trans (hbz.mono dk.size)
                        have rhz := Lib.hid (rhk.out.below hbz)
                        clear hhk rhk rwk
                        go_wp2_with fail
                        refine (store_Crash b F1 2000 _ A2 n2 c2 ks wm hfk (h2.to dz)).mono ?_
                        rintro e wu ⟨rfl, hto⟩
                        obtain ⟨F2, xu⟩ := hto.next kf1 dz.size
                        have hu := xu.at_
                        have ru := rhz.out.next xu
                        have du := dz.trans xu.below
                        have hse : Hid (((s.crash ks).crash ks).seen = crashGo s.writes ks was) := by
                          unfold Hid
                          show crashGo [] ks (crashGo s.writes ks s.good) = _
                          rw [hinv.out.good]
                          rfl
                        clear hto xu hfk rhz
                        go_wp2_with fail
                        refine (store_Objects b F2 2000 _ wu hu).mono ?_
                        rintro e wv ⟨vv, rfl, ov, bv⟩
                        rw [hse.out] at ov
                        obtain ⟨Av, mv, cv, rfl⟩ : ∃ A m c, vv = .slice A m c := by obtain ⟨A, c, e⟩ := Owns.form ov; exact ⟨A, _, c, e⟩
                        have rv := Owns.row (k := 2) (fun x => objE.len x) ov
                        have dv := du.trans (bv.mono du.size)
                        clear ov hu
                        go_wp2_with fail
                        refine (ref07_SameObjects Av mv cv Ah _ ch (crashGo s.writes ks was) wv rv (ru.below bv).row).mono ?_
                        rintro e ww ⟨rfl, bw⟩
                        go_wp2_with fail
                        go_ret
                        exact ⟨rfl, dv.trans (bw.mono dv.size)⟩
  · go_wp2_with fail
    refine (law07_works w2).mono ?_
    rintro e w3 ⟨rfl, b3⟩
    go_wp2_with fail
    go_ret
    exact ⟨rfl, c2'.trans (b3.mono c2'.size)⟩
end Go.Proofs.Ytcepdigeimedoaa
