/-
  The walk of StoreRefused.
-/
import Derived.Test.YtcepdigeimedoaaActsL
import Derived.Test.YtcepdigeimedoaaUint
namespace Go.Proofs.Ytcepdigeimedoaa
open Go.RowKit
attribute [local go_sem ↓] Go.wp_at_zero Go.wp_at_succ

/-- What a write comes to: it is done, it is the one that is refused, or it is not tried. -/
def Outc (s s' : Sto) (r : Int) : Prop := (r = 0 ∧ s.refNow = false ∧ s'.refuse = s.tried.refuse ∧ s'.down = s.tried.down) ∨ (r = 53 ∧ s.refNow = true ∧ s' = s.tried) ∨ (r ≠ 0 ∧ r ≠ 53 ∧ s' = s)
theorem put_out (s : Sto) (o : Ob) : Outc s (s.put o).1 (s.put o).2 := by
  unfold Sto.put
  split
  · exact .inr (.inr ⟨by simp, by simp, rfl⟩)
  · split
    · exact .inr (.inr ⟨by simp, by simp, rfl⟩)
    · split
      · exact .inr (.inr ⟨by simp, by simp, rfl⟩)
      · split
        · rename_i h
          exact .inr (.inl ⟨rfl, h, rfl⟩)
        · rename_i h
          exact .inl ⟨rfl, by simpa using h, rfl, rfl⟩
theorem del_out (s : Sto) (n : ByteArray) : Outc s (s.del n).1 (s.del n).2 := by
  unfold Sto.del
  split
  · split
    · rename_i h
      exact .inr (.inl ⟨rfl, h, rfl⟩)
    · rename_i h
      exact .inl ⟨rfl, by simpa using h, rfl, rfl⟩
  · rename_i h
    rcases get_none (s := s) (n := n) with e | e | e
    · exact absurd e h
    · exact .inr (.inr ⟨by rw [e]; decide, by rw [e]; decide, rfl⟩)
    · exact .inr (.inr ⟨by rw [e]; decide, by rw [e]; decide, rfl⟩)
theorem tried_down (s : Sto) : s.tried.down = s.down := by unfold Sto.tried; split <;> rfl
/-- How many writes were done, how many refused; how many are done still. -/
def RefInv (s : Sto) (a d r : Nat) : Prop := s.down = false ∧ ((r = 0 ∧ s.refuse = (a : Int) - d ∧ d ≤ a) ∨ (r = 1 ∧ s.refuse = -1))
theorem refInv_done {s s' : Sto} {a d r : Nat} (h : RefInv s a d r) (h1 : s.refNow = false) (h2 : s'.refuse = s.tried.refuse) (h3 : s'.down = s.tried.down) : RefInv s' a (d + 1) r := by
  obtain ⟨k0, k1⟩ := h
  have e1 : s.refuse ≠ 0 := by simpa [Sto.refNow] using h1
  refine ⟨by rw [h3, tried_down, k0], ?_⟩
  rcases k1 with ⟨e, e2, e3⟩ | ⟨e, e2⟩
  · refine .inl ⟨e, ?_, by omega⟩
    rw [h2]
    unfold Sto.tried
    rw [if_neg (by omega)]
    show s.refuse - 1 = _
    omega
  · refine .inr ⟨e, ?_⟩
    rw [h2]
    unfold Sto.tried
    rw [if_pos (by omega), e2]
theorem refInv_no {s : Sto} {a d r : Nat} (h : RefInv s a d r) (h1 : s.refNow = true) : r = 0 ∧ d = a ∧ RefInv s.tried a d 1 := by
  obtain ⟨k0, k1⟩ := h
  have e1 : s.refuse = 0 := by simpa [Sto.refNow] using h1
  rcases k1 with ⟨e, e2, e3⟩ | ⟨e, e2⟩
  · refine ⟨e, by omega, by rw [tried_down]; exact k0, .inr ⟨rfl, ?_⟩⟩
    unfold Sto.tried
    rw [if_neg (by omega)]
    show s.refuse - 1 = _
    omega
  · omega
theorem outc_seen {s s' : Sto} {r : Int} (h : Outc s s' r) (hr : r ≠ 0) : s'.seen = s.seen := by
  rcases h with ⟨e, _⟩ | ⟨_, _, e⟩ | ⟨_, _, e⟩
  · exact absurd e hr
  · rw [e, tried_seen]
  · rw [e]

theorem RowAt.but {α : Type} {k : Nat} {enc : α → List Value} {w w' : World} {B n : Nat} {A : Option Addr} {l : List α} {F : List Nat} (h : RowAt k enc w B A n l) (hb : But F w w') (hB : B ≤ w.heap.size) (hA : ∀ b off, A = some ⟨b, off, none⟩ → b ∉ F) : RowAt k enc w' B A n l := by
  refine ⟨h.1, h.2.1, fun hn => ?_⟩
  obtain ⟨b, off, e, hB', hc⟩ := h.2.2 hn
  exact ⟨b, off, e, hB', fun i x hx j v hv => (World.cell?_of_block (a := ⟨b, off + i * k + j, none⟩) (hb.block b (by omega) (hA b off e))).trans (hc i x hx j v hv)⟩
theorem own_apart {k : Nat} {enc : Ob → List Value} {T : TypeId} {w : World} {base n c : Nat} {A : Option Addr} {l : List Ob} (h : Owns k enc T w base (.slice A n c) l) {F : List Nat} (hF : ∀ i ∈ F, i < base) : ∀ b off, A = some ⟨b, off, none⟩ → b ∉ F := fun b off e hb => by
  have h1 := hF b hb
  rcases h.2 with ⟨e1, _⟩ | ⟨g, cap, cur, e1, hg, _⟩
  · cases e1
    cases e
  · cases e1
    cases e
    omega

theorem kind_mod2 {k : Int} (h0 : 0 ≤ k) : Value.int .u8 (k.tmod 2) = .int .u8 0 ∨ Value.int .u8 (k.tmod 2) = .int .u8 1 := by
  rw [Int.tmod_eq_emod_of_nonneg h0]
  have : k % 2 = 0 ∨ k % 2 = 1 := by omega
  rcases this with e | e
  · exact .inl (by rw [e])
  · exact .inr (by rw [e])

set_option maxHeartbeats 8000000 in
set_option maxRecDepth 100000 in
theorem storeRefused_walk (A : Option Addr) (n c : Nat) (l : List Actx) (k : Int) (w : World) (h : ActsAt w w.heap.size A n l) (hn : n ≤ reachBytes) (hf : ∀ a ∈ l, ActFit a) (ho : ∀ a ∈ l, ActOk w a) (hk : -9223372036854775808 ≤ k ∧ k ≤ 9223372036854775807) :
    Calls Try.prog 5 #[.slice A n c, .int .i64 k] w fun e w' => e = .returned (.bool true) ∧ Below w.heap.size w w' := by
  have hL := fun W (hW : Below w.heap.size w W) => law07_large A n c l W (h.to hW) hn hf
  obtain ⟨u, a, ha, hw1, hw2, hw3, hw4, hw5⟩ := uint_vals k (m := 20) (by omega) (by omega) hk
  replace hL := Lib.hid hL
  replace hw3 : Value.int .u64 ((u : Int).tmod 20) = Value.int .u64 a := hw3
  clear hw2
  replace ho := Lib.hid ho
  go_enter Try.func5, Try.ntmps5
  go_wp2_with fail
  refine (law07_works w).mono ?_
  rintro e w1 ⟨rfl, b1⟩
  go_wp2_with fail
  refine (hL.out w1 b1).mono ?_
  rintro e w2 ⟨he, b2⟩
  have c2 := b1.trans (b2.mono b1.size)
  rcases he with ⟨rfl, hsm⟩ | rfl
  · go_wp2_with fail
    refine (store_New w2).mono ?_
    rintro e w3 ⟨rfl, h3, b3⟩
    have c3 := c2.trans (b3.mono c2.size)
    have z2 := c2.size
    have k3 : ∀ i ∈ [w2.heap.size + 2, w2.heap.size, w2.heap.size + 1], w.heap.size ≤ i := by simp; omega
    generalize [w2.heap.size + 2, w2.heap.size, w2.heap.size + 1] = F3 at h3 k3
    generalize w2.heap.size + 2 = b at h3 ⊢
    replace hsm := Lib.hid hsm
    go_wp2_with fail
    refine (strike_refuse_lit (s := Sto.new) (n := (a : Int)) (by omega) (by omega) w3 h3).mono ?_
    rintro e w4 ⟨rfl, hto⟩
    obtain ⟨F4, x4⟩ := hto.next k3 c3.size
    have h4 := x4.at_
    have k4 := x4.lo
    have c4 := c3.trans x4.below
    have hi4 : RefInv { Sto.new with refuse := (a : Int) } a 0 0 := ⟨rfl, .inl ⟨rfl, by simp, Nat.zero_le _⟩⟩
    clear hto x4 h3 k3 hw1 hw3 hw4 hw5 b1 b2 b3
    replace hi4 := Lib.hid hi4
    have hl9 : n ≤ 1000 := by have := hsm.out.1; have := h.1; omega
    go_wp2_with fail
    go_loopw [7, 8, 9, 10, 11] (fun tD tR tI _ _ wr => ∃ (j d r : Nat) (F : List Nat) (s : Sto), j ≤ n ∧ tI = .int .i64 j ∧ tD = .int .i64 d ∧ tR = .int .i64 r ∧ d ≤ j ∧ r ≤ 1 ∧ StoAt wr b F j s ∧ (∀ i ∈ F, w.heap.size ≤ i) ∧ Hid (RefInv s a d r) ∧ Below w.heap.size w wr) (fun _ _ tI _ _ _ => n - (intOf tI).toNat)
    case atStart => exact ⟨0, 0, 0, F4, _, Nat.zero_le _, rfl, rfl, rfl, Nat.le_refl _, by omega, h4, k4, hi4, c4⟩
    case round =>
      obtain ⟨j, d, r, F, s, hj, rfl, rfl, rfl, hd, hr1, hst, hlo, hinv, hbr⟩ := hrel
      obtain ⟨wp, rfl⟩ : ∃ x : World, x = wr := ⟨_, rfl⟩
      by_cases hlt : j < n
      · obtain ⟨b0, off, x, rfl, hb0, hx, q0, q1, q2, q3, q4, q5, q6, q7, q8⟩ := (h.to hbr).act hlt
        have hxs := hsm.out.2 x (List.mem_of_getElem? hx)
        have hkd := (ho.out x (List.mem_of_getElem? hx)).kind.1
        have hn1 : x.name.size ≤ maxLen := Nat.le_trans hxs.1 (by decide)
        have hd1 : x.data.size ≤ maxLen := Nat.le_trans hxs.2.1 (by decide)
        replace hx := Lib.hid hx
        go_wp2_with fail
        refine (store_Objects b F j s wp hst).mono ?_
        rintro e w5 ⟨v5, rfl, o5, b5⟩
        obtain ⟨A5, m5, c5, rfl⟩ : ∃ A m c, v5 = .slice A m c := by obtain ⟨A, c, e⟩ := Owns.form o5; exact ⟨A, _, c, e⟩
        have h5 := hst.below b5
        have hz5 := hbr.size
        have k5 := hbr.trans (b5.mono hbr.size)
        have r5 := Owns.row (k := 2) (fun x => objE.len x) o5
        have hap := own_apart o5 hst.lt
        clear o5
        have qq0 := (b5.cell (p := ⟨b0, off + j * 9, none⟩) hb0).trans q0
        have qq1 := (b5.cell (p := ⟨b0, off + j * 9 + 1, none⟩) hb0).trans q1
        have qq2 := (b5.cell (p := ⟨b0, off + j * 9 + 2, none⟩) hb0).trans q2
        clear q0 q1 q2 q3 q4 q5 q6 q7 q8
        rcases kind_mod2 hkd with hk2 | hk2
        · replace hkd := Lib.hid hkd
          go_wp2_with fail
          refine (store_Put b F j s (x.name, x.data) hn1 hd1 (by omega) w5 h5).mono ?_
          rintro e w6 ⟨rfl, hto⟩
          obtain ⟨F6, x6⟩ := hto.next hlo (Nat.le_trans hz5 b5.size)
          have h6 := x6.at_
          have r6 := r5.but x6.but (Nat.le_refl _) hap
          have c6 := k5.trans x6.below
          have hout := put_out s (x.name, x.data)
          have k6 := x6.lo
          have z6 := x6.but.size
          obtain ⟨s', hs'⟩ : ∃ s', s' = (s.put (x.name, x.data)).1 := ⟨_, rfl⟩
          obtain ⟨z, hz⟩ : ∃ z, z = (s.put (x.name, x.data)).2 := ⟨_, rfl⟩
          rw [← hs', ← hz] at hout
          rw [← hs'] at h6
          rw [← hz]
          clear x6 hto
          replace hs' := Lib.hid hs'
          replace hz := Lib.hid hz
          by_cases hz0 : z = 0
          · subst hz0
            have hi6 : Hid (RefInv s' a (d + 1) r) := by
              rcases hout with ⟨_, e1, e2, e3⟩ | ⟨e, _⟩ | ⟨e, _⟩
              · exact refInv_done hinv.out e1 e2 e3
              · cases e
              · exact absurd rfl e
            go_wp2_with fail
            go_roundw
            case rel => exact ⟨j + 1, d + 1, r, F6, s', by omega, by go_num, by go_num, rfl, by omega, by omega, h6, k6, hi6, c6⟩
            case measure => simp [intOf]; omega
          · have hsn : s'.seen = s.seen := outc_seen hout hz0
            have g0 : (z == 0) = false := by simpa using hz0
            by_cases hz3 : z = 53
            · subst hz3
              obtain ⟨rfl, rfl, hi6⟩ : r = 0 ∧ d = a ∧ Hid (RefInv s' a d 1) := by
                rcases hout with ⟨e, _⟩ | ⟨_, e1, e2⟩ | ⟨_, e, _⟩
                · cases e
                · obtain ⟨g1, g2, g3⟩ := refInv_no hinv.out e1
                  exact ⟨g1, g2, by unfold Hid; rw [e2, g2]; rw [g2] at g3; exact g3⟩
                · exact absurd rfl e
              go_wp2_with fail
              refine (store_Objects b F6 (j + 1) s' w6 h6).mono ?_
              rintro e w7 ⟨v7, rfl, o7, b7⟩
              obtain ⟨A7, m7, c7, rfl⟩ : ∃ A m c, v7 = .slice A m c := by obtain ⟨A, c, e⟩ := Owns.form o7; exact ⟨A, _, c, e⟩
              have r7 := Owns.row (k := 2) (fun x => objE.len x) o7
              rw [hsn] at r7
              go_wp2_with fail
              refine (ref07_SameObjects A7 m7 c7 A5 m5 c5 s.seen w7 r7 ((r6.more (by omega)).to b7)).mono ?_
              rintro e w8 ⟨rfl, b8⟩
              have c8 := (c6.trans (b7.mono c6.size)).trans (b8.mono (Nat.le_trans c6.size b7.size))
              have h8 := (h6.below b7).below b8
              go_wp2_with fail
              go_roundw
              case rel => exact ⟨j + 1, d, 1, F6, s', by omega, by go_num, rfl, by go_num, by omega, by omega, h8, k6, hi6, c8⟩
              case measure => simp [intOf]; omega
            · have g3 : (z == 53) = false := by simpa using hz3
              have hi6 : Hid (RefInv s' a d r) := by
                rcases hout with ⟨e, _⟩ | ⟨e, _⟩ | ⟨_, _, e⟩
                · exact absurd e hz0
                · exact absurd e hz3
                · rw [e]; exact hinv.out
              replace hz0 := Lib.hid hz0
              replace hz3 := Lib.hid hz3
              replace hout := Lib.hid hout
              go_wp2_with fail
              refine (store_Objects b F6 (j + 1) s' w6 h6).mono ?_
              rintro e w7 ⟨v7, rfl, o7, b7⟩
              obtain ⟨A7, m7, c7, rfl⟩ : ∃ A m c, v7 = .slice A m c := by obtain ⟨A, c, e⟩ := Owns.form o7; exact ⟨A, _, c, e⟩
              have r7 := Owns.row (k := 2) (fun x => objE.len x) o7
              rw [hsn] at r7
              go_wp2_with fail
              refine (ref07_SameObjects A7 m7 c7 A5 m5 c5 s.seen w7 r7 ((r6.more (by omega)).to b7)).mono ?_
              rintro e w8 ⟨rfl, b8⟩
              have c8 := (c6.trans (b7.mono c6.size)).trans (b8.mono (Nat.le_trans c6.size b7.size))
              have h8 := (h6.below b7).below b8
              go_wp2_with fail
              go_roundw
              case rel => exact ⟨j + 1, d, r, F6, s', by omega, by go_num, rfl, rfl, by omega, by omega, h8, k6, hi6, c8⟩
              case measure => simp [intOf]; omega
        · replace hkd := Lib.hid hkd
          go_wp2_with fail
          refine (store_Del b F j s x.name hn1 (by omega) w5 h5).mono ?_
          rintro e w6 ⟨rfl, hto⟩
          obtain ⟨F6, x6⟩ := hto.next hlo (Nat.le_trans hz5 b5.size)
          have h6 := x6.at_
          have r6 := r5.but x6.but (Nat.le_refl _) hap
          have c6 := k5.trans x6.below
          have hout := del_out s x.name
          have k6 := x6.lo
          have z6 := x6.but.size
          obtain ⟨s', hs'⟩ : ∃ s', s' = (s.del x.name).1 := ⟨_, rfl⟩
          obtain ⟨z, hz⟩ : ∃ z, z = (s.del x.name).2 := ⟨_, rfl⟩
          rw [← hs', ← hz] at hout
          rw [← hs'] at h6
          rw [← hz]
          clear x6 hto
          replace hs' := Lib.hid hs'
          replace hz := Lib.hid hz
          by_cases hz0 : z = 0
          · subst hz0
            have hi6 : Hid (RefInv s' a (d + 1) r) := by
              rcases hout with ⟨_, e1, e2, e3⟩ | ⟨e, _⟩ | ⟨e, _⟩
              · exact refInv_done hinv.out e1 e2 e3
              · cases e
              · exact absurd rfl e
            go_wp2_with fail
            go_roundw
            case rel => exact ⟨j + 1, d + 1, r, F6, s', by omega, by go_num, by go_num, rfl, by omega, by omega, h6, k6, hi6, c6⟩
            case measure => simp [intOf]; omega
          · have hsn : s'.seen = s.seen := outc_seen hout hz0
            have g0 : (z == 0) = false := by simpa using hz0
            by_cases hz3 : z = 53
            · subst hz3
              obtain ⟨rfl, rfl, hi6⟩ : r = 0 ∧ d = a ∧ Hid (RefInv s' a d 1) := by
                rcases hout with ⟨e, _⟩ | ⟨_, e1, e2⟩ | ⟨_, e, _⟩
                · cases e
                · obtain ⟨g1, g2, g3⟩ := refInv_no hinv.out e1
                  exact ⟨g1, g2, by unfold Hid; rw [e2, g2]; rw [g2] at g3; exact g3⟩
                · exact absurd rfl e
              go_wp2_with fail
              refine (store_Objects b F6 (j + 1) s' w6 h6).mono ?_
              rintro e w7 ⟨v7, rfl, o7, b7⟩
              obtain ⟨A7, m7, c7, rfl⟩ : ∃ A m c, v7 = .slice A m c := by obtain ⟨A, c, e⟩ := Owns.form o7; exact ⟨A, _, c, e⟩
              have r7 := Owns.row (k := 2) (fun x => objE.len x) o7
              rw [hsn] at r7
              go_wp2_with fail
              refine (ref07_SameObjects A7 m7 c7 A5 m5 c5 s.seen w7 r7 ((r6.more (by omega)).to b7)).mono ?_
              rintro e w8 ⟨rfl, b8⟩
              have c8 := (c6.trans (b7.mono c6.size)).trans (b8.mono (Nat.le_trans c6.size b7.size))
              have h8 := (h6.below b7).below b8
              go_wp2_with fail
              go_roundw
              case rel => exact ⟨j + 1, d, 1, F6, s', by omega, by go_num, rfl, by go_num, by omega, by omega, h8, k6, hi6, c8⟩
              case measure => simp [intOf]; omega
            · have g3 : (z == 53) = false := by simpa using hz3
              have hi6 : Hid (RefInv s' a d r) := by
                rcases hout with ⟨e, _⟩ | ⟨e, _⟩ | ⟨_, _, e⟩
                · exact absurd e hz0
                · exact absurd e hz3
                · rw [e]; exact hinv.out
              replace hz0 := Lib.hid hz0
              replace hz3 := Lib.hid hz3
              replace hout := Lib.hid hout
              go_wp2_with fail
              refine (store_Objects b F6 (j + 1) s' w6 h6).mono ?_
              rintro e w7 ⟨v7, rfl, o7, b7⟩
              obtain ⟨A7, m7, c7, rfl⟩ : ∃ A m c, v7 = .slice A m c := by obtain ⟨A, c, e⟩ := Owns.form o7; exact ⟨A, _, c, e⟩
              have r7 := Owns.row (k := 2) (fun x => objE.len x) o7
              rw [hsn] at r7
              go_wp2_with fail
              refine (ref07_SameObjects A7 m7 c7 A5 m5 c5 s.seen w7 r7 ((r6.more (by omega)).to b7)).mono ?_
              rintro e w8 ⟨rfl, b8⟩
              have c8 := (c6.trans (b7.mono c6.size)).trans (b8.mono (Nat.le_trans c6.size b7.size))
              have h8 := (h6.below b7).below b8
              go_wp2_with fail
              go_roundw
              case rel => exact ⟨j + 1, d, r, F6, s', by omega, by go_num, rfl, rfl, by omega, by omega, h8, k6, hi6, c8⟩
              case measure => simp [intOf]; omega
      · obtain rfl : j = n := by omega
        have hs := store_Sound b F j s wp hst
        obtain ⟨k0, k1⟩ := hinv.out
        rcases k1 with ⟨rfl, e2, e3⟩ | ⟨rfl, e2⟩
        · have hsd : s.sound = false := by unfold Sto.sound; rw [k0]; simp; omega
          rw [hsd] at hs
          have hda : (d : Int) ≤ (a : Int) := by omega
          replace hsd := Lib.hid hsd
          replace e2 := Lib.hid e2
          replace k0 := Lib.hid k0
          go_wp2_with fail
          refine hs.mono ?_
          rintro e w5 ⟨rfl, rfl⟩
          go_wp2_with fail
          go_ret
          exact ⟨rfl, hbr⟩
        · have hsd : s.sound = true := by unfold Sto.sound; rw [k0, e2]; rfl
          rw [hsd] at hs
          replace hsd := Lib.hid hsd
          replace e2 := Lib.hid e2
          replace k0 := Lib.hid k0
          go_wp2_with fail
          refine hs.mono ?_
          rintro e w5 ⟨rfl, rfl⟩
          go_wp2_with fail
          go_ret
          exact ⟨rfl, hbr⟩
  · go_wp2_with fail
    refine (law07_works w2).mono ?_
    rintro e w3 ⟨rfl, b3⟩
    go_wp2_with fail
    go_ret
    exact ⟨rfl, c2.trans (b3.mono c2.size)⟩
end Go.Proofs.Ytcepdigeimedoaa
