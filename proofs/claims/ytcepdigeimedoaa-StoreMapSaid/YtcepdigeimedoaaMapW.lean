/-
  The walk of StoreMap.
-/
import Derived.Test.YtcepdigeimedoaaRefusedW
import Derived.Test.YtcepdigeimedoaaHeldM
import Derived.Deep.CutBlock
namespace Go.Proofs.Ytcepdigeimedoaa
open Go.RowKit
attribute [local go_sem ↓] Go.wp_at_zero Go.wp_at_succ

/-- No fault has struck. -/
structure Free (s : Sto) : Prop where
  down : s.down = false
  refuse : s.refuse = -1
  room : s.room = -1
theorem free_tried {s : Sto} (h : Free s) : s.tried = s := by unfold Sto.tried; rw [if_pos (by rw [h.refuse]; decide)]
theorem free_now {s : Sto} (h : Free s) : s.refNow = false := by unfold Sto.refNow; rw [h.refuse]; rfl
theorem free_put {s : Sto} (h : Free s) {o : Ob} (hb : badO o = false) : (s.put o).2 = 0 ∧ Free (s.put o).1 ∧ (s.put o).1.seen = putO s.seen o := by
  have hf : s.full o = false := by simp [Sto.full, h.room]
  unfold Sto.put
  rw [if_neg (by rw [hb]; decide), if_neg (by rw [h.down]; decide), if_neg (by rw [hf]; decide), if_neg (by rw [free_now h]; decide), free_tried h]
  exact ⟨rfl, ⟨h.down, h.refuse, h.room⟩, rfl⟩
theorem bad_put {s : Sto} {o : Ob} (hb : badO o = true) : s.put o = (s, 1) := by
  unfold Sto.put
  rw [if_pos hb]
theorem free_get {s : Sto} (h : Free s) (n : ByteArray) : s.get n = match lookO s.seen n with | none => (⟨#[]⟩, 5) | some d => (d, 0) := by
  unfold Sto.get
  rw [if_neg (by rw [h.down]; decide)]
  cases lookO s.seen n <;> rfl
theorem free_del_none {s : Sto} (h : Free s) {n : ByteArray} (hl : lookO s.seen n = none) : s.del n = (s, 5) := by
  have hg : s.get n = (⟨#[]⟩, 5) := by rw [free_get h, hl]
  unfold Sto.del
  rw [hg]
  rfl
theorem free_del_some {s : Sto} (h : Free s) {n d : ByteArray} (hl : lookO s.seen n = some d) : (s.del n).2 = 0 ∧ Free (s.del n).1 ∧ (s.del n).1.seen = delO s.seen n := by
  have hg : s.get n = (d, 0) := by rw [free_get h, hl]
  unfold Sto.del
  rw [hg, if_pos rfl, if_neg (by rw [free_now h]; decide), free_tried h]
  exact ⟨rfl, ⟨h.down, h.refuse, h.room⟩, rfl⟩
theorem free_sync {s : Sto} (h : Free s) : s.sync = (s.settled, 0) := by
  unfold Sto.sync
  rw [if_neg (by rw [h.down]; decide)]
theorem delO_none {l : List Ob} {n : ByteArray} (h : lookO l n = none) : delO l n = l := by
  refine List.filter_eq_self.2 fun p hp => ?_
  simp only [Bool.not_eq_true', decide_eq_false_iff_not]
  intro e
  have : (lookO l n).isSome = true := by rw [lookO_isSome]; simp; exact ⟨p.2, by rw [← e]; exact hp⟩
  rw [h] at this
  cases this

theorem kind_mod3 {k : Int} (h0 : 0 ≤ k) : ∃ r : Nat, r < 3 ∧ Value.int .u8 (k.tmod 3) = .int .u8 (r : Int) := by
  rw [Int.tmod_eq_emod_of_nonneg h0]
  have : k % 3 = 0 ∨ k % 3 = 1 ∨ k % 3 = 2 := by omega
  rcases this with e | e | e
  · exact ⟨0, by omega, by rw [e]; rfl⟩
  · exact ⟨1, by omega, by rw [e]; rfl⟩
  · exact ⟨2, by omega, by rw [e]; rfl⟩

set_option maxHeartbeats 8000000 in
set_option maxRecDepth 100000 in
theorem storeMap_walk (A : Option Addr) (n c : Nat) (l : List Actx) (w : World) (h : ActsAt w w.heap.size A n l) (hn : n ≤ reachBytes) (hf : ∀ a ∈ l, ActFit a) (ho : ∀ a ∈ l, ActOk w a) :
    Calls Try.prog 6 #[.slice A n c] w fun e w' => e = .returned (.bool true) ∧ Below w.heap.size w w' := by
  have hL := fun W (hW : Below w.heap.size w W) => law07_large A n c l W (h.to hW) hn hf
  have hmm := @run_makeMap Try.prog
  replace hL := Lib.hid hL
  replace ho := Lib.hid ho
  go_enter Try.func6, Try.ntmps6
  go_wp2_with fail
  refine (law07_works w).mono ?_
  rintro e w1 ⟨rfl, b1⟩
  go_wp2_with fail
  refine (hL.out w1 b1).mono ?_
  rintro e w2 ⟨he, b2⟩
  have c2 := b1.trans (b2.mono b1.size)
  rcases he with ⟨rfl, hsm⟩ | rfl
  · go_wp2_with fail
    refine (store_New w2).mono ?_
    rintro e w3 ⟨rfl, h3, b3⟩
    have c3 := c2.trans (b3.mono c2.size)
    have z2 := c2.size
    have k3 : ∀ i ∈ [w2.heap.size + 2, w2.heap.size, w2.heap.size + 1], w.heap.size ≤ i := by simp; omega
    generalize [w2.heap.size + 2, w2.heap.size, w2.heap.size + 1] = F3 at h3 k3
    generalize w2.heap.size + 2 = b at h3 ⊢
    have hl9 : n ≤ 1000 := by have := hsm.1; have := h.1; omega
    replace hsm := Lib.hid hsm
    have hM := HeldAt.made w3 0 (by omega)
    have b4 : Below w3.heap.size w3 (w3.alloc (.map #[] 0)) := (Below.refl _ _).alloc (Nat.le_refl _) _
    have h4 := h3.below b4
    have s4 : w3.heap.size ∉ F3 := fun hi => by have := h3.lt _ hi; omega
    have c4 := c3.trans (b4.mono c3.size)
    have zm : w.heap.size ≤ w3.heap.size := c3.size
    clear b1 b2 b3 b4
    replace hM := Lib.hid hM
    replace h4 := Lib.hid h4
    go_wp2_with fail
    go_loopw [5] (fun tI wr => ∃ (j : Nat) (F : List Nat) (s : Sto), j ≤ n ∧ tI = .int .i64 j ∧ StoAt wr b F j s ∧ (∀ i ∈ F, w.heap.size ≤ i) ∧ w3.heap.size ∉ F ∧ Hid (Free s) ∧ HeldAt wr w3.heap.size j s.seen ∧ Below w.heap.size w wr) (fun tI _ => n - (intOf tI).toNat)
    case atStart => exact ⟨0, F3, _, Nat.zero_le _, rfl, h4.out, k3, s4, ⟨rfl, rfl, rfl⟩, hM.out, c4⟩
    case round =>
      obtain ⟨j, F, s, hj, rfl, hst, hlo, hmF, hfr, hhd, hbr⟩ := hrel
      obtain ⟨wp, rfl⟩ : ∃ x : World, x = wr := ⟨_, rfl⟩
      have hzp := hbr.size
      by_cases hlt : j < n
      · obtain ⟨b0, off, x, rfl, hb0, hx, q0, q1, q2, q3, q4, q5, q6, q7, q8⟩ := (h.to hbr).act hlt
        have hxs := hsm.out.2 x (List.mem_of_getElem? hx)
        have hn1 : x.name.size ≤ maxLen := Nat.le_trans hxs.1 (by decide)
        have hd1 : x.data.size ≤ maxLen := Nat.le_trans hxs.2.1 (by decide)
        have hk0 := (ho.out x (List.mem_of_getElem? hx)).kind.1
        replace hx := Lib.hid hx
        go_upto_region 9 with fail
        have hbl := Lib.hid hst.lt
        have hmlt := hhd.lt
        have b5 : Below wp.heap.size wp (wp.alloc (.cells #[.string x.name, .string x.data] 30)) := (Below.refl _ _).alloc (Nat.le_refl _) _
        have e0 : (wp.alloc (.cells #[.string x.name, .string x.data] 30)).cell? ⟨wp.heap.size, 0, none⟩ = some (.string x.name) := newCell _ _ _ _ _
        have e1 : (wp.alloc (.cells #[.string x.name, .string x.data] 30)).cell? ⟨wp.heap.size, 1, none⟩ = some (.string x.data) := newCell _ _ _ _ _
        have z5 : (wp.alloc (.cells #[.string x.name, .string x.data] 30)).heap.size = wp.heap.size + 1 := by simp
        have hh5 := hhd.below hhd.lt b5
        have h5 := hst.below b5
        have c5 := hbr.trans (b5.mono hzp)
        have qq0 := (b5.cell (p := ⟨b0, off + j * 9, none⟩) hb0).trans q0
        clear q0 q1 q2 q3 q4 q5 q6 q7 q8
        generalize (wp.alloc (.cells #[.string x.name, .string x.data] 30)) = w5 at b5 e0 e1 z5 hh5 h5 c5 qq0 ⊢
        obtain ⟨dd, hdd⟩ : ∃ dd, dd = (lookO s.seen x.name).getD ⟨#[]⟩ := ⟨_, rfl⟩
        obtain ⟨Bs, hBs⟩ : ∃ Bs, Bs = (lookO s.seen x.name).isSome := ⟨_, rfl⟩
        have hl5 := hh5.look_ok x.name hn1
        rw [← hdd, ← hBs] at hl5
        replace hdd := Lib.hid hdd
        replace hBs := Lib.hid hBs
        have h5' := Lib.hid h5
        have hh5' := Lib.hid hh5
        clear h5 hh5 hst hhd
        go_upto_region 10 with fail
        have b6 : Below w5.heap.size w5 (w5.alloc (.cells #[.string dd] 49)) := (Below.refl _ _).alloc (Nat.le_refl _) _
        have f0 := (b6.cell (p := ⟨wp.heap.size, 0, none⟩) (by simp; omega)).trans e0
        have f1 := (b6.cell (p := ⟨wp.heap.size, 1, none⟩) (by simp; omega)).trans e1
        have z6 : (w5.alloc (.cells #[.string dd] 49)).heap.size = wp.heap.size + 1 + 1 := by simp [z5]
        have hh6 := hh5'.out.below hh5'.out.lt b6
        have h6 := h5'.out.below b6
        have c6 := c5.trans (b6.mono c5.size)
        have qr0 := (b6.cell (p := ⟨b0, off + j * 9, none⟩) (by have := hb0; simp; omega)).trans qq0
        clear qq0 e0 e1
        generalize (w5.alloc (.cells #[.string dd] 49)) = w6 at b6 f0 f1 z6 hh6 h6 c6 qr0 ⊢
        obtain ⟨r, hr3, hrv⟩ := kind_mod3 hk0
        have hmp : w3.heap.size < wp.heap.size := hmlt
        go_upto_block 2 with fail
        go_cut [9] (fun _ wc => ∃ F' s', StoAt wc b F' (j + 1) s' ∧ (∀ i ∈ F', w.heap.size ≤ i) ∧ w3.heap.size ∉ F' ∧ Hid (Free s') ∧ HeldAt wc w3.heap.size (j + 1) s'.seen ∧ wc.cell? ⟨wp.heap.size, 0, none⟩ = some (.string x.name) ∧ Below w.heap.size w wc)
        case first =>
          --SW
          clear hrv
          replace hk0 := Lib.hid hk0
          have hr : r = 0 ∨ r = 1 ∨ r = 2 := by omega
          rcases hr with rfl | rfl | rfl
          · have hput := store_Put b F j s (x.name, x.data) hn1 hd1 (by omega) w6 h6
            by_cases g0 : x.name.size = 0
            · have i0 := str_empty g0
              have hbd : badO (x.name, x.data) = true := by simp [badO, g0]
              rw [bad_put hbd] at hput
              replace hbd := Lib.hid hbd
              replace g0 := Lib.hid g0
              go_wp2_with fail
              refine hput.mono ?_
              rintro e w7 ⟨rfl, hto⟩
              obtain ⟨F7, x7⟩ := hto.next hlo c6.size
              have h7 := x7.at_
              have k7 := x7.lo
              have c7 := c6.trans x7.below
              have mb7 : w3.heap.size ∉ F7 := fun hi => by
                rcases x7.sub _ hi with e | e
                · exact hmF e
                · have := hh6.lt; omega
              have hh7 := hh6.block (x7.but.block _ hh6.lt hmF)
              have f7 := (World.cell?_of_block (a := ⟨wp.heap.size, 0, none⟩) (x7.but.block wp.heap.size (by omega) (fun hi => by have := hbl.out _ hi; omega))).trans f0
              have f8 := (World.cell?_of_block (a := ⟨wp.heap.size, 1, none⟩) (x7.but.block wp.heap.size (by omega) (fun hi => by have := hbl.out _ hi; omega))).trans f1
              have zz7 := x7.but.size
              clear x7 hto
              go_wp2_with fail
              go_meet
              exact ⟨F7, s, h7, k7, mb7, hfr, hh7.more (Nat.le_succ _) (by omega), f7, c7⟩
            have i0 := str_some g0
            by_cases g1 : 80 < x.name.size
            · have i1 : ¬ (x.name.size : Int) ≤ 80 := by omega
              have hbd : badO (x.name, x.data) = true := by simp [badO, g1]
              rw [bad_put hbd] at hput
              replace hbd := Lib.hid hbd
              replace g1 := Lib.hid g1
              go_wp2_with fail
              refine hput.mono ?_
              rintro e w7 ⟨rfl, hto⟩
              obtain ⟨F7, x7⟩ := hto.next hlo c6.size
              have h7 := x7.at_
              have k7 := x7.lo
              have c7 := c6.trans x7.below
              have mb7 : w3.heap.size ∉ F7 := fun hi => by
                rcases x7.sub _ hi with e | e
                · exact hmF e
                · have := hh6.lt; omega
              have hh7 := hh6.block (x7.but.block _ hh6.lt hmF)
              have f7 := (World.cell?_of_block (a := ⟨wp.heap.size, 0, none⟩) (x7.but.block wp.heap.size (by omega) (fun hi => by have := hbl.out _ hi; omega))).trans f0
              have f8 := (World.cell?_of_block (a := ⟨wp.heap.size, 1, none⟩) (x7.but.block wp.heap.size (by omega) (fun hi => by have := hbl.out _ hi; omega))).trans f1
              have zz7 := x7.but.size
              clear x7 hto
              go_wp2_with fail
              go_meet
              exact ⟨F7, s, h7, k7, mb7, hfr, hh7.more (Nat.le_succ _) (by omega), f7, c7⟩
            have i1 : (x.name.size : Int) ≤ 80 := by omega
            have g2 : ¬ 65536 < x.data.size := by have := hxs.2.1; omega
            have i2 : (x.data.size : Int) ≤ 65536 := by omega
            have hbd : badO (x.name, x.data) = false := by simp [badO, g0, g1, g2]
            obtain ⟨p1, p2, p3⟩ := free_put hfr.out hbd
            rw [p1] at hput
            replace hbd := Lib.hid hbd
            replace g0 := Lib.hid g0
            replace g1 := Lib.hid g1
            replace g2 := Lib.hid g2
            go_wp2_with fail
            refine hput.mono ?_
            rintro e w7 ⟨rfl, hto⟩
            obtain ⟨F7, x7⟩ := hto.next hlo c6.size
            have h7 := x7.at_
            have k7 := x7.lo
            have c7 := c6.trans x7.below
            have mb7 : w3.heap.size ∉ F7 := fun hi => by
              rcases x7.sub _ hi with e | e
              · exact hmF e
              · have := hh6.lt; omega
            have hh7 := hh6.block (x7.but.block _ hh6.lt hmF)
            have f7 := (World.cell?_of_block (a := ⟨wp.heap.size, 0, none⟩) (x7.but.block wp.heap.size (by omega) (fun hi => by have := hbl.out _ hi; omega))).trans f0
            have f8 := (World.cell?_of_block (a := ⟨wp.heap.size, 1, none⟩) (x7.but.block wp.heap.size (by omega) (fun hi => by have := hbl.out _ hi; omega))).trans f1
            have zz7 := x7.but.size
            clear x7 hto
            go_wp2_with (at_mapUpdate; go_must (refine wpList_held_put _ rfl _ _ _ rfl w3.heap.size j s.seen rfl hh7 (by omega) x.name x.data rfl rfl hn1 hd1 ?_); intro w8 hh8 hg8)
            go_meet
            exact ⟨F7, _, h7.but (But.of_grown (F := [w3.heap.size]) hg8 (by simp)) (fun i hi => by simp; rintro rfl; exact mb7 hi), k7, mb7, p2, by rw [p3]; exact hh8, (World.cell?_of_block (a := ⟨wp.heap.size, 0, none⟩) (hg8.block wp.heap.size (by omega) (by simp; omega))).trans f7, c7.grown hg8 c7.size (fun g hg => by cases hg; exact zm)⟩
          · cases hlk : lookO s.seen x.name with
            | none =>
              have hdl := store_Del b F j s x.name hn1 (by omega) w6 h6
              rw [free_del_none hfr.out hlk] at hdl
              obtain rfl : Bs = false := by rw [hBs.out, hlk]; rfl
              have hdn := delO_none hlk
              replace hlk := Lib.hid hlk
              go_wp2_with fail
              refine hdl.mono ?_
              rintro e w7 ⟨rfl, hto⟩
              obtain ⟨F7, x7⟩ := hto.next hlo c6.size
              have h7 := x7.at_
              have k7 := x7.lo
              have c7 := c6.trans x7.below
              have mb7 : w3.heap.size ∉ F7 := fun hi => by
                rcases x7.sub _ hi with e | e
                · exact hmF e
                · have := hh6.lt; omega
              have hh7 := hh6.block (x7.but.block _ hh6.lt hmF)
              have f7 := (World.cell?_of_block (a := ⟨wp.heap.size, 0, none⟩) (x7.but.block wp.heap.size (by omega) (fun hi => by have := hbl.out _ hi; omega))).trans f0
              have f8 := (World.cell?_of_block (a := ⟨wp.heap.size, 1, none⟩) (x7.but.block wp.heap.size (by omega) (fun hi => by have := hbl.out _ hi; omega))).trans f1
              have zz7 := x7.but.size
              clear x7 hto
              go_wp2_with (at_delete; go_must (refine wpList_held_del _ rfl _ _ rfl w3.heap.size j s.seen rfl hh7 x.name rfl hn1 ?_); intro w8 hh8 hg8)
              go_meet
              exact ⟨F7, s, h7.but (But.of_grown (F := [w3.heap.size]) hg8 (by simp)) (fun i hi => by simp; rintro rfl; exact mb7 hi), k7, mb7, hfr, by rw [hdn] at hh8; exact hh8.more (Nat.le_succ _) (by omega), (World.cell?_of_block (a := ⟨wp.heap.size, 0, none⟩) (hg8.block wp.heap.size (by omega) (by simp; omega))).trans f7, c7.grown hg8 c7.size (fun g hg => by cases hg; exact zm)⟩
            | some d0 =>
              have hdl := store_Del b F j s x.name hn1 (by omega) w6 h6
              obtain ⟨p1, p2, p3⟩ := free_del_some hfr.out hlk
              rw [p1] at hdl
              obtain rfl : Bs = true := by rw [hBs.out, hlk]; rfl
              replace hlk := Lib.hid hlk
              go_wp2_with fail
              refine hdl.mono ?_
              rintro e w7 ⟨rfl, hto⟩
              obtain ⟨F7, x7⟩ := hto.next hlo c6.size
              have h7 := x7.at_
              have k7 := x7.lo
              have c7 := c6.trans x7.below
              have mb7 : w3.heap.size ∉ F7 := fun hi => by
                rcases x7.sub _ hi with e | e
                · exact hmF e
                · have := hh6.lt; omega
              have hh7 := hh6.block (x7.but.block _ hh6.lt hmF)
              have f7 := (World.cell?_of_block (a := ⟨wp.heap.size, 0, none⟩) (x7.but.block wp.heap.size (by omega) (fun hi => by have := hbl.out _ hi; omega))).trans f0
              have f8 := (World.cell?_of_block (a := ⟨wp.heap.size, 1, none⟩) (x7.but.block wp.heap.size (by omega) (fun hi => by have := hbl.out _ hi; omega))).trans f1
              have zz7 := x7.but.size
              clear x7 hto
              go_wp2_with (at_delete; go_must (refine wpList_held_del _ rfl _ _ rfl w3.heap.size j s.seen rfl hh7 x.name rfl hn1 ?_); intro w8 hh8 hg8)
              go_meet
              exact ⟨F7, _, h7.but (But.of_grown (F := [w3.heap.size]) hg8 (by simp)) (fun i hi => by simp; rintro rfl; exact mb7 hi), k7, mb7, p2, by rw [p3]; exact hh8.more (Nat.le_succ _) (by omega), (World.cell?_of_block (a := ⟨wp.heap.size, 0, none⟩) (hg8.block wp.heap.size (by omega) (by simp; omega))).trans f7, c7.grown hg8 c7.size (fun g hg => by cases hg; exact zm)⟩
          · have hsy := store_Sync b F j s w6 h6
            rw [free_sync hfr.out] at hsy
            go_wp2_with fail
            refine hsy.mono ?_
            rintro e w7 ⟨rfl, hto⟩
            obtain ⟨F7, x7⟩ := hto.next hlo c6.size
            have h7 := x7.at_
            have k7 := x7.lo
            have c7 := c6.trans x7.below
            have mb7 : w3.heap.size ∉ F7 := fun hi => by
              rcases x7.sub _ hi with e | e
              · exact hmF e
              · have := hh6.lt; omega
            have hh7 := hh6.block (x7.but.block _ hh6.lt hmF)
            have f7 := (World.cell?_of_block (a := ⟨wp.heap.size, 0, none⟩) (x7.but.block wp.heap.size (by omega) (fun hi => by have := hbl.out _ hi; omega))).trans f0
            have f8 := (World.cell?_of_block (a := ⟨wp.heap.size, 1, none⟩) (x7.but.block wp.heap.size (by omega) (fun hi => by have := hbl.out _ hi; omega))).trans f1
            have zz7 := x7.but.size
            clear x7 hto
            go_wp2_with fail
            go_meet
            exact ⟨F7, _, h7.more (Nat.le_succ _) (by omega), k7, mb7, ⟨hfr.out.down, hfr.out.refuse, hfr.out.room⟩, hh7.more (Nat.le_succ _) (by omega), f7, c7⟩
          --endSW
        case rest =>
        obtain ⟨F7, s7, h7, k7, mb7, hf7, hh7, f7, c7⟩ := hcut
        obtain ⟨w7, rfl⟩ : ∃ x : World, x = wc := ⟨_, rfl⟩
        clear f0 f1 hh6 h6 hrv qr0
        have hG := store_Get b F7 (j + 1) s7 x.name hn1 w7 h7
        obtain ⟨d7, hd7⟩ : ∃ d, d = (lookO s7.seen x.name).getD ⟨#[]⟩ := ⟨_, rfl⟩
        obtain ⟨B7, hB7⟩ : ∃ B, B = (lookO s7.seen x.name).isSome := ⟨_, rfl⟩
        obtain ⟨z7, hz7⟩ : ∃ z : Int, z = (s7.get x.name).2 := ⟨_, rfl⟩
        have hgd : (s7.get x.name).1 = d7 := by rw [free_get hf7.out, hd7]; cases lookO s7.seen x.name <;> rfl
        have hzB : (z7 == 0) = B7 := by rw [hz7, hB7, free_get hf7.out]; cases lookO s7.seen x.name <;> rfl
        rw [hgd, ← hz7] at hG
        have hl7 := hh7.look_ok x.name hn1
        rw [← hd7, ← hB7] at hl7
        have hlen := hh7.len 3
        replace hd7 := Lib.hid hd7
        replace hB7 := Lib.hid hB7
        replace hz7 := Lib.hid hz7
        replace hgd := Lib.hid hgd
        have hm7 := hh7.lt
        replace hh7 := Lib.hid hh7
        replace h7 := Lib.hid h7
        have edd : (d7.toList == d7.toList) = true := by simp
        go_wp2_with fail
        refine hG.mono ?_
        rintro e w8 ⟨rfl, rfl⟩
        clear hG
        have b9 : Below w8.heap.size w8 (w8.alloc (.cells #[.string d7] 49)) := (Below.refl _ _).alloc (Nat.le_refl _) _
        have hO := store_Objects b F7 (j + 1) s7 (w8.alloc (.cells #[.string d7] 49)) (h7.out.below b9)
        have hcap : s7.seen.length ≤ 1000000 := by obtain ⟨_, _, _, _, h⟩ := h7.out; exact Nat.le_trans h.seen.len h.cap
        have g9 : (w8.alloc (.cells #[.string d7] 49)).cell? ⟨w8.heap.size, 0, none⟩ = some (.string d7) := newCell _ _ _ _ _
        have hN1 : j + 1 ≤ 1000000 := by omega
        replace hO := Lib.hid hO
        cases B7
        · go_wp2_with fail
          refine hO.out.mono ?_
          rintro e w9 ⟨v9, rfl, o9, b10⟩
          have b11 := b9.trans (b10.mono b9.size)
          have c9 := c7.trans (b11.mono c7.size)
          have h9 := h7.out.below b11
          have hh9 := hh7.out.below hm7 b11
          have hlen9 := hh9.len 3
          obtain ⟨m9, hm9⟩ : ∃ m, m = s7.seen.length := ⟨_, rfl⟩
          obtain ⟨A9, d9, rfl⟩ : ∃ A c, v9 = .slice A m9 c := by obtain ⟨A, c, e⟩ := Owns.form o9; exact ⟨A, c, by rw [e, hm9]⟩
          rw [← hm9] at hlen9
          replace hm9 := Lib.hid hm9
          replace hh9 := Lib.hid hh9
          replace h9 := Lib.hid h9
          clear o9 hlen
          go_wp2_with fail
          go_roundw
          case rel => exact ⟨j + 1, F7, s7, by omega, by go_num, h9.out, k7, mb7, hf7, hh9.out, c9⟩
          case measure => simp [intOf]; omega
        · go_wp2_with fail
          refine hO.out.mono ?_
          rintro e w9 ⟨v9, rfl, o9, b10⟩
          have b11 := b9.trans (b10.mono b9.size)
          have c9 := c7.trans (b11.mono c7.size)
          have h9 := h7.out.below b11
          have hh9 := hh7.out.below hm7 b11
          have hlen9 := hh9.len 3
          obtain ⟨m9, hm9⟩ : ∃ m, m = s7.seen.length := ⟨_, rfl⟩
          obtain ⟨A9, d9, rfl⟩ : ∃ A c, v9 = .slice A m9 c := by obtain ⟨A, c, e⟩ := Owns.form o9; exact ⟨A, c, by rw [e, hm9]⟩
          rw [← hm9] at hlen9
          replace hm9 := Lib.hid hm9
          replace hh9 := Lib.hid hh9
          replace h9 := Lib.hid h9
          clear o9 hlen
          go_wp2_with fail
          go_roundw
          case rel => exact ⟨j + 1, F7, s7, by omega, by go_num, h9.out, k7, mb7, hf7, hh9.out, c9⟩
          case measure => simp [intOf]; omega
      · obtain rfl : j = n := by omega
        have hO := store_Objects b F j s wp hst
        have hh1 := Lib.hid hhd
        have hs1 := Lib.hid hst
        have hm7 := hhd.lt
        have hrise := hhd.2.1
        have hnm := Lib.hid hhd.2.1
        have hnms : Hid (∀ p ∈ s.seen, p.1.size ≤ maxLen) := by obtain ⟨_, _, _, _, h⟩ := hst; exact h.seen.names
        replace hrise := Lib.hid hrise
        clear hst hhd
        go_wp2_with fail
        refine hO.mono ?_
        rintro e w5 ⟨v5, rfl, o5, b5⟩
        have h5 := hs1.out.below b5
        have hLs := store_List b F j s w5 h5
        have hls : s.list = (s.seen.map Prod.fst, 0) := by unfold Sto.list; rw [if_neg (by rw [hfr.out.down]; decide)]
        rw [hls] at hLs
        obtain ⟨m, hm⟩ : ∃ m, m = s.seen.length := ⟨_, rfl⟩
        obtain ⟨A5, d5, rfl⟩ : ∃ A c, v5 = .slice A m c := by obtain ⟨A, c, e⟩ := Owns.form o5; exact ⟨A, c, by rw [e, hm]⟩
        have r5 := Lib.hid (Owns.row (k := 2) (fun x => objE.len x) o5)
        replace hls := Lib.hid hls
        replace hm := Lib.hid hm
        clear o5 hO
        go_wp2_with fail
        refine hLs.mono ?_
        rintro e w6 ⟨v6, rfl, o6, b6⟩
        obtain ⟨A6, d6, rfl⟩ : ∃ A c, v6 = .slice A m c := by obtain ⟨A, c, e⟩ := Owns.form o6; exact ⟨A, c, by rw [e, hm.out, List.length_map]⟩
        have r6 := Lib.hid (Owns.row strCell_len o6)
        have r56 := Lib.hid (r5.out.to b6)
        have c6 := (hbr.trans (b5.mono hzp)).trans (b6.mono (Nat.le_trans hzp b5.size))
        have hh6 := Lib.hid ((hh1.out.below hm7 b5).below (by have := b5.size; omega) b6)
        have hm9 : m ≤ 1000000 := by rw [hm.out]; obtain ⟨_, _, _, _, h⟩ := h5; exact Nat.le_trans h.seen.len h.cap
        have hm6 : w3.heap.size < w6.heap.size := by have := b5.size; have := b6.size; omega
        clear o6 hLs h5 r5
        go_wp2_with fail
        go_loopw [17] (fun tk wr => ∃ q : Nat, q ≤ m ∧ tk = .int .i64 q ∧ Below w6.heap.size w6 wr) (fun tk _ => m - (intOf tk).toNat)
        case atStart => exact ⟨0, Nat.zero_le _, rfl, Below.refl _ _⟩
        case round =>
          obtain ⟨q, hq, rfl, hbq⟩ := hrel
          obtain ⟨wq, rfl⟩ : ∃ x : World, x = wr := ⟨_, rfl⟩
          by_cases hlq : q < m
          · obtain ⟨b9, o9, p, rfl, hb9, hp, r0, r1⟩ := (r56.out.to hbq).ob hlq
            obtain ⟨b8, o8, x, rfl, hb8, hx, n0⟩ := (r6.out.to hbq).str hlq
            obtain rfl : x = p.1 := by rw [List.getElem?_map, hp] at hx; simpa using hx.symm
            have hl2 : ∀ k, (Instr.lookup 47 (.map (some w3.heap.size)) (.string p.1) false).run Try.prog (wq.drewN k) = .ok (.agg #[.string p.2]) (wq.drewN k) := fun k => by
              have := ((hh6.out.below hm6 hbq).block (w' := wq.drewN k) rfl).look p.1 (hnms.out p (List.mem_of_getElem? hp))
              rw [mem_lookO hrise.out (List.mem_of_getElem? hp)] at this
              exact this
            have hfd : ∀ W : World, (Instr.field 49 (.agg #[.string p.2]) 0).run Try.prog W = .ok (.string p.2) W := fun W => by kernel_rfl
            have e0 : (p.2.toList == p.2.toList) = true := by simp
            have e1 : (p.1.toList == p.1.toList) = true := by simp
            by_cases hq0 : q = 0
            · subst hq0
              have i0 : decide ((0 : Int) < 0) = false := rfl
              have im : decide ((m : Int) ≤ 0) = false := by simp; omega
              have im' : decide (m = 0) = false := by simp; omega
              rw [Nat.zero_mul, Nat.add_zero] at r0 r1
              rw [Nat.add_zero] at n0
              replace hp := Lib.hid hp
              replace hx := Lib.hid hx
              go_upto_region 33 with fail
              go_quiet (fail)
              have hbn : Below w6.heap.size w6 (wq.drewN nq) := below_drewN hbq nq
              go_wp2_with fail
              go_roundw
              case rel => exact ⟨1, by omega, by go_num, hbn⟩
              case measure => simp [intOf]; omega
            · obtain ⟨q1, hq1⟩ : ∃ q1, q1 + 1 = q := ⟨q - 1, by omega⟩
              obtain ⟨b7, o7, p1, eqA, hb7, hp1, t0, t1⟩ := (r56.out.to hbq).ob (i := q1) (by omega)
              cases eqA
              have hlt1 : sLt p1.1 p.1 = true := by
                have := List.pairwise_iff_getElem.1 hrise.out q1 q (List.getElem?_eq_some_iff.1 hp1).1 (List.getElem?_eq_some_iff.1 hp).1 (by omega)
                rw [(List.getElem?_eq_some_iff.1 hp1).2, (List.getElem?_eq_some_iff.1 hp).2] at this
                exact this
              have im : decide ((m : Int) ≤ (q : Int)) = false := by simp; omega
              have im' : decide (m ≤ q) = false := by simp; omega
              have gq : decide ((0 : Int) < (q : Int)) = true := by simp; omega
              have gq' : decide (0 < q) = true := by simp; omega
              have hwr : IntKind.i64.wrap ((q : Int) - 1) = (q1 : Int) := by rw [IntKind.wrap_i64]; omega
              have e9 : (q : Int) - 1 = (q1 : Int) := by omega
              have hq1n : (q1 : Int) < (m : Int) := by omega
              have hq1m : q1 < m := by omega
              have hc1 : Op.bytesLess p.1.toList p1.1.toList = false := sLt_asymm hlt1
              have hc2 := str_ne (Ne.symm (sLt_ne hlt1))
              replace hlt1 := Lib.hid hlt1
              replace hp := Lib.hid hp
              replace hx := Lib.hid hx
              replace hp1 := Lib.hid hp1
              replace hq1 := Lib.hid hq1
              replace hq0 := Lib.hid hq0
              go_upto_region 33 with fail
              go_quiet (fail)
              have hbn : Below w6.heap.size w6 (wq.drewN nq) := below_drewN hbq nq
              go_wp2_with fail
              go_roundw
              case rel => exact ⟨q + 1, by omega, by go_num, hbn⟩
              case measure => simp [intOf]; omega
          · obtain rfl : q = m := by omega
            go_wp2_with fail
            go_ret
            exact ⟨rfl, c6.trans (hbq.mono c6.size)⟩
  · go_wp2_with fail
    refine (law07_works w2).mono ?_
    rintro e w3 ⟨rfl, b3⟩
    go_wp2_with fail
    go_ret
    exact ⟨rfl, c2.trans (b3.mono c2.size)⟩
end Go.Proofs.Ytcepdigeimedoaa
