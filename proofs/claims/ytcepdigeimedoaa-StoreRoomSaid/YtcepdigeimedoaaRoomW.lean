/-
  The walk of StoreRoom.
-/
import Derived.Test.YtcepdigeimedoaaRefusedW
import Derived.Test.YtcepdigeimedoaaStoN
namespace Go.Proofs.Ytcepdigeimedoaa
open Go.RowKit
attribute [local go_sem ↓] Go.wp_at_zero Go.wp_at_succ

theorem usedO_snoc (p : Ob) : ∀ l : List Ob, usedO (l ++ [p]) = usedO l + if bareB p.1 = true then 0 else p.2.size
  | [] => by simp [usedO]
  | q :: l => by
    have := usedO_snoc p l
    simp only [List.cons_append, usedO, this]
    omega
theorem usedO_take (l : List Ob) : ∀ k, usedO (l.take k) ≤ usedO l := by
  induction l with
  | nil => intro k; simp [usedO]
  | cons q l ih =>
    intro k
    cases k with
    | zero => simp [usedO]
    | succ k =>
      have := ih k
      simp only [List.take_succ_cons, usedO]
      omega
theorem settled_room (s : Sto) : s.settled.room = s.room := rfl
theorem strike_keeps (s : Sto) (f : Flt) (h7 : f.kind ≠ 7) : (s.strike f).1.room = s.room := by
  cases hb : f.bad
  · have hk : f.kind = 1 ∨ f.kind = 2 ∨ f.kind = 3 ∨ f.kind = 4 ∨ f.kind = 5 ∨ f.kind = 6 := by
      have h1 := hb
      unfold Flt.bad at h1
      simp only [Bool.or_eq_false_iff, decide_eq_false_iff_not] at h1
      omega
    unfold Sto.strike
    rw [if_neg (by rw [hb]; decide)]
    dsimp only
    rcases hk with e | e | e | e | e | e <;> rw [e]
    · rfl
    · rw [if_neg (by decide), if_pos rfl]
      unfold Sto.lost
      split <;> rfl
    · rw [if_neg (by decide), if_neg (by decide), if_pos rfl]
      unfold Sto.bent
      split
      · rfl
      · split <;> rfl
    · rfl
    · rfl
    · rfl
  · unfold Sto.strike
    rw [if_pos hb]
theorem tried_room (s : Sto) : s.tried.room = s.room := by unfold Sto.tried; split <;> rfl
theorem put_room (s : Sto) (o : Ob) : (s.put o).1.room = s.room := by
  unfold Sto.put
  repeat' split
  all_goals first | rfl | exact tried_room s
theorem del_room (s : Sto) (n : ByteArray) : (s.del n).1.room = s.room := by
  unfold Sto.del
  repeat' split
  all_goals first | rfl | exact tried_room s
theorem put_bare {s : Sto} {o : Ob} (h : bareB o.1 = true) : (s.put o).2 ≠ 52 := by
  unfold Sto.put
  have hf : s.full o = false := by simp [Sto.full, h]
  repeat' split
  all_goals first | (simp; done) | (rename_i h1; rw [hf] at h1; cases h1)
theorem put_used {s : Sto} {o : Ob} {a : Nat} (h : bareB o.1 = false) (hr : s.room = (a : Int)) (h0 : (s.put o).2 = 0) : usedO (s.put o).1.seen ≤ a := by
  unfold Sto.put at h0 ⊢
  split at h0
  · simp at h0
  · split at h0
    · simp at h0
    · split at h0
      · simp at h0
      · split at h0
        · simp at h0
        · rename_i h1 h2 h3 h4
          rw [if_neg h1, if_neg h2, if_neg h3, if_neg h4]
          show usedO (putO s.seen o) ≤ a
          simp [Sto.full, h, hr] at h3
          omega

set_option maxHeartbeats 8000000 in
set_option maxRecDepth 100000 in
theorem storeRoom_walk (A : Option Addr) (n c : Nat) (l : List Actx) (k : Int) (w : World) (h : ActsAt w w.heap.size A n l) (hn : n ≤ reachBytes) (hf : ∀ a ∈ l, ActFit a) (ho : ∀ a ∈ l, ActOk w a) (hk : -9223372036854775808 ≤ k ∧ k ≤ 9223372036854775807) :
    Calls Try.prog 4 #[.slice A n c, .int .i64 k] w fun e w' => e = .returned (.bool true) ∧ Below w.heap.size w w' := by
  have hL := fun W (hW : Below w.heap.size w W) => law07_large A n c l W (h.to hW) hn hf
  obtain ⟨u, a, ha, hw1, hw2, hw3, hw4, hw5⟩ := uint_vals k (m := 100) (by omega) (by omega) hk
  replace hL := Lib.hid hL
  replace hw3 : Value.int .u64 ((u : Int).tmod 100) = Value.int .u64 a := hw3
  clear hw2
  replace ho := Lib.hid ho
  go_enter Try.func4, Try.ntmps4
  go_wp2_with fail
  refine (law07_works w).mono ?_
  rintro e w1 ⟨rfl, b1⟩
  go_wp2_with fail
  refine (hL.out w1 b1).mono ?_
  rintro e w2 ⟨he, b2⟩
  have c2 := b1.trans (b2.mono b1.size)
  clear hw1 hw3 hw4 hw5
  rcases he with ⟨rfl, hsm⟩ | rfl
  · go_wp2_with fail
    refine (store_New w2).mono ?_
    rintro e w3 ⟨rfl, h3, b3⟩
    have c3 := c2.trans (b3.mono c2.size)
    have z2 := c2.size
    have k3 : ∀ i ∈ [w2.heap.size + 2, w2.heap.size, w2.heap.size + 1], w.heap.size ≤ i := by simp; omega
    generalize [w2.heap.size + 2, w2.heap.size, w2.heap.size + 1] = F3 at h3 k3
    generalize w2.heap.size + 2 = b at h3 ⊢
    have hl9 : n ≤ 1000 := by have := hsm.1; have := h.1; omega
    replace hsm := Lib.hid hsm
    clear b1 b2 b3
    go_wp2_with fail
    go_loopw [6] (fun tI wr => ∃ (j : Nat) (F : List Nat) (s : Sto), j ≤ n ∧ tI = .int .i64 j ∧ StoAt wr b F j s ∧ (∀ i ∈ F, w.heap.size ≤ i) ∧ Hid (n / 2 < j → s.room = (a : Int)) ∧ Below w.heap.size w wr) (fun tI _ => n - (intOf tI).toNat)
    case atStart => exact ⟨0, F3, _, Nat.zero_le _, rfl, h3, k3, by unfold Hid; omega, c3⟩
    case round =>
      obtain ⟨j, F, s, hj, rfl, hst, hlo, hinv, hbr⟩ := hrel
      obtain ⟨wp, rfl⟩ : ∃ x : World, x = wr := ⟨_, rfl⟩
      have hzp := hbr.size
      by_cases hlt : j < n
      · go_upto_region 8 with fail
        go_cut [42] (fun v wc => v = .bool false ∧ ∃ F s, StoAt wc b F j s ∧ (∀ i ∈ F, w.heap.size ≤ i) ∧ Hid (n / 2 ≤ j → s.room = (a : Int)) ∧ Below w.heap.size w wc)
        case first =>
          by_cases hjm : j = n / 2
          · have e0 : ((j : Int) == (n : Int) / 2) = true := by rw [beq_iff_eq]; omega
            replace hjm := Lib.hid hjm
            go_wp2_with fail
            refine (strike_room_lit (s := s) (n := (a : Int)) (by omega) (by omega) wp hst).mono ?_
            rintro e w4 ⟨rfl, hto⟩
            obtain ⟨F4, x4⟩ := hto.next hlo hzp
            have h4 := x4.at_
            have k4 := x4.lo
            have c4 := hbr.trans x4.below
            clear x4 hto
            go_wp2_with fail
            go_meet
            exact ⟨rfl, F4, _, h4, k4, fun _ => rfl, c4⟩
          · have e0 : ((j : Int) == (n : Int) / 2) = false := by rw [beq_eq_false_iff_ne]; omega
            have hi5 : Hid (n / 2 ≤ j → s.room = (a : Int)) := fun hle => hinv.out (by omega)
            replace hjm := Lib.hid hjm
            go_wp2_with fail
            go_meet
            exact ⟨rfl, F, s, hst, hlo, hi5, hbr⟩
        case rest =>
        obtain ⟨rfl, F4, s4, h4, k4, hi4, c4⟩ := hcut
        obtain ⟨w4, rfl⟩ : ∃ x : World, x = wc := ⟨_, rfl⟩
        obtain ⟨b0, off, x, rfl, hb0, hx, q0, q1, q2, q3, q4, q5, q6, q7, q8⟩ := (h.to c4).act hlt
        have hxs := hsm.out.2 x (List.mem_of_getElem? hx)
        have hox := ho.out x (List.mem_of_getElem? hx)
        have hn1 : x.name.size ≤ maxLen := Nat.le_trans hxs.1 (by decide)
        have hd1 : x.data.size ≤ maxLen := Nat.le_trans hxs.2.1 (by decide)
        have hfit : x.f.fit := ⟨hox.fn.2, hox.fa.2, hox.fc.2⟩
        have hk0 := hox.kind.1
        replace hx := Lib.hid hx
        replace hox := Lib.hid hox
        replace hfit := Lib.hid hfit
        go_upto_region 11 with fail
        have b5 : Below w4.heap.size w4 (w4.alloc (.cells #[.int .u8 x.kind, .string x.name, .string x.data, .slice x.kA x.kn x.kc, .int .u8 x.f.kind, .int .i64 x.f.store, .int .i64 x.f.n, .int .i64 x.f.at_, .int .i64 x.f.c] 38)) := (Below.refl _ _).alloc (Nat.le_refl _) _
        have e0 := newCell w4 #[.int .u8 x.kind, .string x.name, .string x.data, .slice x.kA x.kn x.kc, .int .u8 x.f.kind, .int .i64 x.f.store, .int .i64 x.f.n, .int .i64 x.f.at_, .int .i64 x.f.c] 38 (0, 0) 0
        have e1 := newCell w4 #[.int .u8 x.kind, .string x.name, .string x.data, .slice x.kA x.kn x.kc, .int .u8 x.f.kind, .int .i64 x.f.store, .int .i64 x.f.n, .int .i64 x.f.at_, .int .i64 x.f.c] 38 (0, 0) 1
        have e2 := newCell w4 #[.int .u8 x.kind, .string x.name, .string x.data, .slice x.kA x.kn x.kc, .int .u8 x.f.kind, .int .i64 x.f.store, .int .i64 x.f.n, .int .i64 x.f.at_, .int .i64 x.f.c] 38 (0, 0) 2
        have e4 := newCell w4 #[.int .u8 x.kind, .string x.name, .string x.data, .slice x.kA x.kn x.kc, .int .u8 x.f.kind, .int .i64 x.f.store, .int .i64 x.f.n, .int .i64 x.f.at_, .int .i64 x.f.c] 38 (0, 0) 4
        have e5 := newCell w4 #[.int .u8 x.kind, .string x.name, .string x.data, .slice x.kA x.kn x.kc, .int .u8 x.f.kind, .int .i64 x.f.store, .int .i64 x.f.n, .int .i64 x.f.at_, .int .i64 x.f.c] 38 (0, 0) 5
        have e6 := newCell w4 #[.int .u8 x.kind, .string x.name, .string x.data, .slice x.kA x.kn x.kc, .int .u8 x.f.kind, .int .i64 x.f.store, .int .i64 x.f.n, .int .i64 x.f.at_, .int .i64 x.f.c] 38 (0, 0) 6
        have e7 := newCell w4 #[.int .u8 x.kind, .string x.name, .string x.data, .slice x.kA x.kn x.kc, .int .u8 x.f.kind, .int .i64 x.f.store, .int .i64 x.f.n, .int .i64 x.f.at_, .int .i64 x.f.c] 38 (0, 0) 7
        have e8 := newCell w4 #[.int .u8 x.kind, .string x.name, .string x.data, .slice x.kA x.kn x.kc, .int .u8 x.f.kind, .int .i64 x.f.store, .int .i64 x.f.n, .int .i64 x.f.at_, .int .i64 x.f.c] 38 (0, 0) 8
        have z5 : (w4.alloc (.cells #[.int .u8 x.kind, .string x.name, .string x.data, .slice x.kA x.kn x.kc, .int .u8 x.f.kind, .int .i64 x.f.store, .int .i64 x.f.n, .int .i64 x.f.at_, .int .i64 x.f.c] 38)).heap.size = w4.heap.size + 1 := by simp
        generalize (w4.alloc (.cells #[.int .u8 x.kind, .string x.name, .string x.data, .slice x.kA x.kn x.kc, .int .u8 x.f.kind, .int .i64 x.f.store, .int .i64 x.f.n, .int .i64 x.f.at_, .int .i64 x.f.c] 38)) = w5 at b5 e0 e1 e2 e4 e5 e6 e7 e8 z5 ⊢
        simp only [List.getElem?_toArray, List.getElem?_cons_zero, List.getElem?_cons_succ] at e0 e1 e2 e4 e5 e6 e7 e8
        have h5 := h4.below b5
        have c5 := c4.trans (b5.mono c4.size)
        clear q0 q1 q2 q3 q4 q5 q6 q7 q8
        have hlo5 : Below w.heap.size w w5 := c5
        have hN1 : j + 1 ≤ 1000000 := by omega
        by_cases hk5 : x.kind = 5
        · have g0 : (x.kind == 5) = true := by rw [hk5]; rfl
          replace hk5 := Lib.hid hk5
          go_wp2_with fail
          go_roundw
          case rel => exact ⟨j + 1, F4, s4, by omega, by go_num, h5.more (Nat.le_succ _) hN1, k4, fun hle => hi4.out (by omega), c5⟩
          case measure => simp [intOf]; omega
        have g0 : (x.kind == 5) = false := by simpa using hk5
        by_cases hk6 : x.kind = 6
        · have g1 : (x.kind == 6) = true := by rw [hk6]; rfl
          by_cases hf7 : x.f.kind = 7
          · have g2 : (x.f.kind == 7) = true := by rw [hf7]; rfl
            replace hk5 := Lib.hid hk5
            replace hk6 := Lib.hid hk6
            replace hf7 := Lib.hid hf7
            go_wp2_with fail
            go_roundw
            case rel => exact ⟨j + 1, F4, s4, by omega, by go_num, h5.more (Nat.le_succ _) hN1, k4, fun hle => hi4.out (by omega), c5⟩
            case measure => simp [intOf]; omega
          · have g2 : (x.f.kind == 7) = false := by simpa using hf7
            have hst6 := store_Strike b F4 j s4 x.f hfit.out hN1 w5 h5
            have hrm := strike_keeps s4 x.f hf7
            replace hk5 := Lib.hid hk5
            replace hk6 := Lib.hid hk6
            replace hf7 := Lib.hid hf7
            unfold Flt.agg at hst6
            go_wp2_with fail
            refine hst6.mono ?_
            rintro e w6 ⟨rfl, hto⟩
            obtain ⟨F6, x6⟩ := hto.next k4 c5.size
            have h6 := x6.at_
            have k6 := x6.lo
            have c6 := c5.trans x6.below
            clear x6 hto
            go_wp2_with fail
            go_roundw
            case rel => exact ⟨j + 1, F6, _, by omega, by go_num, h6, k6, fun hle => by rw [hrm]; exact hi4.out (by omega), c6⟩
            case measure => simp [intOf]; omega
        have g1 : (x.kind == 6) = false := by simpa using hk6
        replace hk5 := Lib.hid hk5
        replace hk6 := Lib.hid hk6
        rcases kind_mod2 hk0 with hk2 | hk2
        · replace hk0 := Lib.hid hk0
          have hbare := @put_bare s4 (x.name, x.data)
          have husd := @put_used s4 (x.name, x.data) a
          dsimp only at hbare husd
          replace hbare := Lib.hid hbare
          replace husd := Lib.hid husd
          go_wp2_with fail
          refine (store_Put b F4 j s4 (x.name, x.data) hn1 hd1 hN1 w5 h5).mono ?_
          rintro e w6 ⟨rfl, hto⟩
          obtain ⟨F6, x6⟩ := hto.next k4 c5.size
          have h6 := x6.at_
          have k6 := x6.lo
          have c6 := c5.trans x6.below
          have y1 := (World.cell?_of_block (a := ⟨w4.heap.size, 1, none⟩) (x6.but.block w4.heap.size (by omega) (fun hi => by have := h4.lt _ hi; omega))).trans e1
          have hrm := put_room s4 (x.name, x.data)
          clear x6 hto e0 e1 e2 e4 e5 e6 e7 e8
          have hi6 : Hid (n / 2 < j + 1 → (s4.put (x.name, x.data)).1.room = (a : Int)) := fun hle => by rw [hrm]; exact hi4.out (by omega)
          obtain ⟨s6, hs6⟩ : ∃ s6, s6 = (s4.put (x.name, x.data)).1 := ⟨_, rfl⟩
          obtain ⟨z, hz⟩ : ∃ z, z = (s4.put (x.name, x.data)).2 := ⟨_, rfl⟩
          rw [← hz] at hbare husd
          rw [← hs6] at h6 hi6 husd
          rw [← hz]
          clear hrm
          replace hs6 := Lib.hid hs6
          replace hz := Lib.hid hz
          by_cases hn0 : x.name = ⟨#[109, 48]⟩
          · have p0 : (x.name.toList == [109, 48]) = true := by simpa using str_eq hn0
            have hz52 : (z == 52) = false := by simpa using hbare.out (by simp [bareB, hn0])
            replace hn0 := Lib.hid hn0
            go_wp2_with fail
            go_roundw
            case rel => exact ⟨j + 1, F6, s6, by omega, by go_num, h6, k6, hi6, c6⟩
            case measure => simp [intOf]; omega
          have p0 : (x.name.toList == [109, 48]) = false := by simpa using str_ne hn0
          by_cases hn2 : x.name = ⟨#[109, 49]⟩
          · have p2 : (x.name.toList == [109, 49]) = true := by simpa using str_eq hn2
            have hz52 : (z == 52) = false := by simpa using hbare.out (by simp [bareB, hn2])
            replace hn0 := Lib.hid hn0
            replace hn2 := Lib.hid hn2
            go_wp2_with fail
            go_roundw
            case rel => exact ⟨j + 1, F6, s6, by omega, by go_num, h6, k6, hi6, c6⟩
            case measure => simp [intOf]; omega
          have p2 : (x.name.toList == [109, 49]) = false := by simpa using str_ne hn2
          have hbf : bareB x.name = false := by simp [bareB, hn0, hn2]
          replace hn0 := Lib.hid hn0
          replace hn2 := Lib.hid hn2
          replace hbf := Lib.hid hbf
          by_cases hz0 : z = 0
          · have hz0b : (z == 0) = true := by simpa using hz0
            by_cases hjh : j < n / 2
            · have hjh2 : (j : Int) < (n : Int) / 2 := by omega
              replace hz0 := Lib.hid hz0
              go_wp2_with fail
              go_roundw
              case rel => exact ⟨j + 1, F6, s6, by omega, by go_num, h6, k6, hi6, c6⟩
              case measure => simp [intOf]; omega
            · have hjh2 : ¬ (j : Int) < (n : Int) / 2 := by omega
              have hu := husd.out hbf.out (hi4.out (by omega)) hz0
              replace hz0 := Lib.hid hz0
              go_wp2_with fail
              refine (store_Objects b F6 (j + 1) s6 w6 h6).mono ?_
              rintro e w7 ⟨v7, rfl, o7, b7⟩
              clear y1
              have h7 := h6.below b7
              have c7 := c6.trans (b7.mono c6.size)
              obtain ⟨m7, hm7⟩ : ∃ m, m = s6.seen.length := ⟨_, rfl⟩
              obtain ⟨A7, d7, rfl⟩ : ∃ A c, v7 = .slice A m7 c := by obtain ⟨A, c, e⟩ := Owns.form o7; exact ⟨A, c, by rw [e, hm7]⟩
              have r7 := Lib.hid (Owns.row (k := 2) (fun x => objE.len x) o7)
              clear o7
              have hm9 : m7 ≤ 1000000 := by rw [hm7]; obtain ⟨_, _, _, _, h⟩ := h7; exact Nat.le_trans h.seen.len h.cap
              replace hm7 := Lib.hid hm7
              go_wp2_with fail
              go_loopw [10, 12] (fun tu tk wr => ∃ q : Nat, q ≤ m7 ∧ tk = .int .i64 q ∧ tu = .int .i64 (usedO (s6.seen.take q) : Nat) ∧ Below w7.heap.size w7 wr) (fun _ tk _ => m7 - (intOf tk).toNat)
              case atStart => exact ⟨0, Nat.zero_le _, rfl, rfl, Below.refl _ _⟩
              case round =>
                obtain ⟨q, hq, rfl, rfl, hbq⟩ := hrel
                obtain ⟨wq, rfl⟩ : ∃ x : World, x = wr := ⟨_, rfl⟩
                have hut := usedO_take s6.seen q
                have hut2 := usedO_take s6.seen (q + 1)
                by_cases hlq : q < m7
                · obtain ⟨b9, o9, p, rfl, hb9, hp, r0, r1⟩ := (r7.out.to hbq).ob hlq
                  have hts : usedO (s6.seen.take (q + 1)) = usedO (s6.seen.take q) + if bareB p.1 = true then 0 else p.2.size := by rw [List.take_add_one, hp]; exact usedO_snoc p _
                  replace hp := Lib.hid hp
                  obtain ⟨uu, huu⟩ : ∃ uu, uu = usedO (s6.seen.take q) := ⟨_, rfl⟩
                  rw [← huu] at hts hut ⊢
                  replace huu := Lib.hid huu
                  by_cases hp0 : p.1 = ⟨#[109, 48]⟩
                  · have pp0 : (p.1.toList == [109, 48]) = true := by simpa using str_eq hp0
                    have hbp : bareB p.1 = true := by simp [bareB, hp0]
                    rw [hbp] at hts
                    replace hts := Lib.hid hts
                    replace hp0 := Lib.hid hp0
                    replace hbp := Lib.hid hbp
                    go_wp2_with fail
                    go_roundw
                    case rel => exact ⟨q + 1, by omega, by go_num, by rw [hts.out]; simp, hbq⟩
                    case measure => simp [intOf]; omega
                  have pp0 : (p.1.toList == [109, 48]) = false := by simpa using str_ne hp0
                  by_cases hp1 : p.1 = ⟨#[109, 49]⟩
                  · have pp1 : (p.1.toList == [109, 49]) = true := by simpa using str_eq hp1
                    have hbp : bareB p.1 = true := by simp [bareB, hp1]
                    rw [hbp] at hts
                    replace hts := Lib.hid hts
                    replace hp0 := Lib.hid hp0
                    replace hp1 := Lib.hid hp1
                    replace hbp := Lib.hid hbp
                    go_wp2_with fail
                    go_roundw
                    case rel => exact ⟨q + 1, by omega, by go_num, by rw [hts.out]; simp, hbq⟩
                    case measure => simp [intOf]; omega
                  have pp1 : (p.1.toList == [109, 49]) = false := by simpa using str_ne hp1
                  have hbp : bareB p.1 = false := by simp [bareB, hp0, hp1]
                  rw [hbp] at hts
                  have hps : uu + p.2.size ≤ 100 := by simp at hts; omega
                  replace hts := Lib.hid hts
                  replace hp0 := Lib.hid hp0
                  replace hp1 := Lib.hid hp1
                  replace hbp := Lib.hid hbp
                  go_wp2_with fail
                  go_roundw
                  case rel => exact ⟨q + 1, by omega, by go_num, by rw [hts.out]; simp, hbq⟩
                  case measure => simp [intOf]; omega
                · obtain rfl : q = m7 := by omega
                  have hta : s6.seen.take q = s6.seen := List.take_of_length_le (by have := hm7.out; omega)
                  rw [hta]
                  replace hta := Lib.hid hta
                  obtain ⟨uu, huu⟩ : ∃ uu, uu = usedO s6.seen := ⟨_, rfl⟩
                  rw [← huu] at hu ⊢
                  replace huu := Lib.hid huu
                  have hua : ¬ (a : Int) < (uu : Int) := by omega
                  have h8 := h7.below hbq
                  have c8 := c7.trans (hbq.mono c7.size)
                  clear hut hut2
                  go_wp2_with fail
                  go_roundw
                  case rel => exact ⟨j + 1, F6, s6, by omega, by go_num, h8, k6, hi6, c8⟩
                  case measure => simp [intOf]; omega
          · have hz0b : (z == 0) = false := by simpa using hz0
            replace hz0 := Lib.hid hz0
            go_wp2_with fail
            go_roundw
            case rel => exact ⟨j + 1, F6, s6, by omega, by go_num, h6, k6, hi6, c6⟩
            case measure => simp [intOf]; omega
        · replace hk0 := Lib.hid hk0
          go_wp2_with fail
          refine (store_Del b F4 j s4 x.name hn1 hN1 w5 h5).mono ?_
          rintro e w6 ⟨rfl, hto⟩
          obtain ⟨F6, x6⟩ := hto.next k4 c5.size
          have h6 := x6.at_
          have k6 := x6.lo
          have c6 := c5.trans x6.below
          have hrm := del_room s4 x.name
          clear x6 hto
          go_wp2_with fail
          go_roundw
          case rel => exact ⟨j + 1, F6, _, by omega, by go_num, h6, k6, fun hle => by rw [hrm]; exact hi4.out (by omega), c6⟩
          case measure => simp [intOf]; omega
      · obtain rfl : j = n := by omega
        go_wp2_with fail
        go_ret
        exact ⟨rfl, hbr⟩
  · go_wp2_with fail
    refine (law07_works w2).mono ?_
    rintro e w3 ⟨rfl, b3⟩
    go_wp2_with fail
    go_ret
    exact ⟨rfl, c2.trans (b3.mono c2.size)⟩
end Go.Proofs.Ytcepdigeimedoaa
