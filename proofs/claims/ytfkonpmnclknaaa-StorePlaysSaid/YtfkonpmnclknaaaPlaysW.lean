/-
  The walk of StorePlays.
-/
import Derived.Test.YtfkonpmnclknaaaActW
import Derived.Test.YtfkonpmnclknaaaSamB
import Derived.Test.YtfkonpmnclknaaaWrit
namespace Go.Proofs.Ytfkonpmnclknaaa
open Go.RowKit
attribute [local go_sem ↓] Go.wp_at_zero Go.wp_at_succ

theorem act_apart' {B : Nat} {w : World} {G : List Nat} {a : Actx} (hlo : ∀ i ∈ G, B ≤ i) (hk : IntsAt w B a.kA a.kn a.keep) : 0 < a.kn → ∀ b' off, a.kA = some ⟨b', off, none⟩ → b' ∉ G := fun hp b' off e hi => by
  have := hlo b' hi
  obtain ⟨b1, o1, e1, hb, _⟩ := hk.2.2 hp
  rw [e] at e1
  cases e1
  omega
/-- What a call on a pair leaves, from a base on. -/
theorem Pair.step {B : Nat} {w w1 : World} {b c M : Nat} {F G : List Nat} {t : Sto} (hlo : ∀ i ∈ F ++ G, B ≤ i) (k : PairTo b F M c G t w w1) (hB : B ≤ w.heap.size) : ∃ F1 G1, Pair w1 b F1 M c G1 t ∧ (∀ i ∈ F1 ++ G1, B ≤ i) ∧ Below B w w1 := by
  obtain ⟨F1, G1, k1, k2, k3⟩ := k
  refine ⟨F1, G1, k1, fun i hi => ?_, k2.below hB hlo⟩
  rcases k3 i hi with e | e
  · exact hlo i e
  · omega

theorem put_other {s : Sto} {o : Ob} (h : (s.put o).2 = 0) : sameS s (s.put o).1 = false := by
  unfold Sto.put at h ⊢
  split at h
  · cases h
  · rename_i h1
    split at h
    · cases h
    · rename_i h2
      split at h
      · cases h
      · rename_i h3
        split at h
        · cases h
        · rename_i h4
          rw [if_neg h1, if_neg h2, if_neg h3, if_neg h4]
          unfold sameS
          simp

set_option maxHeartbeats 8000000 in
set_option maxRecDepth 100000 in
theorem storePlays_walk (A : Option Addr) (n c : Nat) (l : List Actx) (w : World) (h : ActsAt w w.heap.size A n l) (hn : n ≤ reachBytes) (hf : ∀ a ∈ l, ActFit a) (ho : ∀ a ∈ l, ActOk w a) :
    Calls Try.prog 5 #[.slice A n c] w fun e w' => e = .returned (.bool true) ∧ Below w.heap.size w w' := by
  have hL := law07_large A n c l w h hn hf
  replace ho := Lib.hid ho
  have hl := Lib.hid h.1
  go_enter Try.func5, Try.ntmps5
  go_wp2_with fail
  refine hL.mono ?_
  rintro e w1 ⟨he, b1⟩
  rcases he with ⟨rfl, hsm⟩ | rfl
  case inr =>
    go_wp2_with fail
    go_ret
    exact ⟨rfl, b1⟩
  replace hsm := Lib.hid hsm
  clear hf hn hL
  have hn9 : n ≤ 1000 := by have := hsm.out.1; have := hl.out; omega
  go_wp2_with fail
  refine (store_New w1).mono ?_
  rintro e w3 ⟨rfl, s3, b3⟩
  go_wp2_with fail
  refine (ref07_New w3).mono ?_
  rintro e w4 ⟨rfl, s4, b4⟩
  have g6 : Below w.heap.size w w4 := (b1.trans (b3.mono b1.size)).trans (b4.mono (Nat.le_trans b1.size b3.size))
  have hP : Pair w4 (w1.heap.size + 2) [w1.heap.size + 2, w1.heap.size, w1.heap.size + 1] 0 w3.heap.size [w3.heap.size] Sto.new ∧ ∀ i ∈ [w1.heap.size + 2, w1.heap.size, w1.heap.size + 1] ++ [w3.heap.size], w.heap.size ≤ i := by
    have z2 := b1.size
    have z3 := s3.lt
    have z4 := s4.lt
    simp only [List.mem_cons, List.not_mem_nil, or_false, forall_eq_or_imp, forall_eq] at z3 z4
    have y3 := b3.size
    refine ⟨⟨s3.below b4, s4, coh_new, ?_⟩, ?_⟩ <;> simp only [List.cons_append, List.nil_append, List.mem_cons, List.not_mem_nil, or_false, not_or] <;> omega
  obtain ⟨hP, hlo⟩ := hP
  generalize [w1.heap.size + 2, w1.heap.size, w1.heap.size + 1] = F1 at hP hlo
  generalize [w3.heap.size] = G1 at hP hlo
  generalize w1.heap.size + 2 = bs at hP ⊢
  generalize w3.heap.size = bx at hP ⊢
  clear s3 s4 b3 b4 b1
  go_wp2_with fail
  go_loopw [3, 5, 6, 7, 8] (fun ts ti _ _ _ wr => ∃ (j b : Nat) (F G : List Nat) (s : Sto), j ≤ n ∧ ti = .int .i64 j ∧ ts = .pointer (some ⟨b, 0, none⟩) ∧ Pair wr b F j bx G s ∧ (∀ i ∈ F ++ G, w.heap.size ≤ i) ∧ Below w.heap.size w wr) (fun _ ti _ _ _ _ => n - (intOf ti).toNat)
  case atStart => exact ⟨0, bs, _, _, _, Nat.zero_le _, rfl, rfl, hP, hlo, g6⟩
  case round =>
    obtain ⟨j, b, F, G, s, hj, rfl, rfl, hP, hlo, hbr⟩ := hrel
    obtain ⟨wp, rfl⟩ : ∃ x : World, x = wr := ⟨_, rfl⟩
    have hzp := hbr.size
    by_cases hlt : j < n
    · obtain ⟨b0, off, x, rfl, hb0, hx, q0, q1, q2, q3, q4, q5, q6, q7, q8⟩ := (h.below hbr).act hlt
      have hxs := hsm.out.2 x (List.mem_of_getElem? hx)
      have hox := Lib.hid (ho.out x (List.mem_of_getElem? hx))
      have hn1 : x.name.size ≤ maxLen := Nat.le_trans hxs.1 (by decide)
      have hd1 : x.data.size ≤ maxLen := Nat.le_trans hxs.2.1 (by decide)
      have hkx := hox.out.keep
      replace hx := Lib.hid hx
      clear hxs
      by_cases hk6 : 6 < x.kind
      · have hC := store_Copy b F j s wp hP.sto
        have hss : sameS s s = true := by unfold sameS; simp
        have hS3 := Lib.hid fun cb Fc W (k : StoAt W b F j s) (k' : StoAt W cb Fc j s) => store_Same cb b Fc F _ _ s s hP.coh hP.coh W k' k
        rw [hss] at hS3
        have hU := Lib.hid fun W (k : StoAt W b F j s) => store_Put b F j s (⟨#[111, 110, 108, 121, 32, 104, 101, 114, 101]⟩, ⟨#[113]⟩) (by decide) (by decide) (by omega) W k
        have hV := Lib.hid fun W cb Fc F' (k : StoAt W cb Fc j s) (k' : StoAt W b F' (j + 1) (s.put (⟨#[111, 110, 108, 121, 32, 104, 101, 114, 101]⟩, ⟨#[113]⟩)).1) => store_Same cb b Fc F' _ _ s _ hP.coh (put_coh hP.coh _) W k k'
        have hotr := Lib.hid (put_other (s := s) (o := (⟨#[111, 110, 108, 121, 32, 104, 101, 114, 101]⟩, ⟨#[113]⟩)))
        replace hss := Lib.hid hss
        replace hP := Lib.hid hP
        clear q1 q2 q3 q4 q5 q6 q7 q8 hn1 hd1 hkx
        go_wp2_with fail
        refine hC.mono ?_
        rintro e w7 ⟨rfl, Fc, k7, b7, lo7⟩
        have hs7 := hP.out.sto.below b7
        have y7 := hbr.trans (b7.mono hzp)
        have hS4 := hS3.out _ _ w7 hs7 k7
        generalize hcb : wp.heap.size = cb at k7 hS4 lo7 ⊢
        have hcl : wp.heap.size ≤ cb := Nat.le_of_eq hcb
        clear hcb
        go_wp2_with fail
        refine hS4.mono ?_
        rintro e w8 ⟨rfl, b8⟩
        have hs8 := hs7.below b8
        have k8 := k7.below b8
        have y8 := y7.trans (b8.mono y7.size)
        have p8 := (hP.out.below b7).below b8
        clear hS4 hs7 k7
        go_wp2_with fail
        refine (hU.out w8 hs8).mono ?_
        rintro e w9 ⟨rfl, t9⟩
        have hk9 : StoAt w9 cb Fc j s := by
          obtain ⟨F9, _, g2, _⟩ := t9
          exact k8.but g2 fun i hi hf => by
            have := lo7 i hi
            have := hP.out.sto.lt i hf
            omega
        have hr9 := p8.ref_after (Below.refl _ _) t9
        have y9 : Below w.heap.size w w9 := by
          obtain ⟨F9, _, g2, _⟩ := t9
          exact y8.trans (g2.below y8.size fun i hi => hlo i (List.mem_append.2 (.inl hi)))
        obtain ⟨F9, s9, _, _⟩ := t9
        have hV9 := hV.out w9 cb Fc F9 hk9 s9
        have hPe : Pair w9 cb Fc (j + 1) bx G s := ⟨hk9.more (Nat.le_succ _) (by omega), hr9, hP.out.coh, fun i hi hg => by
          have := lo7 i hi
          have := hP.out.ref.lt i hg
          omega⟩
        have hle : ∀ i ∈ Fc ++ G, w.heap.size ≤ i := fun i hi => by
          rcases List.mem_append.1 hi with hi | hi
          · have := lo7 i hi
            omega
          · exact hlo i (List.mem_append.2 (.inr hi))
        clear hs8 k8 p8 hk9 hr9 s9 hV hU hS3 lo7
        replace hPe := Lib.hid hPe
        by_cases hz : (s.put (⟨#[111, 110, 108, 121, 32, 104, 101, 114, 101]⟩, ⟨#[113]⟩)).2 = 0
        · have hsm9 := hotr.out hz
          rw [hsm9] at hV9
          rw [hz]
          replace hsm9 := Lib.hid hsm9
          replace hz := Lib.hid hz
          go_wp2_with fail
          refine hV9.mono ?_
          rintro e we ⟨rfl, b10⟩
          replace hPe := hPe.out.below b10
          have hbe := y9.trans (b10.mono y9.size)
          clear hV9
          go_wp2_with fail
          (have hT := law07_told cb Fc (j + 1) bx G s we hPe
           have hO := fun W (x : Below we.heap.size we W) => store_Objects cb Fc (j + 1) s W (hPe.sto.below x)
           replace hO := Lib.hid hO
           replace hPe := Lib.hid hPe
           go_wp2_with fail
           refine hT.mono ?_
           rintro e w20 ⟨rfl, b20⟩
           go_wp2_with fail
           refine (hO.out w20 b20).mono ?_
           rintro e w21 ⟨v21, rfl, o21, b21⟩
           obtain ⟨A21, m21, c21, rfl⟩ : ∃ A m c, v21 = .slice A m c := by obtain ⟨A, c, e⟩ := Owns.form o21; exact ⟨A, _, c, e⟩
           have hwr := Owns.writ o21
           have hm9 := (Owns.row (k := 2) (fun x => objE.len x) o21).2.1
           have y20 := hbe.trans (b20.mono hbe.size)
           clear o21 hT hO
           go_wp2_with fail
           go_loopw [8] (fun tk wr => ∃ k : Nat, k ≤ m21 ∧ tk = .int .i64 k ∧ Below w20.heap.size w20 wr ∧ Writ 2 wr w20.heap.size A21 m21) (fun tk _ => m21 - (intOf tk).toNat)
           case atStart => exact ⟨0, Nat.zero_le _, rfl, b21, hwr⟩
           case round =>
             obtain ⟨k, hk, rfl, hbk, hwk⟩ := hrel
             obtain ⟨wk, rfl⟩ : ∃ x : World, x = wr := ⟨_, rfl⟩
             by_cases hkm : k < m21
             · obtain ⟨bq, oq, uq, rfl, hbq, cq, fq⟩ := hwk.at1 hkm
               go_wp2_with fail
               go_roundw
               case rel => exact ⟨k + 1, by omega, by go_num, hbk.setCell (p := ⟨bq, oq + k * 2 + 1, none⟩) hbq _, hwk.setCell _ _⟩
               case measure => simp [intOf]; omega
             · have y22 := hbk.mono b20.size
               have y23 := b20.trans y22
               have y24 := hbe.trans (y23.mono hbe.size)
               have p24 := hPe.out.below y23
               replace hwk := Lib.hid hwk
               go_wp2_with fail
               go_roundw
               case rel => exact ⟨j + 1, cb, Fc, G, s, by omega, by go_num, rfl, p24, hle, y24⟩
               case measure => simp [intOf]; omega)
        · have hz1 : ((s.put (⟨#[111, 110, 108, 121, 32, 104, 101, 114, 101]⟩, ⟨#[113]⟩)).2 == 0) = false := by simpa using hz
          replace hz := Lib.hid hz
          replace hPe := hPe.out
          have hbe := y9
          clear hV9
          obtain ⟨we, hwe⟩ : ∃ x : World, x = w9 := ⟨_, rfl⟩
          subst hwe
          go_wp2_with fail
          (have hT := law07_told cb Fc (j + 1) bx G s we hPe
           have hO := fun W (x : Below we.heap.size we W) => store_Objects cb Fc (j + 1) s W (hPe.sto.below x)
           replace hO := Lib.hid hO
           replace hPe := Lib.hid hPe
           go_wp2_with fail
           refine hT.mono ?_
           rintro e w20 ⟨rfl, b20⟩
           go_wp2_with fail
           refine (hO.out w20 b20).mono ?_
           rintro e w21 ⟨v21, rfl, o21, b21⟩
           obtain ⟨A21, m21, c21, rfl⟩ : ∃ A m c, v21 = .slice A m c := by obtain ⟨A, c, e⟩ := Owns.form o21; exact ⟨A, _, c, e⟩
           have hwr := Owns.writ o21
           have hm9 := (Owns.row (k := 2) (fun x => objE.len x) o21).2.1
           have y20 := hbe.trans (b20.mono hbe.size)
           clear o21 hT hO
           go_wp2_with fail
           go_loopw [8] (fun tk wr => ∃ k : Nat, k ≤ m21 ∧ tk = .int .i64 k ∧ Below w20.heap.size w20 wr ∧ Writ 2 wr w20.heap.size A21 m21) (fun tk _ => m21 - (intOf tk).toNat)
           case atStart => exact ⟨0, Nat.zero_le _, rfl, b21, hwr⟩
           case round =>
             obtain ⟨k, hk, rfl, hbk, hwk⟩ := hrel
             obtain ⟨wk, rfl⟩ : ∃ x : World, x = wr := ⟨_, rfl⟩
             by_cases hkm : k < m21
             · obtain ⟨bq, oq, uq, rfl, hbq, cq, fq⟩ := hwk.at1 hkm
               go_wp2_with fail
               go_roundw
               case rel => exact ⟨k + 1, by omega, by go_num, hbk.setCell (p := ⟨bq, oq + k * 2 + 1, none⟩) hbq _, hwk.setCell _ _⟩
               case measure => simp [intOf]; omega
             · have y22 := hbk.mono b20.size
               have y23 := b20.trans y22
               have y24 := hbe.trans (y23.mono hbe.size)
               have p24 := hPe.out.below y23
               replace hwk := Lib.hid hwk
               go_wp2_with fail
               go_roundw
               case rel => exact ⟨j + 1, cb, Fc, G, s, by omega, by go_num, rfl, p24, hle, y24⟩
               case measure => simp [intOf]; omega)
      · have hA1 := law07_act b F j bx G s x wp w (by omega) hP hox.out (hkx.below hbr |>.more hzp) (act_apart' (fun i hi => hlo i (List.mem_append.2 (.inr hi))) hkx) hn1 hd1
        unfold Actx.agg at hA1
        replace hA1 := Lib.hid hA1
        clear hn1 hd1 hkx
        replace hP := Lib.hid hP
        go_wp2_with fail
        refine hA1.out.mono ?_
        rintro e we ⟨rfl, k7⟩
        obtain ⟨F7, G7, hPe, hle, g7⟩ := Pair.step hlo k7 hzp
        clear k7 hA1
        have hbe := hbr.trans g7
        obtain ⟨s', hs'⟩ : ∃ s', s' = s.act x := ⟨_, rfl⟩
        rw [← hs'] at hPe
        replace hs' := Lib.hid hs'
        clear q0 q1 q2 q3 q4 q5 q6 q7 q8
        (have hT := law07_told b F7 (j + 1) bx G7 s' we hPe
         have hO := fun W (x : Below we.heap.size we W) => store_Objects b F7 (j + 1) s' W (hPe.sto.below x)
         replace hO := Lib.hid hO
         replace hPe := Lib.hid hPe
         go_wp2_with fail
         refine hT.mono ?_
         rintro e w20 ⟨rfl, b20⟩
         go_wp2_with fail
         refine (hO.out w20 b20).mono ?_
         rintro e w21 ⟨v21, rfl, o21, b21⟩
         obtain ⟨A21, m21, c21, rfl⟩ : ∃ A m c, v21 = .slice A m c := by obtain ⟨A, c, e⟩ := Owns.form o21; exact ⟨A, _, c, e⟩
         have hwr := Owns.writ o21
         have hm9 := (Owns.row (k := 2) (fun x => objE.len x) o21).2.1
         have y20 := hbe.trans (b20.mono hbe.size)
         clear o21 hT hO
         go_wp2_with fail
         go_loopw [8] (fun tk wr => ∃ k : Nat, k ≤ m21 ∧ tk = .int .i64 k ∧ Below w20.heap.size w20 wr ∧ Writ 2 wr w20.heap.size A21 m21) (fun tk _ => m21 - (intOf tk).toNat)
         case atStart => exact ⟨0, Nat.zero_le _, rfl, b21, hwr⟩
         case round =>
           obtain ⟨k, hk, rfl, hbk, hwk⟩ := hrel
           obtain ⟨wk, rfl⟩ : ∃ x : World, x = wr := ⟨_, rfl⟩
           by_cases hkm : k < m21
           · obtain ⟨bq, oq, uq, rfl, hbq, cq, fq⟩ := hwk.at1 hkm
             go_wp2_with fail
             go_roundw
             case rel => exact ⟨k + 1, by omega, by go_num, hbk.setCell (p := ⟨bq, oq + k * 2 + 1, none⟩) hbq _, hwk.setCell _ _⟩
             case measure => simp [intOf]; omega
           · have y22 := hbk.mono b20.size
             have y23 := b20.trans y22
             have y24 := hbe.trans (y23.mono hbe.size)
             have p24 := hPe.out.below y23
             replace hwk := Lib.hid hwk
             go_wp2_with fail
             go_roundw
             case rel => exact ⟨j + 1, b, F7, G7, s', by omega, by go_num, rfl, p24, hle, y24⟩
             case measure => simp [intOf]; omega)
    · obtain rfl : j = n := by omega
      have hT := law07_told b F j bx G s wp hP
      clear h hsm ho hj
      replace hP := Lib.hid hP
      go_wp2_with fail
      refine hT.mono ?_
      rintro e w5 ⟨rfl, b5⟩
      go_wp2_with fail
      go_ret
      exact ⟨rfl, hbr.trans (b5.mono hzp)⟩
end Go.Proofs.Ytfkonpmnclknaaa
