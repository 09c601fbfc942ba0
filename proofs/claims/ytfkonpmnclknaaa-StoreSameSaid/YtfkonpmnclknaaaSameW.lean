/-
  The walk of StoreSame.
-/
import Derived.Test.YtfkonpmnclknaaaActW
import Derived.Test.YtfkonpmnclknaaaSamR
import Derived.Test.YtfkonpmnclknaaaTail
namespace Go.Proofs.Ytfkonpmnclknaaa
open Go.RowKit
attribute [local go_sem ↓] Go.wp_at_zero Go.wp_at_succ

/-- Two stores, each beside the reference's, apart. -/
structure TwoP (B : Nat) (w : World) (b : Nat) (F : List Nat) (N c : Nat) (G : List Nat) (s : Sto) (b' : Nat) (F' : List Nat) (N' c' : Nat) (G' : List Nat) (s' : Sto) : Prop where
  p : Pair w b F N c G s
  q : Pair w b' F' N' c' G' s'
  ap : ∀ i ∈ F ++ G, i ∉ F' ++ G'
  lo : ∀ i ∈ F ++ G, B ≤ i
  lo' : ∀ i ∈ F' ++ G', B ≤ i
section
variable {B : Nat} {w w1 : World} {b N c b' N' c' M : Nat} {F G F' G' : List Nat} {s s' t : Sto}
theorem TwoP.swap (h : TwoP B w b F N c G s b' F' N' c' G' s') : TwoP B w b' F' N' c' G' s' b F N c G s := ⟨h.q, h.p, fun i hi hf => h.ap i hf hi, h.lo', h.lo⟩
theorem TwoP.step (h : TwoP B w b F N c G s b' F' N' c' G' s') (k : PairTo b F M c G t w w1) (hB : B ≤ w.heap.size) : ∃ F1 G1, TwoP B w1 b F1 M c G1 t b' F' N' c' G' s' ∧ Below B w w1 := by
  obtain ⟨F1, G1, k1, k2, k3⟩ := k
  refine ⟨F1, G1, ⟨k1, h.q.but k2 fun i hi hf => h.ap i hf hi, fun i hi hf => ?_, fun i hi => ?_, h.lo'⟩, k2.below hB h.lo⟩
  · rcases k3 i hi with e | e
    · exact h.ap i e hf
    · have := h.q.lt i hf
      omega
  · rcases k3 i hi with e | e
    · exact h.lo i e
    · omega
theorem TwoP.step' (h : TwoP B w b F N c G s b' F' N' c' G' s') (k : PairTo b' F' M c' G' t w w1) (hB : B ≤ w.heap.size) : ∃ F1 G1, TwoP B w1 b F N c G s b' F1 M c' G1 t ∧ Below B w w1 := by
  obtain ⟨F1, G1, h1, h2⟩ := h.swap.step k hB
  exact ⟨F1, G1, h1.swap, h2⟩
theorem TwoP.below (h : TwoP B w b F N c G s b' F' N' c' G' s') (hb : Below w.heap.size w w1) : TwoP B w1 b F N c G s b' F' N' c' G' s' := ⟨h.p.below hb, h.q.below hb, h.ap, h.lo, h.lo'⟩
end

theorem act_apart {B : Nat} {w : World} {G : List Nat} {a : Actx} (hlo : ∀ i ∈ G, B ≤ i) (hk : IntsAt w B a.kA a.kn a.keep) : 0 < a.kn → ∀ b' off, a.kA = some ⟨b', off, none⟩ → b' ∉ G := fun hp b' off e hi => by
  have := hlo b' hi
  obtain ⟨b1, o1, e1, hb, _⟩ := hk.2.2 hp
  rw [e] at e1
  cases e1
  omega

set_option maxHeartbeats 8000000 in
set_option maxRecDepth 100000 in
theorem storeSame_walk (A : Option Addr) (n c : Nat) (l : List Actx) (A2 : Option Addr) (n2 c2 : Nat) (l2 : List Actx) (bh : Bool) (w : World) (h : ActsAt w w.heap.size A n l) (hn : n ≤ reachBytes) (hf : ∀ a ∈ l, ActFit a) (ho : ∀ a ∈ l, ActOk w a)
    (h2 : ActsAt w w.heap.size A2 n2 l2) (hn2 : n2 ≤ reachBytes) (hf2 : ∀ a ∈ l2, ActFit a) (ho2 : ∀ a ∈ l2, ActOk w a) :
    Calls Try.prog 3 #[.slice A n c, .slice A2 n2 c2, .bool bh] w fun e w' => e = .returned (.bool true) ∧ Below w.heap.size w w' := by
  have hL := Lib.hid fun W (hW : Below w.heap.size w W) => law07_large A n c l W (h.to hW) hn hf
  have hL2 := Lib.hid fun W (hW : Below w.heap.size w W) => law07_large A2 n2 c2 l2 W (h2.to hW) hn2 hf2
  replace ho := Lib.hid ho
  replace ho2 := Lib.hid ho2
  have hl := Lib.hid h.1
  have hl2 := Lib.hid h2.1
  go_enter Try.func3, Try.ntmps3
  go_wp2_with fail
  refine (hL.out w (Below.refl _ _)).mono ?_
  rintro e w1 ⟨he, b1⟩
  rcases he with ⟨rfl, hsm⟩ | rfl
  case inr =>
    go_wp2_with fail
    go_ret
    exact ⟨rfl, b1⟩
  replace hsm := Lib.hid hsm
  go_wp2_with fail
  refine (hL2.out w1 b1).mono ?_
  rintro e w2 ⟨he, b2⟩
  have g2 := b1.trans (b2.mono b1.size)
  rcases he with ⟨rfl, hsm2⟩ | rfl
  case inr =>
    go_wp2_with fail
    go_ret
    exact ⟨rfl, g2⟩
  replace hsm2 := Lib.hid hsm2
  clear hL hL2 hf hf2 hn hn2 b1 b2
  have hn9 : n ≤ 1000 := by have := hsm.out.1; have := hl.out; omega
  have hn29 : n2 ≤ 1000 := by have := hsm2.out.1; have := hl2.out; omega
  go_wp2_with fail
  refine (store_New w2).mono ?_
  rintro e w3 ⟨rfl, s3, b3⟩
  go_wp2_with fail
  refine (ref07_New w3).mono ?_
  rintro e w4 ⟨rfl, s4, b4⟩
  go_wp2_with fail
  refine (store_New w4).mono ?_
  rintro e w5 ⟨rfl, s5, b5⟩
  go_wp2_with fail
  refine (ref07_New w5).mono ?_
  rintro e w6 ⟨rfl, s6, b6⟩
  have g6 : Below w.heap.size w w6 := (((g2.trans (b3.mono g2.size)).trans (b4.mono (Nat.le_trans g2.size b3.size))).trans (b5.mono (Nat.le_trans (Nat.le_trans g2.size b3.size) b4.size))).trans (b6.mono (Nat.le_trans (Nat.le_trans (Nat.le_trans g2.size b3.size) b4.size) b5.size))
  have hP : TwoP w.heap.size w6 (w2.heap.size + 2) [w2.heap.size + 2, w2.heap.size, w2.heap.size + 1] 0 w3.heap.size [w3.heap.size] Sto.new (w4.heap.size + 2) [w4.heap.size + 2, w4.heap.size, w4.heap.size + 1] 0 w5.heap.size [w5.heap.size] Sto.new := by
    have z2 := g2.size
    have z3 := s3.lt
    have z4 := s4.lt
    have z5 := s5.lt
    have z6 := s6.lt
    simp only [List.mem_cons, List.not_mem_nil, or_false, forall_eq_or_imp, forall_eq] at z3 z4 z5 z6
    have y3 := b3.size
    have y4 := b4.size
    have y5 := b5.size
    refine ⟨⟨((s3.below b4).below b5).below b6, (s4.below b5).below b6, coh_new, ?_⟩, ⟨s5.below b6, s6, coh_new, ?_⟩, ?_, ?_, ?_⟩ <;> simp only [List.cons_append, List.nil_append, List.mem_cons, List.not_mem_nil, or_false, not_or] <;> omega
  generalize [w2.heap.size + 2, w2.heap.size, w2.heap.size + 1] = F1 at hP
  generalize [w3.heap.size] = G1 at hP
  generalize [w4.heap.size + 2, w4.heap.size, w4.heap.size + 1] = F2 at hP
  generalize [w5.heap.size] = G2 at hP
  generalize w2.heap.size + 2 = bs at hP ⊢
  generalize w4.heap.size + 2 = bt at hP ⊢
  generalize w3.heap.size = bx at hP ⊢
  generalize w5.heap.size = by' at hP ⊢
  clear s3 s4 s5 s6 b3 b4 b5 b6 g2
  go_wp2_with fail
  go_loopw [11] (fun ti wr => ∃ (j N2 : Nat) (F1 G1 F2 G2 : List Nat) (s t : Sto), j ≤ n ∧ ti = .int .i64 j ∧ N2 ≤ j ∧ TwoP w.heap.size wr bs F1 j bx G1 s bt F2 N2 by' G2 t ∧ Below w.heap.size w wr) (fun ti _ => n - (intOf ti).toNat)
  case atStart => exact ⟨0, 0, _, _, _, _, _, _, Nat.zero_le _, rfl, Nat.le_refl _, hP, g6⟩
  case round =>
    obtain ⟨j, N2, F1, G1, F2, G2, s, t, hj, rfl, hN2, hP, hbr⟩ := hrel
    obtain ⟨wp, rfl⟩ : ∃ x : World, x = wr := ⟨_, rfl⟩
    have hzp := hbr.size
    by_cases hlt : j < n
    · obtain ⟨b0, off, x, rfl, hb0, hx, q0, q1, q2, q3, q4, q5, q6, q7, q8⟩ := (h.below hbr).act hlt
      have hxs := hsm.out.2 x (List.mem_of_getElem? hx)
      have hox := Lib.hid (ho.out x (List.mem_of_getElem? hx))
      have hn1 : x.name.size ≤ maxLen := Nat.le_trans hxs.1 (by decide)
      have hd1 : x.data.size ≤ maxLen := Nat.le_trans hxs.2.1 (by decide)
      have hkx := hox.out.keep
      replace hx := Lib.hid hx
      clear hxs
      have hA1 := law07_act bs F1 j bx G1 s x wp w (by omega) hP.p hox.out (hkx.below hbr |>.more hzp) (act_apart (fun i hi => hP.lo i (List.mem_append.2 (.inr hi))) hkx) hn1 hd1
      unfold Actx.agg at hA1
      replace hA1 := Lib.hid hA1
      have hA2 := Lib.hid fun F1 G1 W (k : TwoP w.heap.size W bs F1 (j + 1) bx G1 (s.act x) bt F2 N2 by' G2 t) (hW : Below w.heap.size w W) => law07_act bt F2 N2 by' G2 t x W w (by omega) k.q hox.out (hkx.below hW |>.more hW.size) (act_apart (fun i hi => k.lo' i (List.mem_append.2 (.inr hi))) hkx) hn1 hd1
      unfold Actx.agg at hA2
      clear hn1 hd1
      cases bh with
      | false =>
        go_wp2_with fail
        refine hA1.out.mono ?_
        rintro e w7 ⟨rfl, k7⟩
        obtain ⟨F7, G7, p7, g7⟩ := hP.step k7 hzp
        clear k7 hA1 hA2 hP
        have y7 := hbr.trans g7
        go_wp2_with fail
        go_roundw
        case rel => exact ⟨j + 1, N2, F7, G7, F2, G2, _, t, by omega, by go_num, by omega, p7, y7⟩
        case measure => simp [intOf]; omega
      | true =>
        go_wp2_with fail
        refine hA1.out.mono ?_
        rintro e w7 ⟨rfl, k7⟩
        obtain ⟨F7, G7, p7, g7⟩ := hP.step k7 hzp
        have y7 := hbr.trans g7
        have hA3 := Lib.hid (hA2.out F7 G7 w7 p7 y7)
        clear k7 hA1 hA2 hP
        have qq0 := (g7.cell (p := ⟨b0, off + j * 9, none⟩) hb0).trans q0
        have qq1 := (g7.cell (p := ⟨b0, off + j * 9 + 1, none⟩) hb0).trans q1
        have qq2 := (g7.cell (p := ⟨b0, off + j * 9 + 2, none⟩) hb0).trans q2
        have qq3 := (g7.cell (p := ⟨b0, off + j * 9 + 3, none⟩) hb0).trans q3
        have qq4 := (g7.cell (p := ⟨b0, off + j * 9 + 4, none⟩) hb0).trans q4
        have qq5 := (g7.cell (p := ⟨b0, off + j * 9 + 5, none⟩) hb0).trans q5
        have qq6 := (g7.cell (p := ⟨b0, off + j * 9 + 6, none⟩) hb0).trans q6
        have qq7 := (g7.cell (p := ⟨b0, off + j * 9 + 7, none⟩) hb0).trans q7
        have qq8 := (g7.cell (p := ⟨b0, off + j * 9 + 8, none⟩) hb0).trans q8
        clear q0 q1 q2 q3 q4 q5 q6 q7 q8
        go_wp2_with fail
        refine hA3.out.mono ?_
        rintro e w8 ⟨rfl, k8⟩
        obtain ⟨F8, G8, p8, g8⟩ := p7.step' k8 y7.size
        have y8 := y7.trans g8
        clear k8 hA3 p7
        go_wp2_with fail
        go_roundw
        case rel => exact ⟨j + 1, N2 + 1, F7, G7, F8, G8, _, _, by omega, by go_num, by omega, p8, y8⟩
        case measure => simp [intOf]; omega
    · obtain rfl : j = n := by omega
      clear h hsm ho hj
      go_wp2_with fail
      go_loopw [12] (fun ti wr => ∃ (k N2 : Nat) (F2 G2 : List Nat) (t : Sto), k ≤ n2 ∧ ti = .int .i64 k ∧ N2 ≤ j + k ∧ TwoP w.heap.size wr bs F1 j bx G1 s bt F2 N2 by' G2 t ∧ Below w.heap.size w wr) (fun ti _ => n2 - (intOf ti).toNat)
      case atStart => exact ⟨0, N2, _, _, _, Nat.zero_le _, rfl, hN2, hP, hbr⟩
      case round =>
        obtain ⟨k, N2, F2, G2, t, hk, rfl, hN2, hP, hbr⟩ := hrel
        obtain ⟨wp, rfl⟩ : ∃ x : World, x = wr := ⟨_, rfl⟩
        have hzp := hbr.size
        by_cases hlt : k < n2
        · obtain ⟨b0, off, x, rfl, hb0, hx, q0, q1, q2, q3, q4, q5, q6, q7, q8⟩ := (h2.below hbr).act hlt
          have hxs := hsm2.out.2 x (List.mem_of_getElem? hx)
          have hox := Lib.hid (ho2.out x (List.mem_of_getElem? hx))
          have hn1 : x.name.size ≤ maxLen := Nat.le_trans hxs.1 (by decide)
          have hd1 : x.data.size ≤ maxLen := Nat.le_trans hxs.2.1 (by decide)
          have hkx := hox.out.keep
          replace hx := Lib.hid hx
          clear hxs
          have hA1 := law07_act bt F2 N2 by' G2 t x wp w (by omega) hP.q hox.out (hkx.below hbr |>.more hzp) (act_apart (fun i hi => hP.lo' i (List.mem_append.2 (.inr hi))) hkx) hn1 hd1
          unfold Actx.agg at hA1
          replace hA1 := Lib.hid hA1
          clear hn1 hd1
          go_wp2_with fail
          refine hA1.out.mono ?_
          rintro e w7 ⟨rfl, k7⟩
          obtain ⟨F7, G7, p7, g7⟩ := hP.step' k7 hzp
          clear k7 hA1 hP
          have y7 := hbr.trans g7
          go_wp2_with fail
          go_roundw
          case rel => exact ⟨k + 1, N2 + 1, F7, G7, _, by omega, by go_num, by omega, p7, y7⟩
          case measure => simp [intOf]; omega
        · obtain rfl : k = n2 := by omega
          clear h2 hsm2 ho2 hk
          have hS1 := Lib.hid fun W (x : Below wp.heap.size wp W) => store_Same bs bt F1 F2 _ _ s t hP.p.coh hP.q.coh W (hP.p.sto.below x) (hP.q.sto.below x)
          have hS2 := Lib.hid fun W (x : Below wp.heap.size wp W) => ref07_Same bx by' G1 G2 s t W (hP.p.ref.below x) (hP.q.ref.below x)
          have hC := Lib.hid fun W (x : Below wp.heap.size wp W) => store_Copy bs F1 _ s W (hP.p.sto.below x)
          have hS3 := Lib.hid fun cb Fc W (x : Below wp.heap.size wp W) (k : StoAt W cb Fc j s) => store_Same bs cb F1 Fc _ _ s s hP.p.coh hP.p.coh W (hP.p.sto.below x) k
          have hss : sameS s s = true := by unfold sameS; simp
          rw [hss] at hS3
          generalize sameS s t = B at hS1 hS2
          have hBB : (B == B) = true := by simp
          replace hss := Lib.hid hss
          replace hP := Lib.hid hP
          go_wp2_with fail
          refine (hS1.out wp (Below.refl _ _)).mono ?_
          rintro e w7 ⟨rfl, b7⟩
          go_wp2_with fail
          refine (hS2.out w7 b7).mono ?_
          rintro e w8 ⟨rfl, b8⟩
          have y8 := b7.trans (b8.mono b7.size)
          go_wp2_with fail
          refine (hC.out w8 y8).mono ?_
          rintro e w9 ⟨rfl, Fc, k9, b9, _⟩
          have y9 := y8.trans (b9.mono y8.size)
          have hS4 := hS3.out _ _ _ y9 k9
          go_wp2_with fail
          refine hS4.mono ?_
          rintro e w10 ⟨rfl, b10⟩
          have y10 := hbr.trans ((y9.trans (b10.mono y9.size)).mono hzp)
          clear hS4 k9
          go_wp2_with fail
          go_ret
          exact ⟨rfl, y10⟩
end Go.Proofs.Ytfkonpmnclknaaa
