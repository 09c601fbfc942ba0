/-
  For every list of snapshots and every rule KeepRow returns true: what is kept and what goes stand in the row in which they stood, and may be snapshots. No condition.
-/
import Derived.Test.YtgopkjgkjjllfaaKeepP
import Derived.Test.YtgopkjgkjjllfaaKeepLaw
namespace Go.Proofs.Ytgopkjgkjjllfaa
open Go.ChangeShapes Go.WideShapes Go.ChangeAt Go.RowKit

set_option maxHeartbeats 1000000 in
theorem keepRow_walk (A : Option Addr) (n c : Nat) (l : List Snap) (r : Rule) (w : World) (h : SnapsAt w w.heap.size A n l) (h2 : r.last ≤ 9223372036854775807) (h3 : r.within ≤ 9223372036854775807) :
    Calls Try.prog 8 #[.slice A n c, r.agg] w fun e w' => e = .returned (.bool true) ∧ Below w.heap.size w w' := by
  obtain ⟨p, q, d⟩ := r
  unfold Rule.agg
  simp only at h2 h3
  by_cases h1 : 60 < n
  · go_enter Try.func8, Try.ntmps8
    go_wp2_with (go_at_call 13; refine (awake_any _).mono ?_; rintro e w1 ⟨rfl, hbw1⟩; obtain ⟨hcw1, hfw1⟩ := bcell hbw1; have hzw1 := hbw1.size; (try simp at hzw1); (try have hlw1 := (by omega : w.heap.size < w1.heap.size)); (try have hmw1 := (by omega : w.heap.size + 1 < w1.heap.size)); (try have hnw1 := (by omega : w.heap.size + 1 + 1 < w1.heap.size)))
    go_ret
    exact ⟨rfl, (by repeat (first | exact Below.refl _ _ | assumption | refine Below.drew ?_ | refine below_drewN ?_ _ | refine Below.alloc ?_ (by first | omega | (simp; try omega)) _ | refine Below.setCell ?_ (by first | omega | (simp; try omega)) _ | (refine Below.trans ?_ (Below.mono (by assumption) (by first | omega | (simp; try omega))))))⟩
  · obtain ⟨K, G, z, hch⟩ : ∃ K G z, choose l ⟨p, q, d⟩ = (K, G, z) := ⟨_, _, _, rfl⟩
    have hn := h.2.1
    have hl := Lib.hid h.1
    by_cases hz : z = 0
    · subst hz
      obtain ⟨hm, hmr, hK, hG, _⟩ := choose_ok hch
      have hmK := mayL_sub (kept_sub (goesB l ⟨p, q, d⟩) l 0) hm
      have hmG := mayL_sub (gone_sub (goesB l ⟨p, q, d⟩) l 0) hm
      rw [← hK] at hmK
      rw [← hG] at hmG
      have hlK := mayL_len hmK
      have hlG := mayL_len hmG
      have hri : rising 0 l = true := by simp [mayL] at hm; exact hm.1
      replace hch := Lib.hid hch
      replace hK := Lib.hid hK
      replace hG := Lib.hid hG
      replace hri := Lib.hid hri
      replace hmr := Lib.hid hmr
      generalize hgg : goesB l ⟨p, q, d⟩ = g at *
      replace hgg := Lib.hid hgg
      go_enter Try.func8, Try.ntmps8
      go_wp2_with (first
        | (go_at_call 13; refine (awake_any _).mono ?_; rintro e w1 ⟨rfl, hbw1⟩; obtain ⟨hcw1, hfw1⟩ := bcell hbw1; have hzw1 := hbw1.size; (try simp at hzw1); (try have hlw1 := (by omega : w.heap.size < w1.heap.size)); (try have hmw1 := (by omega : w.heap.size + 1 < w1.heap.size)); (try have hnw1 := (by omega : w.heap.size + 1 + 1 < w1.heap.size)))
        | (go_at_call 14; refine (keep_Choose' (r := ⟨p, q, d⟩) (h.to (by repeat (first | exact Below.refl _ _ | assumption | refine Below.drew ?_ | refine below_drewN ?_ _ | refine Below.alloc ?_ (by first | omega | (simp; try omega)) _ | refine Below.setCell ?_ (by first | omega | (simp; try omega)) _ | (refine Below.trans ?_ (Below.mono (by assumption) (by first | omega | (simp; try omega))))))) h2 h3 hch.out).mono ?_; rintro e w2 ⟨A1, c1, A2, c2, rfl, _, r1, r2, hbw2⟩; obtain ⟨hcw2, hfw2⟩ := bcell hbw2; have hzw2 := hbw2.size; (try simp at hzw2); (try have hlw2 := (by omega : w.heap.size < w2.heap.size)); (try have hmw2 := (by omega : w.heap.size + 1 < w2.heap.size)); (try have hnw2 := (by omega : w.heap.size + 1 + 1 < w2.heap.size))))
      have hbb : Below w.heap.size w w2 := (by repeat (first | exact Below.refl _ _ | assumption | refine Below.drew ?_ | refine below_drewN ?_ _ | refine Below.alloc ?_ (by first | omega | (simp; try omega)) _ | refine Below.setCell ?_ (by first | omega | (simp; try omega)) _ | (refine Below.trans ?_ (Below.mono (by assumption) (by first | omega | (simp; try omega))))))
      have h0 := h.to hbb
      have ee := eqSnapE
      go_loopw [8, 9, 10] (fun vi vk vn wr => ∃ i k j : Nat, vi = .int .i64 i ∧ vk = .int .i64 k ∧ vn = .int .i64 j ∧ j ≤ n ∧ i ≤ K.length ∧ k ≤ G.length ∧ Below w2.heap.size w2 wr ∧
        Hid (K.drop i = keptFrom g j (l.drop j)) ∧ Hid (G.drop k = goneFrom g j (l.drop j))) (fun _ _ vn _ => n - (intOf vn).toNat)
      case atStart => exact ⟨0, 0, 0, rfl, rfl, rfl, Nat.zero_le _, Nat.zero_le _, Nat.zero_le _, Below.refl _ _, hK, hG⟩
      case round =>
        obtain ⟨i, k, j, rfl, rfl, rfl, hj, hi, hk, hbr, hrK, hrG⟩ := hrel
        have r1' := r1.to hbr
        have r2' := r2.to hbr
        have h' := h0.to hbr
        by_cases hlt : j < n
        · obtain ⟨b, off, s, rfl, hb1, hx, q0, q1, q2⟩ := h'.snap hlt
          have hd := Lib.hid (drop_cons hx)
          clear hx
          cases hq : g j
          · obtain ⟨hi1, hKi, hK'⟩ := merge_kept hd.out hrK.out hq
            obtain ⟨b', off', rfl, hb2⟩ := r1'.addr hi1
            obtain ⟨p0, p1, p2⟩ := r1'.snapEx hKi
            have hG' := Lib.hid (merge_skip' hd.out hrG.out hq)
            replace hK' := Lib.hid hK'
            clear hKi
            have hss : s.same s = true := Snap.same_iff.2 rfl
            have hg1 : decide (i < K.length) = true := by simpa using hi1
            go_wp2
            go_quiet (fail)
            go_wp2
            go_roundw
            case rel => exact ⟨i + 1, k, j + 1, by go_num, rfl, by go_num, by omega, by omega, by omega, (by repeat (first | exact Below.refl _ _ | assumption | refine Below.drew ?_ | refine below_drewN ?_ _ | refine Below.alloc ?_ (by first | omega | (simp; try omega)) _ | refine Below.setCell ?_ (by first | omega | (simp; try omega)) _ | (refine Below.trans ?_ (Below.mono (by assumption) (by first | omega | (simp; try omega)))))), hK', hG'⟩
            case measure => simp [intOf]; omega
          · obtain ⟨hk1, hGi, hG'⟩ := merge_gone hd.out hrG.out hq
            obtain ⟨b', off', rfl, hb2⟩ := r2'.addr hk1
            obtain ⟨p0, p1, p2⟩ := r2'.snapEx hGi
            obtain ⟨hK', hne⟩ := merge_skip hri.out hd.out hrK.out hq
            replace hK' := Lib.hid hK'
            replace hG' := Lib.hid hG'
            replace hne := Lib.hid hne
            clear hGi
            have hss : s.same s = true := Snap.same_iff.2 rfl
            have hg2 : decide (k < G.length) = true := by simpa using hk1
            by_cases hi1 : i < K.length
            · obtain ⟨t, ht⟩ := getElem_some hi1
              obtain ⟨b'', off'', rfl, hb3⟩ := r1'.addr hi1
              obtain ⟨o0, o1, o2⟩ := r1'.snapEx ht
              have hts : t.same s = false := hne.out t ht
              clear ht
              have hg1 : decide (i < K.length) = true := by simpa using hi1
              go_wp2
              go_quiet (fail)
              go_wp2
              go_quiet (fail)
              go_wp2
              go_roundw
              case rel => exact ⟨i, k + 1, j + 1, rfl, by go_num, by go_num, by omega, by omega, by omega, (by repeat (first | exact Below.refl _ _ | assumption | refine Below.drew ?_ | refine below_drewN ?_ _ | refine Below.alloc ?_ (by first | omega | (simp; try omega)) _ | refine Below.setCell ?_ (by first | omega | (simp; try omega)) _ | (refine Below.trans ?_ (Below.mono (by assumption) (by first | omega | (simp; try omega)))))), hK', hG'⟩
              case measure => simp [intOf]; omega
            · have hg1 : decide (i < K.length) = false := by simpa using hi1
              go_wp2
              go_quiet (fail)
              go_wp2
              go_quiet (fail)
              go_wp2
              go_roundw
              case rel => exact ⟨i, k + 1, j + 1, rfl, by go_num, by go_num, by omega, by omega, by omega, (by repeat (first | exact Below.refl _ _ | assumption | refine Below.drew ?_ | refine below_drewN ?_ _ | refine Below.alloc ?_ (by first | omega | (simp; try omega)) _ | refine Below.setCell ?_ (by first | omega | (simp; try omega)) _ | (refine Below.trans ?_ (Below.mono (by assumption) (by first | omega | (simp; try omega)))))), hK', hG'⟩
              case measure => simp [intOf]; omega
        · obtain rfl : i = K.length := drop_end hi (by rw [hrK.out, List.drop_eq_nil_of_le (by have := hl.out; omega)]; rfl)
          obtain rfl : k = G.length := drop_end hk (by rw [hrG.out, List.drop_eq_nil_of_le (by have := hl.out; omega)]; rfl)
          have hbw : Below w.heap.size w wr := (by repeat (first | exact Below.refl _ _ | assumption | refine Below.drew ?_ | refine below_drewN ?_ _ | refine Below.alloc ?_ (by first | omega | (simp; try omega)) _ | refine Below.setCell ?_ (by first | omega | (simp; try omega)) _ | (refine Below.trans ?_ (Below.mono (by assumption) (by first | omega | (simp; try omega))))))
          go_wp2_with fail
          refine (snap_May _ _ _ K _ r1').mono ?_
          rintro e w3 ⟨rfl, hbw3⟩
          have hz3 := hbw3.size
          go_wp2_with fail
          refine (snap_May _ _ _ G _ (r2'.to hbw3)).mono ?_
          rintro e w4 ⟨rfl, hbw4⟩
          have hz4 := hbw4.size
          have hz5 := hbr.size
          go_wp2
          go_ret
          exact ⟨rfl, (by repeat (first | exact Below.refl _ _ | assumption | refine Below.drew ?_ | refine below_drewN ?_ _ | refine Below.alloc ?_ (by first | omega | (simp; try omega)) _ | refine Below.setCell ?_ (by first | omega | (simp; try omega)) _ | (refine Below.trans ?_ (Below.mono (by assumption) (by first | omega | (simp; try omega))))))⟩
    · obtain ⟨rfl, rfl, _⟩ := choose_bad hch hz
      have hz1 : (z != 0) = true := by simpa using hz
      replace hch := Lib.hid hch
      go_enter Try.func8, Try.ntmps8
      go_wp2_with (first
        | (go_at_call 13; refine (awake_any _).mono ?_; rintro e w1 ⟨rfl, hbw1⟩; obtain ⟨hcw1, hfw1⟩ := bcell hbw1; have hzw1 := hbw1.size; (try simp at hzw1); (try have hlw1 := (by omega : w.heap.size < w1.heap.size)); (try have hmw1 := (by omega : w.heap.size + 1 < w1.heap.size)); (try have hnw1 := (by omega : w.heap.size + 1 + 1 < w1.heap.size)))
        | (go_at_call 14; refine (keep_Choose' (r := ⟨p, q, d⟩) (h.to (by repeat (first | exact Below.refl _ _ | assumption | refine Below.drew ?_ | refine below_drewN ?_ _ | refine Below.alloc ?_ (by first | omega | (simp; try omega)) _ | refine Below.setCell ?_ (by first | omega | (simp; try omega)) _ | (refine Below.trans ?_ (Below.mono (by assumption) (by first | omega | (simp; try omega))))))) h2 h3 hch.out).mono ?_; rintro e w2 ⟨A1, c1, A2, c2, rfl, _, r1, r2, hbw2⟩; obtain ⟨hcw2, hfw2⟩ := bcell hbw2; have hzw2 := hbw2.size; (try simp at hzw2); (try have hlw2 := (by omega : w.heap.size < w2.heap.size)); (try have hmw2 := (by omega : w.heap.size + 1 < w2.heap.size)); (try have hnw2 := (by omega : w.heap.size + 1 + 1 < w2.heap.size))))
      go_ret
      exact ⟨rfl, (by repeat (first | exact Below.refl _ _ | assumption | refine Below.drew ?_ | refine below_drewN ?_ _ | refine Below.alloc ?_ (by first | omega | (simp; try omega)) _ | refine Below.setCell ?_ (by first | omega | (simp; try omega)) _ | (refine Below.trans ?_ (Below.mono (by assumption) (by first | omega | (simp; try omega))))))⟩

set_option maxRecDepth 100000 in
theorem keepRow_lifted (os : Os) (started : os.Started) (H : Type) (enc : TypeId × Value → H) :
    ReturnsInHanded {} Try.checked os 8 .any (Rows.keepRowSpec.pre6 enc Try.prog Try.f8 Rows.keepRowRow.domain false) (Rows.keepRowSpec.post enc Try.prog Try.f8 false true false false) := by
  refine law_lifted started (by kernel_rfl) Try.func8 rfl rfl ?_ (by kernel_rfl)
    (ChangeSpec.witness6 (enc := enc) (C := Try.checked) false ⟨#[], #[.slice none 0 0, .agg #[.int .i64 0, .int .i64 0, .int .i64 0]], []⟩ 8 (by kernel_rfl) (by kernel_rfl) (by kernel_rfl) (by kernel_rfl)) ?_
  · intro ds hd
    match ds, hd with
    | [d1, d2], _ => exact ⟨rfl, rfl, rfl⟩
  · intro W base args ds ps hval hA hlt
    rw [Try.params8] at hA hval
    obtain ⟨v0, v1, d0, d1, p0, p1, rfl, rfl, rfl, h0, h1⟩ := trodAll_two hA
    obtain ⟨A, n, c, l, rfl, hl, _⟩ := open_snaps (hval 0 22 v0 rfl rfl) h0
    obtain ⟨r, rfl, hr⟩ := open_rule (hval 1 25 v1 rfl rfl) h1
    exact keepRow_walk A n c l r W hl hr.2.1.2 hr.2.2.2

theorem keepRow_holds : Rows.KeepRowSaid :=
  OpenClaim.holds_of_wide 8 Try.f8 rfl rfl rfl rfl rfl rfl rfl ⟨rfl, rfl, rfl, rfl, rfl⟩ rfl rfl rfl rfl rfl (by kernel_rfl) Try.func8 (by kernel_rfl)
    (of_decide_eq_true (by kernel_rfl)) (by unfold Func.isWrapper; rw [if_neg (of_decide_eq_false (by kernel_rfl))]; exact ⟨rfl, rfl⟩)
    (fun os started H enc _ => keepRow_lifted os started H enc)
#print axioms keepRow_holds
end Go.Proofs.Ytgopkjgkjjllfaa
