/-
  For every list of snapshots, every rule and every number KeepMore returns true: by a greater Last, or a greater Within, each one that is kept is kept still; by an ID just that one goes. No condition.
-/
import Derived.Test.YtgopkjgkjjllfaaKeepP
import Derived.Test.YtgopkjgkjjllfaaKeepLaw
namespace Go.Proofs.Ytgopkjgkjjllfaa
open Go.ChangeShapes Go.WideShapes Go.ChangeAt Go.RowKit

theorem gone_mono {g g' : Nat → Bool} (h : ∀ i, g' i = true → g i = true) : ∀ (m : List Snap) (k : Nat), (goneFrom g' k m).Sublist (goneFrom g k m)
  | [], _ => List.Sublist.refl _
  | s :: m, k => by
    have ih := gone_mono h m (k + 1)
    unfold goneFrom
    cases h' : g' k
    · cases hg : g k
      · simpa using ih
      · simpa using ih.cons s
    · simpa [h k h'] using ih.cons_cons s
theorem gone_last {N : Int} : ∀ (m : List Snap) (k : Nat), ((goneFrom (fun i => decide ((i : Int) < N)) k m).length : Int) = min (max 0 (N - k)) m.length
  | [], _ => by simp [goneFrom]; omega
  | s :: m, k => by
    have ih := gone_last (N := N) m (k + 1)
    unfold goneFrom
    by_cases h : (k : Int) < N
    · simp [h] at ih ⊢; omega
    · simp [h] at ih ⊢; omega

set_option maxHeartbeats 1000000 in

theorem choose_of {l : List Snap} {r : Rule} (hm : mayL l = true) (hr : mayRule r = true) (hp : ¬ 0 < r.id) : choose l r = (keptFrom (goesB l r) 0 l, goneFrom (goesB l r) 0 l, 0) := by
  unfold choose
  rw [if_pos hm, if_pos hr, if_neg (by simp [hp])]
theorem u64_mod (x : Int) : 0 ≤ (IntKind.u64.wrap x).tmod 1000 ∧ (IntKind.u64.wrap x).tmod 1000 < 1000 := by
  have h : 0 ≤ IntKind.u64.wrap x := by simp [IntKind.wrap, IntKind.signed, IntKind.bits]; omega
  rw [Int.tmod_eq_emod_of_nonneg h]
  omega
theorem any_mem {G : List Snap} {t : Snap} (h : t ∈ G) : (G.any fun s => s.same t) = true := by
  rw [List.any_eq_true]
  exact ⟨t, h, Snap.same_iff.2 rfl⟩

theorem one_id {a : Int} : ∀ {l : List Snap} {y : Int}, rising y l = true → (l.any fun s => decide (s.id = a)) = true → ∃ t, l.filter (fun s => decide (s.id = a)) = [t] ∧ t.id = a
  | [], _, _, h => by simp at h
  | s :: l, y, hr, h => by
    have hgt := rising_gt (y := s.id) (l := l) (by simp [rising] at hr; exact hr.2)
    by_cases hs : s.id = a
    · refine ⟨s, ?_, hs⟩
      have : l.filter (fun s => decide (s.id = a)) = [] := by
        rw [List.filter_eq_nil_iff]
        intro t ht
        have := hgt t ht
        simp; omega
      simp [hs, this]
    · simp [rising] at hr
      obtain ⟨t, ht, hta⟩ := one_id (a := a) hr.2 (by simpa [hs] using h)
      exact ⟨t, by simp [hs, ht], hta⟩

set_option maxHeartbeats 2000000 in
set_option maxRecDepth 100000 in
/-- By a Last, or a Within. -/
theorem keepMore_tail (A : Option Addr) (n c : Nat) (l : List Snap) (q d : Int) (more : Int) (w : World) (h : SnapsAt w w.heap.size A n l) (h1 : n ≤ 60) (h2 : q ≤ 9223372036854775807) (h3 : d ≤ 9223372036854775807)
    (hm : mayL l = true) (hmr : mayRule ⟨0, q, d⟩ = true) (_ : -9223372036854775808 ≤ more) (_ : more ≤ 9223372036854775807) :
    Calls Try.prog 7 #[.slice A n c, .agg #[.int .i64 0, .int .i64 q, .int .i64 d], .int .i64 more] w fun e w' => e = .returned (.bool true) ∧ Below w.heap.size w w' := by
  have hn := h.2.1
  have hl := Lib.hid h.1
  obtain ⟨hy1, hy2⟩ := u64_mod more
  generalize hy : (IntKind.u64.wrap more).tmod 1000 = y at hy1 hy2
  have hr2 : (0 < q ∧ d = 0) ∨ (q = 0 ∧ 0 < d) := by simp [mayRule] at hmr; omega
  have hch := Lib.hid (choose_of hm hmr (by simp))
  have hlen0 := parts_len (goesB l ⟨0, q, d⟩) l 0
  generalize hKK : keptFrom (goesB l ⟨0, q, d⟩) 0 l = K at hch hlen0
  generalize hGG : goneFrom (goesB l ⟨0, q, d⟩) 0 l = G at hch hlen0
  have hmod : ∀ sq sd, mayRule ⟨0, sq, sd⟩ = true → ((0 < q ∧ 0 < sq ∧ sd = 0 ∧ (q ≤ 1073741824 → q ≤ sq)) ∨ (q = 0 ∧ sq = 0 ∧ 0 < sd ∧ (d ≤ 1125899906842624 → d ≤ sd))) →
      ∃ K' G', Hid (choose l ⟨0, sq, sd⟩ = (K', G', 0)) ∧ Hid (K'.length + G'.length = n) ∧ Hid ((q ≤ 1073741824 ∧ d ≤ 1125899906842624) → ∀ t ∈ G', t ∈ G) ∧ Hid (q = 0 ∨ Hid ((K'.length : Int) = min (n : Int) sq)) := by
    intro sq sd hmr' hs
    have hlen' := parts_len (goesB l ⟨0, sq, sd⟩) l 0
    refine ⟨_, _, choose_of hm hmr' (by simp), by rw [Hid, hlen', h.1], ?_, ?_⟩
    · intro hb t ht
      rw [← hGG]
      refine (gone_mono ?_ l 0).subset ht
      intro i hi
      rcases hs with ⟨a1, a2, a3, a4⟩ | ⟨a1, a2, a3, a4⟩
      · rw [goes_last (by simp) a2] at hi
        rw [goes_last (by simp) a1]
        simp at hi ⊢
        omega
      · rw [goes_within (by simp) (by simp; omega)] at hi
        rw [goes_within (by simp) (by simp; omega)]
        simp at hi ⊢
        omega
    · rcases hs with ⟨a1, a2, a3, a4⟩ | ⟨a1, a2, a3, a4⟩
      · right
        have hg : goesB l ⟨0, sq, sd⟩ = fun i : Nat => decide ((i : Int) < (l.length : Int) - sq) := by funext i; exact goes_last (by simp) a2
        have := gone_last (N := (l.length : Int) - sq) l 0
        rw [← hg] at this
        have hl := h.1
        unfold Hid
        omega
      · left; exact a1
  have hlen : ((K.length : Int) + (G.length : Int) != (n : Int)) = false := by simp; have := h.1; omega
  have hKn : K.length ≤ n := by have := h.1; omega
  have hGn : G.length ≤ n := by have := h.1; omega
  replace hKK := Lib.hid hKK
  replace hGG := Lib.hid hGG
  replace hm := Lib.hid hm
  replace hmr := Lib.hid hmr
  clear hlen0
  rcases hr2 with ⟨hq, rfl⟩ | ⟨rfl, hd0⟩
  · have hcase : (∃ sq, q + y = sq ∧ q ≤ 1073741824 ∧ 0 < q ∧ ∃ K' G', Hid (choose l ⟨0, sq, 0⟩ = (K', G', 0)) ∧ Hid (K'.length + G'.length = n) ∧ Hid ((q ≤ 1073741824 ∧ (0 : Int) ≤ 1125899906842624) → ∀ t ∈ G', t ∈ G) ∧ Hid (q = 0 ∨ Hid ((K'.length : Int) = min (n : Int) sq))) ∨
        (∃ sq, 1073741824 + y = sq ∧ 1073741824 < q ∧ 0 < q ∧ ∃ K' G', Hid (choose l ⟨0, sq, 0⟩ = (K', G', 0)) ∧ Hid (K'.length + G'.length = n) ∧ Hid ((q ≤ 1073741824 ∧ (0 : Int) ≤ 1125899906842624) → ∀ t ∈ G', t ∈ G) ∧ Hid (q = 0 ∨ Hid ((K'.length : Int) = min (n : Int) sq))) := by
      by_cases hb : q ≤ 1073741824
      · exact .inl ⟨q + y, rfl, hb, hq, hmod (q + y) 0 (by simp [mayRule]; omega) (by omega)⟩
      · exact .inr ⟨1073741824 + y, rfl, by omega, hq, hmod (1073741824 + y) 0 (by simp [mayRule]; omega) (by omega)⟩
    replace hmod := Lib.hid hmod
    rcases hcase with ⟨sq, e, b1, b2, K', G', hch2, hlen2, hsub, hfin⟩ | ⟨sq, e, b1, b2, K', G', hch2, hlen2, hsub, hfin⟩
    all_goals
      have hlen3 : ((K'.length : Int) + (G'.length : Int) != (n : Int)) = false := by simp; have := hlen2.out; omega
      have hKn' : K'.length ≤ n := by have := hlen2.out; omega
      have hGn' : G'.length ≤ n := by have := hlen2.out; omega
      have hsq : sq ≤ 9223372036854775807 := by omega
      have hq0 : (q == 0) = false := by simp; omega
      go_enter Try.func7, Try.ntmps7
      go_wp2_with (go_at_call 13; refine (awake_any _).mono ?_; rintro e w1 ⟨rfl, hbw1⟩; obtain ⟨hcw1, hfw1⟩ := bcell hbw1; (try simp only [World.size_drew, World.cell?_drew, World.frozen?_drew, World.heap_drewN, World.cell?_drewN, World.frozen?_drewN] at hcw1 hfw1); have hzw1 := hbw1.size; (try simp at hzw1); (try have hlw1 := (by omega : w.heap.size < w1.heap.size)); (try have hmw1 := (by omega : w.heap.size + 1 < w1.heap.size)); (try have hnw1 := (by omega : w.heap.size + 1 + 1 < w1.heap.size)))
      refine (keep_Choose' (r := ⟨0, q, 0⟩) (h.to (by repeat (first | exact Below.refl _ _ | assumption | refine Below.drew ?_ | refine below_drewN ?_ _ | refine Below.alloc ?_ (by first | omega | (simp; try omega)) _ | refine Below.setCell ?_ (by first | omega | (simp; try omega)) _ | (refine Below.trans ?_ (Below.mono (by assumption) (by first | omega | (simp; try omega))))))) h2 h3 hch.out).mono ?_
      rintro e w2 ⟨A1, c1, A2, c2, rfl, _, r1, r2, hbw2⟩
      obtain ⟨hcw2, hfw2⟩ := bcell hbw2; (try simp only [World.size_drew, World.cell?_drew, World.frozen?_drew, World.heap_drewN, World.cell?_drewN, World.frozen?_drewN] at hcw2 hfw2); have hzw2 := hbw2.size; (try simp at hzw2); (try have hlw2 := (by omega : w.heap.size < w2.heap.size)); (try have hmw2 := (by omega : w.heap.size + 1 < w2.heap.size)); (try have hnw2 := (by omega : w.heap.size + 1 + 1 < w2.heap.size))
      go_wp2_with fail
      refine (keep_Choose' (r := ⟨0, sq, 0⟩) (h.to (by repeat (first | exact Below.refl _ _ | assumption | refine Below.drew ?_ | refine below_drewN ?_ _ | refine Below.alloc ?_ (by first | omega | (simp; try omega)) _ | refine Below.setCell ?_ (by first | omega | (simp; try omega)) _ | (refine Below.trans ?_ (Below.mono (by assumption) (by first | omega | (simp; try omega))))))) hsq h3 hch2.out).mono ?_
      rintro e w3 ⟨A3, c3, A4, c4, rfl, _, r3, r4, hbw3⟩
      obtain ⟨hcw3, hfw3⟩ := bcell hbw3; (try simp only [World.size_drew, World.cell?_drew, World.frozen?_drew, World.heap_drewN, World.cell?_drewN, World.frozen?_drewN] at hcw3 hfw3); have hzw3 := hbw3.size; (try simp at hzw3); (try have hlw3 := (by omega : w.heap.size < w3.heap.size)); (try have hmw3 := (by omega : w.heap.size + 1 < w3.heap.size)); (try have hnw3 := (by omega : w.heap.size + 1 + 1 < w3.heap.size))
      go_wp2_with fail
      have hlw : w.heap.size < w2.heap.size := by omega
      have hlx : w2.heap.size < w3.heap.size := by omega
      have k1 : w3.cell? ⟨w.heap.size, 1, none⟩ = some (.int .i64 q) := by go_simp
      have k2 : w3.cell? ⟨w.heap.size, 2, none⟩ = some (.int .i64 0) := by go_simp
      have k3 : w3.cell? ⟨w2.heap.size, 1, none⟩ = some (.int .i64 sq) := by go_simp
      have r2' := r2.to (w' := w3) (by repeat (first | exact Below.refl _ _ | assumption | refine Below.drew ?_ | refine below_drewN ?_ _ | refine Below.alloc ?_ (by first | omega | (simp; try omega)) _ | refine Below.setCell ?_ (by first | omega | (simp; try omega)) _ | (refine Below.trans ?_ (Below.mono (by assumption) (by first | omega | (simp; try omega))))))
      have hbb : Below w.heap.size w w3 := (by repeat (first | exact Below.refl _ _ | assumption | refine Below.drew ?_ | refine below_drewN ?_ _ | refine Below.alloc ?_ (by first | omega | (simp; try omega)) _ | refine Below.setCell ?_ (by first | omega | (simp; try omega)) _ | (refine Below.trans ?_ (Below.mono (by assumption) (by first | omega | (simp; try omega))))))
      have ee := eqSnapE
      go_loopw [14] (fun vi wr => ∃ i : Nat, vi = .int .i64 i ∧ i ≤ G'.length ∧ Below w3.heap.size w3 wr) (fun vi _ => G'.length - (intOf vi).toNat)
      case atStart => exact ⟨0, rfl, Nat.zero_le _, Below.refl _ _⟩
      case round =>
        obtain ⟨wo, rfl⟩ : ∃ wo : World, wo = wr := ⟨_, rfl⟩
        obtain ⟨i, rfl, hi, hbr⟩ := hrel
        have hsr := hbr.size
        have m1 := (hbr.cell (p := ⟨w.heap.size, 1, none⟩) hlw3).trans k1
        have m2 := (hbr.cell (p := ⟨w.heap.size, 2, none⟩) hlw3).trans k2
        have m3 := (hbr.cell (p := ⟨w2.heap.size, 1, none⟩) hlx).trans k3
        by_cases hlt : i < G'.length
        · obtain ⟨t, ht⟩ := getElem_some hlt
          obtain ⟨b4, o4, rfl, hb4⟩ := (r4.to hbr).addr hlt
          replace ht := Lib.hid ht
          go_wp2_with fail
          go_loopw [15, 16] (fun vs vk ws => ∃ bb : Bool, ∃ k : Nat, vs = .bool bb ∧ vk = .int .i64 k ∧ k ≤ G.length ∧ Below wo.heap.size wo ws ∧ Hid ((bb || (G.drop k).any fun s => s.same t) = G.any fun s => s.same t)) (fun _ vk _ => G.length - (intOf vk).toNat)
          case atStart => exact ⟨false, 0, rfl, rfl, Nat.zero_le _, Below.refl _ _, rfl⟩
          case round =>
            obtain ⟨bb, k, rfl, rfl, hk, hbs, hr⟩ := hrel
            have hbt : Below w3.heap.size w3 wr := (by repeat (first | exact Below.refl _ _ | assumption | refine Below.drew ?_ | refine below_drewN ?_ _ | refine Below.alloc ?_ (by first | omega | (simp; try omega)) _ | refine Below.setCell ?_ (by first | omega | (simp; try omega)) _ | (refine Below.trans ?_ (Below.mono (by assumption) (by first | omega | (simp; try omega))))))
            have hss := hbs.size
            by_cases hlk : k < G.length
            · obtain ⟨u, hu⟩ := getElem_some hlk
              obtain ⟨b2, o2, rfl, hb2⟩ := (r2'.to hbt).addr hlk
              obtain ⟨p0, p1, p2⟩ := (r2'.to hbt).snapEx hu
              obtain ⟨q0, q1, q2⟩ := (r4.to hbt).snapEx ht.out
              have hd := Lib.hid (drop_cons hu)
              clear hu
              cases bb
              · go_wp2
                go_quiet (fail)
                go_wp2
                go_roundw
                case rel => exact ⟨u.same t, k + 1, rfl, by go_num, by omega, (by repeat (first | exact Below.refl _ _ | assumption | refine Below.drew ?_ | refine below_drewN ?_ _ | refine Below.alloc ?_ (by first | omega | (simp; try omega)) _ | refine Below.setCell ?_ (by first | omega | (simp; try omega)) _ | (refine Below.trans ?_ (Below.mono (by assumption) (by first | omega | (simp; try omega)))))), by rw [Hid, ← hr.out, hd.out]; simp⟩
                case measure => simp [intOf]; omega
              · go_wp2
                go_quiet (fail)
                go_wp2
                go_roundw
                case rel => exact ⟨true, k + 1, rfl, by go_num, by omega, (by repeat (first | exact Below.refl _ _ | assumption | refine Below.drew ?_ | refine below_drewN ?_ _ | refine Below.alloc ?_ (by first | omega | (simp; try omega)) _ | refine Below.setCell ?_ (by first | omega | (simp; try omega)) _ | (refine Below.trans ?_ (Below.mono (by assumption) (by first | omega | (simp; try omega)))))), by rw [Hid, ← hr.out]; simp⟩
                case measure => simp [intOf]; omega
            · have hbG : bb = G.any fun s => s.same t := by rw [← hr.out, List.drop_eq_nil_of_le (by omega)]; simp
              have n1 := (hbs.cell (p := ⟨w.heap.size, 1, none⟩) (by show w.heap.size < _; omega)).trans m1
              have n2 := (hbs.cell (p := ⟨w.heap.size, 2, none⟩) (by show w.heap.size < _; omega)).trans m2
              cases bb
              · have hbig : ¬ q ≤ 1073741824 := fun hq => by
                  have := hsub.out ⟨hq, by omega⟩ t (List.mem_of_getElem? ht.out)
                  rw [any_mem this] at hbG
                  cases hbG
                clear hbG
                first
                  | (exfalso; omega)
                  | (go_wp2
                     go_roundw
                     case rel => exact ⟨i + 1, by go_num, by omega, (by repeat (first | exact Below.refl _ _ | assumption | refine Below.drew ?_ | refine below_drewN ?_ _ | refine Below.alloc ?_ (by first | omega | (simp; try omega)) _ | refine Below.setCell ?_ (by first | omega | (simp; try omega)) _ | (refine Below.trans ?_ (Below.mono (by assumption) (by first | omega | (simp; try omega))))))⟩
                     case measure => simp [intOf]; omega)
              · clear hbG
                go_wp2
                go_roundw
                case rel => exact ⟨i + 1, by go_num, by omega, (by repeat (first | exact Below.refl _ _ | assumption | refine Below.drew ?_ | refine below_drewN ?_ _ | refine Below.alloc ?_ (by first | omega | (simp; try omega)) _ | refine Below.setCell ?_ (by first | omega | (simp; try omega)) _ | (refine Below.trans ?_ (Below.mono (by assumption) (by first | omega | (simp; try omega))))))⟩
                case measure => simp [intOf]; omega
        · have hfi : Hid ((K'.length : Int) = min (n : Int) sq) := hfin.out.resolve_left (by omega)
          by_cases hns : (n : Int) ≤ sq
          · have hf1 : ((K'.length : Int) == (n : Int)) = true := by simp; have := hfi.out; omega
            go_wp2_with fail
            go_ret
            exact ⟨rfl, (by repeat (first | exact Below.refl _ _ | assumption | refine Below.drew ?_ | refine below_drewN ?_ _ | refine Below.alloc ?_ (by first | omega | (simp; try omega)) _ | refine Below.setCell ?_ (by first | omega | (simp; try omega)) _ | (refine Below.trans ?_ (Below.mono (by assumption) (by first | omega | (simp; try omega))))))⟩
          · have hf1 : ((K'.length : Int) == sq) = true := by simp; have := hfi.out; omega
            first
              | (exfalso; omega)
              | (go_wp2_with fail
                 go_ret
                 exact ⟨rfl, (by repeat (first | exact Below.refl _ _ | assumption | refine Below.drew ?_ | refine below_drewN ?_ _ | refine Below.alloc ?_ (by first | omega | (simp; try omega)) _ | refine Below.setCell ?_ (by first | omega | (simp; try omega)) _ | (refine Below.trans ?_ (Below.mono (by assumption) (by first | omega | (simp; try omega))))))⟩)

  · have hcaseW : (∃ sd, d + y = sd ∧ d ≤ 1125899906842624 ∧ 0 < d ∧ ∃ K' G', Hid (choose l ⟨0, 0, sd⟩ = (K', G', 0)) ∧ Hid (K'.length + G'.length = n) ∧ Hid (((0 : Int) ≤ 1073741824 ∧ d ≤ 1125899906842624) → ∀ t ∈ G', t ∈ G) ∧ Hid ((0 : Int) = 0 ∨ Hid ((K'.length : Int) = min (n : Int) 0))) ∨
        (∃ sd, 1125899906842624 + y = sd ∧ 1125899906842624 < d ∧ 0 < d ∧ ∃ K' G', Hid (choose l ⟨0, 0, sd⟩ = (K', G', 0)) ∧ Hid (K'.length + G'.length = n) ∧ Hid (((0 : Int) ≤ 1073741824 ∧ d ≤ 1125899906842624) → ∀ t ∈ G', t ∈ G) ∧ Hid ((0 : Int) = 0 ∨ Hid ((K'.length : Int) = min (n : Int) 0))) := by
      by_cases hb : d ≤ 1125899906842624
      · exact .inl ⟨d + y, rfl, hb, hd0, hmod 0 (d + y) (by simp [mayRule]; omega) (by omega)⟩
      · exact .inr ⟨1125899906842624 + y, rfl, by omega, hd0, hmod 0 (1125899906842624 + y) (by simp [mayRule]; omega) (by omega)⟩
    replace hmod := Lib.hid hmod
    rcases hcaseW with ⟨sd, e, b1, b2, K', G', hch2, hlen2, hsub, hfin⟩ | ⟨sd, e, b1, b2, K', G', hch2, hlen2, hsub, hfin⟩
    all_goals
      have hlen3 : ((K'.length : Int) + (G'.length : Int) != (n : Int)) = false := by simp; have := hlen2.out; omega
      have hKn' : K'.length ≤ n := by have := hlen2.out; omega
      have hGn' : G'.length ≤ n := by have := hlen2.out; omega
      have hsd : sd ≤ 9223372036854775807 := by omega
      go_enter Try.func7, Try.ntmps7
      go_wp2_with (go_at_call 13; refine (awake_any _).mono ?_; rintro e w1 ⟨rfl, hbw1⟩; obtain ⟨hcw1, hfw1⟩ := bcell hbw1; (try simp only [World.size_drew, World.cell?_drew, World.frozen?_drew, World.heap_drewN, World.cell?_drewN, World.frozen?_drewN] at hcw1 hfw1); have hzw1 := hbw1.size; (try simp at hzw1); (try have hlw1 := (by omega : w.heap.size < w1.heap.size)); (try have hmw1 := (by omega : w.heap.size + 1 < w1.heap.size)); (try have hnw1 := (by omega : w.heap.size + 1 + 1 < w1.heap.size)))
      refine (keep_Choose' (r := ⟨0, 0, d⟩) (h.to (by repeat (first | exact Below.refl _ _ | assumption | refine Below.drew ?_ | refine below_drewN ?_ _ | refine Below.alloc ?_ (by first | omega | (simp; try omega)) _ | refine Below.setCell ?_ (by first | omega | (simp; try omega)) _ | (refine Below.trans ?_ (Below.mono (by assumption) (by first | omega | (simp; try omega))))))) (by simp) h3 hch.out).mono ?_
      rintro e w2 ⟨A1, c1, A2, c2, rfl, _, r1, r2, hbw2⟩
      obtain ⟨hcw2, hfw2⟩ := bcell hbw2; (try simp only [World.size_drew, World.cell?_drew, World.frozen?_drew, World.heap_drewN, World.cell?_drewN, World.frozen?_drewN] at hcw2 hfw2); have hzw2 := hbw2.size; (try simp at hzw2); (try have hlw2 := (by omega : w.heap.size < w2.heap.size)); (try have hmw2 := (by omega : w.heap.size + 1 < w2.heap.size)); (try have hnw2 := (by omega : w.heap.size + 1 + 1 < w2.heap.size))
      go_wp2_with fail
      refine (keep_Choose' (r := ⟨0, 0, sd⟩) (h.to (by repeat (first | exact Below.refl _ _ | assumption | refine Below.drew ?_ | refine below_drewN ?_ _ | refine Below.alloc ?_ (by first | omega | (simp; try omega)) _ | refine Below.setCell ?_ (by first | omega | (simp; try omega)) _ | (refine Below.trans ?_ (Below.mono (by assumption) (by first | omega | (simp; try omega))))))) (by simp) hsd hch2.out).mono ?_
      rintro e w3 ⟨A3, c3, A4, c4, rfl, _, r3, r4, hbw3⟩
      obtain ⟨hcw3, hfw3⟩ := bcell hbw3; (try simp only [World.size_drew, World.cell?_drew, World.frozen?_drew, World.heap_drewN, World.cell?_drewN, World.frozen?_drewN] at hcw3 hfw3); have hzw3 := hbw3.size; (try simp at hzw3); (try have hlw3 := (by omega : w.heap.size < w3.heap.size)); (try have hmw3 := (by omega : w.heap.size + 1 < w3.heap.size)); (try have hnw3 := (by omega : w.heap.size + 1 + 1 < w3.heap.size))
      go_wp2_with fail
      have hlw : w.heap.size < w2.heap.size := by omega
      have hlx : w2.heap.size < w3.heap.size := by omega
      have k1 : w3.cell? ⟨w.heap.size, 1, none⟩ = some (.int .i64 0) := by go_simp
      have k2 : w3.cell? ⟨w.heap.size, 2, none⟩ = some (.int .i64 d) := by go_simp
      have k3 : w3.cell? ⟨w2.heap.size, 1, none⟩ = some (.int .i64 0) := by go_simp
      have r2' := r2.to (w' := w3) (by repeat (first | exact Below.refl _ _ | assumption | refine Below.drew ?_ | refine below_drewN ?_ _ | refine Below.alloc ?_ (by first | omega | (simp; try omega)) _ | refine Below.setCell ?_ (by first | omega | (simp; try omega)) _ | (refine Below.trans ?_ (Below.mono (by assumption) (by first | omega | (simp; try omega))))))
      have hbb : Below w.heap.size w w3 := (by repeat (first | exact Below.refl _ _ | assumption | refine Below.drew ?_ | refine below_drewN ?_ _ | refine Below.alloc ?_ (by first | omega | (simp; try omega)) _ | refine Below.setCell ?_ (by first | omega | (simp; try omega)) _ | (refine Below.trans ?_ (Below.mono (by assumption) (by first | omega | (simp; try omega))))))
      have ee := eqSnapE
      go_loopw [14] (fun vi wr => ∃ i : Nat, vi = .int .i64 i ∧ i ≤ G'.length ∧ Below w3.heap.size w3 wr) (fun vi _ => G'.length - (intOf vi).toNat)
      case atStart => exact ⟨0, rfl, Nat.zero_le _, Below.refl _ _⟩
      case round =>
        obtain ⟨wo, rfl⟩ : ∃ wo : World, wo = wr := ⟨_, rfl⟩
        obtain ⟨i, rfl, hi, hbr⟩ := hrel
        have hsr := hbr.size
        have m1 := (hbr.cell (p := ⟨w.heap.size, 1, none⟩) hlw3).trans k1
        have m2 := (hbr.cell (p := ⟨w.heap.size, 2, none⟩) hlw3).trans k2
        have m3 := (hbr.cell (p := ⟨w2.heap.size, 1, none⟩) hlx).trans k3
        by_cases hlt : i < G'.length
        · obtain ⟨t, ht⟩ := getElem_some hlt
          obtain ⟨b4, o4, rfl, hb4⟩ := (r4.to hbr).addr hlt
          replace ht := Lib.hid ht
          go_wp2_with fail
          go_loopw [15, 16] (fun vs vk ws => ∃ bb : Bool, ∃ k : Nat, vs = .bool bb ∧ vk = .int .i64 k ∧ k ≤ G.length ∧ Below wo.heap.size wo ws ∧ Hid ((bb || (G.drop k).any fun s => s.same t) = G.any fun s => s.same t)) (fun _ vk _ => G.length - (intOf vk).toNat)
          case atStart => exact ⟨false, 0, rfl, rfl, Nat.zero_le _, Below.refl _ _, rfl⟩
          case round =>
            obtain ⟨bb, k, rfl, rfl, hk, hbs, hr⟩ := hrel
            have hbt : Below w3.heap.size w3 wr := (by repeat (first | exact Below.refl _ _ | assumption | refine Below.drew ?_ | refine below_drewN ?_ _ | refine Below.alloc ?_ (by first | omega | (simp; try omega)) _ | refine Below.setCell ?_ (by first | omega | (simp; try omega)) _ | (refine Below.trans ?_ (Below.mono (by assumption) (by first | omega | (simp; try omega))))))
            have hss := hbs.size
            by_cases hlk : k < G.length
            · obtain ⟨u, hu⟩ := getElem_some hlk
              obtain ⟨b2, o2, rfl, hb2⟩ := (r2'.to hbt).addr hlk
              obtain ⟨p0, p1, p2⟩ := (r2'.to hbt).snapEx hu
              obtain ⟨q0, q1, q2⟩ := (r4.to hbt).snapEx ht.out
              have hd := Lib.hid (drop_cons hu)
              clear hu
              cases bb
              · go_wp2
                go_quiet (fail)
                go_wp2
                go_roundw
                case rel => exact ⟨u.same t, k + 1, rfl, by go_num, by omega, (by repeat (first | exact Below.refl _ _ | assumption | refine Below.drew ?_ | refine below_drewN ?_ _ | refine Below.alloc ?_ (by first | omega | (simp; try omega)) _ | refine Below.setCell ?_ (by first | omega | (simp; try omega)) _ | (refine Below.trans ?_ (Below.mono (by assumption) (by first | omega | (simp; try omega)))))), by rw [Hid, ← hr.out, hd.out]; simp⟩
                case measure => simp [intOf]; omega
              · go_wp2
                go_quiet (fail)
                go_wp2
                go_roundw
                case rel => exact ⟨true, k + 1, rfl, by go_num, by omega, (by repeat (first | exact Below.refl _ _ | assumption | refine Below.drew ?_ | refine below_drewN ?_ _ | refine Below.alloc ?_ (by first | omega | (simp; try omega)) _ | refine Below.setCell ?_ (by first | omega | (simp; try omega)) _ | (refine Below.trans ?_ (Below.mono (by assumption) (by first | omega | (simp; try omega)))))), by rw [Hid, ← hr.out]; simp⟩
                case measure => simp [intOf]; omega
            · have hbG : bb = G.any fun s => s.same t := by rw [← hr.out, List.drop_eq_nil_of_le (by omega)]; simp
              have n1 := (hbs.cell (p := ⟨w.heap.size, 1, none⟩) (by show w.heap.size < _; omega)).trans m1
              have n2 := (hbs.cell (p := ⟨w.heap.size, 2, none⟩) (by show w.heap.size < _; omega)).trans m2
              cases bb
              · have hbig : ¬ d ≤ 1125899906842624 := fun hq => by
                  have := hsub.out ⟨by decide, hq⟩ t (List.mem_of_getElem? ht.out)
                  rw [any_mem this] at hbG
                  cases hbG
                clear hbG
                first
                  | (exfalso; omega)
                  | (go_wp2
                     go_roundw
                     case rel => exact ⟨i + 1, by go_num, by omega, (by repeat (first | exact Below.refl _ _ | assumption | refine Below.drew ?_ | refine below_drewN ?_ _ | refine Below.alloc ?_ (by first | omega | (simp; try omega)) _ | refine Below.setCell ?_ (by first | omega | (simp; try omega)) _ | (refine Below.trans ?_ (Below.mono (by assumption) (by first | omega | (simp; try omega))))))⟩
                     case measure => simp [intOf]; omega)
              · clear hbG
                go_wp2
                go_roundw
                case rel => exact ⟨i + 1, by go_num, by omega, (by repeat (first | exact Below.refl _ _ | assumption | refine Below.drew ?_ | refine below_drewN ?_ _ | refine Below.alloc ?_ (by first | omega | (simp; try omega)) _ | refine Below.setCell ?_ (by first | omega | (simp; try omega)) _ | (refine Below.trans ?_ (Below.mono (by assumption) (by first | omega | (simp; try omega))))))⟩
                case measure => simp [intOf]; omega
        · go_wp2_with fail
          go_ret
          exact ⟨rfl, (by repeat (first | exact Below.refl _ _ | assumption | refine Below.drew ?_ | refine below_drewN ?_ _ | refine Below.alloc ?_ (by first | omega | (simp; try omega)) _ | refine Below.setCell ?_ (by first | omega | (simp; try omega)) _ | (refine Below.trans ?_ (Below.mono (by assumption) (by first | omega | (simp; try omega))))))⟩


set_option maxHeartbeats 1000000 in
set_option maxRecDepth 100000 in
theorem keepMore_walk (A : Option Addr) (n c : Nat) (l : List Snap) (r : Rule) (more : Int) (w : World) (h : SnapsAt w w.heap.size A n l) (h2 : r.last ≤ 9223372036854775807) (h3 : r.within ≤ 9223372036854775807)
    (hm1 : -9223372036854775808 ≤ more) (hm2 : more ≤ 9223372036854775807) :
    Calls Try.prog 7 #[.slice A n c, r.agg, .int .i64 more] w fun e w' => e = .returned (.bool true) ∧ Below w.heap.size w w' := by
  obtain ⟨p, q, d⟩ := r
  unfold Rule.agg
  simp only at h2 h3
  by_cases h1 : 60 < n
  · go_enter Try.func7, Try.ntmps7
    go_wp2_with (go_at_call 13; refine (awake_any _).mono ?_; rintro e w1 ⟨rfl, hbw1⟩; obtain ⟨hcw1, hfw1⟩ := bcell hbw1; (try simp only [World.size_drew, World.cell?_drew, World.frozen?_drew, World.heap_drewN, World.cell?_drewN, World.frozen?_drewN] at hcw1 hfw1); have hzw1 := hbw1.size; (try simp at hzw1); (try have hlw1 := (by omega : w.heap.size < w1.heap.size)); (try have hmw1 := (by omega : w.heap.size + 1 < w1.heap.size)); (try have hnw1 := (by omega : w.heap.size + 1 + 1 < w1.heap.size)))
    go_ret
    exact ⟨rfl, (by repeat (first | exact Below.refl _ _ | assumption | refine Below.drew ?_ | refine below_drewN ?_ _ | refine Below.alloc ?_ (by first | omega | (simp; try omega)) _ | refine Below.setCell ?_ (by first | omega | (simp; try omega)) _ | (refine Below.trans ?_ (Below.mono (by assumption) (by first | omega | (simp; try omega))))))⟩
  · obtain ⟨K, G, z, hch⟩ : ∃ K G z, choose l ⟨p, q, d⟩ = (K, G, z) := ⟨_, _, _, rfl⟩
    have hn := h.2.1
    by_cases hz : z = 0
    · subst hz
      obtain ⟨hm, hmr, hK, hG, hany⟩ := choose_ok hch
      by_cases hp : p = 0
      · subst hp
        exact keepMore_tail A n c l q d more w h (by omega) h2 h3 hm hmr hm1 hm2
      · have hpos : 0 < p := by simp [mayRule] at hmr; omega
        rw [gone_id (by exact hpos)] at hG
        have hri : rising 0 l = true := by simp [mayL] at hm; exact hm.1
        obtain ⟨t, ht, htp⟩ := one_id hri (hany hpos)
        rw [ht] at hG
        subst hG
        replace hch := Lib.hid hch
        replace hK := Lib.hid hK
        have hp1 : (p != 0) = true := by simpa using hp
        clear hmr hany ht
        go_enter Try.func7, Try.ntmps7
        go_wp2_with (go_at_call 13; refine (awake_any _).mono ?_; rintro e w1 ⟨rfl, hbw1⟩; obtain ⟨hcw1, hfw1⟩ := bcell hbw1; (try simp only [World.size_drew, World.cell?_drew, World.frozen?_drew, World.heap_drewN, World.cell?_drewN, World.frozen?_drewN] at hcw1 hfw1); have hzw1 := hbw1.size; (try simp at hzw1); (try have hlw1 := (by omega : w.heap.size < w1.heap.size)); (try have hmw1 := (by omega : w.heap.size + 1 < w1.heap.size)); (try have hnw1 := (by omega : w.heap.size + 1 + 1 < w1.heap.size)))
        refine (keep_Choose' (r := ⟨p, q, d⟩) (h.to (by repeat (first | exact Below.refl _ _ | assumption | refine Below.drew ?_ | refine below_drewN ?_ _ | refine Below.alloc ?_ (by first | omega | (simp; try omega)) _ | refine Below.setCell ?_ (by first | omega | (simp; try omega)) _ | (refine Below.trans ?_ (Below.mono (by assumption) (by first | omega | (simp; try omega))))))) h2 h3 hch.out).mono ?_
        rintro e w2 ⟨A1, c1, A2, c2, rfl, _, r1, r2, hbw2⟩
        obtain ⟨hcw2, hfw2⟩ := bcell hbw2; (try simp only [World.size_drew, World.cell?_drew, World.frozen?_drew, World.heap_drewN, World.cell?_drewN, World.frozen?_drewN] at hcw2 hfw2); have hzw2 := hbw2.size; (try simp at hzw2); (try have hlw2 := (by omega : w.heap.size < w2.heap.size)); (try have hmw2 := (by omega : w.heap.size + 1 < w2.heap.size)); (try have hnw2 := (by omega : w.heap.size + 1 + 1 < w2.heap.size))
        obtain ⟨g, o, rfl, hgl, x0, _⟩ := r2.first
        rw [htp] at x0
        go_wp2
        go_quiet (fail)
        go_wp2
        go_ret
        exact ⟨ret_bool (by simp), (by repeat (first | exact Below.refl _ _ | assumption | refine Below.drew ?_ | refine below_drewN ?_ _ | refine Below.alloc ?_ (by first | omega | (simp; try omega)) _ | refine Below.setCell ?_ (by first | omega | (simp; try omega)) _ | (refine Below.trans ?_ (Below.mono (by assumption) (by first | omega | (simp; try omega))))))⟩
    · obtain ⟨rfl, rfl, _⟩ := choose_bad hch hz
      have hz1 : (z != 0) = true := by simpa using hz
      replace hch := Lib.hid hch
      go_enter Try.func7, Try.ntmps7
      go_wp2_with (go_at_call 13; refine (awake_any _).mono ?_; rintro e w1 ⟨rfl, hbw1⟩; obtain ⟨hcw1, hfw1⟩ := bcell hbw1; (try simp only [World.size_drew, World.cell?_drew, World.frozen?_drew, World.heap_drewN, World.cell?_drewN, World.frozen?_drewN] at hcw1 hfw1); have hzw1 := hbw1.size; (try simp at hzw1); (try have hlw1 := (by omega : w.heap.size < w1.heap.size)); (try have hmw1 := (by omega : w.heap.size + 1 < w1.heap.size)); (try have hnw1 := (by omega : w.heap.size + 1 + 1 < w1.heap.size)))
      refine (keep_Choose' (r := ⟨p, q, d⟩) (h.to (by repeat (first | exact Below.refl _ _ | assumption | refine Below.drew ?_ | refine below_drewN ?_ _ | refine Below.alloc ?_ (by first | omega | (simp; try omega)) _ | refine Below.setCell ?_ (by first | omega | (simp; try omega)) _ | (refine Below.trans ?_ (Below.mono (by assumption) (by first | omega | (simp; try omega))))))) h2 h3 hch.out).mono ?_
      rintro e w2 ⟨A1, c1, A2, c2, rfl, _, r1, r2, hbw2⟩
      obtain ⟨hcw2, hfw2⟩ := bcell hbw2; (try simp only [World.size_drew, World.cell?_drew, World.frozen?_drew, World.heap_drewN, World.cell?_drewN, World.frozen?_drewN] at hcw2 hfw2); have hzw2 := hbw2.size; (try simp at hzw2); (try have hlw2 := (by omega : w.heap.size < w2.heap.size)); (try have hmw2 := (by omega : w.heap.size + 1 < w2.heap.size)); (try have hnw2 := (by omega : w.heap.size + 1 + 1 < w2.heap.size))
      go_wp2
      go_ret
      exact ⟨rfl, (by repeat (first | exact Below.refl _ _ | assumption | refine Below.drew ?_ | refine below_drewN ?_ _ | refine Below.alloc ?_ (by first | omega | (simp; try omega)) _ | refine Below.setCell ?_ (by first | omega | (simp; try omega)) _ | (refine Below.trans ?_ (Below.mono (by assumption) (by first | omega | (simp; try omega))))))⟩

set_option maxRecDepth 100000 in
theorem keepMore_lifted (os : Os) (started : os.Started) (H : Type) (enc : TypeId × Value → H) :
    ReturnsInHanded {} Try.checked os 7 .any (Rows.keepMoreSpec.pre6 enc Try.prog Try.f7 Rows.keepMoreRow.domain false) (Rows.keepMoreSpec.post enc Try.prog Try.f7 false true false false) := by
  refine law_lifted started (by kernel_rfl) Try.func7 rfl rfl ?_ (by kernel_rfl)
    (ChangeSpec.witness6 (enc := enc) (C := Try.checked) false ⟨#[], #[.slice none 0 0, .agg #[.int .i64 0, .int .i64 0, .int .i64 0], .int .i64 0], []⟩ 8 (by kernel_rfl) (by kernel_rfl) (by kernel_rfl) (by kernel_rfl)) ?_
  · intro ds hd
    match ds, hd with
    | [d1, d2, d3], _ => exact ⟨rfl, rfl, rfl⟩
  · intro W base args ds ps hval hA hlt
    rw [Try.params7] at hA hval
    obtain ⟨v0, v1, v2, d0, d1, d2, p0, p1, p2, rfl, rfl, rfl, h0, h1, h2⟩ := trodAll_three hA
    obtain ⟨A, n, c, l, rfl, hl, _⟩ := open_snaps (hval 0 22 v0 rfl rfl) h0
    obtain ⟨r, rfl, hr⟩ := open_rule (hval 1 25 v1 rfl rfl) h1
    obtain ⟨x, rfl, rfl, rfl, wx⟩ := open_int Try.underlying3 (hval 2 3 v2 rfl rfl) h2
    have hx := wf_i64 wx
    exact keepMore_walk A n c l r x W hl hr.2.1.2 hr.2.2.2 hx.1 hx.2

theorem keepMore_holds : Rows.KeepMoreSaid :=
  OpenClaim.holds_of_wide 7 Try.f7 rfl rfl rfl rfl rfl rfl rfl ⟨rfl, rfl, rfl, rfl, rfl⟩ rfl rfl rfl rfl rfl (by kernel_rfl) Try.func7 (by kernel_rfl)
    (of_decide_eq_true (by kernel_rfl)) (by unfold Func.isWrapper; rw [if_neg (of_decide_eq_false (by kernel_rfl))]; exact ⟨rfl, rfl⟩)
    (fun os started H enc _ => keepMore_lifted os started H enc)
#print axioms keepMore_holds
end Go.Proofs.Ytgopkjgkjjllfaa
