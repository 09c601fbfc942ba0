/-
  KeepEach: its three cases joined, and the claim.
-/
import Derived.Test.YtgopkjgkjjllfaaKeepEach
namespace Go.Proofs.Ytgopkjgkjjllfaa
open Go.ChangeShapes Go.WideShapes Go.ChangeAt Go.RowKit

set_option maxHeartbeats 2000000 in
set_option maxRecDepth 100000 in
theorem keepEach_walk (A : Option Addr) (n c : Nat) (l : List Snap) (r : Rule) (w : World) (h : SnapsAt w w.heap.size A n l) (h2 : r.last ≤ 9223372036854775807) (h3 : r.within ≤ 9223372036854775807) :
    Calls Try.prog 6 #[.slice A n c, r.agg] w fun e w' => e = .returned (.bool true) ∧ Below w.heap.size w w' := by
  obtain ⟨p, q, d⟩ := r
  unfold Rule.agg
  simp only at h2 h3
  by_cases h1 : 100 < n
  · go_enter Try.func6, Try.ntmps6
    go_wp2_with (go_at_call 13; refine (awake_any _).mono ?_; rintro e w1 ⟨rfl, hbw1⟩; obtain ⟨hcw1, hfw1⟩ := bcell hbw1; (try simp only [World.size_drew, World.cell?_drew, World.frozen?_drew, World.heap_drewN, World.cell?_drewN, World.frozen?_drewN] at hcw1 hfw1); have hzw1 := hbw1.size; (try simp at hzw1); (try have hlw1 := (by omega : w.heap.size < w1.heap.size)); (try have hmw1 := (by omega : w.heap.size + 1 < w1.heap.size)); (try have hnw1 := (by omega : w.heap.size + 1 + 1 < w1.heap.size)))
    go_ret
    exact ⟨rfl, (by repeat (first | exact Below.refl _ _ | assumption | refine Below.drew ?_ | refine below_drewN ?_ _ | refine Below.alloc ?_ (by first | omega | (simp; try omega)) _ | refine Below.setCell ?_ (by first | omega | (simp; try omega)) _ | (refine Below.trans ?_ (Below.mono (by assumption) (by first | omega | (simp; try omega))))))⟩
  · obtain ⟨K, G, z, hch⟩ : ∃ K G z, choose l ⟨p, q, d⟩ = (K, G, z) := ⟨_, _, _, rfl⟩
    have hl := Lib.hid h.1
    by_cases hz : z = 0
    · subst hz
      obtain ⟨hm, hmr, hK, hG, hany⟩ := choose_ok hch
      have hri : rising 0 l = true := by simp [mayL] at hm; exact hm.1
      have hl32 := mayL_len hm
      have hlen := parts_len (goesB l ⟨p, q, d⟩) l 0
      rw [← hK, ← hG] at hlen
      have hlK : K.length ≤ 32 := by omega
      have hlG : G.length ≤ 32 := by omega
      by_cases hp : 0 < p
      · have hq : q = 0 := by simp [mayRule] at hmr; omega
        have hd : d = 0 := by simp [mayRule] at hmr; omega
        subst hq hd
        obtain ⟨t, ht, htp⟩ := one_id hri (hany hp)
        have hGt : G = [t] := by rw [hG, gone_id (by exact hp), ht]
        exact keepEach_id A n c l w h h1 K G _ hl hri hK hG hlK hlG p t hGt htp hp hch
      · have hp0 : p = 0 := by simp [mayRule] at hmr; omega
        subst hp0
        by_cases hq : 0 < q
        · have hd : d = 0 := by simp [mayRule] at hmr; omega
          subst hd
          exact keepEach_last A n c l w h h1 K G _ hl hri (mayL_time hm) hK hG hlK hlG q hq h2 hch
            (fun hne => by obtain ⟨a1, a2, a3⟩ := each_last hm hq hne; rw [← hK] at a1 a2 a3; exact ⟨⟨a1, a2⟩, a3⟩)
        · have hq0 : q = 0 := by simp [mayRule] at hmr; omega
          have hd : 0 < d := by simp [mayRule] at hmr; omega
          subst hq0
          exact keepEach_within A n c l w h h1 K G _ hl hri (mayL_time hm) hK hG hlK hlG d hd h3 hch
            (fun hne => by obtain ⟨a1, a3⟩ := each_within hm hd hne; rw [← hK] at a1 a3; exact ⟨a1, a3⟩)
    · obtain ⟨rfl, rfl, hz4⟩ := choose_bad hch hz
      have hz1 : (z != 0) = true := by simpa using hz
      replace hch := Lib.hid hch
      replace hz := Lib.hid hz
      go_enter Try.func6, Try.ntmps6
      go_wp2_with (go_at_call 13; refine (awake_any _).mono ?_; rintro e w1 ⟨rfl, hbw1⟩; obtain ⟨hcw1, hfw1⟩ := bcell hbw1; (try simp only [World.size_drew, World.cell?_drew, World.frozen?_drew, World.heap_drewN, World.cell?_drewN, World.frozen?_drewN] at hcw1 hfw1); have hzw1 := hbw1.size; (try simp at hzw1); (try have hlw1 := (by omega : w.heap.size < w1.heap.size)); (try have hmw1 := (by omega : w.heap.size + 1 < w1.heap.size)); (try have hnw1 := (by omega : w.heap.size + 1 + 1 < w1.heap.size)))
      refine (keep_Choose' (r := ⟨p, q, d⟩) (h.to (by repeat (first | exact Below.refl _ _ | assumption | refine Below.drew ?_ | refine below_drewN ?_ _ | refine Below.alloc ?_ (by first | omega | (simp; try omega)) _ | refine Below.setCell ?_ (by first | omega | (simp; try omega)) _ | (refine Below.trans ?_ (Below.mono (by assumption) (by first | omega | (simp; try omega))))))) h2 h3 hch.out).mono ?_
      rintro e w2 ⟨A1, c1, A2, c2, rfl, _, r1, r2, hbw2⟩
      obtain ⟨hcw2, hfw2⟩ := bcell hbw2; (try simp only [World.size_drew, World.cell?_drew, World.frozen?_drew, World.heap_drewN, World.cell?_drewN, World.frozen?_drewN] at hcw2 hfw2); have hzw2 := hbw2.size; (try simp at hzw2); (try have hlw2 := (by omega : w.heap.size < w2.heap.size)); (try have hmw2 := (by omega : w.heap.size + 1 < w2.heap.size)); (try have hnw2 := (by omega : w.heap.size + 1 + 1 < w2.heap.size))
      go_wp2_with (go_at_call 21; refine (snap_May A n c l _ (h.to (by repeat (first | exact Below.refl _ _ | assumption | refine Below.drew ?_ | refine below_drewN ?_ _ | refine Below.alloc ?_ (by first | omega | (simp; try omega)) _ | refine Below.setCell ?_ (by first | omega | (simp; try omega)) _ | (refine Below.trans ?_ (Below.mono (by assumption) (by first | omega | (simp; try omega)))))))).mono ?_; rintro e w3 ⟨rfl, hbw3⟩; obtain ⟨hcw3, hfw3⟩ := bcell hbw3; (try simp only [World.size_drew, World.cell?_drew, World.frozen?_drew, World.heap_drewN, World.cell?_drewN, World.frozen?_drewN] at hcw3 hfw3); have hzw3 := hbw3.size; (try simp at hzw3); (try have hlw3 := (by omega : w.heap.size < w3.heap.size)); (try have hmw3 := (by omega : w.heap.size + 1 < w3.heap.size)); (try have hnw3 := (by omega : w.heap.size + 1 + 1 < w3.heap.size)))
      go_ret
      exact ⟨rfl, (by repeat (first | exact Below.refl _ _ | assumption | refine Below.drew ?_ | refine below_drewN ?_ _ | refine Below.alloc ?_ (by first | omega | (simp; try omega)) _ | refine Below.setCell ?_ (by first | omega | (simp; try omega)) _ | (refine Below.trans ?_ (Below.mono (by assumption) (by first | omega | (simp; try omega))))))⟩

set_option maxRecDepth 100000 in
theorem keepEach_lifted (os : Os) (started : os.Started) (H : Type) (enc : TypeId × Value → H) :
    ReturnsInHanded {} Try.checked os 6 .any (Rows.keepEachSpec.pre6 enc Try.prog Try.f6 Rows.keepEachRow.domain false) (Rows.keepEachSpec.post enc Try.prog Try.f6 false true false false) := by
  refine law_lifted started (by kernel_rfl) Try.func6 rfl rfl ?_ (by kernel_rfl)
    (ChangeSpec.witness6 (enc := enc) (C := Try.checked) false ⟨#[], #[.slice none 0 0, .agg #[.int .i64 0, .int .i64 0, .int .i64 0]], []⟩ 8 (by kernel_rfl) (by kernel_rfl) (by kernel_rfl) (by kernel_rfl)) ?_
  · intro ds hd
    match ds, hd with
    | [d1, d2], _ => exact ⟨rfl, rfl, rfl⟩
  · intro W base args ds ps hval hA hlt
    rw [Try.params6] at hA hval
    obtain ⟨v0, v1, d0, d1, p0, p1, rfl, rfl, rfl, h0, h1⟩ := trodAll_two hA
    obtain ⟨A, n, c, l, rfl, hl, _⟩ := open_snaps (hval 0 22 v0 rfl rfl) h0
    obtain ⟨r, rfl, hr⟩ := open_rule (hval 1 25 v1 rfl rfl) h1
    exact keepEach_walk A n c l r W hl hr.2.1.2 hr.2.2.2

theorem keepEach_holds : Rows.KeepEachSaid :=
  OpenClaim.holds_of_wide 6 Try.f6 rfl rfl rfl rfl rfl rfl rfl ⟨rfl, rfl, rfl, rfl, rfl⟩ rfl rfl rfl rfl rfl (by kernel_rfl) Try.func6 (by kernel_rfl)
    (of_decide_eq_true (by kernel_rfl)) (by unfold Func.isWrapper; rw [if_neg (of_decide_eq_false (by kernel_rfl))]; exact ⟨rfl, rfl⟩)
    (fun os started H enc _ => keepEach_lifted os started H enc)
#print axioms keepEach_holds
end Go.Proofs.Ytgopkjgkjjllfaa
