/-
  KeepNames returns true: the examples, and what is no rule. (Closed.)
-/
import Derived.Test.YtgopkjgkjjllfaaKeepLaw
namespace Go.Proofs.Ytgopkjgkjjllfaa
open Go.ChangeShapes Go.WideShapes Go.ChangeAt Go.RowKit

def Rule.cells (r : Rule) : List Value := [.int .i64 r.id, .int .i64 r.last, .int .i64 r.within]
def badRules : List Rule := [⟨0, 0, 0⟩, ⟨-1, 0, 0⟩, ⟨0, -1, 0⟩, ⟨0, 0, -1⟩, ⟨1, 1, 0⟩, ⟨0, 1, 1⟩, ⟨1, 0, -1⟩]

theorem rowAt_new {α : Type} {k : Nat} {enc : α → List Value} (hk : ∀ x, (enc x).length = k) (w : World) (T : TypeId) (l : List α) (hl : l.length ≤ 9223372036854775807) :
    RowAt k enc (w.alloc (.cells (l.flatMap enc).toArray T)) (w.heap.size + 1) (some ⟨w.heap.size, 0, none⟩) l.length l := by
  refine ⟨rfl, hl, fun _ => ⟨_, _, rfl, by omega, fun i x hx j v hv => ?_⟩⟩
  rw [cell_of_row _ _ _ _ T (0, 0) (heap_alloc_new w _)]
  have := flat_at hk l i x hx j v hv
  simpa [Nat.add_assoc] using this

theorem RowAt.rule {w : World} {B n b off : Nat} {l : List Rule} (h : RowAt 3 Rule.cells w B (some ⟨b, off, none⟩) n l) {i : Nat} (hi : i < n) :
    ∃ r, l[i]? = some r ∧ b < B ∧ w.cell? ⟨b, off + i * 3, none⟩ = some (.int .i64 r.id) ∧ w.cell? ⟨b, off + i * 3 + 1, none⟩ = some (.int .i64 r.last) ∧ w.cell? ⟨b, off + i * 3 + 2, none⟩ = some (.int .i64 r.within) := by
  obtain ⟨hl, _, hc⟩ := h
  obtain ⟨b', off', e, hb, hc⟩ := hc (by omega)
  simp only [Option.some.injEq, Addr.mk.injEq] at e
  obtain ⟨rfl, rfl, _⟩ := e
  have hx : l[i]? = some (l[i]'(by omega)) := List.getElem?_eq_getElem (by omega)
  exact ⟨_, hx, hb, hc i _ hx 0 _ rfl, hc i _ hx 1 _ rfl, hc i _ hx 2 _ rfl⟩

theorem bad_choose {r : Rule} (h : r ∈ badRules) : choose threeL r = ([], [], 1) ∧ mayRule r = false ∧ r.last ≤ 9223372036854775807 ∧ r.within ≤ 9223372036854775807 := by
  simp [badRules] at h
  rcases h with rfl | rfl | rfl | rfl | rfl | rfl | rfl <;> decide +kernel

theorem names_a : choose threeL ⟨4, 0, 0⟩ = ([], [], 5) := by decide +kernel
theorem names_b : choose [] ⟨0, 1, 0⟩ = ([], [], 0) := by decide +kernel
theorem names_c : choose threeL ⟨0, 99, 0⟩ = (threeL, [], 0) := by decide +kernel
theorem names_d : choose threeL ⟨0, 0, 1⟩ = ([⟨2, 9, zroot⟩], [⟨1, 5, zroot⟩, ⟨3, 7, zroot⟩], 0) := by decide +kernel

set_option maxHeartbeats 1000000 in
theorem keepNames_walk (w : World) : Calls Try.prog 5 #[] w fun e w' => e = .returned (.bool true) ∧ Below w.heap.size w w' := by
  go_enter Try.func5, Try.ntmps5
  go_wp2
  go_loopw [27] (fun i wr => ∃ k : Nat, k ≤ 7 ∧ i = .int .i64 k ∧ Below w.heap.size w wr ∧ w.heap.size + 1 ≤ wr.heap.size ∧ RowAt 3 Rule.cells wr (w.heap.size + 1) (some ⟨w.heap.size, 0, none⟩) 7 badRules) (fun i _ => 7 - (intOf i).toNat)
  case atStart => exact ⟨0, by omega, rfl, (by repeat (first | exact Below.refl _ _ | assumption | refine Below.drew ?_ | refine below_drewN ?_ _ | refine Below.alloc ?_ (by first | omega | (simp; try omega)) _ | refine Below.setCell ?_ (by first | omega | (simp; try omega)) _ | (refine Below.trans ?_ (Below.mono (by assumption) (by first | omega | (simp; try omega)))))), (by first | omega | (simp; try omega)), rowAt_new (enc := Rule.cells) (fun _ => rfl) w _ badRules (by decide)⟩
  case round =>
    obtain ⟨k, hk, rfl, hbw, hs, hrow⟩ := hrel
    by_cases hlt : k < 7
    · obtain ⟨r, hx, hb1, q0, q1, q2⟩ := hrow.rule hlt
      simp only [Nat.zero_add] at q0 q1 q2
      obtain ⟨hch, hmr, hr2, hr3⟩ := bad_choose (List.mem_of_getElem? hx)
      clear hx
      replace hch := Lib.hid hch
      obtain ⟨a, b, d⟩ := r
      simp only at q0 q1 q2 hr2 hr3
      go_wp2_with fail
      go_region_held3 (fun w' => w'.cell? ⟨wr.heap.size, 0, none⟩ = some (.int .i64 a) ∧ w'.cell? ⟨wr.heap.size, 1, none⟩ = some (.int .i64 b) ∧ w'.cell? ⟨wr.heap.size, 2, none⟩ = some (.int .i64 d) ∧ wr.heap.size < w'.heap.size ∧ Below wr.heap.size wr w') (((try dsimp only); (repeat' apply And.intro); all_goals (first | (go_simp; done) | omega | exact (by repeat (first | exact Below.refl _ _ | assumption | refine Below.drew ?_ | refine below_drewN ?_ _ | refine Below.alloc ?_ (by first | omega | (simp; try omega)) _ | refine Below.setCell ?_ (by first | omega | (simp; try omega)) _ | (refine Below.trans ?_ (Below.mono (by assumption) (by first | omega | (simp; try omega)))))))))
        (first
          | (go_at_call 20; refine (three_any _).mono ?_; rintro e w2 ⟨A, n, c, rfl, h3, hbw2⟩; obtain ⟨hcw2, hfw2⟩ := bcell hbw2; have hzw2 := hbw2.size; (try simp at hzw2); (try have hlw2 := (by omega : w.heap.size < w2.heap.size)); (try have hmw2 := (by omega : w.heap.size + 1 < w2.heap.size)); (try have hnw2 := (by omega : w.heap.size + 1 + 1 < w2.heap.size)))
          | (go_at_call 14; refine (keep_Choose' (r := ⟨a, b, d⟩) h3 hr2 hr3 hch.out).mono ?_; rintro e w3 ⟨A1, c1, A2, c2, rfl, _, _, _, hbw3⟩; obtain ⟨hcw3, hfw3⟩ := bcell hbw3; have hzw3 := hbw3.size; (try simp at hzw3); (try have hlw3 := (by omega : w.heap.size < w3.heap.size)); (try have hmw3 := (by omega : w.heap.size + 1 < w3.heap.size)); (try have hnw3 := (by omega : w.heap.size + 1 + 1 < w3.heap.size))))
      rename_i hH
      obtain ⟨k0, k1, k2, k3, k4⟩ := hH
      go_wp2_with (go_at_call 18; refine (keep_May ⟨a, b, d⟩ _).mono ?_; rintro e w4 ⟨rfl, hbw4⟩; obtain ⟨hcw4, hfw4⟩ := bcell hbw4; have hzw4 := hbw4.size; (try simp at hzw4); (try have hlw4 := (by omega : w.heap.size < w4.heap.size)); (try have hmw4 := (by omega : w.heap.size + 1 < w4.heap.size)); (try have hnw4 := (by omega : w.heap.size + 1 + 1 < w4.heap.size)))
      go_roundw
      case rel => exact ⟨k + 1, by omega, by go_num, (by repeat (first | exact Below.refl _ _ | assumption | refine Below.drew ?_ | refine below_drewN ?_ _ | refine Below.alloc ?_ (by first | omega | (simp; try omega)) _ | refine Below.setCell ?_ (by first | omega | (simp; try omega)) _ | (refine Below.trans ?_ (Below.mono (by assumption) (by first | omega | (simp; try omega)))))), by omega, hrow.below (by have : Below (w.heap.size + 1) wr w4 := (by repeat (first | exact Below.refl _ _ | assumption | refine Below.drew ?_ | refine below_drewN ?_ _ | refine Below.alloc ?_ (by first | omega | (simp; try omega)) _ | refine Below.setCell ?_ (by first | omega | (simp; try omega)) _ | (refine Below.trans ?_ (Below.mono (by assumption) (by first | omega | (simp; try omega)))))); exact this)⟩
      case measure => simp [intOf]; omega
    · have hlw : w.heap.size < wr.heap.size := by omega
      go_wp2_with fail
      refine (three_any _).mono ?_
      rintro e w1 ⟨A, n, c, rfl, h1, hb1⟩
      go_wp2_with fail
      refine (keep_Choose' (r := ⟨4, 0, 0⟩) h1 (by decide) (by decide) names_a).mono ?_
      rintro e w2 ⟨A1, c1, A2, c2, rfl, _, _, _, hb2⟩
      go_wp2_with fail
      refine (keep_Choose' (l := []) (r := ⟨0, 1, 0⟩) RowAt.none_ (by decide) (by decide) names_b).mono ?_
      rintro e w3 ⟨A3, c3, A4, c4, rfl, _, _, _, hb3⟩
      go_wp2_with fail
      refine (three_any _).mono ?_
      rintro e w4 ⟨A, n, c, rfl, h4, hb4⟩
      go_wp2_with fail
      refine (keep_Choose' (r := ⟨0, 99, 0⟩) h4 (by decide) (by decide) names_c).mono ?_
      rintro e w5 ⟨A5, c5, A6, c6, rfl, _, _, _, hb5⟩
      go_wp2_with fail
      refine (three_any _).mono ?_
      rintro e w6 ⟨A, n, c, rfl, h6, hb6⟩
      go_wp2_with fail
      refine (keep_Choose' (r := ⟨0, 0, 1⟩) h6 (by decide) (by decide) names_d).mono ?_
      rintro e w7 ⟨A7, c7, A8, c8, rfl, _, r7, _, hb7⟩
      obtain ⟨g1, o1, rfl, hl1, p1, _⟩ := r7.first
      have z1 := hb1.size; have z2 := hb2.size; have z3 := hb3.size; have z4 := hb4.size; have z5 := hb5.size; have z6 := hb6.size; have z7 := hb7.size
      have hbb : Below w.heap.size w w7 := (by repeat (first | exact Below.refl _ _ | assumption | refine Below.drew ?_ | refine below_drewN ?_ _ | refine Below.alloc ?_ (by first | omega | (simp; try omega)) _ | refine Below.setCell ?_ (by first | omega | (simp; try omega)) _ | (refine Below.trans ?_ (Below.mono (by assumption) (by first | omega | (simp; try omega))))))
      go_wp2_with (go_at_call 13; refine (awake_any _).mono ?_; rintro e w8 ⟨rfl, hbw8⟩; obtain ⟨hcw8, hfw8⟩ := bcell hbw8; have hzw8 := hbw8.size; (try simp at hzw8); (try have hlw8 := (by omega : w.heap.size < w8.heap.size)); (try have hmw8 := (by omega : w.heap.size + 1 < w8.heap.size)); (try have hnw8 := (by omega : w.heap.size + 1 + 1 < w8.heap.size)))
      go_ret
      exact ⟨rfl, (by repeat (first | exact Below.refl _ _ | assumption | refine Below.drew ?_ | refine below_drewN ?_ _ | refine Below.alloc ?_ (by first | omega | (simp; try omega)) _ | refine Below.setCell ?_ (by first | omega | (simp; try omega)) _ | (refine Below.trans ?_ (Below.mono (by assumption) (by first | omega | (simp; try omega))))))⟩

set_option maxRecDepth 100000 in
theorem keepNames_lifted (os : Os) (started : os.Started) (H : Type) (enc : TypeId × Value → H) :
    ReturnsInHanded {} Try.checked os 5 .any (Rows.keepNamesSpec.pre6 enc Try.prog Try.f5 Rows.keepNamesRow.domain false) (Rows.keepNamesSpec.post enc Try.prog Try.f5 false true false false) := by
  refine law_lifted started (by kernel_rfl) Try.func5 rfl rfl ?_ (by kernel_rfl)
    (ChangeSpec.witness6 (enc := enc) (C := Try.checked) false ⟨#[], #[], []⟩ 8 (by kernel_rfl) (by kernel_rfl) (by kernel_rfl) (by kernel_rfl)) ?_
  · intro ds hd
    match ds, hd with
    | [], _ => exact ⟨rfl, rfl, rfl⟩
  · intro W base args ds ps hval hA hlt
    rw [Try.params5] at hA hval
    obtain ⟨rfl, rfl, rfl⟩ := trodAll_none hA
    exact keepNames_walk W

theorem keepNames_holds : Rows.KeepNamesSaid :=
  OpenClaim.holds_of_wide 5 Try.f5 rfl rfl rfl rfl rfl rfl rfl ⟨rfl, rfl, rfl, rfl, rfl⟩ rfl rfl rfl rfl rfl (by kernel_rfl) Try.func5 (by kernel_rfl)
    (of_decide_eq_true (by kernel_rfl)) (by unfold Func.isWrapper; rw [if_neg (of_decide_eq_false (by kernel_rfl))]; exact ⟨rfl, rfl⟩)
    (fun os started H enc _ => keepNames_lifted os started H enc)
#print axioms keepNames_holds
end Go.Proofs.Ytgopkjgkjjllfaa
