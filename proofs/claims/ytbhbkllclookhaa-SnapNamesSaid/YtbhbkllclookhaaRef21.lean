/-
  The contracts of the reference's Find, Drop and Add.
-/
import Derived.Test.YtbhbkllclookhaaSnapG
import Derived.Test.YtbhbkllclookhaaElem
namespace Go.Proofs.Ytbhbkllclookhaa
open Go.RowKit
attribute [local go_sem ↓] Go.wp_at_zero Go.wp_at_succ

def snapE : Elem Snap where
  T := 24
  S := 22
  k := 3
  bytes := 32
  enc := Snap.cells
  z := .agg #[.int .i64 0, .int .i64 0, .string ⟨#[]⟩]
  und := Try.underlying22
  info := Snap.info
  zc := rfl
  pos := by decide
  small := by decide
  len := Snap.len
  one := fun x u hu => snap_cells_one [x] u (by simpa using hu)

set_option maxHeartbeats 1000000 in
theorem ref21_Find (A : Option Addr) (n c : Nat) (l : List Snap) (w : World) (h : SnapsAt w w.heap.size A n l) (id : Int) :
    Calls Try.prog 29 #[.slice A n c, .int .i64 id] w fun e w' => e = .returned (.tuple #[(findRes l id).1.agg, .int .i64 (findRes l id).2]) ∧ Below w.heap.size w w' := by
  have hn := h.2.1
  have hl := Lib.hid h.1
  cases hm : mayL l
  · have hres : Hid (findRes l id = (Snap.zero, 4)) := by simp [Hid, findRes, hm]
    replace hm := Lib.hid hm
    go_enter Try.func29, Try.ntmps29
    go_wp2_with fail
    refine (ref21_May A n c l _ (h.to (by repeat (first | exact Below.refl _ _ | assumption | refine Below.drew ?_ | refine below_drewN ?_ _ | refine Below.alloc ?_ (by first | omega | (simp; try omega)) _ | refine Below.setCell ?_ (by first | omega | (simp; try omega)) _ | (refine Below.trans ?_ (Below.mono (by assumption) (by first | omega | (simp; try omega)))))))).mono ?_
    rw [hm.out]
    rintro e w1 ⟨rfl, hbw1⟩
    obtain ⟨hcw1, hfw1⟩ := bcell hbw1; (try simp only [World.size_drew, World.cell?_drew, World.frozen?_drew, World.heap_drewN, World.cell?_drewN, World.frozen?_drewN] at hcw1 hfw1); have hzw1 := hbw1.size; (try simp at hzw1); (try have hlw1 := (by omega : w.heap.size < w1.heap.size)); (try have hmw1 := (by omega : w.heap.size + 1 < w1.heap.size)); (try have hnw1 := (by omega : w.heap.size + 1 + 1 < w1.heap.size))
    have k0 : w1.cell? ⟨w.heap.size, 0, none⟩ = some (.int .i64 0) := by go_simp
    have k1 : w1.cell? ⟨w.heap.size, 1, none⟩ = some (.int .i64 0) := by go_simp
    have k2 : w1.cell? ⟨w.heap.size, 2, none⟩ = some (.string ⟨#[]⟩) := by go_simp
    have f0 : w1.frozen? ⟨w.heap.size, 0, none⟩ = false := by go_simp
    have f1 : w1.frozen? ⟨w.heap.size, 1, none⟩ = false := by go_simp
    have f2 : w1.frozen? ⟨w.heap.size, 2, none⟩ = false := by go_simp
    clear hcw1 hfw1
    go_wp2_with fail
    exact bodyPost_ret (v := .tuple #[Snap.zero.agg, .int .i64 4]) (by simp [results, Try.results29, go_sem, Snap.agg, Snap.zero, k0, k1, k2, f0, f1, f2]) rfl ⟨by rw [hres.out], (by repeat (first | exact Below.refl _ _ | assumption | refine Below.drew ?_ | refine below_drewN ?_ _ | refine Below.alloc ?_ (by first | omega | (simp; try omega)) _ | refine Below.setCell ?_ (by first | omega | (simp; try omega)) _ | (refine Below.trans ?_ (Below.mono (by assumption) (by first | omega | (simp; try omega))))))⟩
  · have hfr : Hid (findRes l id = match l.find? (fun s => s.id == id) with | some s => (s, 0) | none => (Snap.zero, 5)) := by simp [Hid, findRes, hm]; rfl
    have hn32 : n ≤ 32 := by have := hl.out; simp [mayL] at hm; omega
    replace hm := Lib.hid hm
    go_enter Try.func29, Try.ntmps29
    go_wp2_with fail
    refine (ref21_May A n c l _ (h.to (by repeat (first | exact Below.refl _ _ | assumption | refine Below.drew ?_ | refine below_drewN ?_ _ | refine Below.alloc ?_ (by first | omega | (simp; try omega)) _ | refine Below.setCell ?_ (by first | omega | (simp; try omega)) _ | (refine Below.trans ?_ (Below.mono (by assumption) (by first | omega | (simp; try omega)))))))).mono ?_
    rw [hm.out]
    rintro e w1 ⟨rfl, hbw1⟩
    obtain ⟨hcw1, hfw1⟩ := bcell hbw1; (try simp only [World.size_drew, World.cell?_drew, World.frozen?_drew, World.heap_drewN, World.cell?_drewN, World.frozen?_drewN] at hcw1 hfw1); have hzw1 := hbw1.size; (try simp at hzw1); (try have hlw1 := (by omega : w.heap.size < w1.heap.size)); (try have hmw1 := (by omega : w.heap.size + 1 < w1.heap.size)); (try have hnw1 := (by omega : w.heap.size + 1 + 1 < w1.heap.size))
    have k0 : w1.cell? ⟨w.heap.size, 0, none⟩ = some (.int .i64 0) := by go_simp
    have k1 : w1.cell? ⟨w.heap.size, 1, none⟩ = some (.int .i64 0) := by go_simp
    have k2 : w1.cell? ⟨w.heap.size, 2, none⟩ = some (.string ⟨#[]⟩) := by go_simp
    have f0 : w1.frozen? ⟨w.heap.size, 0, none⟩ = false := by go_simp
    have f1 : w1.frozen? ⟨w.heap.size, 1, none⟩ = false := by go_simp
    have f2 : w1.frozen? ⟨w.heap.size, 2, none⟩ = false := by go_simp
    have h1 := h.to (w' := w1) (by repeat (first | exact Below.refl _ _ | assumption | refine Below.drew ?_ | refine below_drewN ?_ _ | refine Below.alloc ?_ (by first | omega | (simp; try omega)) _ | refine Below.setCell ?_ (by first | omega | (simp; try omega)) _ | (refine Below.trans ?_ (Below.mono (by assumption) (by first | omega | (simp; try omega))))))
    have hbw : Below w.heap.size w w1 := (by repeat (first | exact Below.refl _ _ | assumption | refine Below.drew ?_ | refine below_drewN ?_ _ | refine Below.alloc ?_ (by first | omega | (simp; try omega)) _ | refine Below.setCell ?_ (by first | omega | (simp; try omega)) _ | (refine Below.trans ?_ (Below.mono (by assumption) (by first | omega | (simp; try omega))))))
    clear hcw1 hfw1
    go_wp2_with fail
    go_loop [6] (fun i => ∃ k : Nat, k ≤ n ∧ i = .int .i64 k ∧ Hid (l.find? (fun s => s.id == id) = (l.drop k).find? (fun s => s.id == id))) (fun i => n - (intOf i).toNat)
    case atStart => exact ⟨0, Nat.zero_le _, rfl, rfl⟩
    case round =>
      obtain ⟨k, hk, rfl, hf⟩ := hrel
      by_cases hlt : k < n
      · obtain ⟨b0, off, s, rfl, hb0, hx, q0, q1, q2⟩ := h1.snap hlt
        have hd := Lib.hid (drop_cons hx)
        clear hx
        have hne : b0 ≠ w.heap.size := by
          rintro rfl
          obtain ⟨b', o', e, hb', _⟩ := h.2.2 (by omega)
          simp only [Option.some.injEq, Addr.mk.injEq] at e
          omega
        by_cases he : s.id = id
        · have hb : (s.id == id) = true := by simpa using he
          have hres : Hid (findRes l id = (s, 0)) := by
            unfold Hid
            rw [hfr.out, hf.out, hd.out, List.find?_cons, hb]
          replace he := Lib.hid he
          go_wp2_with fail
          exact bodyPost_ret (v := .tuple #[s.agg, .int .i64 0]) (by simp [results, Try.results29, go_sem, Snap.agg, k0, k1, k2, f0, f1, f2]) rfl ⟨by rw [hres.out], (by repeat (first | exact Below.refl _ _ | assumption | refine Below.drew ?_ | refine below_drewN ?_ _ | refine Below.alloc ?_ (by first | omega | (simp; try omega)) _ | refine Below.setCell ?_ (by first | omega | (simp; try omega)) _ | (refine Below.trans ?_ (Below.mono (by assumption) (by first | omega | (simp; try omega))))))⟩
        · have hb : (s.id == id) = false := by simpa using he
          replace he := Lib.hid he
          go_wp2_with fail
          go_round
          case rel => exact ⟨k + 1, by omega, by go_num, by unfold Hid; rw [hf.out, hd.out, List.find?_cons, hb]⟩
          case measure => simp [intOf]; omega
      · have hres : Hid (findRes l id = (Snap.zero, 5)) := by
          unfold Hid
          rw [hfr.out, hf.out, List.drop_eq_nil_of_le (by have := hl.out; omega)]
          rfl
        go_wp2_with fail
        exact bodyPost_ret (v := .tuple #[Snap.zero.agg, .int .i64 5]) (by simp [results, Try.results29, go_sem, Snap.agg, Snap.zero, k0, k1, k2, f0, f1, f2]) rfl ⟨by rw [hres.out], (by repeat (first | exact Below.refl _ _ | assumption | refine Below.drew ?_ | refine below_drewN ?_ _ | refine Below.alloc ?_ (by first | omega | (simp; try omega)) _ | refine Below.setCell ?_ (by first | omega | (simp; try omega)) _ | (refine Below.trans ?_ (Below.mono (by assumption) (by first | omega | (simp; try omega))))))⟩

theorem find_err (l : List Snap) (id : Int) : (findRes l id).2 = (dropRes l id).2 := by
  unfold findRes dropRes
  cases mayL l
  · rfl
  · simp only [if_true]
    cases hf : l.find? (fun s => s.id == id) with
    | none =>
      rw [List.find?_eq_none] at hf
      rw [if_neg]
      simpa using hf
    | some s =>
      have h1 := List.find?_some hf
      have h2 := List.mem_of_find?_eq_some hf
      rw [if_pos (List.any_eq_true.2 ⟨s, h2, h1⟩)]

set_option maxHeartbeats 1000000 in
theorem ref21_Drop (A : Option Addr) (n c : Nat) (l : List Snap) (w : World) (h : SnapsAt w w.heap.size A n l) (id : Int) :
    Calls Try.prog 27 #[.slice A n c, .int .i64 id] w fun e w' => ∃ v, e = .returned (.tuple #[v, .int .i64 (dropRes l id).2]) ∧ snapE.Own w' w.heap.size v (dropRes l id).1 ∧ Below w.heap.size w w' := by
  have hn := h.2.1
  have hl := Lib.hid h.1
  by_cases hz : (dropRes l id).2 = 0
  · obtain ⟨hm, hres⟩ : mayL l = true ∧ dropRes l id = (without l id, 0) := by
      unfold dropRes at hz ⊢
      cases hm : mayL l
      · rw [hm] at hz; simp at hz
      · rw [hm] at hz
        simp only [if_true] at hz ⊢
        split at hz
        · rename_i h; exact ⟨trivial, by rw [if_pos h]; rfl⟩
        · simp at hz
    have hn32 : n ≤ 32 := by have := hl.out; simp [mayL] at hm; omega
    have hfe : (findRes l id).2 = 0 := by rw [find_err]; exact hz
    replace hres := Lib.hid hres
    clear hz hm
    obtain ⟨t, hft⟩ : ∃ t, findRes l id = (t, 0) := ⟨_, by rw [← hfe]⟩
    replace hft := Lib.hid hft
    clear hfe
    go_enter Try.func27, Try.ntmps27
    go_wp2_with fail
    refine (ref21_Find A n c l _ (h.to (by repeat (first | exact Below.refl _ _ | assumption | refine Below.drew ?_ | refine below_drewN ?_ _ | refine Below.alloc ?_ (by first | omega | (simp; try omega)) _ | refine Below.setCell ?_ (by first | omega | (simp; try omega)) _ | (refine Below.trans ?_ (Below.mono (by assumption) (by first | omega | (simp; try omega))))))) id).mono ?_
    rw [hft.out]
    simp only [Snap.agg]
    rintro e w1 ⟨rfl, hbw1⟩
    have hz1 := hbw1.size
    go_wp2_with fail
    go_loopw [8, 9] (fun v i wr => ∃ (k : Nat) (O : List Snap), k ≤ n ∧ i = .int .i64 k ∧ snapE.Own wr w1.heap.size v O ∧ O.length ≤ k ∧ Hid (without l id = O ++ without (l.drop k) id) ∧ Below w1.heap.size w1 wr) (fun _ i _ => n - (intOf i).toNat)
    case atStart => exact ⟨0, [], Nat.zero_le _, rfl, Owns.nil_, by simp, by simp [Hid], (by repeat (first | exact Below.refl _ _ | assumption | refine Below.drew ?_ | refine below_drewN ?_ _ | refine Below.alloc ?_ (by first | omega | (simp; try omega)) _ | refine Below.setCell ?_ (by first | omega | (simp; try omega)) _ | (refine Below.trans ?_ (Below.mono (by assumption) (by first | omega | (simp; try omega))))))⟩
    case round =>
      obtain ⟨k, O, hk, rfl, hown, hO, hw, hbr⟩ := hrel
      have hzr := hbr.size
      by_cases hlt : k < n
      · obtain ⟨b0, off, s, rfl, hb0, hx, q0, q1, q2⟩ := ((h.to (w' := w1) (by repeat (first | exact Below.refl _ _ | assumption | refine Below.drew ?_ | refine below_drewN ?_ _ | refine Below.alloc ?_ (by first | omega | (simp; try omega)) _ | refine Below.setCell ?_ (by first | omega | (simp; try omega)) _ | (refine Below.trans ?_ (Below.mono (by assumption) (by first | omega | (simp; try omega))))))).to hbr).snap hlt
        have hd := Lib.hid (drop_cons hx)
        clear hx
        by_cases he : s.id = id
        · have hb : (s.id == id) = true := by simpa using he
          have hst : Hid (without l id = O ++ without (l.drop (k + 1)) id) := by
            unfold Hid
            rw [hw.out, hd.out]
            simp [without, he]
          replace he := Lib.hid he
          go_wp2_with fail
          go_roundw
          case rel => exact ⟨k + 1, O, by omega, by go_num, hown, by omega, hst, (by repeat (first | exact Below.refl _ _ | assumption | refine Below.drew ?_ | refine below_drewN ?_ _ | refine Below.alloc ?_ (by first | omega | (simp; try omega)) _ | refine Below.setCell ?_ (by first | omega | (simp; try omega)) _ | (refine Below.trans ?_ (Below.mono (by assumption) (by first | omega | (simp; try omega))))))⟩
          case measure => simp [intOf]; omega
        · have hb : (s.id == id) = false := by simpa using he
          have hst : Hid (without l id = (O ++ [s]) ++ without (l.drop (k + 1)) id) := by
            unfold Hid
            rw [hw.out, hd.out]
            simp [without, he]
          replace he := Lib.hid he
          go_wp2_with (at_builtin; go_must (refine Elem.wpList_one snapE rfl (.tmp 32) (.tmp 37) rfl w1.heap.size _ O rfl _ _ s rfl (hown.alloc _) (fun j u hu => by rcases j with _ | _ | _ | j <;> simp [snapE, Snap.cells] at hu <;> subst hu <;> go_simp) (by first | omega | (simp; omega)) (by first | omega | (simp; try omega)) ?_); intro v2 w2 hown2 hg2 hat2; have hbb2 : Below w1.heap.size w1 w2 := Below.grownOwn (by repeat (first | exact Below.refl _ _ | assumption | refine Below.drew ?_ | refine below_drewN ?_ _ | refine Below.alloc ?_ (by first | omega | (simp; try omega)) _ | refine Below.setCell ?_ (by first | omega | (simp; try omega)) _ | (refine Below.trans ?_ (Below.mono (by assumption) (by first | omega | (simp; try omega)))))) (hown.alloc _) (Nat.le_refl _) (by first | omega | (simp; try omega)) hg2; have hzz2 := hbb2.size)
          go_roundw
          case rel => exact ⟨k + 1, O ++ [s], by omega, by go_num, hown2, by simp; omega, hst, by assumption⟩
          case measure => simp [intOf]; omega
      · have hst : Hid (without l id = O) := by
          unfold Hid
          rw [hw.out, List.drop_eq_nil_of_le (by have := hl.out; omega)]
          simp [without]
        have hbw : Below w.heap.size w wr := (by repeat (first | exact Below.refl _ _ | assumption | refine Below.drew ?_ | refine below_drewN ?_ _ | refine Below.alloc ?_ (by first | omega | (simp; try omega)) _ | refine Below.setCell ?_ (by first | omega | (simp; try omega)) _ | (refine Below.trans ?_ (Below.mono (by assumption) (by first | omega | (simp; try omega))))))
        go_wp2_with fail
        go_ret2
        exact ⟨_, by rw [hres.out]; rfl, by rw [hres.out, hst.out]; exact hown.from hz1, hbw⟩
  · obtain ⟨z, hz0, hres, t, hft⟩ : ∃ z : Int, z ≠ 0 ∧ dropRes l id = ([], z) ∧ ∃ t, findRes l id = (t, z) := by
      have h1 := find_err l id
      refine ⟨(dropRes l id).2, hz, ?_, (findRes l id).1, by rw [← h1]⟩
      unfold dropRes at hz ⊢
      split
      · split
        · rename_i h2 h3; rw [if_pos h2, if_pos h3] at hz; simp at hz
        · rfl
      · rfl
    have hz1 : (z != 0) = true := by simpa using hz0
    replace hft := Lib.hid hft
    replace hres := Lib.hid hres
    replace hz0 := Lib.hid hz0
    replace hz := Lib.hid hz
    go_enter Try.func27, Try.ntmps27
    go_wp2_with fail
    refine (ref21_Find A n c l _ (h.to (by repeat (first | exact Below.refl _ _ | assumption | refine Below.drew ?_ | refine below_drewN ?_ _ | refine Below.alloc ?_ (by first | omega | (simp; try omega)) _ | refine Below.setCell ?_ (by first | omega | (simp; try omega)) _ | (refine Below.trans ?_ (Below.mono (by assumption) (by first | omega | (simp; try omega))))))) id).mono ?_
    rw [hft.out]
    simp only [Snap.agg]
    rintro e w1 ⟨rfl, hbw1⟩
    have hzz := hbw1.size
    go_wp2_with fail
    go_ret2
    exact ⟨.slice none 0 0, by rw [hres.out]; rfl, by rw [hres.out]; exact Owns.nil_, (by repeat (first | exact Below.refl _ _ | assumption | refine Below.drew ?_ | refine below_drewN ?_ _ | refine Below.alloc ?_ (by first | omega | (simp; try omega)) _ | refine Below.setCell ?_ (by first | omega | (simp; try omega)) _ | (refine Below.trans ?_ (Below.mono (by assumption) (by first | omega | (simp; try omega))))))⟩

theorem all_lt {l : List Snap} {s : Snap} (hm : mayL l = true) (hs : mayOne s = true) : lastOf l l.length < s.id ↔ ∀ t ∈ l, t.id < s.id := by
  constructor
  · intro h t ht
    obtain ⟨k, hk⟩ := List.getElem?_of_mem ht
    have hkl := (List.getElem?_eq_some_iff.1 hk).1
    obtain ⟨u, hu⟩ := getElem_some (l := l) (i := l.length - 1) (by omega)
    have hlast : lastOf l l.length = u.id := by
      have := lastOf_succ hu
      rwa [Nat.sub_add_cancel (by omega)] at this
    rcases Nat.lt_or_ge k (l.length - 1) with h' | h'
    · have := rising_at (mayL_rising hm) hk hu h'
      omega
    · have : k = l.length - 1 := by omega
      subst this
      rw [hk] at hu
      injection hu with hu
      subst hu
      omega
  · intro h
    rcases Nat.eq_zero_or_pos l.length with h0 | h0
    · rw [h0]
      have := mayOne_pos hs
      simpa [lastOf] using this
    · obtain ⟨u, hu⟩ := getElem_some (l := l) (i := l.length - 1) (by omega)
      have hlast : lastOf l l.length = u.id := by
        have := lastOf_succ hu
        rwa [Nat.sub_add_cancel (by omega)] at this
      rw [hlast]
      exact h u (List.mem_of_getElem? hu)

set_option maxHeartbeats 4000000 in
set_option maxRecDepth 100000 in
theorem ref21_Add (A : Option Addr) (n c : Nat) (l : List Snap) (s : Snap) (w : World) (h : SnapsAt w w.heap.size A n l) :
    Calls Try.prog 26 #[.slice A n c, s.agg] w fun e w' => ∃ v, e = .returned (.tuple #[v, .int .i64 (addRes l s).2]) ∧ snapE.Own w' w.heap.size v (addRes l s).1 ∧ Below w.heap.size w w' := by
  have hn := h.2.1
  have hl := Lib.hid h.1
  unfold Snap.agg
  cases hm : mayL l
  · have hres : Hid (addRes l s = ([], 4)) := by simp [Hid, addRes, hm]
    replace hm := Lib.hid hm
    go_enter Try.func26, Try.ntmps26
    go_wp2_with fail
    refine (ref21_May A n c l _ (h.to (by repeat (first | exact Below.refl _ _ | assumption | refine Below.drew ?_ | refine below_drewN ?_ _ | refine Below.alloc ?_ (by first | omega | (simp; try omega)) _ | refine Below.setCell ?_ (by first | omega | (simp; try omega)) _ | (refine Below.trans ?_ (Below.mono (by assumption) (by first | omega | (simp; try omega)))))))).mono ?_
    rw [hm.out]
    rintro e w1 ⟨rfl, hbw1⟩
    go_wp2_with fail
    go_ret2
    exact ⟨.slice none 0 0, by rw [hres.out]; rfl, by rw [hres.out]; exact Owns.nil_, (by repeat (first | exact Below.refl _ _ | assumption | refine Below.drew ?_ | refine below_drewN ?_ _ | refine Below.alloc ?_ (by first | omega | (simp; try omega)) _ | refine Below.setCell ?_ (by first | omega | (simp; try omega)) _ | (refine Below.trans ?_ (Below.mono (by assumption) (by first | omega | (simp; try omega))))))⟩
  have hn32 : n ≤ 32 := by have := hl.out; simp [mayL] at hm; omega
  have hone : Hid (∀ W : World, Calls Try.prog 32 #[.agg #[.int .i64 s.id, .int .i64 s.time, .string s.root]] W fun e w' => e = .returned (.bool (mayOne s)) ∧ Below W.heap.size W w') := fun W => ref21_MayOne s W
  replace hm := Lib.hid hm
  go_enter Try.func26, Try.ntmps26
  go_wp2_with fail
  refine (ref21_May A n c l _ (h.to (by repeat (first | exact Below.refl _ _ | assumption | refine Below.drew ?_ | refine below_drewN ?_ _ | refine Below.alloc ?_ (by first | omega | (simp; try omega)) _ | refine Below.setCell ?_ (by first | omega | (simp; try omega)) _ | (refine Below.trans ?_ (Below.mono (by assumption) (by first | omega | (simp; try omega)))))))).mono ?_
  rw [hm.out]
  rintro e w1 ⟨rfl, hbw1⟩
  have hz1 := hbw1.size
  obtain ⟨hcw1, _⟩ := bcell hbw1
  simp at hz1
  have k0 : w1.cell? ⟨w.heap.size, 0, none⟩ = some (.int .i64 s.id) := by go_simp
  have k1 : w1.cell? ⟨w.heap.size, 1, none⟩ = some (.int .i64 s.time) := by go_simp
  have k2 : w1.cell? ⟨w.heap.size, 2, none⟩ = some (.string s.root) := by go_simp
  have hlt1 : w.heap.size < w1.heap.size := by omega
  have hbox : Hid (∀ W : World, Below w1.heap.size w1 W → W.cell? ⟨w.heap.size, 0, none⟩ = some (.int .i64 s.id) ∧ W.cell? ⟨w.heap.size, 1, none⟩ = some (.int .i64 s.time) ∧ W.cell? ⟨w.heap.size, 2, none⟩ = some (.string s.root)) :=
    fun W hb => ⟨(hb.cell (p := ⟨_, _, none⟩) hlt1).trans k0, (hb.cell (p := ⟨_, _, none⟩) hlt1).trans k1, (hb.cell (p := ⟨_, _, none⟩) hlt1).trans k2⟩
  clear hcw1
  have hb1 : Below w.heap.size w w1 := (by repeat (first | exact Below.refl _ _ | assumption | refine Below.drew ?_ | refine below_drewN ?_ _ | refine Below.alloc ?_ (by first | omega | (simp; try omega)) _ | refine Below.setCell ?_ (by first | omega | (simp; try omega)) _ | (refine Below.trans ?_ (Below.mono (by assumption) (by first | omega | (simp; try omega))))))
  have hl1 := h.to hb1
  cases hs : mayOne s
  · have hres : Hid (addRes l s = ([], 1)) := by simp [Hid, addRes, hm.out, hs]
    replace hs := Lib.hid hs
    go_wp2_with fail
    refine (hone.out _).mono ?_
    rw [hs.out]
    rintro e w2 ⟨rfl, hbw2⟩
    go_wp2_with fail
    go_ret2
    exact ⟨.slice none 0 0, by rw [hres.out]; rfl, by rw [hres.out]; exact Owns.nil_, (by repeat (first | exact Below.refl _ _ | assumption | refine Below.drew ?_ | refine below_drewN ?_ _ | refine Below.alloc ?_ (by first | omega | (simp; try omega)) _ | refine Below.setCell ?_ (by first | omega | (simp; try omega)) _ | (refine Below.trans ?_ (Below.mono (by assumption) (by first | omega | (simp; try omega))))))⟩
  have hall := Lib.hid (all_lt hm.out hs)
  replace hs := Lib.hid hs
  go_wp2_with fail
  refine (hone.out _).mono ?_
  rw [hs.out]
  rintro e w2 ⟨rfl, hbw2⟩
  have hz2 := hbw2.size
  have hl2 := hl1.to hbw2
  clear k0 k1 k2
  go_wp2_with fail
  go_loopw [6] (fun i wr => ∃ k : Nat, k ≤ n ∧ i = .int .i64 k ∧ Hid (∀ t ∈ l.take k, t.id < s.id) ∧ Below w2.heap.size w2 wr) (fun i _ => n - (intOf i).toNat)
  case atStart => exact ⟨0, Nat.zero_le _, rfl, by simp [Hid], Below.refl _ _⟩
  case round =>
    obtain ⟨k, hk, rfl, hlo, hbr⟩ := hrel
    have hzr := hbr.size
    have hb1r : Below w1.heap.size w1 wr := (by repeat (first | exact Below.refl _ _ | assumption | refine Below.drew ?_ | refine below_drewN ?_ _ | refine Below.alloc ?_ (by first | omega | (simp; try omega)) _ | refine Below.setCell ?_ (by first | omega | (simp; try omega)) _ | (refine Below.trans ?_ (Below.mono (by assumption) (by first | omega | (simp; try omega))))))
    by_cases hlt : k < n
    · obtain ⟨b0, off, t, rfl, hb0, hx, q0, q1, q2⟩ := (hl2.to hbr).snap hlt
      obtain ⟨j0, _, _⟩ := hbox.out wr hb1r
      replace hx := Lib.hid hx
      have hltr : w.heap.size < wr.heap.size := by omega
      by_cases hge : s.id ≤ t.id
      · have hg : decide (s.id ≤ t.id) = true := by simpa using hge
        have hres : Hid (addRes l s = ([], 1)) := by
          have h1 : ¬ lastOf l l.length < s.id := fun h => by
            have := hall.out.1 h t (List.mem_of_getElem? hx.out)
            omega
          unfold Hid addRes
          rw [if_pos hm.out, if_neg]
          rw [hs.out]
          simpa using h1
        go_wp2_with fail
        go_quiet (fail)
        go_wp2_with fail
        go_ret2
        exact ⟨.slice none 0 0, by rw [hres.out]; rfl, by rw [hres.out]; exact Owns.nil_, (by repeat (first | exact Below.refl _ _ | assumption | refine Below.drew ?_ | refine below_drewN ?_ _ | refine Below.alloc ?_ (by first | omega | (simp; try omega)) _ | refine Below.setCell ?_ (by first | omega | (simp; try omega)) _ | (refine Below.trans ?_ (Below.mono (by assumption) (by first | omega | (simp; try omega))))))⟩
      · have hg : decide (s.id ≤ t.id) = false := by simpa using hge
        go_wp2_with fail
        go_quiet (fail)
        go_wp2_with fail
        go_roundw
        case rel => exact ⟨k + 1, by omega, by go_num, (by
                  unfold Hid
                  intro u hu
                  rw [List.take_add_one, hx.out] at hu
                  simp at hu
                  rcases hu with hu | rfl
                  · exact hlo.out u hu
                  · omega), (by repeat (first | exact Below.refl _ _ | assumption | refine Below.drew ?_ | refine below_drewN ?_ _ | refine Below.alloc ?_ (by first | omega | (simp; try omega)) _ | refine Below.setCell ?_ (by first | omega | (simp; try omega)) _ | (refine Below.trans ?_ (Below.mono (by assumption) (by first | omega | (simp; try omega))))))⟩
        case measure => simp [intOf]; omega
    · obtain rfl : k = n := by omega
      have hlast : lastOf l l.length < s.id := hall.out.2 (by
        have h1 := hlo.out
        rw [List.take_of_length_le (by have := hl.out; omega)] at h1
        exact h1)
      by_cases h32 : k = 32
      · have hg : decide ((32 : Int) ≤ (k : Int)) = true := by simp; omega
        have hg1 : decide (32 ≤ k) = true := by simp; omega
        have hres : Hid (addRes l s = ([], 40)) := by
          unfold Hid addRes
          rw [if_pos hm.out, if_pos (by rw [hs.out]; simpa using hlast), if_pos (by rw [hl.out]; exact h32)]
        replace h32 := Lib.hid h32
        go_wp2_with fail
        go_ret2
        exact ⟨.slice none 0 0, by rw [hres.out]; rfl, by rw [hres.out]; exact Owns.nil_, (by repeat (first | exact Below.refl _ _ | assumption | refine Below.drew ?_ | refine below_drewN ?_ _ | refine Below.alloc ?_ (by first | omega | (simp; try omega)) _ | refine Below.setCell ?_ (by first | omega | (simp; try omega)) _ | (refine Below.trans ?_ (Below.mono (by assumption) (by first | omega | (simp; try omega))))))⟩
      · have hg : decide ((32 : Int) ≤ (k : Int)) = false := by simp; omega
        have hg1 : decide (32 ≤ k) = false := by simp; omega
        have hres : Hid (addRes l s = (l ++ [s], 0)) := by
          unfold Hid addRes
          rw [if_pos hm.out, if_pos (by rw [hs.out]; simpa using hlast), if_neg (by rw [hl.out]; exact h32)]
        have hS : ∀ W : World, wr.heap.size ≤ W.heap.size → Below wr.heap.size wr W → (fun W : World => wr.heap.size ≤ W.heap.size ∧ Below wr.heap.size wr W ∧ W.cell? ⟨w.heap.size, 0, none⟩ = some (.int .i64 s.id) ∧ W.cell? ⟨w.heap.size, 1, none⟩ = some (.int .i64 s.time) ∧ W.cell? ⟨w.heap.size, 2, none⟩ = some (.string s.root)) W := fun W hz hb =>
          have hbb := hbox.out W (hb1r.trans (hb.mono (by omega)))
          ⟨hz, hb, hbb.1, hbb.2.1, hbb.2.2⟩
        have hlr := Lib.hid (hl2.to hbr)
        have hbwr : Below w.heap.size w wr := hb1.trans (hb1r.mono (by omega))
        have hzz : w.heap.size ≤ wr.heap.size := by omega
        replace hS := Lib.hid hS
        obtain ⟨j0, j1, j2⟩ := hbox.out wr hb1r
        go_wp2_with fail
        go_region_held3 (fun W : World => wr.heap.size ≤ W.heap.size ∧ Below wr.heap.size wr W ∧ W.cell? ⟨w.heap.size, 0, none⟩ = some (.int .i64 s.id) ∧ W.cell? ⟨w.heap.size, 1, none⟩ = some (.int .i64 s.time) ∧ W.cell? ⟨w.heap.size, 2, none⟩ = some (.string s.root))
          ((go_split_ands; exact hS.out _ (by first | omega | (simp; try omega)) (by repeat (first | exact Below.refl _ _ | assumption | refine Below.drew ?_ | refine below_drewN ?_ _ | refine Below.alloc ?_ (by first | omega | (simp; try omega)) _ | refine Below.setCell ?_ (by first | omega | (simp; try omega)) _ | (refine Below.trans ?_ (Below.mono (by assumption) (by first | omega | (simp; try omega))))))))
          (first
            | ((go_split_ands; refine step_append_snaps (by rfl) (.tmp 30) (.tmp 31) (by rfl) wr.heap.size (.slice (some ⟨_, 0, none⟩) 0 0) [] (by rfl) A k c l (by rfl) (by first | exact Owns.empty _ (by simp) (by first | omega | (simp; try omega)) | exact (Owns.empty _ (by simp) (by first | omega | (simp; try omega))).alloc _) _ (hlr.out.to (by assumption)) (by simp; omega) (by first | omega | (simp; try omega)) ?_); intro v1 w6 hown6 hg6 hat6; have hzz6 := hg6.size; (try simp at hzz6); have hbb6 : Below wr.heap.size wr w6 := Below.grown (by repeat (first | exact Below.refl _ _ | assumption | refine Below.drew ?_ | refine below_drewN ?_ _ | refine Below.alloc ?_ (by first | omega | (simp; try omega)) _ | refine Below.setCell ?_ (by first | omega | (simp; try omega)) _ | (refine Below.trans ?_ (Below.mono (by assumption) (by first | omega | (simp; try omega)))))) hg6 (by first | omega | (simp; try omega)) (fun _ hi => by cases hi; first | omega | (simp; try omega)))
            | ((go_split_ands; refine step_append_snap (by rfl) (.tmp 32) (.tmp 34) (by rfl) wr.heap.size v1 l (by rfl) _ _ s (by rfl) (by (repeat (first | with_reducible refine Owns.alloc ?_ _ | with_reducible refine Owns.drew ?_ | with_reducible refine Owns.drewN ?_ _)); exact hown6) (by first | (go_simp; done) | (rw [hg6.cell_far _ (by first | omega | (simp; try omega)) (by simp [Value.ownBlock])]; go_simp)) (by first | (go_simp; done) | (rw [hg6.cell_far _ (by first | omega | (simp; try omega)) (by simp [Value.ownBlock])]; go_simp)) (by first | (go_simp; done) | (rw [hg6.cell_far _ (by first | omega | (simp; try omega)) (by simp [Value.ownBlock])]; go_simp)) (by have := hl.out; omega) (by first | omega | (simp; try omega)) ?_); intro v2 w7 hown7 hg7 hat7; have hzz7 := hg7.size; (try simp at hzz7); have hbb7 : Below wr.heap.size wr w7 := Below.grown (by repeat (first | exact Below.refl _ _ | assumption | refine Below.drew ?_ | refine below_drewN ?_ _ | refine Below.alloc ?_ (by first | omega | (simp; try omega)) _ | refine Below.setCell ?_ (by first | omega | (simp; try omega)) _ | (refine Below.trans ?_ (Below.mono (by assumption) (by first | omega | (simp; try omega)))))) hg7 (by first | omega | (simp; try omega)) (fun _ hi => (hown6.lt hi).1)))
        all_goals
          go_split_ands
          go_wp2_with fail
          go_ret2
          exact ⟨v2, by rw [hres.out]; rfl, by rw [hres.out]; exact hown7.base hzz, hbwr.trans (Below.mono (by assumption) hzz)⟩
end Go.Proofs.Ytbhbkllclookhaa
