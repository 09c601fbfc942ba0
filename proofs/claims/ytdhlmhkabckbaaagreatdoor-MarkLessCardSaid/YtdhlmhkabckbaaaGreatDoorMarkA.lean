/-
  The closures of mark.Of; slices.DeleteFunc and slices.Sort at strings of the call's own.
-/
import Derived.Test.YtdhlmhkabckbaaaGreatDoorCloneS
import Derived.Test.YtdhlmhkabckbaaaGreatDoorMarkL
import Derived.Test.YtdhlmhkabckbaaaGreatDoorCntA
import Derived.Test.YtdhlmhkabckbaaaGreatDoorLayD
import Derived.Shelf.SlicesE.DeleteFunc
import Derived.Sort.OwnSorted
namespace Go.Proofs.YtdhlmhkabckbaaaGreatDoor
open Go.RowKit Go.Shelf Go.Sort Go.Lib
attribute [local go_sem ↓] Go.wp_at_zero Go.wp_at_succ

theorem CntAt.block {w w' : World} {b : Nat} {L : List ByteArray} (h : CntAt w b L) (hb : w'.heap[b]? = w.heap[b]?) : CntAt w' b L := by
  obtain ⟨h0, D, ⟨es, clock, h1, h2⟩, h3⟩ := h
  exact ⟨h0, D, ⟨es, clock, hb.trans h1, h2⟩, h3⟩

set_option maxHeartbeats 1000000 in
theorem mark_is (d : ByteArray) (hd : d.size ≤ maxLen) (b1 mb : Nat) (L : List ByteArray) (w : World) (h1 : w.cell? ⟨b1, 0, none⟩ = some (.map (some mb))) (hc : CntAt w mb L) :
    Calls Tryz.prog 56 #[.string d, .pointer (some ⟨b1, 0, none⟩)] w fun e w' => e = .returned (.bool (decide (d ∈ L))) ∧ ∃ q, w' = w.drewN q := by
  go_enter Tryz.func56, Tryz.ntmps56
  go_wp2_with (at_lookup; go_must (refine wpList_cnt_lookup _ rfl _ _ rfl mb L rfl hc d rfl hd ?_); intro c hc9 hcc)
  go_ret
  have e : decide (0 < c) = decide (d ∈ L) := by
    rw [Bool.eq_iff_iff]
    simp only [decide_eq_true_eq]
    rw [← List.count_pos_iff, ← hcc.out]
  exact ⟨by rw [← e]; rfl, 0, rfl⟩

set_option maxHeartbeats 1000000 in
theorem mark_not (d : ByteArray) (hd : d.size ≤ maxLen) (b1 b2 mb : Nat) (L : List ByteArray) (w : World) (h2 : w.cell? ⟨b2, 0, none⟩ = some (.func (.func 56) #[] #[.pointer (some ⟨b1, 0, none⟩)]))
    (h1 : w.cell? ⟨b1, 0, none⟩ = some (.map (some mb))) (hc : CntAt w mb L) :
    Calls Tryz.prog 60 #[.string d, .pointer (some ⟨b2, 0, none⟩)] w fun e w' => e = .returned (.bool (!decide (d ∈ L))) ∧ ∃ q, w' = w.drewN q := by
  have h := Lib.hid (fun W (hW : ∃ q, W = w.drewN q) => mark_is d hd b1 mb L W (by obtain ⟨q, rfl⟩ := hW; exact h1) (by obtain ⟨q, rfl⟩ := hW; exact hc))
  go_enter Tryz.func60, Tryz.ntmps60
  go_wp2_with fail
  refine (h.out _ ⟨0, rfl⟩).mono ?_
  rintro e w1 ⟨rfl, q, rfl⟩
  go_wp2_with fail
  go_ret
  exact ⟨by simp, q, rfl⟩

/-- Texts that may be keys. -/
abbrev Strv := {s : ByteArray // s.size ≤ maxLen}
instance : Inhabited Strv := ⟨⟨⟨#[]⟩, by decide⟩⟩
def strV (x : Strv) : Value := .string x.val
theorem strV_one : OneCell strV := fun _ => rfl
theorem strvs : ∀ {l : List ByteArray}, (∀ s ∈ l, s.size ≤ maxLen) → ∃ d : List Strv, d.map Subtype.val = l
  | [], _ => ⟨[], rfl⟩
  | s :: l, h => by
    obtain ⟨d, hd⟩ := strvs (l := l) fun j hj => h j (List.mem_cons_of_mem _ hj)
    exact ⟨⟨s, h s List.mem_cons_self⟩ :: d, by rw [List.map_cons, hd]⟩
theorem holds_strv {w : World} {base g n c : Nat} {l : List ByteArray} {d : Array Strv} (h : strE.Own w base (.slice (some ⟨g, 0, none⟩) n c) l) (hd : d.toList.map Subtype.val = l) : n = d.size ∧ n ≤ c ∧ base ≤ g ∧ g < w.heap.size ∧ Holds strV w g 0 d := by
  have hdl : d.size = l.length := by rw [← hd]; simp
  rcases h.2 with ⟨e, _⟩ | ⟨g', cap, cur, e, hg, hh, hnc, _, hcs, htk⟩
  · simp at e
  · simp only [Value.slice.injEq, Option.some.injEq, Addr.mk.injEq, and_true] at e
    obtain ⟨rfl, rfl, rfl⟩ := e
    refine ⟨hdl.symm, hnc, hg, (Array.getElem?_eq_some_iff.1 hh).1, fun j hj => ?_⟩
    have hx : l[j]? = some (d[j]!).val := by
      rw [← hd, getElem!_pos d j hj]
      simp [hj]
    have hc := World.ownsRow.cells (g := g) h rfl (j * 1 + 0) _ (flat_at strCell_len l _ _ hx 0 _ rfl)
    rw [Addr.add_lit, show 0 + (j * 1 + 0) = 0 + j by omega] at hc
    exact ⟨hc, by simp [World.frozen?, hh]⟩
theorem below_sortWorld {w : World} {B g : Nat} (hB : B ≤ g) (hg : g < w.heap.size) (q : Nat) (d : Array Strv) (os : Array Obj) : RowKit.Below B w (sortWorld strV w g 0 q d os) := by
  unfold sortWorld
  refine below_grow (below_putRow (Below.refl B w) hB) ?_ os
  show B ≤ (putRow strV (Sort.ahead w q) g 0 d).heap.size
  rw [size_putRow]
  exact Nat.le_trans hB (Nat.le_of_lt hg)

theorem row_strv {w : World} {g m : Nat} {d : Array Strv} {l : List ByteArray} (h : Holds strV w g 0 d) (hg : g < w.heap.size) (hl : l.length = m) (hlt : m ≤ d.size) (hm : m ≤ 1000000000) (he : (d.toList.take m).map Subtype.val = l) : StrsAt w w.heap.size (some ⟨g, 0, none⟩) m l := by
  refine ⟨hl, by omega, fun _ => ⟨g, 0, rfl, hg, fun i x hx j v hv => ?_⟩⟩
  have hi : i < m := by have := (List.getElem?_eq_some_iff.1 hx).1; omega
  obtain rfl : j = 0 := by have := (List.getElem?_eq_some_iff.1 hv).1; simpa [strCell] using this
  have := (h i (by omega)).1
  rw [show 0 + i * 1 + 0 = 0 + i by omega, this, getElem!_pos d i (by omega)]
  rw [← he, List.getElem?_map, List.getElem?_take_of_lt hi, Array.getElem?_toList, Array.getElem?_eq_getElem (by omega)] at hx
  simp at hx
  subst hx
  simp [strCell] at hv
  subst hv
  rfl

theorem RowAt.keepAt {α : Type} {k : Nat} {enc : α → List Value} {w w' : World} {B n : Nat} {A : Option Addr} {l : List α} (h : RowAt k enc w B A n l) {B' : Nat} (hB : B ≤ B') (hk : ∀ (b off o : Nat), A = some ⟨b, off, none⟩ → w'.cell? ⟨b, o, none⟩ = w.cell? ⟨b, o, none⟩) : RowAt k enc w' B' A n l := by
  refine ⟨h.1, h.2.1, fun hn => ?_⟩
  obtain ⟨b, off, e, hb, hc⟩ := h.2.2 hn
  exact ⟨b, off, e, by omega, fun i x hx j v hv => (hk b off _ e).trans (hc i x hx j v hv)⟩

set_option maxHeartbeats 1000000 in
/-- slices.DeleteFunc by what is not asked for. -/
theorem delete_strs {w : World} {base : Nat} {v : Value} {l : List ByteArray} (h : strE.Own w base v l) (hne : l ≠ []) (hl : ∀ s ∈ l, s.size ≤ maxLen) (hn : l.length ≤ 1000000) (b1 b2 mb : Nat) (L : List ByteArray)
    (hb1 : b1 < base) (hb2 : b2 < base) (hmb : mb < base) (h2 : w.cell? ⟨b2, 0, none⟩ = some (.func (.func 56) #[] #[.pointer (some ⟨b1, 0, none⟩)]))
    (h1 : w.cell? ⟨b1, 0, none⟩ = some (.map (some mb))) (hc : CntAt w mb L) :
    Calls Tryz.prog 58 #[v, .func (.func 60) #[] #[.pointer (some ⟨b2, 0, none⟩)]] w fun e w' => ∃ A m c, e = .returned (.slice A m c) ∧ StrsAt w' w'.heap.size A m (l.filter fun s => decide (s ∈ L)) ∧ (∀ b off, A = some ⟨b, off, none⟩ → base ≤ b) ∧ Below base w w' := by
  obtain ⟨g, n, c, rfl⟩ : ∃ g n c, v = .slice (some ⟨g, 0, none⟩) n c := by
    rcases h.2 with ⟨_, e⟩ | ⟨g', cap, cur, e, _⟩
    · exact absurd (List.eq_nil_of_length_eq_zero e) hne
    · exact ⟨_, _, _, e⟩
  obtain ⟨dl, hdl⟩ := strvs hl
  obtain ⟨d, rfl⟩ : ∃ d : Array Strv, d.toList = dl := ⟨dl.toArray, by simp⟩
  obtain ⟨rfl, hnc, hbg, hgl, hH⟩ := holds_strv h hdl
  have eg : ∀ args w, (callFunc 60 args).run Tryz.prog w = .ok (.enter 60 args) w := enters_of Tryz.func60 (by kernel_rfl) rfl
  have hps : ∀ (W : World) (x : Strv), RowKit.Below base w W → FnGives Tryz.prog 60 #[.pointer (some ⟨b2, 0, none⟩)] #[strV x] (.bool (!decide (x.val ∈ L))) W := fun W x hb =>
    mark_not x.val x.property b1 b2 mb L W ((hb.cell (p := ⟨b2, 0, none⟩) hb2).trans h2) ((hb.cell (p := ⟨b1, 0, none⟩) hb1).trans h1) (hc.block (hb.block mb hmb))
  have hp : PredAt Tryz.prog 60 #[.pointer (some ⟨b2, 0, none⟩)] strV (fun x => !decide (x.val ∈ L)) w := fun W x hb => hps W x (hb.mono (by omega))
  have hpo : PredOver Tryz.prog 60 #[.pointer (some ⟨b2, 0, none⟩)] strV (fun x => !decide (x.val ∈ L)) g 0 d.size w := fun q os dk x _ => hps _ x (below_sortWorld hbg hgl q dk os)
  have hcon := AnyE.slices_DeleteFunc Tryz.delS strV strV_one (fun x => !decide (x.val ∈ L)) 60 #[.pointer (some ⟨b2, 0, none⟩)] eg ⟨⟨#[]⟩, by decide⟩ (fun w => by kernel_rfl) g 0 c d w hp hpo hH (by rw [← hdl] at hn; simp at hn; omega) hnc
  refine Calls.mono (show Calls Tryz.prog 58 _ w _ from hcon) ?_
  rintro e w' ⟨he, q, rfl⟩
  have hkl : (d.toList.filter fun x => !!decide (x.val ∈ L)).map Subtype.val = (d.toList.map Subtype.val).filter fun s => decide (s ∈ L) := by
    rw [List.filter_map]
    simp [Function.comp_def]
  rw [hdl] at hkl
  obtain ⟨K, hK⟩ : ∃ K, K = d.toList.filter fun x => !!decide (x.val ∈ L) := ⟨_, rfl⟩
  rw [← hK] at he hkl ⊢
  have hKl : K.length ≤ d.size := by rw [hK]; exact Nat.le_trans (List.length_filter_le _ _) (by simp)
  have hKz : K.length = (l.filter fun s => decide (s ∈ L)).length := by rw [← hkl, List.length_map]
  have hds : d.size ≤ 1000000 := by rw [← hdl] at hn; simpa using hn
  refine ⟨some ⟨g, 0, none⟩, K.length, c, he, ?_, fun b off e => by simp only [Option.some.injEq, Addr.mk.injEq] at e; omega, below_putRow (Below.refl base w) hbg⟩
  refine row_strv (holds_putRow strV _ g 0 d _ (holds_ahead strV w q g 0 d hH) (by simp; omega)) (by rw [size_putRow]; exact hgl) hKz.symm (by simp) (by omega) ?_
  simp only [List.take_left, List.take_append_of_le_length (Nat.le_refl _), List.take_length]
  exact hkl

set_option maxHeartbeats 1000000 in
/-- slices.Sort of what has none twice. -/
theorem sort_strs {w : World} {base : Nat} {v : Value} {l : List ByteArray} (h : strE.Own w base v l) (hnd : l.Nodup) (hn : l.length ≤ 1000000) :
    Calls Tryz.prog 61 #[v] w fun e w' => e = .returned (.tuple #[]) ∧ strE.Own w' base v (setS l) ∧ w.grownBy w' v.ownBlock := by
  have hs := sorted_set hnd
  rcases h.2 with ⟨e, h0⟩ | ⟨g, cap, cur, e, hg, hh, hnc, hcm, hcs, htk⟩
  · subst e
    obtain rfl : l = [] := List.eq_nil_of_length_eq_zero h0
    refine Calls.mono (show Calls Tryz.prog 61 _ w _ from AnyM.slices_Sort_string_none Tryz.sortS none 0 w) ?_
    rintro e w' ⟨he, rfl⟩
    exact ⟨he, Owns.nil_, World.grownBy.refl _ _⟩
  · subst e
    have hH : Holds encStr w g 0 (l.map bl).toArray := fun j hj => by
      have hj' : j < l.length := by simpa using hj
      have hc := World.ownsRow.cells (g := g) h rfl (j * 1 + 0) _ (flat_at strCell_len l _ _ (List.getElem?_eq_getElem hj') 0 _ rfl)
      rw [Addr.add_lit, show 0 + (j * 1 + 0) = 0 + j by omega] at hc
      refine ⟨?_, by simp [World.frozen?, hh]⟩
      rw [hc, getElem!_pos (l.map bl).toArray j hj]
      simp [encStr, bl]
    have hcon := AnyM.slices_Sort_string Tryz.sortS g 0 cap (l.map bl) w hH (Array.getElem?_eq_some_iff.1 hh).1 (by simp; omega)
    rw [List.length_map] at hcon
    refine Calls.mono (show Calls Tryz.prog 61 _ w _ from hcon) ?_
    rintro e w' ⟨he, q, os, rfl⟩
    refine ⟨he, ?_, grownBy_sorted _⟩
    have ho := ownsRow_sorted (w := w) (base := base) (g := g) (cap := cap) (n := q) (e := 9) (os := os) (cur := cur) (ss := l.map bl) (ts := (l.map bl).mergeSort fun x y => decide (x ≤ y)) (by simp) hg hh (by simpa using hnc) hcm hcs
    rw [List.length_map] at ho
    have hlen : (setS l).length = l.length := by rw [← hs]; simp
    have hfl : (setS l).flatMap strCell = ((l.map bl).mergeSort fun x y => decide (x ≤ y)).map encStr := by
      rw [← hs]
      generalize (l.map bl).mergeSort (fun x y => decide (x ≤ y)) = m
      induction m with
      | nil => rfl
      | cons x m ih => rw [List.map_cons, List.flatMap_cons, ih]; rfl
    unfold Elem.Own Owns
    show World.ownsRow _ base 9 1 _ (setS l).length ((setS l).flatMap strCell)
    rw [hlen, hfl]
    exact ho
end Go.Proofs.YtdhlmhkabckbaaaGreatDoor
