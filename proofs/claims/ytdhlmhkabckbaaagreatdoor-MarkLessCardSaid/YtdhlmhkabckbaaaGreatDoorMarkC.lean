/-
  The contracts of the reference's Has, Texts and Rising, and of the law's texts.
-/
import Derived.Test.YtdhlmhkabckbaaaGreatDoorFive
import Derived.Test.YtdhlmhkabckbaaaGreatDoorCloneS
namespace Go.Proofs.YtdhlmhkabckbaaaGreatDoor
open Go.RowKit
attribute [local go_sem ↓] Go.wp_at_zero Go.wp_at_succ

theorem wrap_less {q q1 : Nat} (h : q1 + 1 = q) (hq : q ≤ 9223372036854775807) : IntKind.i64.wrap ((q : Int) - 1) = (q1 : Int) := by rw [IntKind.wrap_i64]; omega

set_option maxHeartbeats 1000000 in
theorem ref24_Has (A : Option Addr) (n c : Nat) (l : List ByteArray) (d : ByteArray) (w : World) (h : StrsAt w w.heap.size A n l) :
    Calls Tryz.prog 36 #[.slice A n c, .string d] w fun e w' => e = .returned (.bool (decide (d ∈ l))) ∧ Below w.heap.size w w' := by
  have hn := h.2.1
  have hl := Lib.hid h.1
  go_enter Tryz.func36, Tryz.ntmps36
  go_wp2
  go_loopw [5] (fun i wr => ∃ k : Nat, k ≤ n ∧ i = .int .i64 k ∧ Below w.heap.size w wr ∧ Hid (d ∉ l.take k)) (fun i _ => n - (intOf i).toNat)
  case atStart => exact ⟨0, Nat.zero_le _, rfl, Below.refl _ _, by simp [Hid]⟩
  case round =>
    obtain ⟨k, hk, rfl, hbw, hr⟩ := hrel
    by_cases hlt : k < n
    · obtain ⟨b, off, s, rfl, hb1, hx, h0⟩ := (h.to hbw).str hlt
      by_cases hq : s = d
      · have hs := str_eq hq
        have hin : Hid (d ∈ l) := by unfold Hid; rw [← hq]; exact List.mem_of_getElem? hx
        replace hq := Lib.hid hq
        replace hx := Lib.hid hx
        go_wp2
        go_ret
        exact ⟨ret_bool (by simp [hin.out]), (by repeat (first | exact Below.refl _ _ | assumption | refine Below.drew ?_ | refine below_drewN ?_ _ | refine Below.alloc ?_ (by first | omega | (simp; try omega)) _ | refine Below.setCell ?_ (by first | omega | (simp; try omega)) _ | (refine Below.trans ?_ (Below.mono (by assumption) (by first | omega | (simp; try omega))))))⟩
      · have hs := str_ne hq
        have hr' : Hid (d ∉ l.take (k + 1)) := by unfold Hid; rw [mem_take_succ hx]; exact not_or.2 ⟨hr.out, fun e => hq e.symm⟩
        replace hq := Lib.hid hq
        replace hx := Lib.hid hx
        go_wp2
        go_roundw
        case rel => exact ⟨k + 1, by omega, by go_num, (by repeat (first | exact Below.refl _ _ | assumption | refine Below.drew ?_ | refine below_drewN ?_ _ | refine Below.alloc ?_ (by first | omega | (simp; try omega)) _ | refine Below.setCell ?_ (by first | omega | (simp; try omega)) _ | (refine Below.trans ?_ (Below.mono (by assumption) (by first | omega | (simp; try omega)))))), hr'⟩
        case measure => simp [intOf]; omega
    · obtain rfl : k = n := by omega
      have ht : l.take k = l := List.take_of_length_le (by have := hl.out; omega)
      rw [ht] at hr
      replace ht := Lib.hid ht
      go_wp2
      go_ret
      exact ⟨ret_bool (by simp [hr.out]), (by repeat (first | exact Below.refl _ _ | assumption | refine Below.drew ?_ | refine below_drewN ?_ _ | refine Below.alloc ?_ (by first | omega | (simp; try omega)) _ | refine Below.setCell ?_ (by first | omega | (simp; try omega)) _ | (refine Below.trans ?_ (Below.mono (by assumption) (by first | omega | (simp; try omega))))))⟩

set_option maxHeartbeats 1000000 in
theorem ref24_Texts (A A' : Option Addr) (n n' c c' : Nat) (l l' : List ByteArray) (w : World) (h : StrsAt w w.heap.size A n l) (h' : StrsAt w w.heap.size A' n' l') :
    Calls Tryz.prog 32 #[.slice A n c, .slice A' n' c'] w fun e w' => e = .returned (.bool (eqL l l')) ∧ Below w.heap.size w w' := by
  have hn := h.2.1
  have hl := Lib.hid h.1
  have hl' := Lib.hid h'.1
  by_cases hnn : n = n'
  · subst hnn
    have hb : ((n : Int) != (n : Int)) = false := by simp
    go_enter Tryz.func32, Tryz.ntmps32
    go_wp2
    go_loopw [5] (fun i wr => ∃ k : Nat, k ≤ n ∧ i = .int .i64 k ∧ Below w.heap.size w wr ∧ Hid (l.take k = l'.take k)) (fun i _ => n - (intOf i).toNat)
    case atStart => exact ⟨0, Nat.zero_le _, rfl, Below.refl _ _, rfl⟩
    case round =>
      obtain ⟨k, hk, rfl, hbw, hr⟩ := hrel
      by_cases hlt : k < n
      · obtain ⟨b, off, s, rfl, hb1, hx, h0⟩ := (h.to hbw).str hlt
        obtain ⟨b', off', s', rfl, hb1', hx', h0'⟩ := (h'.to hbw).str hlt
        replace hx := Lib.hid hx
        have hx' := Lib.hid hx'
        by_cases hq : s = s'
        · have hs := str_eq hq
          replace hq := Lib.hid hq
          go_wp2
          go_quiet (fail)
          go_wp2
          go_roundw
          case rel => exact ⟨k + 1, by omega, by go_num, (by repeat (first | exact Below.refl _ _ | assumption | refine Below.drew ?_ | refine below_drewN ?_ _ | refine Below.alloc ?_ (by first | omega | (simp; try omega)) _ | refine Below.setCell ?_ (by first | omega | (simp; try omega)) _ | (refine Below.trans ?_ (Below.mono (by assumption) (by first | omega | (simp; try omega)))))), take_step hr.out hx.out (hq.out ▸ hx'.out)⟩
          case measure => simp [intOf]; omega
        · have hs := str_ne hq
          replace hq := Lib.hid hq
          go_wp2
          go_quiet (fail)
          go_wp2
          go_ret
          exact ⟨ret_bool (eqL_no hx.out hx'.out hq.out), (by repeat (first | exact Below.refl _ _ | assumption | refine Below.drew ?_ | refine below_drewN ?_ _ | refine Below.alloc ?_ (by first | omega | (simp; try omega)) _ | refine Below.setCell ?_ (by first | omega | (simp; try omega)) _ | (refine Below.trans ?_ (Below.mono (by assumption) (by first | omega | (simp; try omega))))))⟩
      · obtain rfl : k = n := by omega
        go_wp2
        go_ret
        exact ⟨ret_bool (eqL_yes hl.out hl'.out hr.out), (by repeat (first | exact Below.refl _ _ | assumption | refine Below.drew ?_ | refine below_drewN ?_ _ | refine Below.alloc ?_ (by first | omega | (simp; try omega)) _ | refine Below.setCell ?_ (by first | omega | (simp; try omega)) _ | (refine Below.trans ?_ (Below.mono (by assumption) (by first | omega | (simp; try omega))))))⟩
  · have hb : ((n : Int) != (n' : Int)) = true := by simp; omega
    go_enter Tryz.func32, Tryz.ntmps32
    go_wp2
    go_ret
    exact ⟨ret_bool (eqL_len (by rw [hl.out, hl'.out]; exact hnn)), (by repeat (first | exact Below.refl _ _ | assumption | refine Below.drew ?_ | refine below_drewN ?_ _ | refine Below.alloc ?_ (by first | omega | (simp; try omega)) _ | refine Below.setCell ?_ (by first | omega | (simp; try omega)) _ | (refine Below.trans ?_ (Below.mono (by assumption) (by first | omega | (simp; try omega))))))⟩

theorem below_grownBy {w w' : World} (hb : Below w.heap.size w w') (row : Option Nat) : w.grownBy w' row := ⟨hb.os, hb.tape, hb.output, hb.size, fun i hi _ => hb.block i hi⟩
theorem grownBy_set {w w' : World} {b o : Nat} (h : w.grownBy w' (some b)) (v : Value) : w.grownBy (w'.setCell ⟨b, o, none⟩ v) (some b) :=
  ⟨h.os, h.tape, h.output, by simpa using h.size, fun i hi hne => (Go.Deep.blk_setCell_other _ _ _ _ (fun e => hne (by rw [e]))).trans (h.block i hi hne)⟩

/-- A text put into a rising row. -/
theorem rise_ins {S : List ByteArray} {x : ByteArray} {k : Nat} (hr : RiseS S) (h1 : ∀ y ∈ S.take k, sLt y x = true) (h2 : ∀ y ∈ S.drop k, sLt x y = true) : RiseS (S.take k ++ [x] ++ S.drop k) := by
  have hs : (S.take k ++ S.drop k).Pairwise fun a b => sLt a b = true := by rw [List.take_append_drop]; exact hr
  obtain ⟨p1, p2, p3⟩ := List.pairwise_append.1 hs
  refine List.pairwise_append.2 ⟨List.pairwise_append.2 ⟨p1, List.pairwise_singleton _ _, fun a ha b hb => ?_⟩, p2, fun a ha b hb => ?_⟩
  · obtain rfl := List.mem_singleton.1 hb
    exact h1 a ha
  · rcases List.mem_append.1 ha with ha | ha
    · exact p3 a ha b hb
    · obtain rfl := List.mem_singleton.1 ha
      exact h2 b hb
theorem set_ins {l : List ByteArray} {x : ByteArray} {k : Nat} (h1 : ∀ y ∈ (setS l).take k, sLt y x = true) (h2 : ∀ y ∈ (setS l).drop k, sLt x y = true) : setS (l ++ [x]) = (setS l).take k ++ [x] ++ (setS l).drop k := by
  refine (setS_unique (rise_ins (setS_rise l) h1 h2) fun z => ?_).symm
  have e : z ∈ setS l ↔ z ∈ (setS l).take k ∨ z ∈ (setS l).drop k := by rw [← List.mem_append, List.take_append_drop]
  rw [setS_mem] at e
  simp only [List.mem_append, List.mem_singleton]
  rw [e]
  constructor
  · rintro ((h | h) | h)
    · exact .inl (.inl h)
    · exact .inr h
    · exact .inl (.inr h)
  · rintro ((h | h) | h)
    · exact .inl (.inl h)
    · exact .inr h
    · exact .inl (.inr h)
theorem set_has {l : List ByteArray} {x : ByteArray} (h : x ∈ setS l) : setS (l ++ [x]) = setS l :=
  (setS_unique (setS_rise l) fun z => by rw [setS_mem] at h ⊢; simp only [List.mem_append, List.mem_singleton]; exact ⟨.inl, fun hz => hz.elim id fun e => e ▸ h⟩).symm
theorem rise_below {S : List ByteArray} {x y : ByteArray} {k : Nat} (hr : RiseS S) (hy : S[k]? = some y) (h : sLt y x = true) : ∀ z ∈ S.take (k + 1), sLt z x = true := fun z hz => by
  obtain ⟨i, hi⟩ := List.getElem?_of_mem hz
  obtain ⟨h1, rfl⟩ := List.getElem?_eq_some_iff.1 hi
  obtain ⟨h2, rfl⟩ := List.getElem?_eq_some_iff.1 hy
  rw [List.getElem_take]
  have hk : i < k + 1 := by simp at h1; omega
  rcases Nat.lt_or_ge i k with hik | hik
  · exact sLt_trans (List.pairwise_iff_getElem.1 hr i k (by omega) h2 hik) h
  · obtain rfl : i = k := by omega
    exact h
end Go.Proofs.YtdhlmhkabckbaaaGreatDoor
