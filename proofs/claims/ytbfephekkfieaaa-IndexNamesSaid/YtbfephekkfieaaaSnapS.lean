/-
  The contracts of snap.Same and of slices.Equal at snapshots.
-/
import Derived.Test.YtbfephekkfieaaaSnapA
import Derived.Test.YtbfephekkfieaaaEqL
namespace Go.Proofs.Ytbfephekkfieaaa
open Go.RowKit

theorem bytes_eq (r r' : ByteArray) : (r.toList = r'.toList) = (r = r') := by
  rw [ByteArray.toList_eq, ByteArray.toList_eq]
  obtain ⟨⟨x⟩⟩ := r
  obtain ⟨⟨y⟩⟩ := r'
  simp

theorem eqSnap (a b : Snap) (w : World) : (binOp .neq 33 (.agg #[.int .i64 a.id, .int .i64 a.time, .string a.root]) (.agg #[.int .i64 b.id, .int .i64 b.time, .string b.root])).run Try.prog w
    = .ok (.bool (!(a.same b))) w := by
  have u3 := Try.underlying3
  have u2 := Try.underlying2
  have u9 := Try.underlying9
  have hS : Try.prog.underlying 33 = some (.struct (Try.prog.fieldsOf 33)) := by kernel_rfl
  have hp : Try.prog.stoodInHeld 33 = false := by kernel_rfl
  rw [run_neq_struct, show (10000 : Nat) = 9999 + 1 from rfl, run_equalIn_agg w 9999 _ _ _ hS hp]
  simp only [Program.fieldsOf, Try.underlying33]
  go_simp
  obtain ⟨i, t, r⟩ := a
  obtain ⟨i', t', r'⟩ := b
  have hr := bytes_eq r r'
  simp only [hr, Snap.same]
  by_cases h1 : i = i' <;> by_cases h2 : t = t' <;> by_cases h3 : r = r' <;> simp [h1, h2, h3]

theorem sameL_len {l l' : List Snap} (h : l.length ≠ l'.length) : false = sameL l l' := by simp [sameL]; rintro rfl; exact h rfl
theorem sameL_no {l l' : List Snap} {k : Nat} {s s' : Snap} (h : l[k]? = some s) (h' : l'[k]? = some s') (hs : s.same s' = false) : false = sameL l l' := by
  simp [sameL]; rintro rfl; rw [h] at h'; injection h' with h'; subst h'; simp [Snap.same] at hs
theorem sameL_yes {l l' : List Snap} {n : Nat} (hl : l.length = n) (hl' : l'.length = n) (h : l.take n = l'.take n) : true = sameL l l' := by
  rw [List.take_of_length_le (by omega), List.take_of_length_le (by omega)] at h; simp [sameL, h]
set_option maxHeartbeats 400000 in
theorem equal_snap (A A' : Option Addr) (n n' c c' : Nat) (l l' : List Snap) (w : World) (h : SnapsAt w w.heap.size A n l) (h' : SnapsAt w w.heap.size A' n' l') :
    Calls Try.prog 49 #[.slice A n c, .slice A' n' c'] w fun e w' => e = .returned (.bool (sameL l l')) ∧ Below w.heap.size w w' := by
  have hn := h.2.1
  have hl := Lib.hid h.1
  have hl' := Lib.hid h'.1
  by_cases hnn : n = n'
  · subst hnn
    have hb : ((n : Int) != (n : Int)) = false := by simp
    go_enter Try.func49, Try.ntmps49
    go_wp2
    go_loopw [13] (fun i wr => ∃ k : Nat, k ≤ n ∧ i = .int .i64 k ∧ Below w.heap.size w wr ∧ Hid (l.take k = l'.take k)) (fun i _ => n - (intOf i).toNat)
    case atStart => exact ⟨0, Nat.zero_le _, rfl, Below.refl _ _, rfl⟩
    case round =>
      obtain ⟨k, hk, rfl, hbw, hr⟩ := hrel
      by_cases hlt : k < n
      · obtain ⟨b, off, s, rfl, hb1, hx, h0, h1, h2⟩ := (h.below hbw).snap hlt
        obtain ⟨b', off', s', rfl, hb1', hx', h0', h1', h2'⟩ := (h'.below hbw).snap hlt
        have e := eqSnap s s'
        replace hx := Lib.hid hx
        have hx' := Lib.hid hx'
        cases hq : s.same s'
        · go_wp2
          go_quiet (fail)
          go_wp2
          go_ret
          exact ⟨ret_bool (sameL_no hx.out hx'.out hq), (by repeat (first | exact Below.refl _ _ | assumption | refine Below.drew ?_ | refine below_drewN ?_ _ | refine Below.alloc ?_ (by first | omega | (simp; try omega)) _ | refine Below.setCell ?_ (by first | omega | (simp; try omega)) _ | (refine Below.trans ?_ (Below.mono (by assumption) (by first | omega | (simp; try omega))))))⟩
        · have hss := Lib.hid (Snap.same_iff.1 hq)
          go_wp2
          go_quiet (fail)
          go_wp2
          go_roundw
          case rel => exact ⟨k + 1, by omega, by go_num, (by repeat (first | exact Below.refl _ _ | assumption | refine Below.drew ?_ | refine below_drewN ?_ _ | refine Below.alloc ?_ (by first | omega | (simp; try omega)) _ | refine Below.setCell ?_ (by first | omega | (simp; try omega)) _ | (refine Below.trans ?_ (Below.mono (by assumption) (by first | omega | (simp; try omega)))))), take_step hr.out hx.out (hss.out ▸ hx'.out)⟩
          case measure => simp [intOf]; omega
      · obtain rfl : k = n := by omega
        go_wp2
        go_ret
        exact ⟨ret_bool (sameL_yes hl.out hl'.out hr.out), (by repeat (first | exact Below.refl _ _ | assumption | refine Below.drew ?_ | refine below_drewN ?_ _ | refine Below.alloc ?_ (by first | omega | (simp; try omega)) _ | refine Below.setCell ?_ (by first | omega | (simp; try omega)) _ | (refine Below.trans ?_ (Below.mono (by assumption) (by first | omega | (simp; try omega))))))⟩
  · have hb : ((n : Int) != (n' : Int)) = true := by simp; omega
    go_enter Try.func49, Try.ntmps49
    go_wp2
    go_ret
    exact ⟨ret_bool (sameL_len (by rw [hl.out, hl'.out]; exact hnn)), (by repeat (first | exact Below.refl _ _ | assumption | refine Below.drew ?_ | refine below_drewN ?_ _ | refine Below.alloc ?_ (by first | omega | (simp; try omega)) _ | refine Below.setCell ?_ (by first | omega | (simp; try omega)) _ | (refine Below.trans ?_ (Below.mono (by assumption) (by first | omega | (simp; try omega))))))⟩


theorem snap_Same (A A' : Option Addr) (n n' c c' : Nat) (l l' : List Snap) (w : World) (h : SnapsAt w w.heap.size A n l) (h' : SnapsAt w w.heap.size A' n' l') :
    Calls Try.prog 31 #[.slice A n c, .slice A' n' c'] w fun e w' => e = .returned (.bool (sameL l l')) ∧ Below w.heap.size w w' := by
  go_enter Try.func31, Try.ntmps31
  go_wp2_with (go_at_call 49; refine (equal_snap A A' n n' c c' l l' _ h h').mono ?_; rintro e w1 ⟨rfl, hbw1⟩; obtain ⟨hcw1, hfw1⟩ := bcell hbw1; (try simp only [World.size_drew, World.cell?_drew, World.frozen?_drew, World.heap_drewN, World.cell?_drewN, World.frozen?_drewN] at hcw1 hfw1); have hzw1 := hbw1.size; (try simp at hzw1); (try have hlw1 := (by omega : w.heap.size < w1.heap.size)); (try have hmw1 := (by omega : w.heap.size + 1 < w1.heap.size)); (try have hnw1 := (by omega : w.heap.size + 1 + 1 < w1.heap.size)))
  go_ret
  exact ⟨rfl, (by repeat (first | exact Below.refl _ _ | assumption | refine Below.drew ?_ | refine below_drewN ?_ _ | refine Below.alloc ?_ (by first | omega | (simp; try omega)) _ | refine Below.setCell ?_ (by first | omega | (simp; try omega)) _ | (refine Below.trans ?_ (Below.mono (by assumption) (by first | omega | (simp; try omega))))))⟩
end Go.Proofs.Ytbfephekkfieaaa
