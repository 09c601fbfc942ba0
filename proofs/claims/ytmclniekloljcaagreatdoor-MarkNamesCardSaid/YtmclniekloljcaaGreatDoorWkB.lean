/-
  slices.Backward over texts: what the iterator gives.
-/
import Derived.Test.YtmclniekloljcaaGreatDoorStrs
import Derived.RangeFuncWrites
import Derived.RangeFuncLeaves
import Derived.Shelf.Abstract
import Derived.OwnWalkIn
import Derived.TacticsInMore
import Derived.LoopNIn
import Derived.LoopIn
namespace Go.Proofs.YtmclniekloljcaaGreatDoor
open Go.RowKit Go.Shelf
attribute [local go_sem] Oper.semAt_some

/-- A text that is no longer than a statement goes over. -/
abbrev Txt := { s : ByteArray // s.size ≤ 60000 }
def encT (x : Nat × Txt) : Array Value := #[.int .i64 (x.1 : Int), .string x.2.1]
def zTxt : Txt := ⟨⟨#[]⟩, by decide⟩
/-- What slices.Backward gives of texts. -/
def backL (d : List Txt) : List (Nat × Txt) := (List.range d.length).map fun j => (d.length - 1 - j, d[d.length - 1 - j]?.getD zTxt)
theorem backL_len (d : List Txt) : (backL d).length = d.length := by simp [backL]
theorem backL_take {d : List Txt} {k : Nat} (hk : k < d.length) : (backL d).take (k + 1) = (backL d).take k ++ [(d.length - 1 - k, d[d.length - 1 - k]?.getD zTxt)] := by
  rw [List.take_add_one]
  simp [backL, hk]

set_option maxRecDepth 100000 in
set_option maxHeartbeats 2000000 in
theorem back_stops (F : Fence) (n : Nat) (hf : F.fn 57) (hro : F.round = none) (hn : 1 ≤ n) (Bs m c : Nat) (A : Option Addr) (d : List Txt) (w : World) (hB0 : Bs < w.heap.size)
    (hBs : w.cell? ⟨Bs, 0, none⟩ = some (.slice A m c)) (h : StrsAt w w.heap.size A m (d.map Subtype.val)) :
    SeqStopsK F n Tryz.prog 57 #[.pointer (some ⟨Bs, 0, none⟩)] encT (Below w.heap.size) (fun xs => xs = backL d) (fun _ => True) m w := by
  intro l J Jx W hW hJa _ hY h0
  have hm := h.2.1
  have hl : d.length = m := by have := h.1; rwa [List.length_map] at this
  have hcb := (hW.cell (p := ⟨Bs, 0, none⟩) hB0).trans hBs
  refine callsIn_of_wp Tryz.func57 rfl hf ?_ hro
  simp only [Tryz.ntmps57, List.size_toArray, List.length_cons, List.length_nil, Nat.reduceAdd, Nat.reduceSub, Array.replicate_succ, Array.replicate_zero, List.push_toArray, List.append_toArray, List.nil_append, List.cons_append]
  gi_wp2
  gi_loopw [3] (fun i wr => ∃ k : Nat, k ≤ m ∧ i = .int .i64 ((m : Int) - 1 - k) ∧ J ((backL d).take k) wr ∧ Below w.heap.size w wr) (fun i _ => (intOf i + 1).toNat)
  case atStart => exact ⟨0, Nat.zero_le _, by simp, h0, hW⟩
  case round =>
    obtain ⟨k, hk, rfl, hJs, hnx⟩ := hrel
    have hz := hnx.size
    have hcb := (hnx.cell (p := ⟨Bs, 0, none⟩) hB0).trans hBs
    by_cases hlt : k < m
    · obtain ⟨q, hq⟩ : ∃ q, q = m - 1 - k := ⟨_, rfl⟩
      have hqi : (m : Int) - 1 - k = (q : Int) := by omega
      obtain ⟨b, off, s, rfl, hb, hx, q0⟩ := (h.to hnx).str (i := q) (by omega)
      obtain ⟨x, hdx, rfl⟩ : ∃ x : Txt, d[q]? = some x ∧ x.1 = s := by
        rw [List.getElem?_map] at hx
        exact Option.map_eq_some_iff.1 hx
      have htk : Hid ((backL d).take (k + 1) = (backL d).take k ++ [(q, x)]) := by
        unfold Hid
        rw [backL_take (by omega)]
        simp only [hl, ← hq, hdx, Option.getD_some]
      have hlen : ((backL d).take k).length < m := by rw [List.length_take, backL_len]; omega
      obtain ⟨fn, tmps, assign, body, hy, hR⟩ := hY _ (q, x) wr hJs hlen
      rw [hqi]
      unfold encT at hy
      dsimp only at hy
      have hqm : q < m := by omega
      clear hx hlen hdx hq
      gi_wp2
      refine hR.mono ?_
      rintro e W3 (⟨rfl, hJ3, hk3⟩ | ⟨rfl, hJx3⟩)
      · gi_wp2
        go_roundw
        case rel => exact ⟨k + 1, by omega, by go_num, by rw [htk.out]; exact hJ3, hnx.trans hk3⟩
        case measure => first | (simp [intOf]; done) | (simp [intOf]; omega)
      · gi_wp2
        refine bodyPost_ret (results_none rfl _ _ _) rfl ?_
        exact ⟨⟨_, rfl⟩, .inr ⟨_, trivial, hJx3⟩⟩
    · obtain rfl : k = m := by omega
      have hqi : (k : Int) - 1 - k = -1 := by omega
      rw [hqi]
      gi_wp2
      go_end0
      exact ⟨⟨_, rfl⟩, .inl ⟨_, rfl, by rwa [List.take_of_length_le (by rw [backL_len]; omega)] at hJs⟩⟩
end Go.Proofs.YtmclniekloljcaaGreatDoor
