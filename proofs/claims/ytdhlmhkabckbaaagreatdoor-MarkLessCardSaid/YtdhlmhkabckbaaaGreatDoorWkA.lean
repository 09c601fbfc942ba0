/-
  Package walk: a root whose chunk is not at hand: what is thrown, and how it is caught.
-/
import Derived.Test.YtdhlmhkabckbaaaGreatDoorBase
import Derived.Defers
import Derived.Recover
import Derived.Stop.IfaceNil
import Derived.Test.YtdhlmhkabckbaaaGreatDoorStrs
import Derived.RangeFuncWrites
import Derived.RangeFuncLeaves
import Derived.Shelf.Abstract
import Derived.OwnWalkIn
import Derived.TacticsInMore
import Derived.LoopNIn
import Derived.LoopIn
import Derived.Test.YtdhlmhkabckbaaaGreatDoorCntA
import Derived.Test.YtdhlmhkabckbaaaGreatDoorKrip
namespace Go.Proofs.YtdhlmhkabckbaaaGreatDoor
open Go.RowKit

/-- What is thrown. -/
def faultV (n : Int) : Value := .iface 103 (.agg #[.int .i64 n])
/-- A panic that nobody has caught. -/
def thrown (n : Int) : Ending := .panicked [{ v := faultV n, recovered := false }]

set_option maxRecDepth 100000 in
theorem walk_find_none (b mb : Nat) (d : ByteArray) (w : World) (h0 : w.cell? ⟨b, 0, none⟩ = some (.map (some mb)))
    (hl : (Instr.lookup 85 (.map (some mb)) (.string d) true).run Tryz.prog w = .ok (.tuple #[.agg #[.string ⟨#[]⟩], .bool false]) w) :
    Calls Tryz.prog 131 #[.pointer (some ⟨b, 0, none⟩), .string d] w fun e w' => e = thrown 5 ∧ Below w.heap.size w w' := by
  go_enter Tryz.func131, Tryz.ntmps131
  go_wp2_with fail
  exact ⟨rfl, rfl, (Below.refl _ w).alloc (Nat.le_refl _) _⟩

set_option maxRecDepth 100000 in
theorem walk_dir_none (b mb : Nat) (d ahead : ByteArray) (w : World) (h0 : w.cell? ⟨b, 0, none⟩ = some (.map (some mb)))
    (hl : (Instr.lookup 85 (.map (some mb)) (.string d) true).run Tryz.prog w = .ok (.tuple #[.agg #[.string ⟨#[]⟩], .bool false]) w) :
    Calls Tryz.prog 95 #[.pointer (some ⟨b, 0, none⟩), .string d, .string ahead] w fun e w' => e = thrown 5 ∧ Below w.heap.size w w' := by
  have hc := walk_find_none b mb d w h0 hl
  go_enter Tryz.func95, Tryz.ntmps95
  go_wp2_with fail
  refine hc.mono ?_
  rintro e w1 ⟨rfl, hb⟩
  unfold thrown
  go_wp2_with fail
  exact ⟨rfl, rfl, hb⟩

set_option maxRecDepth 100000 in
theorem walk_read1_none (b mb b1 b2 : Nat) (d : ByteArray) (w : World) (h1 : w.cell? ⟨b1, 0, none⟩ = some (.pointer (some ⟨b, 0, none⟩))) (h2 : w.cell? ⟨b2, 0, none⟩ = some (.string d)) (h0 : w.cell? ⟨b, 0, none⟩ = some (.map (some mb)))
    (hl : (Instr.lookup 85 (.map (some mb)) (.string d) true).run Tryz.prog w = .ok (.tuple #[.agg #[.string ⟨#[]⟩], .bool false]) w) :
    Calls Tryz.prog 94 #[.pointer (some ⟨b1, 0, none⟩), .pointer (some ⟨b2, 0, none⟩)] w fun e w' => e = thrown 5 ∧ Below w.heap.size w w' := by
  have hc := walk_dir_none b mb d ⟨#[]⟩ w h0 hl
  go_enter Tryz.func94, Tryz.ntmps94
  go_wp2_with fail
  refine hc.mono ?_
  rintro e w1 ⟨rfl, hb⟩
  unfold thrown
  go_wp2_with fail
  exact ⟨rfl, rfl, hb⟩

set_option maxRecDepth 100000 in
/-- The deferred closure, where a fault was thrown. -/
theorem walk_catch (p : Nat) (n : Int) (older : List PanicEntry) (v0 : Value) (w : World) (hv : w.cell? ⟨p, 0, none⟩ = some v0) (hz : w.frozen? ⟨p, 0, none⟩ = false) (hp : p < w.heap.size) :
    CallsD Tryz.prog 67 #[.pointer (some ⟨p, 0, none⟩)] (.panicking ({ v := faultV n, recovered := false } :: older)) w fun e u' w' =>
      e = .returned (.tuple #[]) ∧ u' = .panicking ({ v := faultV n, recovered := true } :: older) ∧ w' = (w.setCell ⟨p, 0, none⟩ (.int .i64 n)).alloc (.cells #[.int .i64 n] 103) := by
  have hta : ∀ W : World, (Instr.typeAssert (.iface 103 (.agg #[.int .i64 n])) 20 103 true).run Tryz.prog W = .ok (.tuple #[.agg #[.int .i64 n], .bool true]) W := fun W => by
    simp [Instr.typeAssert, run_underlying Tryz.underlying103, go_sem, Result.andThen]
  have hnil : ∀ W : World, (binOp BinOp.eql 20 (.iface 103 (.agg #[.int .i64 n])) .nilIface).run Tryz.prog W = .ok (.bool false) W := fun W => run_eql_iface_nil W _ (by kernel_rfl) _ _
  refine callsD_of_wpS Tryz.func67 rfl fun c₀ cs hu => ?_
  apply wpS_seq
  apply wpS_region
  unfold faultV at hu ⊢
  simp [wpOpsS, go_sem, recoverD, hu, Tryz.ntmps67, Exit.thenS]
  refine wpS_of_wp ?_
  simp only [Array.replicate_succ, Array.replicate_zero, List.push_toArray, List.setIfInBounds_toArray, List.append_toArray, List.nil_append, List.cons_append, List.set_cons_succ, List.set_cons_zero]
  go_wp2_with fail
  simp [bodyPostS, results, Tryz.results67, Exit.thenS]

set_option maxRecDepth 100000 in
/-- What is thrown within is told. -/
theorem walk_caught_bad (b1 b2 : Nat) (n : Int) (w : World)
    (hc : ∀ W, Below w.heap.size w W → Calls Tryz.prog 94 #[.pointer (some ⟨b1, 0, none⟩), .pointer (some ⟨b2, 0, none⟩)] W fun e w' => e = thrown n ∧ Below W.heap.size W w') :
    Calls Tryz.prog 38 #[.func (.func 94) #[] #[.pointer (some ⟨b1, 0, none⟩), .pointer (some ⟨b2, 0, none⟩)]] w fun e w' => e = .returned (.int .i64 n) ∧ Below w.heap.size w w' := by
  have hmf : ∀ (fn : Fn) (first cap : Array Value) (w : World), (Instr.makeFunc fn first cap).run Tryz.prog w = .ok (.func fn first cap) w := fun _ _ _ _ => rfl
  have hb0 : Below w.heap.size w (w.alloc (.cells #[.int .i64 0] 26)) := (Below.refl _ w).alloc (Nat.le_refl _) _
  have hc0 := hc _ hb0
  go_enter_defers Tryz.func38, Tryz.ntmps38
  go_wp2_with fail
  refine hc0.mono ?_
  rintro e w1 ⟨rfl, hb1⟩
  unfold thrown
  go_wp2_with fail
  have hq := (hb1.block w.heap.size (by simp)).trans (heap_alloc_new w (.cells #[.int .i64 0] 26))
  have hlt := (Array.getElem?_eq_some_iff.1 hq).1
  have hcl : w1.cell? ⟨w.heap.size, 0, none⟩ = some (.int .i64 0) := (cell_of_row w1 w.heap.size 0 _ _ _ hq).trans rfl
  have hfz : w1.frozen? ⟨w.heap.size, 0, none⟩ = false := by unfold World.frozen?; simp [hq]
  have hfin : Below w.heap.size w ((w1.setCell ⟨w.heap.size, 0, none⟩ (.int .i64 n)).alloc (.cells #[.int .i64 n] 103)) :=
    ((hb0.trans (hb1.mono hb0.size)).setCell (p := ⟨w.heap.size, 0, none⟩) (Nat.le_refl _) _).alloc (by simp; omega) _
  refine leaves_cons (f := 67) (args := #[.pointer (some ⟨w.heap.size, 0, none⟩)]) (by simp) (by simp [go_sem]) ?_
  refine (walk_catch w.heap.size n [] (.int .i64 0) w1 hcl hfz hlt).mono ?_
  rintro e u' w'' ⟨rfl, rfl, rfl⟩
  have hce : ((w1.setCell ⟨w.heap.size, 0, none⟩ (.int .i64 n)).alloc (.cells #[.int .i64 n] 103)).cell? ⟨w.heap.size, 0, none⟩ = some (.int .i64 n) :=
    (World.cell?_alloc_lt _ _ _ (by simp; exact hlt)).trans (World.cell?_setCell_same' _ _ _ (by rw [hcl]; rfl))
  simp [Leaves, settle, results, Tryz.results38, go_sem, hce]
  exact hfin
end Go.Proofs.YtdhlmhkabckbaaaGreatDoor
/-
  slices.Backward over texts: what the iterator gives.
-/
namespace Go.Proofs.YtdhlmhkabckbaaaGreatDoor
open Go.RowKit Go.Shelf
attribute [local go_sem] Oper.semAt_some

/-- A text that is no longer than a statement goes over. -/
abbrev Txt := { s : ByteArray // s.size ≤ 60000 }
def encT (x : Nat × Txt) : Array Value := #[.int .i64 (x.1 : Int), .string x.2.1]
def zTxt : Txt := ⟨⟨#[]⟩, by decide⟩
/-- What slices.Backward gives of texts. -/
def backL (d : List Txt) : List (Nat × Txt) := (List.range d.length).map fun j => (d.length - 1 - j, d[d.length - 1 - j]?.getD zTxt)
theorem backL_len (d : List Txt) : (backL d).length = d.length := by simp [backL]
theorem backL_take {d : List Txt} {k : Nat} (hk : k < d.length) : (backL d).take (k + 1) = (backL d).take k ++ [(d.length - 1 - k, d[d.length - 1 - k]?.getD zTxt)] := by
  rw [List.take_add_one]
  simp [backL, hk]

set_option maxRecDepth 100000 in
set_option maxHeartbeats 2000000 in
theorem back_stops (F : Fence) (n : Nat) (hf : F.fn 129) (hro : F.round = none) (hn : 1 ≤ n) (Bs m c : Nat) (A : Option Addr) (d : List Txt) (w : World) (hB0 : Bs < w.heap.size)
    (hBs : w.cell? ⟨Bs, 0, none⟩ = some (.slice A m c)) (h : StrsAt w w.heap.size A m (d.map Subtype.val)) :
    SeqStopsK F n Tryz.prog 129 #[.pointer (some ⟨Bs, 0, none⟩)] encT (Below w.heap.size) (fun xs => xs = backL d) (fun _ => True) m w := by
  intro l J Jx W hW hJa _ hY h0
  have hm := h.2.1
  have hl : d.length = m := by have := h.1; rwa [List.length_map] at this
  have hcb := (hW.cell (p := ⟨Bs, 0, none⟩) hB0).trans hBs
  refine callsIn_of_wp Tryz.func129 rfl hf ?_ hro
  simp only [Tryz.ntmps129, List.size_toArray, List.length_cons, List.length_nil, Nat.reduceAdd, Nat.reduceSub, Array.replicate_succ, Array.replicate_zero, List.push_toArray, List.append_toArray, List.nil_append, List.cons_append]
  gi_wp2
  gi_loopw [3] (fun i wr => ∃ k : Nat, k ≤ m ∧ i = .int .i64 ((m : Int) - 1 - k) ∧ J ((backL d).take k) wr ∧ Below w.heap.size w wr) (fun i _ => (intOf i + 1).toNat)
  case atStart => exact ⟨0, Nat.zero_le _, by simp, h0, hW⟩
  case round =>
    obtain ⟨k, hk, rfl, hJs, hnx⟩ := hrel
    have hz := hnx.size
    have hcb := (hnx.cell (p := ⟨Bs, 0, none⟩) hB0).trans hBs
    by_cases hlt : k < m
    · obtain ⟨q, hq⟩ : ∃ q, q = m - 1 - k := ⟨_, rfl⟩
      have hqi : (m : Int) - 1 - k = (q : Int) := by omega
      obtain ⟨b, off, s, rfl, hb, hx, q0⟩ := (h.to hnx).str (i := q) (by omega)
      obtain ⟨x, hdx, rfl⟩ : ∃ x : Txt, d[q]? = some x ∧ x.1 = s := by
        rw [List.getElem?_map] at hx
        exact Option.map_eq_some_iff.1 hx
      have htk : Hid ((backL d).take (k + 1) = (backL d).take k ++ [(q, x)]) := by
        unfold Hid
        rw [backL_take (by omega)]
        simp only [hl, ← hq, hdx, Option.getD_some]
      have hlen : ((backL d).take k).length < m := by rw [List.length_take, backL_len]; omega
      obtain ⟨fn, tmps, assign, body, hy, hR⟩ := hY _ (q, x) wr hJs hlen
      rw [hqi]
      unfold encT at hy
      dsimp only at hy
      have hqm : q < m := by omega
      clear hx hlen hdx hq
      gi_wp2
      refine hR.mono ?_
      rintro e W3 (⟨rfl, hJ3, hk3⟩ | ⟨rfl, hJx3⟩)
      · gi_wp2
        go_roundw
        case rel => exact ⟨k + 1, by omega, by go_num, by rw [htk.out]; exact hJ3, hnx.trans hk3⟩
        case measure => first | (simp [intOf]; done) | (simp [intOf]; omega)
      · gi_wp2
        refine bodyPost_ret (results_none rfl _ _ _) rfl ?_
        exact ⟨⟨_, rfl⟩, .inr ⟨_, trivial, hJx3⟩⟩
    · obtain rfl : k = m := by omega
      have hqi : (k : Int) - 1 - k = -1 := by omega
      rw [hqi]
      gi_wp2
      go_end0
      exact ⟨⟨_, rfl⟩, .inl ⟨_, rfl, by rwa [List.take_of_length_le (by rw [backL_len]; omega)] at hJs⟩⟩
end Go.Proofs.YtdhlmhkabckbaaaGreatDoor

/-
  A map from digests to chunks that are at hand (a struct of one string).
-/
namespace Go.Proofs.YtdhlmhkabckbaaaGreatDoor
open Go.RowKit Go.Maps Go.Sort Go.Shelf Go.ChangeMaps

abbrev kpd (s : ByteArray) : DataW Unit := .agg [.lit (.string (bl s))]
def keptElem (v : Value) : Option (DataW Unit × List MemPlace) := match v with
  | .agg a => match a.toList with
    | [.string s] => if s.size ≤ maxLen then some (kpd s, []) else none
    | _ => none
  | _ => none
theorem keptElem_mk {s : ByteArray} (hs : s.size ≤ maxLen) : keptElem (.agg #[.string s]) = some (kpd s, []) := by
  simp only [keptElem]
  rw [if_pos hs]
theorem keptElem_inv {v : Value} {z : DataW Unit × List MemPlace} (h : keptElem v = some z) : ∃ s : ByteArray, v = .agg #[.string s] ∧ z = (kpd s, []) ∧ s.size ≤ maxLen := by
  unfold keptElem at h
  split at h
  · rename_i a
    split at h
    · rename_i s e
      split at h
      · rename_i hs
        cases h
        obtain ⟨l⟩ := a
        simp at e
        subst e
        exact ⟨s, rfl, rfl, hs⟩
      · cases h
    · cases h
  · cases h
theorem zeroKept (w : World) : (zeroValue 145).run Tryz.prog w = .ok (.agg #[.string ⟨#[]⟩]) w := by kernel_rfl

theorem kept_empty {w : World} {b : Nat} (h : w.heap[b]? = some (.map #[] 0)) (s : ByteArray) (hs : s.size ≤ maxLen) :
    (Instr.lookup 85 (.map (some b)) (.string s) true).run Tryz.prog w = .ok (.tuple #[.agg #[.string ⟨#[]⟩], .bool false]) w := by
  have h2 : w.ownsMap Tryz.prog 9 keptElem b 0 (.map [] : DataW Unit) := by
    obtain ⟨es, clock, h3, h4⟩ := World.ownsMap_made w Tryz.prog 9 keptElem
    rw [heap_alloc_new] at h3
    cases h3
    exact ⟨_, _, h, h4⟩
  obtain ⟨v, ps, hrun, hv⟩ := World.ownsMap.look_ok (w := w) h2 strKeyed Tryz.underlying85 (z := .agg #[.string ⟨#[]⟩]) (zeroKept _) (zd := kpd ⟨#[]⟩) (zp := []) (keptElem_mk (by decide)) (Go.WideMaps.keyOf_string_mk Tryz.underlying9 hs)
  obtain ⟨x, rfl, hx, _⟩ := keptElem_inv hv
  simp only [Prod.mk.injEq] at hx
  have e := hx.1
  simp only [DataW.atKey] at e
  have : x = ⟨#[]⟩ := bl_inj (by simpa [kpd] using e.symm)
  rw [hrun, this]
  simp [Maps.has]

/-- Block b is a map, of N entries or fewer, that has f. -/
def KeptAt (w : World) (b N : Nat) (f : ByteArray → Option ByteArray) : Prop :=
  N ≤ 1000000000 ∧ ∃ D : DataW Unit, w.ownsMap Tryz.prog 9 keptElem b N D ∧ (∀ s : ByteArray, Maps.has D (skey s) = (f s).isSome) ∧ ∀ s : ByteArray, D.atKey (skey s) (kpd ⟨#[]⟩) = kpd ((f s).getD ⟨#[]⟩)
def putK (f : ByteArray → Option ByteArray) (d c : ByteArray) : ByteArray → Option ByteArray := fun t => if d = t then some c else f t

section
variable {w w' : World} {b N : Nat} {f : ByteArray → Option ByteArray}
theorem KeptAt.made (w : World) : KeptAt (w.alloc (.map #[] 0)) w.heap.size 0 (fun _ => none) :=
  ⟨by omega, .map [], World.ownsMap_made w _ _ _, fun s => by simp [Maps.has], fun s => by simp [DataW.atKey]⟩
theorem KeptAt.lt (h : KeptAt w b N f) : b < w.heap.size := by obtain ⟨_, _, h, _⟩ := h; exact h.lt
theorem KeptAt.block (h : KeptAt w b N f) (hb : w'.heap[b]? = w.heap[b]?) : KeptAt w' b N f := by
  obtain ⟨h0, D, ⟨es, clock, h2, h3⟩, h4⟩ := h
  exact ⟨h0, D, ⟨es, clock, hb.trans h2, h3⟩, h4⟩
theorem KeptAt.below {B : Nat} (h : KeptAt w b N f) (hB : b < B) (hb : Below B w w') : KeptAt w' b N f := h.block (hb.block b hB)
theorem KeptAt.look (h : KeptAt w b N f) (s : ByteArray) (hs : s.size ≤ maxLen) :
    (Instr.lookup 85 (.map (some b)) (.string s) true).run Tryz.prog w = .ok (.tuple #[.agg #[.string ((f s).getD ⟨#[]⟩)], .bool (f s).isSome]) w := by
  obtain ⟨_, D, h2, h3, h4⟩ := h
  obtain ⟨v, ps, hrun, hv⟩ := World.ownsMap.look_ok (w := w) h2 strKeyed Tryz.underlying85 (z := .agg #[.string ⟨#[]⟩]) (zeroKept _) (zd := kpd ⟨#[]⟩) (zp := []) (keptElem_mk (by decide)) (Go.WideMaps.keyOf_string_mk Tryz.underlying9 hs)
  obtain ⟨x, rfl, hx, _⟩ := keptElem_inv hv
  have e := h4 s
  simp only [Prod.mk.injEq] at hx
  rw [hx.1] at e
  have : x = (f s).getD ⟨#[]⟩ := bl_inj (by simpa [kpd] using e)
  rw [hrun, this, h3]
theorem KeptAt.put (h : KeptAt w b N f) (hN : N + 1 ≤ 1000000000) (d c : ByteArray) (h1 : d.size ≤ maxLen) (h2 : c.size ≤ maxLen) :
    ∃ w', (Instr.mapUpdate 85 (.map (some b)) (.string d) (.agg #[.string c])).run Tryz.prog w = .ok () w' ∧ KeptAt w' b (N + 1) (putK f d c) ∧ w.grownBy w' (some b) := by
  obtain ⟨_, D, hD, h3, h4⟩ := h
  have hm : IsMap D := (hD.tidy strKeyed).isMap
  obtain ⟨w', hrun, hD', hg⟩ := hD.update strKeyed Tryz.underlying85 (by unfold maxLen; omega) (Go.WideMaps.keyOf_string_mk Tryz.underlying9 h1) (keptElem_mk h2)
  refine ⟨w', hrun, ⟨hN, _, hD', fun t => ?_, fun t => ?_⟩, hg⟩
  · unfold putK
    by_cases e : d = t
    · subst e
      rw [if_pos rfl]
      exact has_put_same hm (skey_lit _) _
    · rw [if_neg e, ← h3]
      exact has_put_other (skey_ne (fun e' => e e'.symm)) _
  · unfold putK
    by_cases e : d = t
    · subst e
      rw [if_pos rfl]
      exact atKey_put_same hm (skey_lit _) _ _
    · rw [if_neg e, ← h4]
      exact atKey_put_other (skey_ne (fun e' => e e'.symm)) _ _
end
end Go.Proofs.YtdhlmhkabckbaaaGreatDoor

/-
  walk.read of a root and no chunks at all: it is refused.
-/
namespace Go.Proofs.YtdhlmhkabckbaaaGreatDoor
open Go.RowKit Go.Shelf
attribute [local go_sem] Oper.semAt_some

theorem back_make (F : Fence) (n : Nat) (hf : F.fn 93) (hro : F.round = none) (A : Option Addr) (m c : Nat) (w : World) :
    CallsIn F n Tryz.prog 93 #[.slice A m c] w fun e w' => e = .returned (.func (.func 129) #[] #[.pointer (some ⟨w.heap.size, 0, none⟩)]) ∧ w' = w.alloc (.cells #[.slice A m c] 23) := by
  refine callsIn_of_wp Tryz.func93 rfl hf ?_ hro
  simp only [Tryz.ntmps93, List.size_toArray, List.length_cons, List.length_nil, Nat.reduceAdd, Nat.reduceSub, Array.replicate_succ, Array.replicate_zero, List.push_toArray, List.append_toArray, List.nil_append, List.cons_append]
  gi_wp2
  go_ret
  exact ⟨rfl, rfl⟩

theorem hkeep {w : World} {b : Nat} {x : Obj} (o : Obj) (h : w.heap[b]? = some x) : (w.alloc o).heap[b]? = some x := (Below.heap_alloc _ _ _ (Array.getElem?_eq_some_iff.1 h).1).trans h
theorem hnew {w : World} {b : Nat} (o : Obj) (h : w.heap.size = b) : (w.alloc o).heap[b]? = some o := by subst h; exact heap_alloc_new w o
theorem hsize {w : World} {b : Nat} (o : Obj) (h : w.heap.size = b) : (w.alloc o).heap.size = b + 1 := by simp [h]
theorem hcell {w : World} {b : Nat} {cs : Array Value} {T : TypeId} (h : w.heap[b]? = some (.cells cs T)) {o : Nat} {v : Value} (hv : cs[o]? = some v) : w.cell? ⟨b, o, none⟩ = some v := (cell_of_row w b o _ _ _ h).trans hv
theorem hfree {w : World} {b : Nat} {cs : Array Value} {T : TypeId} (h : w.heap[b]? = some (.cells cs T)) (o : Nat) : w.frozen? ⟨b, o, none⟩ = false := by unfold World.frozen?; simp [h]

set_option maxRecDepth 100000 in
set_option maxHeartbeats 2000000 in
theorem walk_read_nil (d : ByteArray) (hd : d.size = 32) (w : World) :
    Calls Tryz.prog 51 #[.string d, .slice none 0 0, .bool false] w fun e w' => ∃ p, e = .returned (.tuple #[.pointer p, .int .i64 5]) ∧ Below w.heap.size w w' := by
  have hmm := @run_makeMap Tryz.prog
  have hmf : ∀ (fn : Fn) (first cap : Array Value) (w : World), (Instr.makeFunc fn first cap).run Tryz.prog w = .ok (.func fn first cap) w := fun _ _ _ _ => rfl
  refine (callsIn_wide (n := 3)).1 ?_
  refine callsIn_of_wp_marks Tryz.func51 rfl trivial ?_ rfl
  simp only [Tryz.ntmps51, List.size_toArray, List.length_cons, List.length_nil, Nat.reduceAdd, Nat.reduceSub, Array.replicate_succ, Array.replicate_zero, List.push_toArray, List.append_toArray, List.nil_append, List.cons_append]
  gi_wp2_with (refine ⟨trivial, ?_⟩; gi_at_call 93; refine (back_make Fence.wide _ trivial rfl none 0 0 _).mono ?_; rintro e w' ⟨rfl, rfl⟩)
  have hfacts : ∀ W6 : World, W6 = ((((((w.alloc (.cells #[.string d] 9)).alloc (.map #[] 0)).alloc (.map #[] 0)).alloc (.cells #[.map (some (w.heap.size + 1)), .bool false, .int .i64 256, .map (some (w.heap.size + 1 + 1)), .slice none 0 0] 87)).alloc (.cells #[.pointer (some ⟨w.heap.size + 1 + 1 + 1, 0, none⟩)] 82)).alloc (.cells #[.slice none 0 0] 23)) →
      W6.heap.size = w.heap.size + 1 + 1 + 1 + 1 + 1 + 1 ∧ Below w.heap.size w W6 ∧ W6.heap[w.heap.size]? = some (.cells #[.string d] 9) ∧ W6.heap[w.heap.size + 1]? = some (.map #[] 0) ∧
      W6.heap[w.heap.size + 1 + 1 + 1]? = some (.cells #[.map (some (w.heap.size + 1)), .bool false, .int .i64 256, .map (some (w.heap.size + 1 + 1)), .slice none 0 0] 87) ∧
      W6.heap[w.heap.size + 1 + 1 + 1 + 1]? = some (.cells #[.pointer (some ⟨w.heap.size + 1 + 1 + 1, 0, none⟩)] 82) ∧ W6.heap[w.heap.size + 1 + 1 + 1 + 1 + 1]? = some (.cells #[.slice none 0 0] 23) := by
    rintro W6 rfl
    refine ⟨hsize _ (hsize _ (hsize _ (hsize _ (hsize _ (hsize _ rfl))))), ((((((Below.refl _ w).alloc ?_ _).alloc ?_ _).alloc ?_ _).alloc ?_ _).alloc ?_ _).alloc ?_ _, hkeep _ (hkeep _ (hkeep _ (hkeep _ (hkeep _ (hnew _ rfl))))),
      hkeep _ (hkeep _ (hkeep _ (hkeep _ (hnew _ (hsize _ rfl))))), hkeep _ (hkeep _ (hnew _ (hsize _ (hsize _ (hsize _ rfl))))), hkeep _ (hnew _ (hsize _ (hsize _ (hsize _ (hsize _ rfl))))), hnew _ (hsize _ (hsize _ (hsize _ (hsize _ (hsize _ rfl)))))⟩ <;> (simp; try omega)
  generalize hW6 : ((((((w.alloc (.cells #[.string d] 9)).alloc (.map #[] 0)).alloc (.map #[] 0)).alloc (.cells #[.map (some (w.heap.size + 1)), .bool false, .int .i64 256, .map (some (w.heap.size + 1 + 1)), .slice none 0 0] 87)).alloc (.cells #[.pointer (some ⟨w.heap.size + 1 + 1 + 1, 0, none⟩)] 82)).alloc (.cells #[.slice none 0 0] 23)) = W6
  obtain ⟨hs6, hb6, q0, q1, q3, q4, q5⟩ := hfacts W6 hW6.symm
  clear hfacts hW6
  refine wpIn_rangeFunc_ownG rfl (by omega) (gf := 129) (lb := #[.pointer (some ⟨w.heap.size + 1 + 1 + 1 + 1 + 1, 0, none⟩)]) rfl trivial (enters_of Tryz.func129 (by kernel_rfl) rfl)
    (back_stops Fence.wide _ trivial rfl (by omega) (w.heap.size + 1 + 1 + 1 + 1 + 1) 0 0 none [] W6 (by omega) (hcell q5 rfl) RowAt.none_) belowK_t (belowK_b (Nat.le_refl _)) (Below.refl _ _) (fun _ => rfl)
    (fun _ W => Below W6.heap.size W6 W) (fun _ _ _ => False) (ownFrom_below (Nat.le_refl _) (Nat.le_refl _)) (fun _ _ _ _ _ hs _ _ => hs) (Below.refl _ _)
    (fun x => { tmps := #[.string d, .slice none 0 0, .bool false, .pointer (some ⟨w.heap.size, 0, none⟩), undef, undef, .pointer none, .int .i64 0, .pointer (some ⟨w.heap.size + 1 + 1 + 1 + 1, 0, none⟩), undef, .string x.2.1, .string d, .int .i64 32, .bool false, .map (some (w.heap.size + 1)), .bool false, .map (some (w.heap.size + 1 + 1)), .agg #[.map (some (w.heap.size + 1)), .bool false, .int .i64 256, .map (some (w.heap.size + 1 + 1)), .slice none 0 0], .pointer (some ⟨w.heap.size + 1 + 1 + 1, 0, none⟩), .slice none 0 0, .func (.func 129) #[] #[.pointer (some ⟨w.heap.size + 1 + 1 + 1 + 1 + 1, 0, none⟩)], .int .i64 (x.1 : Int), .string x.2.1, undef, undef, undef, undef, undef, undef, undef, undef, undef, undef, undef], defers := [] }) ?assign ?body ?done ?stop
  case assign =>
    rintro l ⟨i, s⟩ W K hK
    unfold encT
    dsimp only at hK ⊢
    gi_wp2
    exact hK
  case body =>
    intro l pre x W _ hlt
    exact absurd hlt (Nat.not_lt_zero _)
  case done =>
    rintro D xs wl hD rfl hB hK
    have hbW : Below w.heap.size w wl := hb6.trans (hB.mono hb6.size)
    have q4W := (hB.block _ (by omega)).trans q4
    have c4 : wl.cell? ⟨w.heap.size + 1 + 1 + 1 + 1, 0, none⟩ = some (.pointer (some ⟨w.heap.size + 1 + 1 + 1, 0, none⟩)) := hcell q4W (o := 0) rfl
    have l4 : w.heap.size + 1 + 1 + 1 + 1 < wl.heap.size := (Array.getElem?_eq_some_iff.1 q4W).1
    have hc : ∀ wl', Below wl.heap.size wl wl' → Calls Tryz.prog 94 #[.pointer (some ⟨w.heap.size + 1 + 1 + 1 + 1, 0, none⟩), .pointer (some ⟨w.heap.size, 0, none⟩)] wl' fun e wl'' => e = thrown 5 ∧ Below wl'.heap.size wl' wl'' := fun wl' hW' => by
      have hk : ∀ {b : Nat} {x : Obj}, W6.heap[b]? = some x → wl'.heap[b]? = some x := fun {b x} h => by
        have h1 := (hB.block b (Array.getElem?_eq_some_iff.1 h).1).trans h
        exact (hW'.block b (Array.getElem?_eq_some_iff.1 h1).1).trans h1
      exact walk_read1_none (w.heap.size + 1 + 1 + 1) (w.heap.size + 1) _ _ d wl' (hcell (hk q4) rfl) (hcell (hk q0) rfl) (hcell (hk q3) rfl) (kept_empty (hk q1) d (by rw [hd]; decide))
    have hlD := (Array.getElem?_eq_some_iff.1 hK).1
    gi_wp2
    refine wpIn_wide.2 ?_
    refine wp_region_noPanic ?_
    refine region_krip (fun W : World => Below wl.heap.size wl W) (by kernel_rfl) ((Below.refl _ _).drew) ?_
    (refine kF.takeL (i := 0) (v := ?_) rfl (by kernel_rfl) (fun _ _ _ h => h) (Or.inl ⟨by rfl, ?_⟩) ?_
     rotate_left
     · (intro wS hSw; (try dsimp only at hSw); have hcS := fun b o (h : b < wl.heap.size) => hSw.cell (p := ⟨b, o, none⟩) h; go_simp; (try with_reducible rfl))
     try simp only [Act.put, List.setIfInBounds_toArray, List.set_cons_zero, List.set_cons_succ])
    (refine kF.takeL (i := 1) (v := ?_) rfl (by kernel_rfl) (fun _ _ _ h => h) (Or.inl ⟨by rfl, ?_⟩) ?_
     rotate_left
     · (intro wS hSw; (try dsimp only at hSw); have hcS := fun b o (h : b < wl.heap.size) => hSw.cell (p := ⟨b, o, none⟩) h; go_simp; (try with_reducible rfl))
     try simp only [Act.put, List.setIfInBounds_toArray, List.set_cons_zero, List.set_cons_succ])
    (refine kF.lastL (j := 2) rfl (by kernel_rfl) (fun _ _ _ _ _ => Iff.rfl) (fun _ _ h1 h2 => below_S (Nat.le_refl _) h1 h2) (fun hSk K hK => ?_)
     (go_simp; refine (walk_caught_bad _ _ 5 _ (fun wl' hW' => hc wl' (hSk.trans (hW'.mono hSk.size)))).mono ?_; rintro e m1 ⟨rfl, hb1⟩; have hS1 := hSk.trans (hb1.mono hSk.size))
     refine hK.out _ _ (below_S (Nat.le_refl _) hSk hb1) ?_
     clear hK K
     try simp only [Act.put, List.setIfInBounds_toArray, List.set_cons_zero, List.set_cons_succ])
    (refine kF.takeL (i := 3) (v := ?_) rfl (by kernel_rfl) (fun _ _ _ h => h) (Or.inl ⟨by rfl, ?_⟩) ?_
     rotate_left
     · (intro wS hSw; (try dsimp only at hSw); have hcS := fun b o (h : b < wl.heap.size) => hSw.cell (p := ⟨b, o, none⟩) h; go_simp; (try with_reducible rfl))
     try simp only [Act.put, List.setIfInBounds_toArray, List.set_cons_zero, List.set_cons_succ])
    (refine kF.takeL (i := 4) (v := ?_) rfl (by kernel_rfl) (fun _ _ _ h => h) (Or.inl ⟨by rfl, ?_⟩) ?_
     rotate_left
     · (intro wS hSw; (try dsimp only at hSw); have hcS := fun b o (h : b < wl.heap.size) => hSw.cell (p := ⟨b, o, none⟩) h; go_simp; (try with_reducible rfl))
     try simp only [Act.put, List.setIfInBounds_toArray, List.set_cons_zero, List.set_cons_succ])
    refine kF.done (by kernel_rfl) ?_
    refine NoPanic.normal ?_
    have hKm := (hS1.block D hlD).trans hK
    have hbm := hbW.trans (hS1.mono hbW.size)
    gi_wp2
    refine ⟨by simp, .inl ⟨_, _, rfl, run_takeDeferred hKm, ?_⟩⟩
    exact ⟨_, results_tmp2 rfl _ _ _, _, rfl, hbm.trans (belowK_b (w := w) (Nat.le_refl _) m1 D _ _ (by omega) hKm rfl rfl)⟩
  case stop =>
    rintro D c pre W _ _ h _
    exact h.elim
end Go.Proofs.YtdhlmhkabckbaaaGreatDoor

/-
  Package walk: what is thrown, or not, within caught; form.
-/
namespace Go.Proofs.YtdhlmhkabckbaaaGreatDoor
open Go.RowKit

theorem walk_form_bad (w : World) : Calls Tryz.prog 132 #[.bool true] w fun e w' => e = thrown 4 ∧ w' = w := by
  go_enter Tryz.func132, Tryz.ntmps132
  go_wp2_with fail
  exact ⟨rfl, rfl, rfl⟩
theorem walk_form_ok (w : World) : Calls Tryz.prog 132 #[.bool false] w fun e w' => e = .returned (.tuple #[]) ∧ w' = w := by
  go_enter Tryz.func132, Tryz.ntmps132
  go_wp2_with fail
  refine bodyPost_end (results_none rfl _ _ _) rfl ?_
  exact ⟨rfl, rfl⟩

set_option maxRecDepth 100000 in
/-- The deferred closure, where nothing was thrown. -/
theorem walk_idle (p : Nat) (w : World) :
    CallsD Tryz.prog 67 #[.pointer (some ⟨p, 0, none⟩)] .returning w fun e u' w' => e = .returned (.tuple #[]) ∧ u' = .returning ∧ w' = w := by
  have hnil : ∀ W : World, (binOp BinOp.eql 20 .nilIface .nilIface).run Tryz.prog W = .ok (.bool true) W := fun W => run_eql_nil_nil_at W _ (by kernel_rfl)
  refine callsD_of_wpS Tryz.func67 rfl fun c₀ cs hu => ?_
  apply wpS_seq
  apply wpS_region
  simp [wpOpsS, go_sem, recoverD, hu, Tryz.ntmps67, Exit.thenS]
  refine wpS_of_wp ?_
  simp only [Array.replicate_succ, Array.replicate_zero, List.push_toArray, List.setIfInBounds_toArray, List.append_toArray, List.nil_append, List.cons_append, List.set_cons_succ, List.set_cons_zero]
  go_wp2_with fail
  cases c₀
  simp_all [bodyPostS, results, Tryz.results67, Exit.thenS]

set_option maxRecDepth 100000 in
/-- Nothing is thrown within. -/
theorem walk_caught_ok (b1 b2 : Nat) (w : World) (R : World → Prop)
    (hc : Calls Tryz.prog 94 #[.pointer (some ⟨b1, 0, none⟩), .pointer (some ⟨b2, 0, none⟩)] (w.alloc (.cells #[.int .i64 0] 26)) fun e w' => e = .returned (.tuple #[]) ∧ w'.heap[w.heap.size]? = some (.cells #[.int .i64 0] 26) ∧ R w') :
    Calls Tryz.prog 38 #[.func (.func 94) #[] #[.pointer (some ⟨b1, 0, none⟩), .pointer (some ⟨b2, 0, none⟩)]] w fun e w' => e = .returned (.int .i64 0) ∧ ∃ w1, R w1 ∧ w' = w1.setCell ⟨w.heap.size, 0, none⟩ (.int .i64 0) := by
  have hmf : ∀ (fn : Fn) (first cap : Array Value) (w : World), (Instr.makeFunc fn first cap).run Tryz.prog w = .ok (.func fn first cap) w := fun _ _ _ _ => rfl
  go_enter_defers Tryz.func38, Tryz.ntmps38
  go_wp2_with fail
  refine hc.mono ?_
  rintro e w1 ⟨rfl, hq, hR⟩
  have hcl : w1.cell? ⟨w.heap.size, 0, none⟩ = some (.int .i64 0) := (cell_of_row w1 w.heap.size 0 _ _ _ hq).trans rfl
  have hfz : w1.frozen? ⟨w.heap.size, 0, none⟩ = false := by unfold World.frozen?; simp [hq]
  go_wp2_with fail
  refine leaves_cons (f := 67) (args := #[.pointer (some ⟨w.heap.size, 0, none⟩)]) (by simp) (by simp [go_sem]) ?_
  refine (walk_idle w.heap.size _).mono ?_
  rintro e u' w'' ⟨rfl, rfl, rfl⟩
  have hce : (w1.setCell ⟨w.heap.size, 0, none⟩ (.int .i64 0)).cell? ⟨w.heap.size, 0, none⟩ = some (.int .i64 0) := World.cell?_setCell_same' _ _ _ (by rw [hcl]; rfl)
  simp [Leaves, settle, results, Tryz.results38, go_sem, hce]
  exact ⟨w1, hR, rfl⟩
end Go.Proofs.YtdhlmhkabckbaaaGreatDoor
