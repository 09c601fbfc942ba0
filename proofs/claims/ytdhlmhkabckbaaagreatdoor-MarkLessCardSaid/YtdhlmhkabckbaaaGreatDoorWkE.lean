/-
  walk.read of a root and chunks: what is at hand, and what is read then.
-/
import Derived.Test.YtdhlmhkabckbaaaGreatDoorWkA
import Derived.Test.YtdhlmhkabckbaaaGreatDoorDirL
import Derived.Test.YtdhlmhkabckbaaaGreatDoorShaI
import Derived.Shelf.RegionOpen
import Derived.Test.YtdhlmhkabckbaaaGreatDoorKrip
import Derived.OrdersIn
import Derived.TacticsIn
import Derived.OrdersHeld
import Derived.Test.YtdhlmhkabckbaaaGreatDoorCntA
namespace Go.Proofs.YtdhlmhkabckbaaaGreatDoor
open Go.RowKit Go.Shelf
attribute [local go_sem] Oper.semAt_some

/-- What is at hand of chunks: of two of one digest the first one. -/
def chunkF : List ByteArray → ByteArray → Option ByteArray
  | [] => fun _ => none
  | c :: l => putK (chunkF l) (shaS c) c
theorem chunkF_some : ∀ {l : List ByteArray} {d c : ByteArray}, chunkF l d = some c → c ∈ l ∧ shaS c = d
  | [], _, _, h => by simp [chunkF] at h
  | x :: l, d, c, h => by
    unfold chunkF putK at h
    split at h
    · rename_i hd
      simp only [Option.some.injEq] at h
      subst h
      exact ⟨List.mem_cons_self, hd⟩
    · have := chunkF_some h
      exact ⟨List.mem_cons_of_mem _ this.1, this.2⟩

/-- All blocks below n0 but the map stand. -/
structure ButMap (mb n0 : Nat) (A B : World) : Prop where
  size : A.heap.size ≤ B.heap.size
  block : ∀ i, i < n0 → i ≠ mb → B.heap[i]? = A.heap[i]?
theorem ButMap.refl (mb n0 : Nat) (A : World) : ButMap mb n0 A A := ⟨Nat.le_refl _, fun _ _ _ => rfl⟩
theorem ButMap.trans {mb n0 : Nat} {A B D : World} (h : ButMap mb n0 A B) (k : ButMap mb n0 B D) : ButMap mb n0 A D :=
  ⟨Nat.le_trans h.size k.size, fun i hi hm => (k.block i hi hm).trans (h.block i hi hm)⟩
theorem ButMap.below {mb n0 : Nat} {A B : World} (h : Below n0 A B) : ButMap mb n0 A B := ⟨h.size, fun i hi _ => h.block i hi⟩

set_option maxRecDepth 100000 in
set_option maxHeartbeats 2000000 in
theorem back_stops2 (F : Fence) (n : Nat) (hf : F.fn 129) (hro : F.round = none) (hn : 1 ≤ n) (Bs m c Bt mb : Nat) (A : Option Addr) (d : List Txt) (w : World) (hB0 : Bs < w.heap.size) (hBm : Bs ≠ mb) (hBt : Bt ≤ mb) (hBw : Bt ≤ w.heap.size)
    (hBs : w.cell? ⟨Bs, 0, none⟩ = some (.slice A m c)) (h : StrsAt w Bt A m (d.map Subtype.val)) :
    SeqStopsK F n Tryz.prog 129 #[.pointer (some ⟨Bs, 0, none⟩)] encT (ButMap mb w.heap.size) (fun xs => xs = backL d) (fun _ => True) m w := by
  intro l J Jx W hW hJa _ hY h0
  have hm := h.2.1
  have hl : d.length = m := by have := h.1; rwa [List.length_map] at this
  have hcb := (hW.cell (p := ⟨Bs, 0, none⟩) hB0).trans hBs
  have hcell : ∀ W', ButMap mb w.heap.size w W' → (W'.cell? ⟨Bs, 0, none⟩ = some (.slice A m c) ∧ StrsAt W' Bt A m (d.map Subtype.val)) := fun W' hk =>
    ⟨(World.cell?_of_block (hk.block Bs hB0 hBm)).trans hBs, h.keep fun p hp => World.cell?_of_block (hk.block p.block (by omega) (by omega))⟩
  refine callsIn_of_wp Tryz.func129 rfl hf ?_ hro
  simp only [Tryz.ntmps129, List.size_toArray, List.length_cons, List.length_nil, Nat.reduceAdd, Nat.reduceSub, Array.replicate_succ, Array.replicate_zero, List.push_toArray, List.append_toArray, List.nil_append, List.cons_append]
  gi_wp2
  gi_loopw [3] (fun i wr => ∃ k : Nat, k ≤ m ∧ i = .int .i64 ((m : Int) - 1 - k) ∧ J ((backL d).take k) wr ∧ ButMap mb w.heap.size w wr) (fun i _ => (intOf i + 1).toNat)
  case atStart => exact ⟨0, Nat.zero_le _, by simp, h0, ButMap.below hW⟩
  case round =>
    obtain ⟨k, hk, rfl, hJs, hnx⟩ := hrel
    obtain ⟨hcb, hst⟩ := hcell wr hnx
    by_cases hlt : k < m
    · obtain ⟨q, hq⟩ : ∃ q, q = m - 1 - k := ⟨_, rfl⟩
      have hqi : (m : Int) - 1 - k = (q : Int) := by omega
      obtain ⟨b, off, s, rfl, hb, hx, q0⟩ := hst.str (i := q) (by omega)
      obtain ⟨x, hdx, rfl⟩ : ∃ x : Txt, d[q]? = some x ∧ x.1 = s := by
        rw [List.getElem?_map] at hx
        exact Option.map_eq_some_iff.1 hx
      have htk : Hid ((backL d).take (k + 1) = (backL d).take k ++ [(q, x)]) := by
        unfold Hid
        rw [backL_take (by omega)]
        simp only [hl, ← hq, hdx, Option.getD_some]
      have hlen : ((backL d).take k).length < m := by rw [List.length_take, backL_len]; omega
      obtain ⟨fn, tmps, assign, body, hy, hR⟩ := hY _ (q, x) wr hJs hlen
      rw [hqi]
      unfold encT at hy
      dsimp only at hy
      have hqm : q < m := by omega
      clear hx hlen hdx hq hst
      gi_wp2
      refine hR.mono ?_
      rintro e W3 (⟨rfl, hJ3, hk3⟩ | ⟨rfl, hJx3⟩)
      · gi_wp2
        go_roundw
        case rel => exact ⟨k + 1, by omega, by go_num, by rw [htk.out]; exact hJ3, hnx.trans hk3⟩
        case measure => first | (simp [intOf]; done) | (simp [intOf]; omega)
      · gi_wp2
        refine bodyPost_ret (results_none rfl _ _ _) rfl ?_
        exact ⟨⟨_, rfl⟩, .inr ⟨_, trivial, hJx3⟩⟩
    · obtain rfl : k = m := by omega
      have hqi : (k : Int) - 1 - k = -1 := by omega
      rw [hqi]
      gi_wp2
      go_end0
      exact ⟨⟨_, rfl⟩, .inl ⟨_, rfl, by rwa [List.take_of_length_le (by rw [backL_len]; omega)] at hJs⟩⟩

set_option maxRecDepth 100000 in
/-- What is thrown within is told; whatever the throwing left. -/
theorem walk_caught_bad2 (b1 b2 : Nat) (n : Int) (w : World) (R : World → Prop)
    (hc : Calls Tryz.prog 94 #[.pointer (some ⟨b1, 0, none⟩), .pointer (some ⟨b2, 0, none⟩)] (w.alloc (.cells #[.int .i64 0] 26)) fun e w' => e = thrown n ∧ w'.heap[w.heap.size]? = some (.cells #[.int .i64 0] 26) ∧ R w') :
    Calls Tryz.prog 38 #[.func (.func 94) #[] #[.pointer (some ⟨b1, 0, none⟩), .pointer (some ⟨b2, 0, none⟩)]] w fun e w' => e = .returned (.int .i64 n) ∧ ∃ w1, R w1 ∧ w' = (w1.setCell ⟨w.heap.size, 0, none⟩ (.int .i64 n)).alloc (.cells #[.int .i64 n] 103) := by
  have hmf : ∀ (fn : Fn) (first cap : Array Value) (w : World), (Instr.makeFunc fn first cap).run Tryz.prog w = .ok (.func fn first cap) w := fun _ _ _ _ => rfl
  go_enter_defers Tryz.func38, Tryz.ntmps38
  go_wp2_with fail
  refine hc.mono ?_
  rintro e w1 ⟨rfl, hq, hR⟩
  unfold thrown
  go_wp2_with fail
  have hlt := (Array.getElem?_eq_some_iff.1 hq).1
  have hcl : w1.cell? ⟨w.heap.size, 0, none⟩ = some (.int .i64 0) := (cell_of_row w1 w.heap.size 0 _ _ _ hq).trans rfl
  have hfz : w1.frozen? ⟨w.heap.size, 0, none⟩ = false := by unfold World.frozen?; simp [hq]
  refine leaves_cons (f := 67) (args := #[.pointer (some ⟨w.heap.size, 0, none⟩)]) (by simp) (by simp [go_sem]) ?_
  refine (walk_catch w.heap.size n [] (.int .i64 0) w1 hcl hfz hlt).mono ?_
  rintro e u' w'' ⟨rfl, rfl, rfl⟩
  have hce : ((w1.setCell ⟨w.heap.size, 0, none⟩ (.int .i64 n)).alloc (.cells #[.int .i64 n] 103)).cell? ⟨w.heap.size, 0, none⟩ = some (.int .i64 n) :=
    (World.cell?_alloc_lt _ _ _ (by simp; exact hlt)).trans (World.cell?_setCell_same' _ _ _ (by rw [hcl]; rfl))
  simp [Leaves, settle, results, Tryz.results38, go_sem, hce]
  exact ⟨w1, hR, rfl⟩
end Go.Proofs.YtdhlmhkabckbaaaGreatDoor
/-
  walk.read: the walk.
-/
namespace Go.Proofs.YtdhlmhkabckbaaaGreatDoor
open Go.RowKit Go.Shelf
attribute [local go_sem] Oper.semAt_some

theorem RdAt.other {C : ByteArray → Option ByteArray} {W : World} {br mb nb bs N : Nat} {whole : Bool} {V : Value} {s : DSt} (h : RdAt C W br mb nb bs N whole V s) {be : Nat} (v : Value) (h1 : be ≠ br) (h2 : be ≠ mb) (h3 : be ≠ nb) (h4 : be < bs) : RdAt C (W.setCell ⟨be, 0, none⟩ v) br mb nb bs N whole V s := by
  obtain ⟨a1, a2, a3, a4, l1, l2, l3, l4, l5, l6, l7⟩ := h
  have hk : ∀ i, i ≠ be → (W.setCell ⟨be, 0, none⟩ v).heap[i]? = W.heap[i]? := fun i hi => Go.Deep.blk_setCell_other _ _ _ _ (by simpa using hi)
  refine ⟨(hk br (Ne.symm h1)).trans a1, a2.block (hk mb (Ne.symm h2)), ?_, Owns.setAway a4 _ h4, l1, l2, l3, l4, l5, l6, by simpa using l7⟩
  obtain ⟨a, D, ⟨es, clock, h5, h6⟩, h7⟩ := a3
  exact ⟨a, D, ⟨es, clock, (hk nb (Ne.symm h3)).trans h5, h6⟩, h7⟩

abbrev chunksF (d : List Txt) : ByteArray → Option ByteArray := chunkF (d.map Subtype.val)
def readF (C : ByteArray → Option ByteArray) (whole : Bool) (root : ByteArray) : Int × DSt := dirF rdM C whole 300 root ⟨#[]⟩ ⟨256, [], []⟩
abbrev FileOk (C : ByteArray → Option ByteArray) (whole : Bool) : Prop :=
  whole = true → ∀ (br mb nb bs N : Nat) (W : World) (V : Value) (s : DSt) (x : EntX) (p : ByteArray), RdAt C W br mb nb bs N whole V s → s.out.length ≤ 1000 → StrsAt W W.heap.size x.2.1 x.2.2.1 x.1.chunks → (∀ c ∈ x.1.chunks, c.size = 32) →
    Calls Tryz.prog 133 #[.pointer (some ⟨br, 0, none⟩), fileV x, .string p] W
      (RdPost C br mb nb bs N whole V W ((findAll C x.1.size x.1.chunks ⟨#[]⟩).1, ⟨s.left, s.needs, s.out ++ [⟨p, false, (findAll C x.1.size x.1.chunks ⟨#[]⟩).2⟩]⟩))

theorem walk_read1 (b1 b2 br mb nb bs N : Nat) (C : ByteArray → Option ByteArray) (whole : Bool) (hC : ∀ d c, C d = some c → c.size ≤ 1000000) (hfile : FileOk C whole) (root : ByteArray) (hroot : root.size ≤ 1000000) (V : Value) (w : World)
    (h1 : w.cell? ⟨b1, 0, none⟩ = some (.pointer (some ⟨br, 0, none⟩))) (h2 : w.cell? ⟨b2, 0, none⟩ = some (.string root)) (hR : RdAt C w br mb nb bs N whole V ⟨256, [], []⟩) :
    Calls Tryz.prog 94 #[.pointer (some ⟨b1, 0, none⟩), .pointer (some ⟨b2, 0, none⟩)] w (RdPost C br mb nb bs N whole V w (readF C whole root)) := by
  have hd := walk_dir C br mb nb bs N whole hC (fun hw => hfile hw br mb nb bs N) 300 root ⟨#[]⟩ ⟨256, [], []⟩ V w hroot hR (by refine ⟨by decide, by decide, by decide, by decide⟩) (by decide)
  unfold readF
  generalize dirF rdM C whole 300 root ⟨#[]⟩ ⟨256, [], []⟩ = q at hd ⊢
  replace hR := Lib.hid hR
  go_enter Tryz.func94, Tryz.ntmps94
  go_wp2_with fail
  refine hd.mono ?_
  rintro e w1 (⟨h0, rfl, V2, hRz, hTz⟩ | ⟨h0, rfl, V2, hTz⟩)
  · replace h0 := Lib.hid h0
    go_wp2_with fail
    refine bodyPost_end (results_none rfl _ _ _) rfl ?_
    exact Or.inl ⟨h0, rfl, V2, hRz, hTz⟩
  · unfold thrown
    go_wp2_with fail
    refine ⟨rfl, ?_⟩
    exact Or.inr ⟨h0, rfl, V2, hTz⟩

/-- Whatever caught tells, and what is left then. -/
theorem walk_caught (b1 b2 br mb nb N : Nat) (C : ByteArray → Option ByteArray) (whole : Bool) (hC : ∀ d c, C d = some c → c.size ≤ 1000000) (hfile : FileOk C whole) (root : ByteArray) (hroot : root.size ≤ 1000000) (w : World)
    (h1 : w.cell? ⟨b1, 0, none⟩ = some (.pointer (some ⟨br, 0, none⟩))) (h2 : w.cell? ⟨b2, 0, none⟩ = some (.string root)) (hb : b1 < w.heap.size ∧ b2 < w.heap.size) (hR : RdAt C w br mb nb w.heap.size N whole (.slice none 0 0) ⟨256, [], []⟩) :
    Calls Tryz.prog 38 #[.func (.func 94) #[] #[.pointer (some ⟨b1, 0, none⟩), .pointer (some ⟨b2, 0, none⟩)]] w fun e w' => e = .returned (.int .i64 (readF C whole root).1) ∧
      (w'.os = w.os ∧ w'.tape = w.tape ∧ w'.output = w.output) ∧ w.heap.size ≤ w'.heap.size ∧ (∀ i, i < w.heap.size → i ≠ br → i ≠ nb → w'.heap[i]? = w.heap[i]?) ∧ ((readF C whole root).1 = 0 → ∃ V, RdAt C w' br mb nb w.heap.size N whole V (readF C whole root).2) := by
  obtain ⟨w1, hw1⟩ : ∃ w1, w1 = w.alloc (.cells #[.int .i64 0] 26) := ⟨_, rfl⟩
  have hb1 : Below w.heap.size w w1 := by rw [hw1]; exact (Below.refl _ w).alloc (Nat.le_refl _) _
  have hq : w1.heap[w.heap.size]? = some (.cells #[.int .i64 0] 26) := by rw [hw1]; exact heap_alloc_new w _
  have hs1 : w1.heap.size = w.heap.size + 1 := by rw [hw1]; simp
  have hR1 : RdAt C w1 br mb nb w1.heap.size N whole (.slice none 0 0) ⟨256, [], []⟩ := by
    obtain ⟨a1, a2, a3, a4, l⟩ := hR.below hb1
    exact ⟨a1, a2, a3, Owns.nil_, by omega, by omega, by omega, by omega, by omega, by omega, Nat.le_refl _⟩
  have hc := walk_read1 b1 b2 br mb nb w1.heap.size N C whole hC hfile root hroot _ w1 ((hb1.cell (p := ⟨b1, 0, none⟩) hb.1).trans h1) ((hb1.cell (p := ⟨b2, 0, none⟩) hb.2).trans h2) hR1
  have hl := hR.lt
  have hkey : ∀ (W V), RdT br nb w1 W (.slice none 0 0) V → W.heap[w.heap.size]? = some (.cells #[.int .i64 0] 26) := fun W V hT => (hT.block _ (by omega) (by omega) (by omega) (by simp [Value.ownBlock])).trans hq
  have hfin : ∀ (W V v) , RdT br nb w1 W (.slice none 0 0) V → ∀ i, i < w.heap.size → i ≠ br → i ≠ nb → (W.setCell ⟨w.heap.size, 0, none⟩ v).heap[i]? = w.heap[i]? := fun W V v hT i hi h1 h2 =>
    ((Go.Deep.blk_setCell_other _ _ _ _ (by simp; omega)).trans (hT.block i (by omega) h1 h2 (by simp [Value.ownBlock]))).trans (hb1.block i hi)
  by_cases h0 : (readF C whole root).1 = 0
  · rw [h0]
    refine (walk_caught_ok b1 b2 w (fun W => ∃ V, RdAt C W br mb nb w1.heap.size N whole V (readF C whole root).2 ∧ RdT br nb w1 W (.slice none 0 0) V) ?_).mono ?_
    · rw [← hw1]
      refine hc.mono ?_
      rintro e W (⟨_, rfl, V, hRz, hTz⟩ | ⟨h, _⟩)
      · exact ⟨rfl, hkey W V hTz, V, hRz, hTz⟩
      · exact absurd h0 h
    · rintro e W ⟨rfl, w2, ⟨V, hRz, hTz⟩, rfl⟩
      have hz := hTz.size
      refine ⟨rfl, ⟨hTz.os.trans hb1.os, hTz.tape.trans hb1.tape, hTz.output.trans hb1.output⟩, by simp; omega, hfin w2 V _ hTz, fun _ => ⟨V, ?_⟩⟩
      obtain ⟨a1, a2, a3, a4, l⟩ := hRz.other (be := w.heap.size) (.int .i64 0) (by omega) (by omega) (by omega) (by omega)
      exact ⟨a1, a2, a3, Owns.from a4 (by omega), by omega, by omega, by omega, by omega, by omega, by omega, by simp; omega⟩
  · refine (walk_caught_bad2 b1 b2 (readF C whole root).1 w (fun W => ∃ V, RdT br nb w1 W (.slice none 0 0) V) ?_).mono ?_
    · rw [← hw1]
      refine hc.mono ?_
      rintro e W (⟨h, _⟩ | ⟨_, rfl, V, hTz⟩)
      · exact absurd h h0
      · exact ⟨rfl, hkey W V hTz, V, hTz⟩
    · rintro e W ⟨rfl, w2, ⟨V, hTz⟩, rfl⟩
      have hz := hTz.size
      refine ⟨rfl, ⟨hTz.os.trans hb1.os, hTz.tape.trans hb1.tape, hTz.output.trans hb1.output⟩, by simp; omega, fun i hi h1 h2 => (Below.heap_alloc _ _ i (by simp; omega)).trans (hfin w2 V _ hTz i hi h1 h2), fun h => absurd h h0⟩
end Go.Proofs.YtdhlmhkabckbaaaGreatDoor

/-
  A drawn region in a round of a range over a function: one way through it serves, as elsewhere.
-/
namespace Go.Proofs.YtdhlmhkabckbaaaGreatDoor
open Go Go.RowKit

section
variable {P : Program} {ops : Array Oper} {Q : Exit → Act → World → Prop} {S : World → Prop} {r n : Nat}

theorem rowsIn_round {row : String} {args : Array Value} {w : World} {R : Value → World → Prop} (h : Rows P row args w R) : RowsIn (Fence.wide.inRound r) n P row args w R := fun c cs _ => by
  obtain ⟨v, w', hr, hs⟩ := h c cs
  exact ⟨v, w', hr, stepsIn_wide.2 hs⟩
theorem oper_round {o : Oper} {a : Act} {w : World} {K : Act → World → Prop} (hd : ∀ c, o.op ≠ .defer c) (h : o.wp P a w K Q) : o.wpIn (Fence.wide.inRound r) n P a w K Q := by
  refine ⟨fun _ _ => trivial, ?_⟩
  rw [show (Fence.wide.inRound r).round = some r from rfl, Oper.semAt_some r _ _ hd]
  unfold Oper.wp at h
  generalize (execOp a.eval o).run P w = x at h
  cases x with
  | ok y w' =>
    cases y with
    | value v => exact h
    | skip => exact h
    | defer d => exact h
    | enter f args => exact ⟨fun e => (by cases e), (show CallsIn Fence.wide _ P f args w' _ from callsIn_wide.2 h)⟩
    | row row args => exact ⟨fun e => (by cases e), rowsIn_round h⟩
    | _ => exact h.elim
  | halt y w' =>
    cases y <;> first | exact h | exact (h : False).elim
theorem wpOp_round {i : Nat} {K : Act → World → Prop} {a : Act} {w : World} (hd : ∀ o, ops[i]? = some o → ∀ c, o.op ≠ .defer c) (hQ : ¬ LetsOut Q) (h : wpOp P ops Q i K a w) : wpOpIn (Fence.wide.inRound r) n P ops Q i K a w := by
  unfold wpOp at h
  unfold wpOpIn
  cases ho : ops[i]? with
  | none => rw [ho] at h; exact h
  | some o =>
    rw [ho] at h
    dsimp only at h ⊢
    split
    · rename_i hw
      rw [if_pos hw] at h
      rcases h with h | ⟨_, h⟩
      · exact oper_round (hd o ho) h
      · exact absurd h hQ
    · rename_i hw
      rw [if_neg hw] at h
      exact ⟨fun _ _ => trivial, h⟩
theorem wpAny_round (hd : ∀ (i : Nat) (o : Oper), ops[i]? = some o → ∀ c, o.op ≠ .defer c) (hQ : ¬ LetsOut Q) : ∀ (fuel : Nat) (listed : Array Bool) (a : Act) (w : World), wpAny P .any ops Q fuel listed a w → wpAnyIn (Fence.wide.inRound r) n P .any ops Q fuel listed a w
  | 0, _, _, _, h => h
  | fuel + 1, listed, a, w, h => ⟨h.1, fun i hi => wpOpIn_mono (fun a w => wpAny_round hd hQ fuel _ a w) (wpOp_round (hd i) hQ (h.2 i hi))⟩
/-- The region ends as regions do. -/
def OnlyN (Q : Exit → Act → World → Prop) : Exit → Act → World → Prop
  | .normal, a, w => Q .normal a w
  | _, _, _ => False
theorem OnlyN.imp : ∀ (e : Exit) (a : Act) (w : World), OnlyN Q e a w → Q e a w := fun e a w h => by
  cases e <;> first | exact h | exact (h : False).elim
theorem OnlyN.normal {a : Act} {w : World} (h : Q .normal a w) : OnlyN Q .normal a w := h
def plainOps (l : List Oper) : Bool := l.all fun o => match o.op with | .defer _ => false | _ => true
theorem plainOps_at {l : List Oper} (h : plainOps l = true) (i : Nat) (o : Oper) (ho : l.toArray[i]? = some o) (c : Call) : o.op ≠ .defer c := fun e => by
  have := List.all_eq_true.1 h o (List.mem_of_getElem? (by simpa using ho))
  rw [e] at this
  cases this
theorem region_krip_round {id : Nat} {l : List Oper} {a : Act} {w : World} (S : World → Prop) (hm : P.follows .mixedOrders = true) (hd : plainOps l = true) (hS : S w.drew) (h : kF P l.toArray (OnlyN Q) S [] l.length (Array.replicate l.length false) a w.drew) :
    (Code.region id l.toArray true).wpIn (Fence.wide.inRound r) n P Q a w := by
  refine Code.wpIn_mono OnlyN.imp (wpIn_region_any hm (wpAny_round (plainOps_at hd) (fun ⟨_, _, h⟩ => h) _ _ _ _ (wpAny_of_held (S := S) _ _ _ _ ?_)))
  have := h (fun x hx => absurd hx List.not_mem_nil) (fun _ => none) w.drew (.inl rfl) hS (fun x hx => absurd hx List.not_mem_nil)
  simpa [fMask, fAct, fLeft] using this
end
end Go.Proofs.YtdhlmhkabckbaaaGreatDoor

/-
  walk.read: what is read of a root and chunks.
-/
namespace Go.Proofs.YtdhlmhkabckbaaaGreatDoor
open Go.RowKit Go.Shelf Go.Maps Go.Sort Go.ChangeMaps
attribute [local go_sem] Oper.semAt_some

theorem kept_new {w : World} {b : Nat} (h : w.heap[b]? = some (.map #[] 0)) : KeptAt w b 0 (fun _ => none) := by
  have h2 : w.ownsMap Tryz.prog 9 keptElem b 0 (.map [] : DataW Unit) := by
    obtain ⟨es, clock, h3, h4⟩ := World.ownsMap_made w Tryz.prog 9 keptElem
    rw [heap_alloc_new] at h3
    cases h3
    exact ⟨_, _, h, h4⟩
  exact ⟨by omega, .map [], h2, fun s => by simp [Maps.has], fun s => by simp [DataW.atKey]⟩
theorem cnt_new {w : World} {b : Nat} (h : w.heap[b]? = some (.map #[] 0)) : CntAt w b [] := by
  obtain ⟨N, D, h2, h5⟩ := CntAt.made w
  obtain ⟨es, clock, h3, h4⟩ := h2
  rw [heap_alloc_new] at h3
  cases h3
  exact ⟨N, D, ⟨_, _, h, h4⟩, h5⟩

theorem RdAt.put {C : ByteArray → Option ByteArray} {W : World} {br mb nb bs N : Nat} {whole : Bool} {V : Value} {s : DSt} (h : RdAt C W br mb nb bs N whole V s) {be : Nat} (o : Obj) (h1 : be ≠ br) (h2 : be ≠ mb) (h3 : be ≠ nb) (h4 : be < bs) : RdAt C (W.putObj be o) br mb nb bs N whole V s := by
  obtain ⟨a1, a2, a3, a4, l1, l2, l3, l4, l5, l6, l7⟩ := h
  have hk : ∀ i, i ≠ be → (W.putObj be o).heap[i]? = W.heap[i]? := fun i hi => World.putObj_heap_other hi
  refine ⟨(hk br (Ne.symm h1)).trans a1, a2.block (hk mb (Ne.symm h2)), ?_, ⟨a4.1, a4.2.imp id fun ⟨g, cap, cur, e, hg, hh, r⟩ => ⟨g, cap, cur, e, hg, (hk g (by omega)).trans hh, r⟩⟩, l1, l2, l3, l4, l5, l6, by simpa using l7⟩
  obtain ⟨a, D, ⟨es, clock, h5, h6⟩, h7⟩ := a3
  exact ⟨a, D, ⟨es, clock, (hk nb (Ne.symm h3)).trans h5, h6⟩, h7⟩

/-- What is at hand when some have come, the last first. -/
def keptBack (pre : List (Nat × Txt)) : ByteArray → Option ByteArray := pre.foldl (fun f x => putK f (shaS x.2.1) x.2.1) (fun _ => none)
theorem keptBack_snoc (pre : List (Nat × Txt)) (x : Nat × Txt) : keptBack (pre ++ [x]) = putK (keptBack pre) (shaS x.2.1) x.2.1 := by simp [keptBack, List.foldl_append]
theorem keptBack_foldr (l : List Txt) : chunksF l = l.foldr (fun x f => putK f (shaS x.1) x.1) (fun _ => none) := by
  induction l with
  | nil => rfl
  | cons x l ih => show putK (chunksF l) _ _ = _; rw [ih]; rfl
theorem backL_map (d : List Txt) : (backL d).map (·.2) = d.reverse := by
  apply List.ext_getElem?
  intro i
  unfold backL
  rw [List.map_map, List.getElem?_map]
  by_cases hi : i < d.length
  · rw [List.getElem?_range hi, List.getElem?_reverse hi]
    have : d.length - 1 - i < d.length := by omega
    simp [List.getElem?_eq_getElem this]
  · rw [List.getElem?_eq_none (by simp; omega), List.getElem?_eq_none (by simp; omega)]
    rfl
theorem keptBack_all (d : List Txt) : keptBack (backL d) = chunksF d := by
  rw [keptBack_foldr, ← List.foldl_reverse, ← backL_map, List.foldl_map]
  rfl

set_option maxRecDepth 100000 in
set_option maxHeartbeats 4000000 in
theorem walk_read_arg (A : Option Addr) (m c : Nat) (root : ByteArray) (whole : Bool) (w : World) (hr : (root.size : Int) ≠ 32) :
    Calls Tryz.prog 51 #[.string root, .slice A m c, .bool whole] w fun e w' => e = .returned (.tuple #[.pointer none, .int .i64 1]) ∧ Below w.heap.size w w' := by
  refine (callsIn_wide (n := 3)).1 ?_
  refine callsIn_of_wp_marks Tryz.func51 rfl trivial ?_ rfl
  simp only [Tryz.ntmps51, List.size_toArray, List.length_cons, List.length_nil, Nat.reduceAdd, Nat.reduceSub, Array.replicate_succ, Array.replicate_zero, List.push_toArray, List.append_toArray, List.nil_append, List.cons_append]
  have h1 : ((root.size : Int) == 32) = false := by simpa using hr
  have h2 : ((root.size : Int) != 32) = true := by simpa using hr
  gi_wp2
  exact ⟨_, results_tmp2 rfl _ _ _, rfl, (Below.refl _ w).alloc (Nat.le_refl _) _⟩

set_option maxRecDepth 100000 in
set_option maxHeartbeats 4000000 in
theorem walk_read (d : List Txt) (A : Option Addr) (m c : Nat) (root : ByteArray) (whole : Bool) (w : World) (hst : StrsAt w w.heap.size A m (d.map Subtype.val)) (hm6 : m ≤ 1000000) (hr : (root.size : Int) = 32) (hfile : FileOk (chunksF d) whole) :
    Calls Tryz.prog 51 #[.string root, .slice A m c, .bool whole] w fun e w' =>
      ∃ br, e = .returned (.tuple #[.pointer (some ⟨br, 0, none⟩), .int .i64 (readF (chunksF d) whole root).1]) ∧ Below w.heap.size w w' ∧ ((readF (chunksF d) whole root).1 = 0 → ∃ mb nb bs N V, w.heap.size ≤ bs ∧ RdAt (chunksF d) w' br mb nb bs N whole V (readF (chunksF d) whole root).2) := by
  have hC : ∀ x y, chunksF d x = some y → y.size ≤ 1000000 := fun x y h => by
    obtain ⟨z, _, rfl⟩ := List.mem_map.1 (chunkF_some h).1
    have := z.2
    omega
  have hmm := @run_makeMap Tryz.prog
  have hmf : ∀ (fn : Fn) (first cap : Array Value) (w : World), (Instr.makeFunc fn first cap).run Tryz.prog w = .ok (.func fn first cap) w := fun _ _ _ _ => rfl
  refine (callsIn_wide (n := 9)).1 ?_
  refine callsIn_of_wp_marks Tryz.func51 rfl trivial ?_ rfl
  simp only [Tryz.ntmps51, List.size_toArray, List.length_cons, List.length_nil, Nat.reduceAdd, Nat.reduceSub, Array.replicate_succ, Array.replicate_zero, List.push_toArray, List.append_toArray, List.nil_append, List.cons_append]
  have hr1 : ((root.size : Int) != 32) = false := by rw [hr]; rfl
  have hr2 : root.size = 32 := by omega
  replace hr := Lib.hid hr
  gi_wp2_with (refine ⟨trivial, ?_⟩; gi_at_call 93; refine (back_make Fence.wide _ trivial rfl A m c _).mono ?_; rintro e w' ⟨rfl, rfl⟩)
  have hfacts : ∀ W6 : World, W6 = ((((((w.alloc (.cells #[.string root] 9)).alloc (.map #[] 0)).alloc (.map #[] 0)).alloc (.cells #[.map (some (w.heap.size + 1)), .bool whole, .int .i64 256, .map (some (w.heap.size + 1 + 1)), .slice none 0 0] 87)).alloc (.cells #[.pointer (some ⟨w.heap.size + 1 + 1 + 1, 0, none⟩)] 82)).alloc (.cells #[.slice A m c] 23)) →
      W6.heap.size = w.heap.size + 1 + 1 + 1 + 1 + 1 + 1 ∧ Below w.heap.size w W6 ∧ W6.heap[w.heap.size]? = some (.cells #[.string root] 9) ∧ W6.heap[w.heap.size + 1]? = some (.map #[] 0) ∧ W6.heap[w.heap.size + 1 + 1]? = some (.map #[] 0) ∧
      W6.heap[w.heap.size + 1 + 1 + 1]? = some (.cells #[.map (some (w.heap.size + 1)), .bool whole, .int .i64 256, .map (some (w.heap.size + 1 + 1)), .slice none 0 0] 87) ∧
      W6.heap[w.heap.size + 1 + 1 + 1 + 1]? = some (.cells #[.pointer (some ⟨w.heap.size + 1 + 1 + 1, 0, none⟩)] 82) ∧ W6.heap[w.heap.size + 1 + 1 + 1 + 1 + 1]? = some (.cells #[.slice A m c] 23) := by
    rintro W6 rfl
    refine ⟨hsize _ (hsize _ (hsize _ (hsize _ (hsize _ (hsize _ rfl))))), ((((((Below.refl _ w).alloc ?_ _).alloc ?_ _).alloc ?_ _).alloc ?_ _).alloc ?_ _).alloc ?_ _, hkeep _ (hkeep _ (hkeep _ (hkeep _ (hkeep _ (hnew _ rfl))))),
      hkeep _ (hkeep _ (hkeep _ (hkeep _ (hnew _ (hsize _ rfl))))), hkeep _ (hkeep _ (hkeep _ (hnew _ (hsize _ (hsize _ rfl))))), hkeep _ (hkeep _ (hnew _ (hsize _ (hsize _ (hsize _ rfl))))), hkeep _ (hnew _ (hsize _ (hsize _ (hsize _ (hsize _ rfl))))), hnew _ (hsize _ (hsize _ (hsize _ (hsize _ (hsize _ rfl)))))⟩ <;> (simp; try omega)
  generalize hW6 : ((((((w.alloc (.cells #[.string root] 9)).alloc (.map #[] 0)).alloc (.map #[] 0)).alloc (.cells #[.map (some (w.heap.size + 1)), .bool whole, .int .i64 256, .map (some (w.heap.size + 1 + 1)), .slice none 0 0] 87)).alloc (.cells #[.pointer (some ⟨w.heap.size + 1 + 1 + 1, 0, none⟩)] 82)).alloc (.cells #[.slice A m c] 23)) = W6
  obtain ⟨hs6, hb6, q0, q1, q2, q3, q4, q5⟩ := hfacts W6 hW6.symm
  clear hfacts hW6
  refine wpIn_rangeFunc_ownG rfl (by omega) (gf := 129) (lb := #[.pointer (some ⟨w.heap.size + 1 + 1 + 1 + 1 + 1, 0, none⟩)]) rfl trivial (enters_of Tryz.func129 (by kernel_rfl) rfl)
    (back_stops2 Fence.wide _ trivial rfl (by omega) (w.heap.size + 1 + 1 + 1 + 1 + 1) m c w.heap.size (w.heap.size + 1) A d W6 (by omega) (by omega) (by omega) (by omega) (hcell q5 rfl) (hst.keep fun p hp => World.cell?_of_block (hb6.block p.block hp))) ButMap.trans
    (fun W l o o' h1 h2 _ _ => ⟨by simp, fun i hi _ => World.putObj_heap_other (by omega)⟩) (Below.refl _ _) (fun _ => rfl)
    (fun pre W => KeptAt W (w.heap.size + 1) pre.length (keptBack pre) ∧ ButMap (w.heap.size + 1) W6.heap.size W6 W ∧ Below w.heap.size w W) (fun _ _ _ => False) ?hI (fun _ _ _ _ _ hs _ _ => hs) ⟨kept_new q1, ButMap.refl _ _ _, hb6⟩
    (fun x => { tmps := #[.string root, .slice A m c, .bool whole, .pointer (some ⟨w.heap.size, 0, none⟩), undef, undef, .pointer none, .int .i64 0, .pointer (some ⟨w.heap.size + 1 + 1 + 1 + 1, 0, none⟩), undef, .string x.2.1, .string root, .int .i64 32, .bool false, .map (some (w.heap.size + 1)), .bool whole, .map (some (w.heap.size + 1 + 1)), .agg #[.map (some (w.heap.size + 1)), .bool whole, .int .i64 256, .map (some (w.heap.size + 1 + 1)), .slice none 0 0], .pointer (some ⟨w.heap.size + 1 + 1 + 1, 0, none⟩), .slice A m c, .func (.func 129) #[] #[.pointer (some ⟨w.heap.size + 1 + 1 + 1 + 1 + 1, 0, none⟩)], .int .i64 (x.1 : Int), .string x.2.1, undef, undef, undef, undef, undef, undef, undef, undef, undef, undef, undef], defers := [] }) ?assign ?body ?done ?stop
  case hI =>
    rintro s X Y row ⟨h1, h2, h3⟩ hg hrow
    have hne : ∀ i, i < W6.heap.size → W6.heap.size ≤ X.heap.size → Y.heap[i]? = X.heap[i]? := fun i hi hx => hg.block i (by omega) (fun e => by have := (hrow _ e.symm).1; omega)
    refine ⟨h1.block (hne _ (by omega) h2.size), ⟨Nat.le_trans h2.size hg.size, fun i hi hm => (hne i hi h2.size).trans (h2.block i hi hm)⟩, h3.grown hg h3.size (fun k e => by have := (hrow k e).1; omega)⟩
  case assign =>
    rintro l ⟨i, s⟩ W K hK
    unfold encT
    dsimp only at hK ⊢
    gi_wp2
    exact hK
  case body =>
    rintro l pre ⟨i, s⟩ W ⟨h1, h2, h3⟩ hlt
    have hW4 := (h2.block _ (by omega) (by omega)).trans q4
    have hW3 := (h2.block _ (by omega) (by omega)).trans q3
    have c4 : W.cell? ⟨w.heap.size + 1 + 1 + 1 + 1, 0, none⟩ = some (.pointer (some ⟨w.heap.size + 1 + 1 + 1, 0, none⟩)) := hcell hW4 (o := 0) rfl
    have c3 : W.cell? ⟨w.heap.size + 1 + 1 + 1, 0, none⟩ = some (.map (some (w.heap.size + 1))) := hcell hW3 (o := 0) rfl
    obtain ⟨s, hs⟩ := s
    dsimp only
    have hsum := fun W' => sha_Sum s (by omega) W'
    have hl4 := (Array.getElem?_eq_some_iff.1 hW4).1
    have hl3 := (Array.getElem?_eq_some_iff.1 hW3).1
    gi_wp2
    have hmix : Tryz.prog.follows .mixedOrders = true := by kernel_rfl
    have hd4 : W.drew.cell? ⟨w.heap.size + 1 + 1 + 1 + 1, 0, none⟩ = some (.pointer (some ⟨w.heap.size + 1 + 1 + 1, 0, none⟩)) := c4
    have hd3 : W.drew.cell? ⟨w.heap.size + 1 + 1 + 1, 0, none⟩ = some (.map (some (w.heap.size + 1))) := c3
    have hkd : KeptAt W.drew (w.heap.size + 1) pre.length (keptBack pre) := h1.block rfl
    have hpl : pre.length + 1 ≤ 1000000000 := by omega
    have hsz : (shaS s).size ≤ maxLen := by rw [shaS_size]; decide
    have hsz2 : s.size ≤ maxLen := by simp only [maxLen]; omega
    replace hst := Lib.hid hst
    replace h1 := Lib.hid h1
    replace hkd := Lib.hid hkd
    have hSt : ∀ w1 w2 : World, (w1.cell? ⟨w.heap.size + 1 + 1 + 1 + 1, 0, none⟩ = some (.pointer (some ⟨w.heap.size + 1 + 1 + 1, 0, none⟩)) ∧ w1.cell? ⟨w.heap.size + 1 + 1 + 1, 0, none⟩ = some (.map (some (w.heap.size + 1)))) → Below w1.heap.size w1 w2 →
        (w2.cell? ⟨w.heap.size + 1 + 1 + 1 + 1, 0, none⟩ = some (.pointer (some ⟨w.heap.size + 1 + 1 + 1, 0, none⟩)) ∧ w2.cell? ⟨w.heap.size + 1 + 1 + 1, 0, none⟩ = some (.map (some (w.heap.size + 1)))) := fun w1 w2 h hb =>
      ⟨(hb.cell (World.block_lt_of_cell? w1 _ h.1)).trans h.1, (hb.cell (World.block_lt_of_cell? w1 _ h.2)).trans h.2⟩
    refine region_krip_round (fun W' : World => W'.cell? ⟨w.heap.size + 1 + 1 + 1 + 1, 0, none⟩ = some (.pointer (some ⟨w.heap.size + 1 + 1 + 1, 0, none⟩)) ∧ W'.cell? ⟨w.heap.size + 1 + 1 + 1, 0, none⟩ = some (.map (some (w.heap.size + 1)))) (by kernel_rfl) (by kernel_rfl) ⟨hd4, hd3⟩ ?_
    clear c4 c3 hd4 hd3
    (refine kF.takeL (i := 0) (v := ?_) rfl (by kernel_rfl) (fun _ _ _ h => h) (Or.inl ⟨by rfl, ?_⟩) ?_
     rotate_left
     · (intro wS hSw; obtain ⟨k4, k3⟩ := hSw; go_simp; (try with_reducible rfl))
     try simp only [Act.put, List.setIfInBounds_toArray, List.set_cons_zero, List.set_cons_succ])
    (refine kF.takeL (i := 1) (v := ?_) rfl (by kernel_rfl) (fun _ _ _ h => h) (Or.inl ⟨by rfl, ?_⟩) ?_
     rotate_left
     · (intro wS hSw; obtain ⟨k4, k3⟩ := hSw; go_simp; (try with_reducible rfl))
     try simp only [Act.put, List.setIfInBounds_toArray, List.set_cons_zero, List.set_cons_succ])
    (refine kF.takeL (i := 2) (v := ?_) rfl (by kernel_rfl) (fun _ _ _ h => h) (Or.inl ⟨by rfl, ?_⟩) ?_
     rotate_left
     · (intro wS hSw; obtain ⟨k4, k3⟩ := hSw; go_simp; (try with_reducible rfl))
     try simp only [Act.put, List.setIfInBounds_toArray, List.set_cons_zero, List.set_cons_succ])
    (refine kF.takeL (i := 3) (v := ?_) rfl (by kernel_rfl) (fun _ _ _ h => h) (Or.inl ⟨by rfl, ?_⟩) ?_
     rotate_left
     · (intro wS hSw; obtain ⟨k4, k3⟩ := hSw; go_simp; (try with_reducible rfl))
     try simp only [Act.put, List.setIfInBounds_toArray, List.set_cons_zero, List.set_cons_succ])
    (refine kF.takeL (i := 4) (v := ?_) rfl (by kernel_rfl) (fun _ _ _ h => h) (Or.inl ⟨by rfl, ?_⟩) ?_
     rotate_left
     · (intro wS hSw; obtain ⟨k4, k3⟩ := hSw; go_simp; (try with_reducible rfl))
     try simp only [Act.put, List.setIfInBounds_toArray, List.set_cons_zero, List.set_cons_succ])
    (refine kF.takeL (i := 6) (v := ?_) rfl (by kernel_rfl) (fun _ _ _ h => h) (Or.inl ⟨by rfl, ?_⟩) ?_
     rotate_left
     · (intro wS hSw; obtain ⟨k4, k3⟩ := hSw; go_simp; (try with_reducible rfl))
     try simp only [Act.put, List.setIfInBounds_toArray, List.set_cons_zero, List.set_cons_succ])
    (refine kF.takeL (i := 7) (v := ?_) rfl (by kernel_rfl) (fun _ _ _ h => h) (Or.inl ⟨by rfl, ?_⟩) ?_
     rotate_left
     · (intro wS hSw; obtain ⟨k4, k3⟩ := hSw; go_simp; (try with_reducible rfl))
     try simp only [Act.put, List.setIfInBounds_toArray, List.set_cons_zero, List.set_cons_succ])
    (refine kF.lastL (j := 5) rfl (by kernel_rfl) (fun _ _ _ _ _ => Iff.rfl) hSt (fun hSk K hK => ?_)
     (go_simp; refine (hsum _).mono ?_; rintro e W1 ⟨rfl, hb⟩)
     refine hK.out _ _ (hSt _ _ hSk hb) ?_
     clear hK K
     try simp only [Act.put, List.setIfInBounds_toArray, List.set_cons_zero, List.set_cons_succ])
    clear hSk
    obtain ⟨w9, hrun, hK9, hg9⟩ := (hkd.out.below h1.out.lt hb).put hpl (shaS s) s hsz hsz2
    (refine kF.lastL (j := 8) rfl (by kernel_rfl) (fun _ _ _ _ _ => Iff.rfl) hSt (fun hSk K hK => ?_)
     (go_simp)
     refine hK.out _ _ (⟨(World.cell?_of_block (hg9.block _ (World.block_lt_of_cell? W1 _ hSk.1) (by simp; omega))).trans hSk.1, (World.cell?_of_block (hg9.block _ (World.block_lt_of_cell? W1 _ hSk.2) (by simp; omega))).trans hSk.2⟩) ?_
     clear hK K
     try simp only [Act.put, List.setIfInBounds_toArray, List.set_cons_zero, List.set_cons_succ])
    refine kF.done (by kernel_rfl) ?_
    refine OnlyN.normal ?_
    have hbW : Below W.heap.size W W1 := ((Below.refl W.heap.size W).drew).trans hb
    have h2s := h2.size
    have hz9 := hg9.size
    have hzW := hbW.size
    have hbm : ButMap (w.heap.size + 1) W6.heap.size W w9 := ⟨by omega, fun j hj hm => (hg9.block j (by omega) (fun e => hm (by injection e))).trans (hbW.block j (by omega))⟩
    refine ⟨⟨by omega, fun k o hk hko ho => ?_⟩, hbm, ?_, h2.trans hbm, ?_⟩
    · have hlk := (Array.getElem?_eq_some_iff.1 hko).1
      exact ((hg9.block k (by omega) (fun e => by injection e; omega)).trans (hbW.block k hlk)).trans hko
    · rw [keptBack_snoc, List.length_append]
      exact hK9
    · exact (h3.trans (hbW.mono h3.size)).grown hg9 (by have := h3.size; omega) (fun k e => by cases e; omega)
  case done =>
    rintro D xs wl hD rfl ⟨h1, h2, h3⟩ hK
    rw [keptBack_all] at h1
    have hW0 := (h2.block _ (by omega) (by omega)).trans q0
    have hW2 := (h2.block _ (by omega) (by omega)).trans q2
    have hW3 := (h2.block _ (by omega) (by omega)).trans q3
    have hW4 := (h2.block _ (by omega) (by omega)).trans q4
    have hlD := (Array.getElem?_eq_some_iff.1 hK).1
    have h2s := h2.size
    have hbd : Below wl.heap.size wl wl.drew := (Below.refl _ _).drew
    have hRd : RdAt (chunksF d) wl.drew (w.heap.size + 1 + 1 + 1) (w.heap.size + 1) (w.heap.size + 1 + 1) wl.drew.heap.size (backL d).length whole (.slice none 0 0) ⟨256, [], []⟩ :=
      ⟨hW3, h1.block rfl, cnt_new (w := wl.drew) hW2, Owns.nil_, by show _ < wl.heap.size; omega, by show _ < wl.heap.size; omega, by show _ < wl.heap.size; omega, by omega, by omega, by omega, Nat.le_refl _⟩
    have hcall := walk_caught (w.heap.size + 1 + 1 + 1 + 1) w.heap.size (w.heap.size + 1 + 1 + 1) (w.heap.size + 1) (w.heap.size + 1 + 1) (backL d).length (chunksF d) whole hC hfile root (by omega) wl.drew (hcell hW4 (o := 0) rfl) (hcell hW0 (o := 0) rfl) ⟨by show _ < wl.heap.size; omega, by show _ < wl.heap.size; omega⟩ hRd
    have hd4 : wl.drew.cell? ⟨w.heap.size + 1 + 1 + 1 + 1, 0, none⟩ = some (.pointer (some ⟨w.heap.size + 1 + 1 + 1, 0, none⟩)) := hcell hW4 (o := 0) rfl
    obtain ⟨q, hq⟩ : ∃ q, q = readF (chunksF d) whole root := ⟨_, rfl⟩
    rw [← hq] at hcall
    replace hq := Lib.hid hq
    clear hRd hW0 hW2 hW3 q0 q1 q2 q3 q4 q5
    replace hst := Lib.hid hst
    gi_wp2
    refine wpIn_wide.2 ?_
    refine wp_region_noPanic ?_
    have hSt : ∀ w1 w2 : World, w1.cell? ⟨w.heap.size + 1 + 1 + 1 + 1, 0, none⟩ = some (.pointer (some ⟨w.heap.size + 1 + 1 + 1, 0, none⟩)) → Below w1.heap.size w1 w2 → w2.cell? ⟨w.heap.size + 1 + 1 + 1 + 1, 0, none⟩ = some (.pointer (some ⟨w.heap.size + 1 + 1 + 1, 0, none⟩)) := fun w1 w2 h hb =>
      (hb.cell (World.block_lt_of_cell? w1 _ h)).trans h
    refine region_krip (fun W' : World => W'.cell? ⟨w.heap.size + 1 + 1 + 1 + 1, 0, none⟩ = some (.pointer (some ⟨w.heap.size + 1 + 1 + 1, 0, none⟩))) (by kernel_rfl) hd4 ?_
    clear hd4
    (refine kF.takeL (i := 0) (v := ?_) rfl (by kernel_rfl) (fun _ _ _ h => h) (Or.inl ⟨by rfl, ?_⟩) ?_
     rotate_left
     · (intro wS hSw; obtain k4 := hSw; go_simp; (try with_reducible rfl))
     try simp only [Act.put, List.setIfInBounds_toArray, List.set_cons_zero, List.set_cons_succ])
    (refine kF.takeL (i := 1) (v := ?_) rfl (by kernel_rfl) (fun _ _ _ h => h) (Or.inl ⟨by rfl, ?_⟩) ?_
     rotate_left
     · (intro wS hSw; obtain k4 := hSw; go_simp; (try with_reducible rfl))
     try simp only [Act.put, List.setIfInBounds_toArray, List.set_cons_zero, List.set_cons_succ])
    (refine kF.lastL (j := 2) rfl (by kernel_rfl) (fun _ _ _ _ _ => Iff.rfl) hSt (fun hSk K hK => ?_)
     (go_simp; refine hcall.mono ?_; rintro e W1 ⟨rfl, hos, hsz, hblk, hfin⟩)
     refine hK.out _ _ (((World.cell?_of_block (hblk _ (World.block_lt_of_cell? wl.drew _ hSk) (by simp) (by simp; omega))).trans hSk)) ?_
     clear hK K
     try simp only [Act.put, List.setIfInBounds_toArray, List.set_cons_zero, List.set_cons_succ])
    (refine kF.takeL (i := 3) (v := ?_) rfl (by kernel_rfl) (fun _ _ _ h => h) (Or.inl ⟨by rfl, ?_⟩) ?_
     rotate_left
     · (intro wS hSw; obtain k4 := hSw; go_simp; (try with_reducible rfl))
     try simp only [Act.put, List.setIfInBounds_toArray, List.set_cons_zero, List.set_cons_succ])
    (refine kF.takeL (i := 4) (v := ?_) rfl (by kernel_rfl) (fun _ _ _ h => h) (Or.inl ⟨by rfl, ?_⟩) ?_
     rotate_left
     · (intro wS hSw; obtain k4 := hSw; go_simp; (try with_reducible rfl))
     try simp only [Act.put, List.setIfInBounds_toArray, List.set_cons_zero, List.set_cons_succ])
    refine kF.done (by kernel_rfl) ?_
    refine NoPanic.normal ?_
    have hszl : wl.heap.size ≤ W1.heap.size := hsz
    have hKm : W1.heap[D]? = some (.deferred (some [])) := (hblk D hlD (by omega) (by omega)).trans hK
    have hbm : Below w.heap.size w W1 := ⟨hos.1.trans h3.os, hos.2.1.trans h3.tape, hos.2.2.trans h3.output, by have := h3.size; omega, fun i hi => (hblk i (show i < wl.heap.size by have := h3.size; omega) (by omega) (by omega)).trans (h3.block i hi)⟩
    clear hcall
    gi_wp2
    refine ⟨by simp, .inl ⟨_, _, rfl, run_takeDeferred hKm, ?_⟩⟩
    refine ⟨_, results_tmp2 rfl _ _ _, w.heap.size + 1 + 1 + 1, ?_, hbm.trans (belowK_b (w := w) (Nat.le_refl _) W1 D _ _ (by omega) hKm rfl rfl), fun h0 => ?_⟩
    case refine_1 => rw [← hq.out]; rfl
    rw [← hq.out] at h0 ⊢
    obtain ⟨V, hV⟩ := hfin h0
    exact ⟨_, _, _, _, V, by show w.heap.size ≤ wl.heap.size; exact h3.size, hV.put _ (by omega) (by omega) (by omega) (by show D < wl.heap.size; exact hlD)⟩
  case stop =>
    rintro D c pre W _ _ h _
    exact h.elim
end Go.Proofs.YtdhlmhkabckbaaaGreatDoor

/-
  walk.Needs: what a root needs of chunks.
-/
namespace Go.Proofs.YtdhlmhkabckbaaaGreatDoor
open Go.RowKit

/-- What a root needs of chunks, or how it is refused. -/
def NFd (d : List Txt) (root : ByteArray) : List ByteArray × Int :=
  if (root.size : Int) = 32 then if (readF (chunksF d) false root).1 = 0 then (setS (readF (chunksF d) false root).2.needs, 0) else ([], (readF (chunksF d) false root).1) else ([], 1)

set_option maxRecDepth 100000 in
set_option maxHeartbeats 2000000 in
theorem walk_Needs (d : List Txt) (A : Option Addr) (m c : Nat) (root : ByteArray) (w : World) (hst : StrsAt w w.heap.size A m (d.map Subtype.val)) (hm6 : m ≤ 1000000) :
    Calls Tryz.prog 24 #[.string root, .slice A m c] w fun e w' => ∃ v, e = .returned (.tuple #[v, .int .i64 (NFd d root).2]) ∧ strE.Own w' w.heap.size v (NFd d root).1 ∧ Below w.heap.size w w' := by
  by_cases hr : (root.size : Int) = 32
  · have hcall := walk_read d A m c root false w hst hm6 hr (fun h => by cases h)
    have hN : Hid (NFd d root = if (readF (chunksF d) false root).1 = 0 then (setS (readF (chunksF d) false root).2.needs, 0) else ([], (readF (chunksF d) false root).1)) := by unfold Hid NFd; rw [if_pos hr]
    obtain ⟨q, hq⟩ : ∃ q, q = readF (chunksF d) false root := ⟨_, rfl⟩
    rw [← hq] at hcall hN
    replace hq := Lib.hid hq
    replace hr := Lib.hid hr
    replace hst := Lib.hid hst
    by_cases h0 : q.1 = 0
    · rw [if_pos h0] at hN
      obtain ⟨qn, qs⟩ := q
      dsimp only at h0 hN hcall
      subst h0
      go_enter Tryz.func24, Tryz.ntmps24
      go_wp2_with fail
      refine hcall.mono ?_
      rintro e w1 ⟨br, rfl, hb1, hR⟩
      obtain ⟨mb, nb, bs, N, V, hbs, hR⟩ := hR (by trivial)
      obtain ⟨y0, y1, y2, y3, y4⟩ := hR.cells
      have hcnt := hR.cnt
      replace hR := Lib.hid hR
      have hz1 := hb1.size
      go_wp2_with fail
      refine (maps_Keys _ _).mono ?_
      rintro e w2 ⟨rfl, rfl⟩
      go_wp2_with fail
      refine (sorted_keys nb qs.needs w1 hcnt).mono ?_
      rintro e w3 ⟨u, rfl, hown, hb3⟩
      have hb6 : Below w.heap.size w w3 := (hb1.alloc hb1.size _).trans (hb3.mono (by omega))
      go_wp2_with fail
      go_ret2
      exact ⟨u, by rw [hN.out]; rfl, by rw [hN.out]; exact (show strE.Own .. from hown).from (by omega), hb6⟩
    · rw [if_neg h0] at hN
      obtain ⟨qn, qs⟩ := q
      dsimp only at h0 hN hcall
      have h1 : (qn == 0) = false := by simpa using h0
      have h2 : (qn != 0) = true := by simpa using h0
      replace h0 := Lib.hid h0
      go_enter Tryz.func24, Tryz.ntmps24
      go_wp2_with fail
      refine hcall.mono ?_
      rintro e w1 ⟨br, rfl, hb1, -⟩
      go_wp2_with fail
      go_ret2
      exact ⟨.slice none 0 0, by rw [hN.out]; rfl, by rw [hN.out]; exact Owns.nil_, hb1⟩
  · have hcall := walk_read_arg A m c root false w hr
    have hN : Hid (NFd d root = ([], 1)) := by unfold Hid NFd; rw [if_neg hr]
    replace hr := Lib.hid hr
    go_enter Tryz.func24, Tryz.ntmps24
    go_wp2_with fail
    refine hcall.mono ?_
    rintro e w1 ⟨rfl, hb1⟩
    go_wp2_with fail
    go_ret2
    exact ⟨.slice none 0 0, by rw [hN.out]; rfl, by rw [hN.out]; exact Owns.nil_, hb1⟩
end Go.Proofs.YtdhlmhkabckbaaaGreatDoor
